/- The law VmAgain: a run is the same wherever it is laid away and taken up; it ends; it costs what code may cost. The conditions: the lists lie in memory. -/
import Derived.Test.YtlmpoojpbdmmfaaAg22
set_option linter.unusedVariables false
set_option linter.unusedSimpArgs false
namespace Go.Proofs.Ytlmpoojpbdmmfaa.H
open Go.RowKit Go.Proofs.YtlmpoojpbdmmfaaW.PrintWords Go.Proofs.YtlmpoojpbdmmfaaW.PrintLast Go.Proofs.YtlmpoojpbdmmfaaW.PrintMore Go.Maps
def carillonlaw22_VmAgain.f (l0 : List S53) (a1_0 a1_1 a1_2 a1_3 : Int) (l2 : List Int) (l3 : List Int) : Option Bool := some true
set_option maxHeartbeats 4000000 in
set_option maxRecDepth 100000 in
theorem again_big {A0 : Option Addr} {c0 : Nat} {l0 : List S53} {a1_0 a1_1 a1_2 a1_3 : Int} {A2 : Option Addr} {c2 : Nat} {l2 : List Int} {A3 : Option Addr} {c3 : Nat} {l3 : List Int} {w : World} (h : 200 < l0.length ∨ 100 < l2.length ∨ 200 < l3.length) :
    Calls Try.prog 7 #[.slice A0 l0.length c0, .agg #[.int .i64 a1_0, .int .i64 a1_1, .int .i64 a1_2, .int .i64 a1_3], .slice A2 l2.length c2, .slice A3 l3.length c3] w fun e w' => e = .returned (.bool true) ∧ Below w.heap.size w w' := by
  by_cases h1 : 200 < l0.length
  · have d1 : decide ((200 : Int) < (l0.length : Int)) = true := decide_eq_true (by omega)
    clear h h1
    go_enter Try.func7, Try.ntmps7
    go_wp2_with fail
    refine (works_calls _).mono ?_
    rintro e W' ⟨rfl, hb⟩
    have B := Aside0.mk (((Below.refl w.heap.size w).alloc (Nat.le_refl _) _).trans (hb.mono (by simp)))
    clear hb
    go_wp2
    go_ret
    exact ⟨rfl, B.out⟩
  · have d1 : decide ((200 : Int) < (l0.length : Int)) = false := decide_eq_false (by omega)
    by_cases h2 : 100 < l2.length
    · have d2 : decide ((100 : Int) < (l2.length : Int)) = true := decide_eq_true (by omega)
      clear h h1 h2
      go_enter Try.func7, Try.ntmps7
      go_wp2_with fail
      refine (works_calls _).mono ?_
      rintro e W' ⟨rfl, hb⟩
      have B := Aside0.mk (((Below.refl w.heap.size w).alloc (Nat.le_refl _) _).trans (hb.mono (by simp)))
      clear hb
      go_wp2
      go_ret
      exact ⟨rfl, B.out⟩
    · have d2 : decide ((100 : Int) < (l2.length : Int)) = false := decide_eq_false (by omega)
      have d3 : decide ((200 : Int) < (l3.length : Int)) = true := decide_eq_true (by omega)
      clear h h1 h2
      go_enter Try.func7, Try.ntmps7
      go_wp2_with fail
      refine (works_calls _).mono ?_
      rintro e W' ⟨rfl, hb⟩
      have B := Aside0.mk (((Below.refl w.heap.size w).alloc (Nat.le_refl _) _).trans (hb.mono (by simp)))
      clear hb
      go_wp2
      go_ret
      exact ⟨rfl, B.out⟩
set_option maxHeartbeats 32000000 in
set_option maxRecDepth 100000 in
theorem again_small {A0 : Option Addr} {c0 : Nat} {l0 : List S53} {a1_0 a1_1 a1_2 a1_3 : Int} {A2 : Option Addr} {c2 : Nat} {l2 : List Int} {A3 : Option Addr} {c3 : Nat} {l3 : List Int} {w : World} (hr0 : Kd.C k53 w A0 l0.length l0) (hc0 : l0.length ≤ c0) (hr2 : Kd.C (Kd.int .i64) w A2 l2.length l2) (hc2 : l2.length ≤ c2) (hr3 : Kd.C (Kd.int .u8) w A3 l3.length l3) (h1 : l0.length ≤ 200) (h2 : l2.length ≤ 100) (h3 : l3.length ≤ 200) :
    Calls Try.prog 7 #[.slice A0 l0.length c0, .agg #[.int .i64 a1_0, .int .i64 a1_1, .int .i64 a1_2, .int .i64 a1_3], .slice A2 l2.length c2, .slice A3 l3.length c3] w fun e w' => e = .returned (.bool true) ∧ Below w.heap.size w w' := by
  have HC := Aside0.mk (And.intro hr0 (And.intro hc0 h1))
  have HI := Aside0.mk (And.intro hr2 (And.intro hc2 h2))
  have H3 := Aside0.mk (And.intro hr3 h3)
  have d1 : decide ((200 : Int) < (l0.length : Int)) = false := decide_eq_false (by omega)
  have d2 : decide ((100 : Int) < (l2.length : Int)) = false := decide_eq_false (by omega)
  have d3 : decide ((200 : Int) < (l3.length : Int)) = false := decide_eq_false (by omega)
  have X := Aside0.mk (heap_alloc_new w (.cells #[.int .i64 a1_0, .int .i64 a1_1, .int .i64 a1_2, .int .i64 a1_3] (24 : Nat)))
  have B := Aside0.mk ((Below.refl w.heap.size w).alloc (Nat.le_refl _) (.cells #[.int .i64 a1_0, .int .i64 a1_1, .int .i64 a1_2, .int .i64 a1_3] (24 : Nat)))
  have Z : Aside0 (w.heap.size < (w.alloc (.cells #[.int .i64 a1_0, .int .i64 a1_1, .int .i64 a1_2, .int .i64 a1_3] (24 : Nat))).heap.size) := ⟨by simp⟩
  have hu24 := Try.underlying24
  have hz37 := zero37
  clear hr0 hc0 hr2 hc2 hr3 h1 h2 h3
  go_enter Try.func7, Try.ntmps7
  go_wp2_with fail
  generalize w.alloc (.cells #[.int .i64 a1_0, .int .i64 a1_1, .int .i64 a1_2, .int .i64 a1_3] (24 : Nat)) = W1 at X B Z ⊢
  have B3 : Aside0 (Below w.heap.size w W1.drew) := ⟨below_drew1 B.out⟩
  have D3 : Aside0 (Below W1.heap.size W1 W1.drew) := ⟨below_drew1 (Below.refl _ _)⟩
  have Z3 : Aside0 (w.heap.size < W1.drew.heap.size) := ⟨Z.out⟩
  refine start_ (n := 11) (S := fun w' => w'.heap[w.heap.size]? = some (.cells #[.int .i64 a1_0, .int .i64 a1_1, .int .i64 a1_2, .int .i64 a1_3] (24 : Nat) (0, 0))) (ds := [5]) #[false, false, false, false, false, false, false, false, false, false, false] (by kernel_rfl) rfl rfl X.out (fun hHeld => ?_)
  generalize W1.drew = Wq at B3 D3 Z3 hHeld ⊢
  refine pure_ (i := 0) (N := some 44) (v := ?_) (a' := ?_) #[true, false, false, false, false, false, false, false, false, false, false] rfl rfl (by kernel_rfl) (fun _ _ _ h => h) (Or.inl ⟨by rfl, ?_⟩) ?_ ?_
  rotate_left
  · intro w'
    go_simp
    with_reducible rfl
  rotate_left
  · simp only [Act.put, List.setIfInBounds_toArray, List.set_cons_zero, List.set_cons_succ, i64_w, i32_w]
    rfl
  refine take_ (i := 2) (N := some 46) (v := ?_) (a' := ?_) #[true, false, true, false, false, false, false, false, false, false, false] rfl rfl (by kernel_rfl) (fun _ _ _ h => h) (Or.inl ⟨by rfl, ?_⟩) hHeld ?_ ?_
  rotate_left
  · intro w' hx
    show (do let r ← Instr.loadAt 24 (.pointer (some ⟨w.heap.size, 0, none⟩)); pure (Next.value r) : Sem Next).run Try.prog w' = _
    rw [Sem.run_bind, cf_load hx]
    rfl
  rotate_left
  · simp only [Act.put, List.setIfInBounds_toArray, List.set_cons_zero, List.set_cons_succ, i64_w, i32_w]
    rfl
  refine pure_ (i := 3) (N := some 47) (v := ?_) (a' := ?_) #[true, false, true, true, false, false, false, false, false, false, false] rfl rfl (by kernel_rfl) (fun _ _ _ h => h) (Or.inl ⟨by rfl, ?_⟩) ?_ ?_
  rotate_left
  · intro w'
    go_simp
    with_reducible rfl
  rotate_left
  · simp only [Act.put, List.setIfInBounds_toArray, List.set_cons_zero, List.set_cons_succ, i64_w, i32_w]
    rfl
  refine one_ (i := 1) (N := some 45) #[true, true, true, true, false, false, false, false, false, false, false] rfl rfl (by kernel_rfl) (by decide) (fun K hK => ?_)
  refine goes_ Try.func10 (by kernel_rfl) rfl #[.slice A0 l0.length c0] (by rfl) rfl rfl (by simp only [List.map_toArray, List.map_cons, List.map_nil]; rfl) ?_
  refine (copied_made (Kd.C_below HC.out.1 B3.out) HC.out.2.1 HC.out.2.2).mono ?_
  rintro e w4 ⟨v, rfl, hv, hb⟩
  refine ⟨v, rfl, hK.out _ _ ((hb.block _ Z3.out).trans hHeld) (fun _ => ?_)⟩
  clear hK K
  refine one_ (i := 4) (N := some 48) #[true, true, true, true, true, false, false, false, false, false, false] rfl rfl (by kernel_rfl) (by decide) (fun K hK => ?_)
  refine goes_ Try.func11 (by kernel_rfl) rfl #[.slice A2 l2.length c2] (by rfl) rfl rfl (by simp only [List.map_toArray, List.map_cons, List.map_nil]; rfl) ?_
  refine (numbers_made (Kd.C_below HI.out.1 (B3.out.trans (hb.mono (Nat.le_of_lt Z3.out)))) HI.out.2.1 HI.out.2.2).mono ?_
  rintro e w' ⟨v', rfl, hv', hb'⟩
  have XR : Aside0 (w'.heap[w.heap.size]? = some (.cells #[.int .i64 a1_0, .int .i64 a1_1, .int .i64 a1_2, .int .i64 a1_3] (24 : Nat) (0, 0))) := ⟨(hb'.block _ (Nat.lt_of_lt_of_le Z3.out hb.size)).trans ((hb.block _ Z3.out).trans hHeld)⟩
  have HV := Aside0.mk (R53_rd (Kd.R_below hv hb'))
  have HV' := Aside0.mk hv'.1
  have BR := Aside0.mk (hb.trans (hb'.mono hb.size))
  refine ⟨v', rfl, hK.out _ _ XR.out (fun _ => ?_)⟩
  clear hK K hv hv' hb hb' hHeld
  refine norm_ (a' := ?_) ?_ ?_
  rotate_left
  · simp only [Act.put, List.setIfInBounds_toArray, List.set_cons_zero, List.set_cons_succ]
    rfl
  refine last_ (i := 5) (N := some 49) #[true, true, true, true, true, true, false, false, false, false, false] rfl rfl (by kernel_rfl) (by decide) (fun K hK => ?_)
  refine goes_ Try.func9 (by kernel_rfl) rfl #[v, .agg #[.int .i64 a1_0, .int .i64 a1_1, .int .i64 a1_2, .int .i64 a1_3], v'] (by rfl) rfl rfl (by simp only [List.map_toArray, List.map_cons, List.map_nil]; rfl) ?_
  refine (new_any (c := ⟨a1_0, a1_1, a1_2, a1_3⟩) HV.out HV'.out).mono ?_
  rintro e W2 ⟨pv, rfl, hN, hb⟩
  have NW2 : Aside0 (∃ Wn : World, W1.heap.size ≤ Wn.heap.size ∧ NewIs Wn W2 pv l0 ⟨a1_0, a1_1, a1_2, a1_3⟩ l2) := ⟨_, Nat.le_trans D3.out.size BR.out.size, hN⟩
  have DW2 : Aside0 (Below W1.heap.size W1 W2) := ⟨D3.out.trans ((BR.out.trans (hb.mono BR.out.size)).mono D3.out.size)⟩
  have BW2 : Aside0 (Below w.heap.size w W2) := ⟨B.out.trans (DW2.out.mono B.out.size)⟩
  have XW2 : Aside0 (W2.heap[w.heap.size]? = some (.cells #[.int .i64 a1_0, .int .i64 a1_1, .int .i64 a1_2, .int .i64 a1_3] (24 : Nat) (0, 0))) := ⟨(DW2.out.block _ Z.out).trans X.out⟩
  have ZW2 : Aside0 (w.heap.size < W2.heap.size) := ⟨Nat.lt_of_lt_of_le Z.out DW2.out.size⟩
  obtain ⟨ne, hne⟩ : ∃ ne, newE l0 ⟨a1_0, a1_1, a1_2, a1_3⟩ l2.length = ne := ⟨_, rfl⟩
  rw [hne]
  have NEW2 := Aside0.mk hne
  clear hne hN hb HV HV' XR BR B3 D3 Z3
  refine ⟨_, rfl, hK.out _ _ ?_⟩
  clear hK K
  refine pure_ (i := 6) (N := some 43) (v := ?_) (a' := ?_) #[true, true, true, true, true, true, true, false, false, false, false] rfl rfl (by kernel_rfl) (fun _ _ _ h => h) (Or.inl ⟨by rfl, ?_⟩) ?_ ?_
  rotate_left
  · intro w'
    go_simp
    with_reducible rfl
  rotate_left
  · simp only [Act.put, List.setIfInBounds_toArray, List.set_cons_zero, List.set_cons_succ, i64_w, i32_w]
    rfl
  refine pure_ (i := 7) (N := some 50) (v := ?_) (a' := ?_) #[true, true, true, true, true, true, true, true, false, false, false] rfl rfl (by kernel_rfl) (fun _ _ _ h => h) (Or.inl ⟨by rfl, ?_⟩) ?_ ?_
  rotate_left
  · intro w'
    go_simp
    with_reducible rfl
  rotate_left
  · simp only [Act.put, List.setIfInBounds_toArray, List.set_cons_zero, List.set_cons_succ, i64_w, i32_w]
    rfl
  refine pure_ (i := 8) (N := some 51) (v := ?_) (a' := ?_) #[true, true, true, true, true, true, true, true, true, false, false] rfl rfl (by kernel_rfl) (fun _ _ _ h => h) (Or.inl ⟨by rfl, ?_⟩) ?_ ?_
  rotate_left
  · intro w'
    go_simp
    with_reducible rfl
  rotate_left
  · simp only [Act.put, List.setIfInBounds_toArray, List.set_cons_zero, List.set_cons_succ, i64_w, i32_w]
    rfl
  refine pure_ (i := 9) (N := some 9) (v := ?_) (a' := ?_) #[true, true, true, true, true, true, true, true, true, true, false] rfl rfl (by kernel_rfl) (fun _ _ _ h => h) (Or.inl ⟨by rfl, ?_⟩) ?_ ?_
  rotate_left
  · intro w'
    go_simp
    with_reducible rfl
  rotate_left
  · simp only [Act.put, List.setIfInBounds_toArray, List.set_cons_zero, List.set_cons_succ, i64_w, i32_w]
    rfl
  refine pure_ (i := 10) (N := some 10) (v := ?_) (a' := ?_) #[true, true, true, true, true, true, true, true, true, true, true] rfl rfl (by kernel_rfl) (fun _ _ _ h => h) (Or.inl ⟨by rfl, ?_⟩) ?_ ?_
  rotate_left
  · intro w'
    go_simp
    with_reducible rfl
  rotate_left
  · simp only [Act.put, List.setIfInBounds_toArray, List.set_cons_zero, List.set_cons_succ, i64_w, i32_w]
    rfl
  refine done_ (by kernel_rfl) ?_
  have Z1 := Z
  clear X B Z
  have X := XW2
  have B := BW2
  have Z := ZW2
  have NE1 := NEW2
  have NV := NW2
  have DV := DW2
  clear XW2 BW2 ZW2 NEW2 NW2 DW2
  by_cases he : ne = 0
  case neg =>
    obtain ⟨_, _, hnn, _⟩ := NV.out
    obtain rfl := hnn (by rw [NE1.out]; exact he)
    have q1 : (ne != 0) = true := by simpa using he
    clear hnn he
    go_wp2_with fail
    refine (works_calls _).mono ?_
    rintro e W6 ⟨rfl, hb⟩
    have B6 := Aside0.mk (B.out.trans (hb.mono B.out.size))
    clear hb
    go_wp2
    go_ret
    exact ⟨rfl, B6.out⟩
  case pos =>
    subst he
    obtain ⟨W2', hW2', _, hnn⟩ := NV.out
    obtain ⟨bv, rfl, hvm, hrn⟩ := hnn NE1.out
    have HVM := Aside0.mk (And.intro hvm hW2')
    have HR0 := Aside0.mk hrn
    have ZZ : Aside0 (w.heap.size < W1.heap.size ∧ W1.heap.size ≤ W2.heap.size) := ⟨Z1.out, DV.out.size⟩
    clear hnn hvm hrn NV hW2' DV
    go_wp2_with fail
    have B3 : Aside0 (Below w.heap.size w W2.drew) := ⟨below_drew1 B.out⟩
    have D3 : Aside0 (Below W2.heap.size W2 W2.drew) := ⟨below_drew1 (Below.refl _ _)⟩
    have Z3 : Aside0 (w.heap.size < W2.drew.heap.size) := ⟨Z.out⟩
    refine start_ (n := 11) (S := fun w' => w'.heap[w.heap.size]? = some (.cells #[.int .i64 a1_0, .int .i64 a1_1, .int .i64 a1_2, .int .i64 a1_3] (24 : Nat) (0, 0))) (ds := [5]) #[false, false, false, false, false, false, false, false, false, false, false] (by kernel_rfl) rfl rfl X.out (fun hHeld => ?_)
    generalize W2.drew = Wq at B3 D3 Z3 hHeld ⊢
    refine pure_ (i := 0) (N := some 60) (v := ?_) (a' := ?_) #[true, false, false, false, false, false, false, false, false, false, false] rfl rfl (by kernel_rfl) (fun _ _ _ h => h) (Or.inl ⟨by rfl, ?_⟩) ?_ ?_
    rotate_left
    · intro w'
      go_simp
      with_reducible rfl
    rotate_left
    · simp only [Act.put, List.setIfInBounds_toArray, List.set_cons_zero, List.set_cons_succ, i64_w, i32_w]
      rfl
    refine take_ (i := 2) (N := some 62) (v := ?_) (a' := ?_) #[true, false, true, false, false, false, false, false, false, false, false] rfl rfl (by kernel_rfl) (fun _ _ _ h => h) (Or.inl ⟨by rfl, ?_⟩) hHeld ?_ ?_
    rotate_left
    · intro w' hx
      show (do let r ← Instr.loadAt 24 (.pointer (some ⟨w.heap.size, 0, none⟩)); pure (Next.value r) : Sem Next).run Try.prog w' = _
      rw [Sem.run_bind, cf_load hx]
      rfl
    rotate_left
    · simp only [Act.put, List.setIfInBounds_toArray, List.set_cons_zero, List.set_cons_succ, i64_w, i32_w]
      rfl
    refine pure_ (i := 3) (N := some 63) (v := ?_) (a' := ?_) #[true, false, true, true, false, false, false, false, false, false, false] rfl rfl (by kernel_rfl) (fun _ _ _ h => h) (Or.inl ⟨by rfl, ?_⟩) ?_ ?_
    rotate_left
    · intro w'
      go_simp
      with_reducible rfl
    rotate_left
    · simp only [Act.put, List.setIfInBounds_toArray, List.set_cons_zero, List.set_cons_succ, i64_w, i32_w]
      rfl
    refine one_ (i := 1) (N := some 61) #[true, true, true, true, false, false, false, false, false, false, false] rfl rfl (by kernel_rfl) (by decide) (fun K hK => ?_)
    refine goes_ Try.func10 (by kernel_rfl) rfl #[.slice A0 l0.length c0] (by rfl) rfl rfl (by simp only [List.map_toArray, List.map_cons, List.map_nil]; rfl) ?_
    refine (copied_made (Kd.C_below HC.out.1 B3.out) HC.out.2.1 HC.out.2.2).mono ?_
    rintro e w4 ⟨v, rfl, hv, hb⟩
    refine ⟨v, rfl, hK.out _ _ ((hb.block _ Z3.out).trans hHeld) (fun _ => ?_)⟩
    clear hK K
    refine one_ (i := 4) (N := some 64) #[true, true, true, true, true, false, false, false, false, false, false] rfl rfl (by kernel_rfl) (by decide) (fun K hK => ?_)
    refine goes_ Try.func11 (by kernel_rfl) rfl #[.slice A2 l2.length c2] (by rfl) rfl rfl (by simp only [List.map_toArray, List.map_cons, List.map_nil]; rfl) ?_
    refine (numbers_made (Kd.C_below HI.out.1 (B3.out.trans (hb.mono (Nat.le_of_lt Z3.out)))) HI.out.2.1 HI.out.2.2).mono ?_
    rintro e w' ⟨v', rfl, hv', hb'⟩
    have XR : Aside0 (w'.heap[w.heap.size]? = some (.cells #[.int .i64 a1_0, .int .i64 a1_1, .int .i64 a1_2, .int .i64 a1_3] (24 : Nat) (0, 0))) := ⟨(hb'.block _ (Nat.lt_of_lt_of_le Z3.out hb.size)).trans ((hb.block _ Z3.out).trans hHeld)⟩
    have HV := Aside0.mk (R53_rd (Kd.R_below hv hb'))
    have HV' := Aside0.mk hv'.1
    have BR := Aside0.mk (hb.trans (hb'.mono hb.size))
    refine ⟨v', rfl, hK.out _ _ XR.out (fun _ => ?_)⟩
    clear hK K hv hv' hb hb' hHeld
    refine norm_ (a' := ?_) ?_ ?_
    rotate_left
    · simp only [Act.put, List.setIfInBounds_toArray, List.set_cons_zero, List.set_cons_succ]
      rfl
    refine last_ (i := 5) (N := some 65) #[true, true, true, true, true, true, false, false, false, false, false] rfl rfl (by kernel_rfl) (by decide) (fun K hK => ?_)
    refine goes_ Try.func9 (by kernel_rfl) rfl #[v, .agg #[.int .i64 a1_0, .int .i64 a1_1, .int .i64 a1_2, .int .i64 a1_3], v'] (by rfl) rfl rfl (by simp only [List.map_toArray, List.map_cons, List.map_nil]; rfl) ?_
    refine (new_any (c := ⟨a1_0, a1_1, a1_2, a1_3⟩) HV.out HV'.out).mono ?_
    rintro e W3 ⟨pv, rfl, hN, hb⟩
    have NW3 : Aside0 (∃ Wn : World, W2.heap.size ≤ Wn.heap.size ∧ NewIs Wn W3 pv l0 ⟨a1_0, a1_1, a1_2, a1_3⟩ l2) := ⟨_, Nat.le_trans D3.out.size BR.out.size, hN⟩
    have DW3 : Aside0 (Below W2.heap.size W2 W3) := ⟨D3.out.trans ((BR.out.trans (hb.mono BR.out.size)).mono D3.out.size)⟩
    have BW3 : Aside0 (Below w.heap.size w W3) := ⟨B.out.trans (DW3.out.mono B.out.size)⟩
    have XW3 : Aside0 (W3.heap[w.heap.size]? = some (.cells #[.int .i64 a1_0, .int .i64 a1_1, .int .i64 a1_2, .int .i64 a1_3] (24 : Nat) (0, 0))) := ⟨(DW3.out.block _ Z.out).trans X.out⟩
    have ZW3 : Aside0 (w.heap.size < W3.heap.size) := ⟨Nat.lt_of_lt_of_le Z.out DW3.out.size⟩
    obtain ⟨ne, hne⟩ : ∃ ne, newE l0 ⟨a1_0, a1_1, a1_2, a1_3⟩ l2.length = ne := ⟨_, rfl⟩
    rw [hne]
    have NEW3 := Aside0.mk hne
    clear hne hN hb HV HV' XR BR B3 D3 Z3
    refine ⟨_, rfl, hK.out _ _ ?_⟩
    clear hK K
    refine pure_ (i := 6) (N := some 59) (v := ?_) (a' := ?_) #[true, true, true, true, true, true, true, false, false, false, false] rfl rfl (by kernel_rfl) (fun _ _ _ h => h) (Or.inl ⟨by rfl, ?_⟩) ?_ ?_
    rotate_left
    · intro w'
      go_simp
      with_reducible rfl
    rotate_left
    · simp only [Act.put, List.setIfInBounds_toArray, List.set_cons_zero, List.set_cons_succ, i64_w, i32_w]
      rfl
    refine pure_ (i := 7) (N := some 66) (v := ?_) (a' := ?_) #[true, true, true, true, true, true, true, true, false, false, false] rfl rfl (by kernel_rfl) (fun _ _ _ h => h) (Or.inl ⟨by rfl, ?_⟩) ?_ ?_
    rotate_left
    · intro w'
      go_simp
      with_reducible rfl
    rotate_left
    · simp only [Act.put, List.setIfInBounds_toArray, List.set_cons_zero, List.set_cons_succ, i64_w, i32_w]
      rfl
    refine pure_ (i := 8) (N := some 67) (v := ?_) (a' := ?_) #[true, true, true, true, true, true, true, true, true, false, false] rfl rfl (by kernel_rfl) (fun _ _ _ h => h) (Or.inl ⟨by rfl, ?_⟩) ?_ ?_
    rotate_left
    · intro w'
      go_simp
      with_reducible rfl
    rotate_left
    · simp only [Act.put, List.setIfInBounds_toArray, List.set_cons_zero, List.set_cons_succ, i64_w, i32_w]
      rfl
    refine pure_ (i := 9) (N := some 11) (v := ?_) (a' := ?_) #[true, true, true, true, true, true, true, true, true, true, false] rfl rfl (by kernel_rfl) (fun _ _ _ h => h) (Or.inl ⟨by rfl, ?_⟩) ?_ ?_
    rotate_left
    · intro w'
      go_simp
      with_reducible rfl
    rotate_left
    · simp only [Act.put, List.setIfInBounds_toArray, List.set_cons_zero, List.set_cons_succ, i64_w, i32_w]
      rfl
    refine pure_ (i := 10) (N := some 12) (v := ?_) (a' := ?_) #[true, true, true, true, true, true, true, true, true, true, true] rfl rfl (by kernel_rfl) (fun _ _ _ h => h) (Or.inl ⟨by rfl, ?_⟩) ?_ ?_
    rotate_left
    · intro w'
      go_simp
      with_reducible rfl
    rotate_left
    · simp only [Act.put, List.setIfInBounds_toArray, List.set_cons_zero, List.set_cons_succ, i64_w, i32_w]
      rfl
    refine done_ (by kernel_rfl) ?_
    obtain rfl : ne = 0 := NEW3.out.symm.trans NE1.out
    obtain ⟨W3', hW3', _, hnn⟩ := NW3.out
    obtain ⟨bw, rfl, hwm, _⟩ := hnn NE1.out
    obtain ⟨x0, hx0⟩ : ∃ x, ctx0 ⟨a1_0, a1_1, a1_2, a1_3⟩ l2 = x := ⟨_, rfl⟩
    have HW := whole HR0.out
    have HS0 : Aside0 (Sm x0) := ⟨by rw [← hx0]; simp [Sm, ctx0]⟩
    rw [hx0] at HVM HR0 hwm HW
    have T0 : Aside0 (∃ Pv Pw : Nat → Prop, Two w W3 ⟨a1_0, a1_1, a1_2, a1_3⟩ l0 bv bw x0 x0 Pv Pw (fun k => k = w.heap.size)) := ⟨by
      have hd := DW3.out.size
      have hz := ZZ.out.1
      have hz2 := ZZ.out.2
      have hw2 := HVM.out.2
      have hbs := BW3.out.size
      refine ⟨(fun k => W2'.heap.size ≤ k ∧ k < W2.heap.size), (fun k => W3'.heap.size ≤ k ∧ k < W3.heap.size), ⟨HVM.out.1.below DW3.out, hwm, fun k h1 h2 => by omega, fun k hk => ?_, fun k h1 => by omega, fun k h1 => by omega, fun k hk => by omega, BW3.out⟩⟩
      subst hk
      exact ⟨fun h => by omega, fun h => by omega⟩⟩
    have X := XW3
    clear hnn NW3 NE1 NEW3 hW3' hwm HVM DW3 BW3 ZW3 B Z ZZ
    obtain ⟨xe, hxe⟩ : ∃ x, to18 l0 1099511627776 x0 = x := ⟨_, rfl⟩
    rw [hxe] at HW
    obtain ⟨hw1, hw2, hw3⟩ := HW
    have HRE : Aside0 (Rn l0 ⟨a1_0, a1_1, a1_2, a1_3⟩ xe ∧ xe.ended = true) := ⟨by rw [← hxe]; exact ⟨HR0.out.to18 _, to18_ended HR0.out⟩⟩
    obtain ⟨nn, hnn⟩ : ∃ n, xe.spent = n := ⟨_, rfl⟩
    rw [hnn] at hw1 hw2 hw3
    obtain ⟨lv, hlv⟩ : ∃ n, lo l0 l0.length 0 = n := ⟨_, rfl⟩
    obtain ⟨mv, hmv⟩ : ∃ n, hi l0 l0.length 0 = n := ⟨_, rfl⟩
    rw [hlv] at hw2
    rw [hmv] at hw3
    have HBD : Aside0 (cost_Bound.f l0 = some (lv, mv, 0)) := ⟨by unfold cost_Bound.f; rw [ver_bound HR0.out.ver, hlv, hmv]⟩
    have HXE := Aside0.mk (And.intro hxe (And.intro hw1 hnn))
    have e5 : decide (nn < lv) = false := decide_eq_false (by omega)
    have e6 : decide (mv < nn) = false := decide_eq_false (by omega)
    clear hxe hw1 hw2 hw3 hlv hmv hnn hx0
    go_wp2_with fail
    obtain ⟨Pv, Pw, ht⟩ := T0.out
    have T1 := Aside0.mk ht
    clear ht T0
    refine (run_full T1.out.mv (fun k hk => (T1.out.lv k hk).2) HR0.out 1099511627776).mono ?_
    rintro e W4 ⟨rfl, hv, hk⟩
    rw [HXE.out.2.1]
    rw [HXE.out.1] at hv
    have T2 : Aside0 (∃ Pv Pw : Nat → Prop, Two w W4 ⟨a1_0, a1_1, a1_2, a1_3⟩ l0 bv bw xe x0 Pv Pw (fun k => k = w.heap.size)) := ⟨⟨_, _, T1.out.run1 hv hk⟩⟩
    have X4 : Aside0 (W4.heap[w.heap.size]? = some (.cells #[.int .i64 a1_0, .int .i64 a1_1, .int .i64 a1_2, .int .i64 a1_3] (24 : Nat) (0, 0))) := ⟨(T1.out.keep1 hk rfl).trans X.out⟩
    have B4 : Aside0 (Below w.heap.size w W4) := ⟨hk.below T1.out.bel (fun k h => (T1.out.lv k h).1)⟩
    clear hv hk T1 X
    go_wp2_with fail
    refine (copied_made (Kd.C_below HC.out.1 B4.out) HC.out.2.1 HC.out.2.2).mono ?_
    rintro e W5 ⟨cv, rfl, hv, hb⟩
    obtain ⟨Ac, cc, rfl, hcc, _, hCc⟩ := R53_rd hv
    have HCC := Aside0.mk (And.intro hCc hcc)
    have T3 : Aside0 (∃ Pv Pw : Nat → Prop, Two w W5 ⟨a1_0, a1_1, a1_2, a1_3⟩ l0 bv bw xe x0 Pv Pw (fun k => k = w.heap.size)) := ⟨by obtain ⟨Pv, Pw, ht⟩ := T2.out; exact ⟨Pv, Pw, ht.below hb⟩⟩
    have X5 : Aside0 (W5.heap[w.heap.size]? = some (.cells #[.int .i64 a1_0, .int .i64 a1_1, .int .i64 a1_2, .int .i64 a1_3] (24 : Nat) (0, 0))) := ⟨(hb.block _ (Array.getElem?_eq_some_iff.1 X4.out).1).trans X4.out⟩
    clear hv hb hcc hCc T2 X4 B4
    go_wp2_with fail
    refine (cost_Bound.calls Ac cc l0 lv mv 0 _ HCC.out.1 HCC.out.2 HBD.out).mono ?_
    rintro e W6 ⟨rfl, hb⟩
    have T4 : Aside0 (∃ Pv Pw : Nat → Prop, Two w W6 ⟨a1_0, a1_1, a1_2, a1_3⟩ l0 bv bw xe x0 Pv Pw (fun k => k = w.heap.size)) := ⟨by obtain ⟨Pv, Pw, ht⟩ := T3.out; exact ⟨Pv, Pw, ht.below hb⟩⟩
    have X6 : Aside0 (W6.heap[w.heap.size]? = some (.cells #[.int .i64 a1_0, .int .i64 a1_1, .int .i64 a1_2, .int .i64 a1_3] (24 : Nat) (0, 0))) := ⟨(hb.block _ (Array.getElem?_eq_some_iff.1 X5.out).1).trans X5.out⟩
    clear hb T3 X5 HCC HBD
    go_wp2_with fail
    obtain ⟨Pv, Pw, ht⟩ := T4.out
    have T5 := Aside0.mk ht
    clear ht T4
    refine (spent_calls T5.out.mv).mono ?_
    rintro e W7 ⟨rfl, hb⟩
    rw [HXE.out.2.2]
    have q7 : (nn != nn) = false := by simp
    have T6 : Aside0 (∃ Pv Pw : Nat → Prop, Two w W7 ⟨a1_0, a1_1, a1_2, a1_3⟩ l0 bv bw xe x0 Pv Pw (fun k => k = w.heap.size)) := ⟨⟨_, _, T5.out.below hb⟩⟩
    have X7 : Aside0 (W7.heap[w.heap.size]? = some (.cells #[.int .i64 a1_0, .int .i64 a1_1, .int .i64 a1_2, .int .i64 a1_3] (24 : Nat) (0, 0))) := ⟨(hb.block _ (Array.getElem?_eq_some_iff.1 X6.out).1).trans X6.out⟩
    clear hb T5 X6
    go_wp2_with fail
    clear q7 e5 e6
    go_loopg [11, 19] (l3.length) (fun kq v11 v19 wr => ∃ (i bw : Nat) (xw : Ctx), v11 = .pointer (some ⟨bw, 0, none⟩) ∧ v19 = .int .i64 (i : Int) ∧ kq + i = l3.length ∧ Aside0 (∃ Pv Pw : Nat → Prop, Two w wr ⟨a1_0, a1_1, a1_2, a1_3⟩ l0 bv bw xe xw Pv Pw (fun k => k = w.heap.size)) ∧ Aside0 (Rn l0 ⟨a1_0, a1_1, a1_2, a1_3⟩ xw ∧ Sm xw ∧ to18 l0 1099511627776 xw = xe) ∧ Aside0 (wr.heap[w.heap.size]? = some (.cells #[.int .i64 a1_0, .int .i64 a1_1, .int .i64 a1_2, .int .i64 a1_3] (24 : Nat) (0, 0))))
    case atStart => exact ⟨0, bw, x0, rfl, rfl, by omega, T6, ⟨HR0.out, HS0.out, HXE.out.1⟩, X7⟩
    case round =>
      obtain ⟨i, bw, xw, rfl, rfl, hik, HT, HX, HBX⟩ := hrel
      by_cases hlt : i < l3.length
      case neg =>
        have e1 : decide ((i : Int) < (l3.length : Int)) = false := decide_eq_false (by omega)
        have e2 : decide (i < l3.length) = false := decide_eq_false hlt
        clear hik hlt
        obtain ⟨Pv, Pw, ht⟩ := HT.out
        have T1 := Aside0.mk ht
        clear ht HT
        go_wp2_with fail
        refine (run_some T1.out.mw (fun k hk => (T1.out.lw k hk).2) HX.out.1 1099511627776).mono ?_
        rintro e W11 ⟨r, rfl, hv, hk⟩
        rw [HX.out.2.2] at hv
        have T2 := Aside0.mk (T1.out.run2 hv hk)
        clear hv hk T1
        go_wp2_with fail
        refine (outs_full T2.out.mv HRE.out.1).mono ?_
        rintro e W13 ⟨⟨oa, rfl, hi, _⟩, hb⟩
        rw [HRE.out.2]
        have I13 := Aside0.mk hi
        have T3 := Aside0.mk (T2.out.below hb)
        clear hi hb T2
        go_wp2_with fail
        refine (outs_full T3.out.mw HRE.out.1).mono ?_
        rintro e W14 ⟨⟨ob, rfl, hi, _⟩, hb⟩
        rw [HRE.out.2]
        have I14 := Aside0.mk (And.intro (I13.out.below hb) hi)
        have T4 := Aside0.mk (T3.out.below hb)
        clear hi hb T3 I13
        go_wp2_with fail
        have L14 : Aside0 ((out16 xe).length ≤ 1000000) := ⟨by have := HRE.out.1.lens; unfold out16; split <;> simp; omega⟩
        refine (equal_same I14.out.1 I14.out.2 L14.out).mono ?_
        rintro e W15 ⟨rfl, hb⟩
        have T5 := Aside0.mk (T4.out.below hb)
        clear hb T4 I14
        go_wp2_with fail
        refine (spent_calls T5.out.mw).mono ?_
        rintro e W17 ⟨rfl, hb⟩
        rw [HXE.out.2.2]
        have T7 := Aside0.mk (T5.out.below hb)
        clear hb T5
        go_wp2_with fail
        refine (works_calls _).mono ?_
        rintro e W18 ⟨rfl, hb⟩
        have B18 := Aside0.mk (T7.out.bel.trans (hb.mono T7.out.bel.size))
        clear hb T7
        go_wp2
        go_ret
        exact ⟨rfl, B18.out⟩
      case pos =>
        obtain ⟨go, rfl⟩ : ∃ go, gk = go + 1 := ⟨gk - 1, by omega⟩
        have e1 : decide ((i : Int) < (l3.length : Int)) = true := decide_eq_true (by omega)
        have e2 : decide (i < l3.length) = true := decide_eq_true hlt
        have hbd : i < 1000 := by have := H3.out.2; omega
        obtain ⟨ad3, ha3, _⟩ := Kd.at_int H3.out.1 (i : Int) (by omega) (by omega)
        subst ha3
        obtain ⟨Pv, Pw, ht⟩ := HT.out
        have T0 := Aside0.mk ht
        clear ht HT
        go_wp2_with fail
        refine (save_full T0.out.mw HX.out.1).mono ?_
        rintro e W8 ⟨⟨sv, tv, jv, ov, rfl, hc⟩, hb⟩
        have hall := cx_all hc
        obtain ⟨A5, q5, hs1, hq1⟩ := hc.st.slice
        obtain ⟨A6, q6, hs2, hq2⟩ := hc.sl.slice
        obtain ⟨A7, q7, hs3, hq3⟩ := hc.inn.slice
        obtain ⟨A8, q8, hs4, hq4⟩ := hc.ou.slice
        subst hs1 hs2 hs3 hs4
        obtain ⟨W9, hW9⟩ : ∃ W9, (W8.alloc (.cells cx0 (37 : Nat))).setRow W8.heap.size (cxA xw (.slice A5 xw.stack.length q5) (.slice A6 xw.slots.length q6) (.slice A7 xw.ins.length q7) (.slice A8 xw.outs.length q8)) = W9 := ⟨_, rfl⟩
        have F9 : Aside0 (Four W9 0 xw.stack xw.slots xw.ins xw.outs (.slice A5 xw.stack.length q5) (.slice A6 xw.slots.length q6) (.slice A7 xw.ins.length q7) (.slice A8 xw.outs.length q8)) := ⟨by
          rw [← hW9]
          have := (Four.of hc).move (W1 := (W8.alloc (.cells cx0 (37 : Nat))).setRow W8.heap.size (cxA xw (.slice A5 xw.stack.length q5) (.slice A6 xw.slots.length q6) (.slice A7 xw.ins.length q7) (.slice A8 xw.outs.length q8))) (by simp) (fun k hk => (setRow_other _ _ _ _ (by have := (Four.of hc).lo k hk; omega)).trans (heap_alloc_old _ _ ((Four.of hc).lo k hk).2))
          exact ⟨this.st, this.sl, this.inn, this.ou, this.d1, this.d2, this.d3, fun k hk => ⟨Nat.zero_le _, (this.lo k hk).2⟩⟩⟩
        have XB : Aside0 (W9.heap[W8.heap.size]? = some (.cells (cxA xw (.slice A5 xw.stack.length q5) (.slice A6 xw.slots.length q6) (.slice A7 xw.ins.length q7) (.slice A8 xw.outs.length q8)) 37 (0, 0))) := ⟨by
          rw [← hW9]
          exact setRow_heap (W8.alloc (.cells cx0 (37 : Nat))) W8.heap.size cx0 (cxA xw (.slice A5 xw.stack.length q5) (.slice A6 xw.slots.length q6) (.slice A7 xw.ins.length q7) (.slice A8 xw.outs.length q8)) (37 : Nat) (0, 0) (heap_alloc_new W8 (.cells cx0 (37 : Nat)))⟩
        have T9 : Aside0 (Two w W9 ⟨a1_0, a1_1, a1_2, a1_3⟩ l0 bv bw xe xw Pv Pw (fun k => k = w.heap.size ∨ k = W8.heap.size ∨ own4 (.slice A5 xw.stack.length q5) (.slice A6 xw.slots.length q6) (.slice A7 xw.ins.length q7) (.slice A8 xw.outs.length q8) k)) := ⟨by
          rw [← hW9]
          have h1 := (T0.out.more hb).more ((Below.refl W8.heap.size W8).alloc (Nat.le_refl _) (.cells cx0 (37 : Nat)))
          refine (h1.put (g := W8.heap.size) (.inr ⟨Nat.le_refl _, by simp⟩) (kept_setRow _ _ _)).free (fun k hk => ?_)
          rcases hk with rfl | rfl | hk
          · exact .inl (.inl rfl)
          · exact .inr ⟨Nat.le_refl _, by simp⟩
          · exact .inl (.inr ⟨hc.lo k hk, ((Four.of hc).lo k hk).2⟩)⟩
        have X9 : Aside0 (W9.heap[w.heap.size]? = some (.cells #[.int .i64 a1_0, .int .i64 a1_1, .int .i64 a1_2, .int .i64 a1_3] (24 : Nat) (0, 0))) := ⟨by
          have h1 := (Array.getElem?_eq_some_iff.1 HBX.out).1
          have h2 := hb.size
          rw [← hW9, setRow_other _ _ _ _ (by omega), heap_alloc_old _ _ (by omega), hb.block _ h1]
          exact HBX.out⟩
        clear hb hc T0 HBX
        go_wp2_with ((with_reducible refine gate_store (t := 37) (p := 20) rfl ?_); refine wpList_cxstore (cs' := (cxA xw (.slice A5 xw.stack.length q5) (.slice A6 xw.slots.length q6) (.slice A7 xw.ins.length q7) (.slice A8 xw.outs.length q8))) rfl (.tmp 20) (.tmp 126) rfl rfl rfl (heap_alloc_new W8 (.cells cx0 (37 : Nat))) rfl rfl hall ?_)
        try rw [hW9]
        clear hall hW9
        generalize W8.heap.size = xb at XB T9 ⊢
        have hne : xb ≠ w.heap.size := fun e => by
          have h1 := XB.out
          rw [e, X9.out] at h1
          simp at h1
        have HNE := Aside0.mk hne
        clear hne
        go_wp2_with fail
        have FD : Aside0 (Four W9.drew 0 xw.stack xw.slots xw.ins xw.outs (.slice A5 xw.stack.length q5) (.slice A6 xw.slots.length q6) (.slice A7 xw.ins.length q7) (.slice A8 xw.outs.length q8)) := ⟨F9.out.below (below_drew1 (Below.refl _ _))⟩
        have TD : Aside0 (Two w W9.drew ⟨a1_0, a1_1, a1_2, a1_3⟩ l0 bv bw xe xw Pv Pw (fun k => k = w.heap.size ∨ k = xb ∨ own4 (.slice A5 xw.stack.length q5) (.slice A6 xw.slots.length q6) (.slice A7 xw.ins.length q7) (.slice A8 xw.outs.length q8) k)) := ⟨T9.out.below (below_drew1 (Below.refl _ _))⟩
        have HS : Aside0 (W9.drew.heap[w.heap.size]? = some (.cells #[.int .i64 a1_0, .int .i64 a1_1, .int .i64 a1_2, .int .i64 a1_3] (24 : Nat) (0, 0)) ∧ W9.drew.heap[xb]? = some (.cells (cxA xw (.slice A5 xw.stack.length q5) (.slice A6 xw.slots.length q6) (.slice A7 xw.ins.length q7) (.slice A8 xw.outs.length q8)) 37 (0, 0))) := ⟨X9.out, XB.out⟩
        clear F9 T9 X9 XB
        refine start_ (n := 10) (S := fun w' => w'.heap[w.heap.size]? = some (.cells #[.int .i64 a1_0, .int .i64 a1_1, .int .i64 a1_2, .int .i64 a1_3] (24 : Nat) (0, 0)) ∧ w'.heap[xb]? = some (.cells (cxA xw (.slice A5 xw.stack.length q5) (.slice A6 xw.slots.length q6) (.slice A7 xw.ins.length q7) (.slice A8 xw.outs.length q8)) 37 (0, 0))) (ds := [4]) #[false, false, false, false, false, false, false, false, false, false] (by kernel_rfl) rfl rfl HS.out (fun hHeld => ?_)
        generalize W9.drew = W9 at FD TD HS hHeld ⊢
        refine pure_ (i := 0) (N := some 129) (v := ?_) (a' := ?_) #[true, false, false, false, false, false, false, false, false, false] rfl rfl (by kernel_rfl) (fun _ _ _ h => h) (Or.inl ⟨by rfl, ?_⟩) ?_ ?_
        rotate_left
        · intro w'
          go_simp
          with_reducible rfl
        rotate_left
        · simp only [Act.put, List.setIfInBounds_toArray, List.set_cons_zero, List.set_cons_succ, i64_w, i32_w]
          rfl
        refine take_ (i := 2) (N := some 131) (v := ?_) (a' := ?_) #[true, false, true, false, false, false, false, false, false, false] rfl rfl (by kernel_rfl) (fun _ _ _ h => h) (Or.inl ⟨by rfl, ?_⟩) hHeld ?_ ?_
        rotate_left
        · rintro w' s0
          have y0 := s0.1
          clear s0
          show (do let r ← Instr.loadAt 24 (.pointer (some ⟨w.heap.size, 0, none⟩)); pure (Next.value r) : Sem Next).run Try.prog w' = _
          rw [Sem.run_bind, cf_load y0]
          rfl
        rotate_left
        · simp only [Act.put, List.setIfInBounds_toArray, List.set_cons_zero, List.set_cons_succ, i64_w, i32_w]
          rfl
        refine take_ (i := 3) (N := some 132) (v := ?_) (a' := ?_) #[true, false, true, true, false, false, false, false, false, false] rfl rfl (by kernel_rfl) (fun _ _ _ h => h) (Or.inl ⟨by rfl, ?_⟩) hHeld ?_ ?_
        rotate_left
        · rintro w' s0
          have y0 := s0.2
          clear s0
          show (do let r ← Instr.loadAt 37 (.pointer (some ⟨xb, 0, none⟩)); pure (Next.value r) : Sem Next).run Try.prog w' = _
          rw [Sem.run_bind, run_load37 y0 rfl]
          rfl
        rotate_left
        · simp only [Act.put, List.setIfInBounds_toArray, List.set_cons_zero, List.set_cons_succ, i64_w, i32_w]
          rfl
        refine one_ (i := 1) (N := some 130) #[true, true, true, true, false, false, false, false, false, false] rfl rfl (by kernel_rfl) (by decide) (fun K hK => ?_)
        refine goes_ Try.func10 (by kernel_rfl) rfl #[.slice A0 l0.length c0] (by rfl) rfl rfl (by simp only [List.map_toArray, List.map_cons, List.map_nil]; rfl) ?_
        refine (copied_made (Kd.C_below HC.out.1 TD.out.bel) HC.out.2.1 HC.out.2.2).mono ?_
        rintro e W10 ⟨cv, rfl, hv, hb⟩
        obtain ⟨Ac, cc, rfl, hcc, hAc, hCc⟩ := R53_rd hv
        have HCC := Aside0.mk (And.intro hCc (And.intro hcc hAc))
        have FE := Aside0.mk (FD.out.below hb)
        have TE := Aside0.mk (TD.out.below hb)
        have HSE : Aside0 (W10.heap[w.heap.size]? = some (.cells #[.int .i64 a1_0, .int .i64 a1_1, .int .i64 a1_2, .int .i64 a1_3] (24 : Nat) (0, 0)) ∧ W10.heap[xb]? = some (.cells (cxA xw (.slice A5 xw.stack.length q5) (.slice A6 xw.slots.length q6) (.slice A7 xw.ins.length q7) (.slice A8 xw.outs.length q8)) 37 (0, 0))) := ⟨(hb.block _ (Array.getElem?_eq_some_iff.1 HS.out.1).1).trans HS.out.1, (hb.block _ (Array.getElem?_eq_some_iff.1 HS.out.2).1).trans HS.out.2⟩
        refine ⟨_, rfl, hK.out _ _ HSE.out (fun _ => ?_)⟩
        clear hK K hv hb hcc hAc hCc FD TD HS hHeld
        refine norm_ (a' := ?_) ?_ ?_
        rotate_left
        · simp only [Act.put, List.setIfInBounds_toArray, List.set_cons_zero, List.set_cons_succ]
          rfl
        refine last_ (i := 4) (N := some 133) #[true, true, true, true, true, false, false, false, false, false] rfl rfl (by kernel_rfl) (by decide) (fun K hK => ?_)
        refine goes_ Try.func23 (by kernel_rfl) rfl #[.slice Ac l0.length cc, .agg #[.int .i64 a1_0, .int .i64 a1_1, .int .i64 a1_2, .int .i64 a1_3], .agg (cxA xw (.slice A5 xw.stack.length q5) (.slice A6 xw.slots.length q6) (.slice A7 xw.ins.length q7) (.slice A8 xw.outs.length q8))] (by rfl) rfl rfl (by simp only [List.map_toArray, List.map_cons, List.map_nil]; rfl) ?_
        obtain ⟨mm, Av, wfx, wf0⟩ := HX.out.1.wf
        have hlens := HX.out.1.lens
        refine (load_calls (at_ := (xw.at_ : Int)) (sp := xw.spent) (en := xw.ended) HCC.out.1 HCC.out.2.1 HCC.out.2.2 HR0.out.ver wfx.good wf0 FE.out.st FE.out.sl FE.out.inn FE.out.ou (by omega)).mono ?_
        rintro e W11 ⟨hok, _, hb⟩
        obtain ⟨by_, rfl, hy⟩ := hok (ld_ok wfx HX.out.1.s0.1 HX.out.2.1 hlens.2.1.2)
        have ex : (⟨(xw.at_ : Int).toNat, xw.stack, xw.slots, xw.ins, xw.outs, xw.spent, xw.ended⟩ : Ctx) = xw := rfl
        rw [ex] at hy
        obtain ⟨Py, hPl, hy⟩ : ∃ Py : Nat → Prop, (∀ k, Py k → W10.heap.size ≤ k ∧ k < W11.heap.size) ∧ VMem W11 Py by_ ⟨a1_0, a1_1, a1_2, a1_3⟩ l0 xw := ⟨_, fun k hk => hk, hy⟩
        have TS := Aside0.mk (TE.out.swap hb hy hPl)
        have FG := Aside0.mk (FE.out.below hb)
        have HSZ : Aside0 (W10.heap.size ≤ W11.heap.size) := ⟨hb.size⟩
        have HSG : Aside0 (W11.heap[w.heap.size]? = some (.cells #[.int .i64 a1_0, .int .i64 a1_1, .int .i64 a1_2, .int .i64 a1_3] (24 : Nat) (0, 0)) ∧ W11.heap[xb]? = some (.cells (cxA xw (.slice A5 xw.stack.length q5) (.slice A6 xw.slots.length q6) (.slice A7 xw.ins.length q7) (.slice A8 xw.outs.length q8)) 37 (0, 0))) := ⟨(hb.block _ (Array.getElem?_eq_some_iff.1 HSE.out.1).1).trans HSE.out.1, (hb.block _ (Array.getElem?_eq_some_iff.1 HSE.out.2).1).trans HSE.out.2⟩
        refine ⟨_, rfl, hK.out _ _ ?_⟩
        clear hK K hok hb hy ex FE TE HSE HCC wfx wf0 hlens hPl
        refine pure_ (i := 5) (N := some 128) (v := ?_) (a' := ?_) #[true, true, true, true, true, true, false, false, false, false] rfl rfl (by kernel_rfl) (fun _ _ _ h => h) (Or.inl ⟨by rfl, ?_⟩) ?_ ?_
        rotate_left
        · intro w'
          go_simp
          with_reducible rfl
        rotate_left
        · simp only [Act.put, List.setIfInBounds_toArray, List.set_cons_zero, List.set_cons_succ, i64_w, i32_w]
          rfl
        refine pure_ (i := 6) (N := some 134) (v := ?_) (a' := ?_) #[true, true, true, true, true, true, true, false, false, false] rfl rfl (by kernel_rfl) (fun _ _ _ h => h) (Or.inl ⟨by rfl, ?_⟩) ?_ ?_
        rotate_left
        · intro w'
          go_simp
          with_reducible rfl
        rotate_left
        · simp only [Act.put, List.setIfInBounds_toArray, List.set_cons_zero, List.set_cons_succ, i64_w, i32_w]
          rfl
        refine pure_ (i := 7) (N := some 135) (v := ?_) (a' := ?_) #[true, true, true, true, true, true, true, true, false, false] rfl rfl (by kernel_rfl) (fun _ _ _ h => h) (Or.inl ⟨by rfl, ?_⟩) ?_ ?_
        rotate_left
        · intro w'
          go_simp
          with_reducible rfl
        rotate_left
        · simp only [Act.put, List.setIfInBounds_toArray, List.set_cons_zero, List.set_cons_succ, i64_w, i32_w]
          rfl
        refine pure_ (i := 8) (N := some 22) (v := ?_) (a' := ?_) #[true, true, true, true, true, true, true, true, true, false] rfl rfl (by kernel_rfl) (fun _ _ _ h => h) (Or.inl ⟨by rfl, ?_⟩) ?_ ?_
        rotate_left
        · intro w'
          go_simp
          with_reducible rfl
        rotate_left
        · simp only [Act.put, List.setIfInBounds_toArray, List.set_cons_zero, List.set_cons_succ, i64_w, i32_w]
          rfl
        refine pure_ (i := 9) (N := some 23) (v := ?_) (a' := ?_) #[true, true, true, true, true, true, true, true, true, true] rfl rfl (by kernel_rfl) (fun _ _ _ h => h) (Or.inl ⟨by rfl, ?_⟩) ?_ ?_
        rotate_left
        · intro w'
          go_simp
          with_reducible rfl
        rotate_left
        · simp only [Act.put, List.setIfInBounds_toArray, List.set_cons_zero, List.set_cons_succ, i64_w, i32_w]
          rfl
        refine done_ (by kernel_rfl) ?_
        go_wp2_with ((with_reducible refine gate_ (.load 37 (.tmp 20)) rfl ?_); refine wpList_load37 rfl (.tmp 20) rfl rfl HSG.out.2 rfl ?_)
        obtain ⟨B5, r5, hb5, hc5, _, hC5⟩ := FG.out.st.C
        obtain ⟨B6, r6, hb6, hc6, _, hC6⟩ := FG.out.sl.C
        obtain ⟨B7, r7, hb7, hc7, _, hC7⟩ := FG.out.inn.C
        obtain ⟨B8, r8, hb8, hc8, _, hC8⟩ := FG.out.ou.C
        simp only [Value.slice.injEq] at hb5 hb6 hb7 hb8
        obtain ⟨rfl, _, rfl⟩ := hb5
        obtain ⟨rfl, _, rfl⟩ := hb6
        obtain ⟨rfl, _, rfl⟩ := hb7
        obtain ⟨rfl, _, rfl⟩ := hb8
        have hlens := HX.out.1.lens
        refine (copy_made (at_ := (xw.at_ : Int)) (sp := xw.spent) (en := xw.ended) hC5 hc5 hC6 hc6 hC7 hc7 hC8 hc8 (by omega) (by omega) (by omega) (by omega)).mono ?_
        clear hc5 hC5 hc6 hC6 hc7 hC7 hc8 hC8 hlens
        rintro e W12 ⟨⟨s', t', j', o', rfl, hf⟩, hb⟩
        obtain ⟨E5, g5, hs1, _⟩ := hf.st.slice
        obtain ⟨E6, g6, hs2, _⟩ := hf.sl.slice
        obtain ⟨E7, g7, hs3, _⟩ := hf.inn.slice
        obtain ⟨E8, g8, hs4, _⟩ := hf.ou.slice
        subst hs1 hs2 hs3 hs4
        have hall : (cxA xw (.slice E5 xw.stack.length g5) (.slice E6 xw.slots.length g6) (.slice E7 xw.ins.length g7) (.slice E8 xw.outs.length g8)).all (·.oneCell') = true := four_all hf _ _ _
        obtain ⟨W13, hW13⟩ : ∃ W13, (W12.alloc (.cells cx0 (37 : Nat))).setRow W12.heap.size (cxA xw (.slice E5 xw.stack.length g5) (.slice E6 xw.slots.length g6) (.slice E7 xw.ins.length g7) (.slice E8 xw.outs.length g8)) = W13 := ⟨_, rfl⟩
        have hbt : Below W11.heap.size W11 (W12.alloc (.cells cx0 (37 : Nat))) := hb.alloc hb.size _
        have hkt : Kept2 (W12.alloc (.cells cx0 (37 : Nat))) W13 (fun k => k = W12.heap.size) := by rw [← hW13]; exact kept_setRow _ _ _
        have hs12 := hb.size
        have hmv : ∀ k, k < W12.heap.size → W13.heap[k]? = W12.heap[k]? := fun k hk => (hkt.block k (by simp; omega) (by omega)).trans (heap_alloc_old _ _ hk)
        have hsz13 : W12.heap.size < W13.heap.size := by rw [← hW13]; simp
        have T13 : Aside0 (Two w W13 ⟨a1_0, a1_1, a1_2, a1_3⟩ l0 bv by_ xe xw Pv Py (FW w.heap.size xb W12.heap.size (.slice A5 xw.stack.length q5) (.slice A6 xw.slots.length q6) (.slice A7 xw.ins.length q7) (.slice A8 xw.outs.length q8) (.slice E5 xw.stack.length g5) (.slice E6 xw.slots.length g6) (.slice E7 xw.ins.length g7) (.slice E8 xw.outs.length g8))) := ⟨by
          have h1 := (TS.out.1.more hb).more ((Below.refl W12.heap.size W12).alloc (Nat.le_refl _) (.cells cx0 (37 : Nat)))
          refine (h1.put (g := W12.heap.size) (.inr ⟨Nat.le_refl _, by simp⟩) hkt).free (fun k hk => ?_)
          rcases hk with rfl | rfl | rfl | hk | hk
          · exact .inl (.inl (.inl rfl))
          · exact .inl (.inl (.inr (.inl rfl)))
          · exact .inr ⟨Nat.le_refl _, by simp⟩
          · exact .inl (.inl (.inr (.inr hk)))
          · exact .inl (.inr ⟨(hf.lo k hk).1, (hf.lo k hk).2⟩)⟩
        have RW13 : Aside0 (RW W13 w.heap.size xb W12.heap.size xw a1_0 a1_1 a1_2 a1_3 (.slice A5 xw.stack.length q5) (.slice A6 xw.slots.length q6) (.slice A7 xw.ins.length q7) (.slice A8 xw.outs.length q8) (.slice E5 xw.stack.length g5) (.slice E6 xw.slots.length g6) (.slice E7 xw.ins.length g7) (.slice E8 xw.outs.length g8)) := ⟨by
          have hB := (Array.getElem?_eq_some_iff.1 HSG.out.1).1
          have hxb := (Array.getElem?_eq_some_iff.1 HSG.out.2).1
          have f1 := (FG.out.below hb).move (W1 := W13) (by omega) (fun k hk => hmv k ((FG.out.below hb).lo k hk).2)
          have f2 := hf.move (W1 := W13) (by omega) (fun k hk => hmv k (hf.lo k hk).2)
          refine ⟨(hmv _ (by omega)).trans ((hb.block _ hB).trans HSG.out.1), (hmv _ (by omega)).trans ((hb.block _ hxb).trans HSG.out.2), ?_, f1, ⟨f2.st, f2.sl, f2.inn, f2.ou, f2.d1, f2.d2, f2.d3, fun k hk => ⟨Nat.zero_le _, (f2.lo k hk).2⟩⟩⟩
          rw [← hW13]
          exact setRow_heap (W12.alloc (.cells cx0 (37 : Nat))) W12.heap.size cx0 (cxA xw (.slice E5 xw.stack.length g5) (.slice E6 xw.slots.length g6) (.slice E7 xw.ins.length g7) (.slice E8 xw.outs.length g8)) (37 : Nat) (0, 0) (heap_alloc_new W12 (.cells cx0 (37 : Nat)))⟩
        have PD : Aside0 (∀ k, Pw k → ¬ Pv k ∧ ¬ Py k ∧ ¬ FW w.heap.size xb W12.heap.size (.slice A5 xw.stack.length q5) (.slice A6 xw.slots.length q6) (.slice A7 xw.ins.length q7) (.slice A8 xw.outs.length q8) (.slice E5 xw.stack.length g5) (.slice E6 xw.slots.length g6) (.slice E7 xw.ins.length g7) (.slice E8 xw.outs.length g8) k ∧ w.heap.size ≤ k ∧ k < W12.heap.size) := ⟨fun k hk => by
          obtain ⟨p1, p2, p3, p4, p5⟩ := TS.out.2.2 k hk
          have z1 := HSZ.out
          refine ⟨p1, p2, fun h => ?_, p4, by omega⟩
          rcases h with h | h | h | h | h
          · exact p3 (.inl h)
          · exact p3 (.inr (.inl h))
          · omega
          · exact p3 (.inr (.inr h))
          · have := (hf.lo k h).1
            omega⟩
        have O13 : Aside0 (VMem W13 Pw bw ⟨a1_0, a1_1, a1_2, a1_3⟩ l0 xw) := ⟨TS.out.2.1.move (fun k hp _ => (hmv k (PD.out k hp).2.2.2.2).trans (hb.block k (by have := (TS.out.2.2 k hp).2.2.2.2; have := HSZ.out; omega)))⟩
        have HS13 : Aside0 (W12.heap.size < W13.heap.size) := ⟨hsz13⟩
        clear hb hf hbt hkt hs12 hmv hsz13 TS FG HSG HSZ
        obtain ⟨ad3', hae, hcb⟩ := Kd.at_int (Kd.C_below H3.out.1 T13.out.bel) (i : Int) (by omega) (by omega)
        injection hae with hae
        subst hae
        simp only [Int.toNat_natCast] at hcb
        obtain ⟨yv, hyv⟩ : ∃ y, rd l3 (i : Int) = y := ⟨_, rfl⟩
        rw [hyv] at hcb
        have HYV := Aside0.mk hyv
        clear hyv
        go_wp2_with ((with_reducible refine gate_store (t := 37) (p := 24) rfl ?_); refine wpList_cxstore (cs' := (cxA xw (.slice E5 xw.stack.length g5) (.slice E6 xw.slots.length g6) (.slice E7 xw.ins.length g7) (.slice E8 xw.outs.length g8))) rfl (.tmp 24) (.tmp 147) rfl rfl rfl (heap_alloc_new W12 (.cells cx0 (37 : Nat))) rfl rfl hall ?_)
        try rw [hW13]
        clear hall hW13
        clear hcb
        refine (run_some O13.out (fun k hk => by have := (PD.out k hk).2.2.2.2; have := HS13.out; omega) HX.out.1 _).mono ?_
        rintro e W14 ⟨r, rfl, _, hk⟩
        have T14 := Aside0.mk (T13.out.outer hk (fun k h => ⟨(PD.out k h).1, (PD.out k h).2.1⟩) (fun k h => (PD.out k h).2.2.2.1))
        have RW14 := Aside0.mk (RW13.out.move hk.size (fun k hf => hk.block k (T13.out.lf k hf).2 (fun hp => (PD.out k hp).2.2.1 hf)))
        clear hk T13 RW13 O13 PD HS13
        go_wp2_with (first | ((with_reducible refine gate_ (.load 37 (.tmp 20)) rfl ?_); refine wpList_load37 rfl (.tmp 20) rfl rfl RW14.out.xa rfl ?_) | ((with_reducible refine gate_ (.load 37 (.tmp 24)) rfl ?_); refine wpList_load37 rfl (.tmp 24) rfl rfl RW14.out.za rfl ?_))
        refine (RW14.out.same (by have := HX.out.1.lens; omega) (by have := HX.out.1.lens; omega) (by have := HX.out.1.lens; omega) (by have := HX.out.1.lens; omega)).mono ?_
        rintro e W15 ⟨rfl, hb⟩
        have T15 := Aside0.mk (T14.out.below hb)
        have RW15 := Aside0.mk (RW14.out.move hb.size (fun k hf => hb.block k (T14.out.lf k hf).2))
        clear hb T14 RW14
        obtain ⟨ad3', hae, hcb⟩ := Kd.at_int (Kd.C_below H3.out.1 T15.out.bel) (i : Int) (by omega) (by omega)
        injection hae with hae
        subst hae
        simp only [Int.toNat_natCast] at hcb
        rw [HYV.out] at hcb
        go_wp2_with fail
        clear hcb
        refine (run_some T15.out.mw (fun k hk => (T15.out.lw k hk).2) HX.out.1 _).mono ?_
        rintro e W16 ⟨r', rfl, hv, hk⟩
        have RW16 := Aside0.mk (RW15.out.move hk.size (fun k hf => T15.out.keep2 hk hf))
        have T16 := Aside0.mk (T15.out.run2 hv hk)
        clear hv hk T15 RW15
        go_wp2_with (first | ((with_reducible refine gate_ (.load 37 (.tmp 20)) rfl ?_); refine wpList_load37 rfl (.tmp 20) rfl rfl RW16.out.xa rfl ?_) | ((with_reducible refine gate_ (.load 37 (.tmp 24)) rfl ?_); refine wpList_load37 rfl (.tmp 24) rfl rfl RW16.out.za rfl ?_))
        refine (RW16.out.same (by have := HX.out.1.lens; omega) (by have := HX.out.1.lens; omega) (by have := HX.out.1.lens; omega) (by have := HX.out.1.lens; omega)).mono ?_
        rintro e W17 ⟨rfl, hb⟩
        have T17 := Aside0.mk (T16.out.below hb)
        have X17 : Aside0 (W17.heap[w.heap.size]? = some (.cells #[.int .i64 a1_0, .int .i64 a1_1, .int .i64 a1_2, .int .i64 a1_3] (24 : Nat) (0, 0))) := ⟨(hb.block _ (Array.getElem?_eq_some_iff.1 RW16.out.cf).1).trans RW16.out.cf⟩
        clear hb T16 RW16
        go_wp2_with fail
        go_roundg go
        case measure => omega
        case rel => exact ⟨i + 1, by_, to18 l0 _ xw, rfl, by go_num, by omega, ⟨⟨_, _, T17.out.free (fun k hk => .inl hk)⟩⟩, ⟨HX.out.1.to18 _, HX.out.2.1.to18 HX.out.1 _, (again_fin HX.out.1 _).trans HX.out.2.2⟩, X17⟩
theorem carillonlaw22_VmAgain.calls (A0 : Option Addr) (c0 : Nat) (l0 : List S53) (a1_0 a1_1 a1_2 a1_3 : Int) (A2 : Option Addr) (c2 : Nat) (l2 : List Int) (A3 : Option Addr) (c3 : Nat) (l3 : List Int) (r : Bool) (w : World) (hr0 : Kd.C k53 w A0 l0.length l0) (hc0 : l0.length ≤ c0) (hr2 : Kd.C (Kd.int .i64) w A2 l2.length l2) (hc2 : l2.length ≤ c2) (hr3 : Kd.C (Kd.int .u8) w A3 l3.length l3) (hc3 : l3.length ≤ c3) (h : carillonlaw22_VmAgain.f l0 a1_0 a1_1 a1_2 a1_3 l2 l3 = some r) :
    Calls Try.prog 7 #[.slice A0 l0.length c0, .agg #[.int .i64 a1_0, .int .i64 a1_1, .int .i64 a1_2, .int .i64 a1_3], .slice A2 l2.length c2, .slice A3 l3.length c3] w fun e w' => e = .returned (.bool r) ∧ Below w.heap.size w w' := by
  obtain rfl : true = r := Option.some.inj h
  by_cases h1 : l0.length ≤ 200 ∧ l2.length ≤ 100 ∧ l3.length ≤ 200
  · exact again_small hr0 hc0 hr2 hc2 hr3 h1.1 h1.2.1 h1.2.2
  · exact again_big (by omega)
end Go.Proofs.Ytlmpoojpbdmmfaa.H
