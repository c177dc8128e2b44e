/- The law VmOwn: what becomes of what a run was given, or told, changes nothing of it. The conditions: the lists lie in memory. -/
import Derived.Test.YtlmpoojpbdmmfaaTwo22
set_option linter.unusedVariables false
set_option linter.unusedSimpArgs false
namespace Go.Proofs.Ytlmpoojpbdmmfaa.H
open Go.RowKit Go.Proofs.YtlmpoojpbdmmfaaW.PrintWords Go.Proofs.YtlmpoojpbdmmfaaW.PrintLast Go.Proofs.YtlmpoojpbdmmfaaW.PrintMore Go.Maps
def carillonlaw22_VmOwn.f (l0 : List S53) (a1_0 a1_1 a1_2 a1_3 : Int) (l2 : List Int) (a3 : Int) : Option Bool := if 0 ≤ a3 ∧ a3 ≤ 255 then some true else none
set_option maxHeartbeats 4000000 in
set_option maxRecDepth 100000 in
theorem own_big {A0 : Option Addr} {c0 : Nat} {l0 : List S53} {a1_0 a1_1 a1_2 a1_3 : Int} {A2 : Option Addr} {c2 : Nat} {l2 : List Int} {a3 : Int} {w : World} (h : 200 < l0.length ∨ 100 < l2.length) :
    Calls Try.prog 5 #[.slice A0 l0.length c0, .agg #[.int .i64 a1_0, .int .i64 a1_1, .int .i64 a1_2, .int .i64 a1_3], .slice A2 l2.length c2, .int .u8 a3] w fun e w' => e = .returned (.bool true) ∧ Below w.heap.size w w' := by
  by_cases h1 : 200 < l0.length
  · have d1 : decide ((200 : Int) < (l0.length : Int)) = true := decide_eq_true (by omega)
    clear h h1
    go_enter Try.func5, Try.ntmps5
    go_wp2_with fail
    refine (works_calls _).mono ?_
    rintro e W' ⟨rfl, hb⟩
    have B := Aside0.mk (((Below.refl w.heap.size w).alloc (Nat.le_refl _) _).trans (hb.mono (by simp)))
    clear hb
    go_wp2
    go_ret
    exact ⟨rfl, B.out⟩
  · have d1 : decide ((200 : Int) < (l0.length : Int)) = false := decide_eq_false (by omega)
    have d2 : decide ((100 : Int) < (l2.length : Int)) = true := decide_eq_true (by omega)
    clear h h1
    go_enter Try.func5, Try.ntmps5
    go_wp2_with fail
    refine (works_calls _).mono ?_
    rintro e W' ⟨rfl, hb⟩
    have B := Aside0.mk (((Below.refl w.heap.size w).alloc (Nat.le_refl _) _).trans (hb.mono (by simp)))
    clear hb
    go_wp2
    go_ret
    exact ⟨rfl, B.out⟩
set_option maxHeartbeats 16000000 in
set_option maxRecDepth 100000 in
theorem own_small {A0 : Option Addr} {c0 : Nat} {l0 : List S53} {a1_0 a1_1 a1_2 a1_3 : Int} {A2 : Option Addr} {c2 : Nat} {l2 : List Int} {a3 : Int} {w : World} (hr0 : Kd.C k53 w A0 l0.length l0) (hc0 : l0.length ≤ c0) (hr2 : Kd.C (Kd.int .i64) w A2 l2.length l2) (hc2 : l2.length ≤ c2) (h1 : l0.length ≤ 200) (h2 : l2.length ≤ 100) (h3 : 0 ≤ a3) (h4 : a3 ≤ 255) :
    Calls Try.prog 5 #[.slice A0 l0.length c0, .agg #[.int .i64 a1_0, .int .i64 a1_1, .int .i64 a1_2, .int .i64 a1_3], .slice A2 l2.length c2, .int .u8 a3] w fun e w' => e = .returned (.bool true) ∧ Below w.heap.size w w' := by
  have HC := Aside0.mk (And.intro hr0 (And.intro hc0 h1))
  have HI := Aside0.mk (And.intro hr2 (And.intro hc2 h2))
  have d1 : decide ((200 : Int) < (l0.length : Int)) = false := decide_eq_false (by omega)
  have d2 : decide ((100 : Int) < (l2.length : Int)) = false := decide_eq_false (by omega)
  have X := Aside0.mk (heap_alloc_new w (.cells #[.int .i64 a1_0, .int .i64 a1_1, .int .i64 a1_2, .int .i64 a1_3] (24 : Nat)))
  have B := Aside0.mk ((Below.refl w.heap.size w).alloc (Nat.le_refl _) (.cells #[.int .i64 a1_0, .int .i64 a1_1, .int .i64 a1_2, .int .i64 a1_3] (24 : Nat)))
  have Z : Aside0 (w.heap.size < (w.alloc (.cells #[.int .i64 a1_0, .int .i64 a1_1, .int .i64 a1_2, .int .i64 a1_3] (24 : Nat))).heap.size) := ⟨by simp⟩
  have hu24 := Try.underlying24
  have hz53 := zero53
  have hz37 := zero37
  clear hr0 hc0 hr2 hc2 h1 h2
  go_enter Try.func5, Try.ntmps5
  go_wp2_with fail
  generalize w.alloc (.cells #[.int .i64 a1_0, .int .i64 a1_1, .int .i64 a1_2, .int .i64 a1_3] (24 : Nat)) = W1 at X B Z ⊢
  refine (copied_made (Kd.C_below HC.out.1 B.out) HC.out.2.1 HC.out.2.2).mono ?_
  rintro e W2 ⟨cv, rfl, hv, hb⟩
  obtain ⟨Ac, cc, rfl, hcc, hAc, hCc⟩ := R53_rd hv
  have HV := Aside0.mk (And.intro hv (And.intro Z.out (And.intro hb.size (Kd.R_lt hv))))
  have X2 := Aside0.mk ((hb.block _ Z.out).trans X.out)
  have B2 := Aside0.mk (B.out.trans (hb.mono B.out.size))
  have Z2 : Aside0 (w.heap.size < W2.heap.size) := ⟨Nat.lt_of_lt_of_le Z.out hb.size⟩
  clear hb hv hCc X B Z
  have HAc := Aside0.mk (And.intro hcc hAc)
  clear hcc hAc
  go_wp2_with fail
  refine (numbers_made (Kd.C_below HI.out.1 B2.out) HI.out.2.1 HI.out.2.2).mono ?_
  rintro e W3 ⟨iv, rfl, ⟨hi, hio⟩, hb⟩
  obtain ⟨Ai, ci, rfl, hci, hAi, hCi⟩ := hi.C
  have HV2 := Aside0.mk (Kd.R_below HV.out.1 hb)
  have HLT : Aside0 (∀ k, (Value.slice Ac l0.length cc).ownBlock = some k → k < W2.heap.size) := ⟨HV.out.2.2.2⟩
  have HW1 : Aside0 (w.heap.size < W1.heap.size ∧ W1.heap.size ≤ W2.heap.size ∧ W2.heap.size ≤ W3.heap.size) := ⟨HV.out.2.1, HV.out.2.2.1, hb.size⟩
  have HII := Aside0.mk (And.intro hi hio)
  have X := Aside0.mk ((hb.block _ Z2.out).trans X2.out)
  have B := Aside0.mk (B2.out.trans (hb.mono B2.out.size))
  have Z : Aside0 (w.heap.size < W3.heap.size) := ⟨Nat.lt_of_lt_of_le Z2.out hb.size⟩
  clear hb hi hio hci hAi hCi X2 B2 Z2 HV
  go_wp2_with ((with_reducible refine gate_ (.load 24 (.tmp 5)) rfl ?_); refine wpList_cfload rfl (.tmp 5) rfl rfl X.out ?_)
  refine (new_any (c := ⟨a1_0, a1_1, a1_2, a1_3⟩) (R53_rd HV2.out) HII.out.1).mono ?_
  rintro e W4 ⟨pv, rfl, hN, hb⟩
  have NV := Aside0.mk hN
  have HV4 := Aside0.mk (Kd.R_below HV2.out hb)
  have HI4 : Aside0 (IR W4 (.slice Ai l2.length ci) l2 ∧ ∀ k, (Value.slice Ai l2.length ci).ownBlock = some k → W2.heap.size ≤ k ∧ k < W3.heap.size) := ⟨HII.out.1.move (fun k hk => hb.block k (HII.out.2 k hk).2), HII.out.2⟩
  have HS4 : Aside0 (w.heap.size < W1.heap.size ∧ W1.heap.size ≤ W2.heap.size ∧ W2.heap.size ≤ W3.heap.size ∧ W3.heap.size ≤ W4.heap.size) := ⟨HW1.out.1, HW1.out.2.1, HW1.out.2.2, hb.size⟩
  have X4 := Aside0.mk ((hb.block _ Z.out).trans X.out)
  have B4 := Aside0.mk (B.out.trans (hb.mono B.out.size))
  have Z4 : Aside0 (w.heap.size < W4.heap.size) := ⟨Nat.lt_of_lt_of_le Z.out hb.size⟩
  obtain ⟨ne1, hne⟩ : ∃ ne, newE l0 ⟨a1_0, a1_1, a1_2, a1_3⟩ l2.length = ne := ⟨_, rfl⟩
  rw [hne]
  have NE1 := Aside0.mk hne
  clear hne hN hb HII HW1 HV2 X B Z
  have X := X4
  have B := B4
  have Z := Z4
  clear X4 B4 Z4
  go_wp2_with fail
  have B3 : Aside0 (Below w.heap.size w W4.drew) := ⟨below_drew1 B.out⟩
  have D3 : Aside0 (Below W4.heap.size W4 W4.drew) := ⟨below_drew1 (Below.refl _ _)⟩
  have Z3 : Aside0 (w.heap.size < W4.drew.heap.size) := ⟨Z.out⟩
  refine start_ (n := 11) (S := fun w' => w'.heap[w.heap.size]? = some (.cells #[.int .i64 a1_0, .int .i64 a1_1, .int .i64 a1_2, .int .i64 a1_3] (24 : Nat) (0, 0))) (ds := [5]) #[false, false, false, false, false, false, false, false, false, false, false] (by kernel_rfl) rfl rfl X.out (fun hHeld => ?_)
  generalize W4.drew = Wq at B3 D3 Z3 hHeld ⊢
  refine pure_ (i := 0) (N := some 49) (v := ?_) (a' := ?_) #[true, false, false, false, false, false, false, false, false, false, false] rfl rfl (by kernel_rfl) (fun _ _ _ h => h) (Or.inl ⟨by rfl, ?_⟩) ?_ ?_
  rotate_left
  · intro w'
    go_simp
    with_reducible rfl
  rotate_left
  · simp only [Act.put, List.setIfInBounds_toArray, List.set_cons_zero, List.set_cons_succ, i64_w, i32_w]
    rfl
  refine take_ (i := 2) (N := some 51) (v := ?_) (a' := ?_) #[true, false, true, false, false, false, false, false, false, false, false] rfl rfl (by kernel_rfl) (fun _ _ _ h => h) (Or.inl ⟨by rfl, ?_⟩) hHeld ?_ ?_
  rotate_left
  · intro w' hx
    show (do let r ← Instr.loadAt 24 (.pointer (some ⟨w.heap.size, 0, none⟩)); pure (Next.value r) : Sem Next).run Try.prog w' = _
    rw [Sem.run_bind, cf_load hx]
    rfl
  rotate_left
  · simp only [Act.put, List.setIfInBounds_toArray, List.set_cons_zero, List.set_cons_succ, i64_w, i32_w]
    rfl
  refine pure_ (i := 3) (N := some 52) (v := ?_) (a' := ?_) #[true, false, true, true, false, false, false, false, false, false, false] rfl rfl (by kernel_rfl) (fun _ _ _ h => h) (Or.inl ⟨by rfl, ?_⟩) ?_ ?_
  rotate_left
  · intro w'
    go_simp
    with_reducible rfl
  rotate_left
  · simp only [Act.put, List.setIfInBounds_toArray, List.set_cons_zero, List.set_cons_succ, i64_w, i32_w]
    rfl
  refine one_ (i := 1) (N := some 50) #[true, true, true, true, false, false, false, false, false, false, false] rfl rfl (by kernel_rfl) (by decide) (fun K hK => ?_)
  refine goes_ Try.func10 (by kernel_rfl) rfl #[.slice A0 l0.length c0] (by rfl) rfl rfl (by simp only [List.map_toArray, List.map_cons, List.map_nil]; rfl) ?_
  refine (copied_made (Kd.C_below HC.out.1 B3.out) HC.out.2.1 HC.out.2.2).mono ?_
  rintro e w4 ⟨v, rfl, hv, hb⟩
  refine ⟨v, rfl, hK.out _ _ ((hb.block _ Z3.out).trans hHeld) (fun _ => ?_)⟩
  clear hK K
  refine one_ (i := 4) (N := some 53) #[true, true, true, true, true, false, false, false, false, false, false] rfl rfl (by kernel_rfl) (by decide) (fun K hK => ?_)
  refine goes_ Try.func11 (by kernel_rfl) rfl #[.slice A2 l2.length c2] (by rfl) rfl rfl (by simp only [List.map_toArray, List.map_cons, List.map_nil]; rfl) ?_
  refine (numbers_made (Kd.C_below HI.out.1 (B3.out.trans (hb.mono (Nat.le_of_lt Z3.out)))) HI.out.2.1 HI.out.2.2).mono ?_
  rintro e w' ⟨v', rfl, hv', hb'⟩
  have XR : Aside0 (w'.heap[w.heap.size]? = some (.cells #[.int .i64 a1_0, .int .i64 a1_1, .int .i64 a1_2, .int .i64 a1_3] (24 : Nat) (0, 0))) := ⟨(hb'.block _ (Nat.lt_of_lt_of_le Z3.out hb.size)).trans ((hb.block _ Z3.out).trans hHeld)⟩
  have HV := Aside0.mk (R53_rd (Kd.R_below hv hb'))
  have HV' := Aside0.mk hv'.1
  have BR := Aside0.mk (hb.trans (hb'.mono hb.size))
  refine ⟨v', rfl, hK.out _ _ XR.out (fun _ => ?_)⟩
  clear hK K hv hv' hb hb' hHeld
  refine norm_ (a' := ?_) ?_ ?_
  rotate_left
  · simp only [Act.put, List.setIfInBounds_toArray, List.set_cons_zero, List.set_cons_succ]
    rfl
  refine last_ (i := 5) (N := some 54) #[true, true, true, true, true, true, false, false, false, false, false] rfl rfl (by kernel_rfl) (by decide) (fun K hK => ?_)
  refine goes_ Try.func9 (by kernel_rfl) rfl #[v, .agg #[.int .i64 a1_0, .int .i64 a1_1, .int .i64 a1_2, .int .i64 a1_3], v'] (by rfl) rfl rfl (by simp only [List.map_toArray, List.map_cons, List.map_nil]; rfl) ?_
  refine (new_any (c := ⟨a1_0, a1_1, a1_2, a1_3⟩) HV.out HV'.out).mono ?_
  rintro e W5 ⟨pv, rfl, hN, hb⟩
  have NW5 : Aside0 (∃ W2, W4.heap.size ≤ W2.heap.size ∧ NewIs W2 W5 pv l0 ⟨a1_0, a1_1, a1_2, a1_3⟩ l2) := ⟨_, Nat.le_trans D3.out.size BR.out.size, hN⟩
  have DW5 : Aside0 (Below W4.heap.size W4 W5) := ⟨D3.out.trans ((BR.out.trans (hb.mono BR.out.size)).mono D3.out.size)⟩
  have BW5 : Aside0 (Below w.heap.size w W5) := ⟨B.out.trans (DW5.out.mono B.out.size)⟩
  have XW5 : Aside0 (W5.heap[w.heap.size]? = some (.cells #[.int .i64 a1_0, .int .i64 a1_1, .int .i64 a1_2, .int .i64 a1_3] (24 : Nat) (0, 0))) := ⟨(DW5.out.block _ Z.out).trans X.out⟩
  have ZW5 : Aside0 (w.heap.size < W5.heap.size) := ⟨Nat.lt_of_lt_of_le Z.out DW5.out.size⟩
  obtain ⟨ne, hne⟩ : ∃ ne, newE l0 ⟨a1_0, a1_1, a1_2, a1_3⟩ l2.length = ne := ⟨_, rfl⟩
  rw [hne]
  have NEW5 := Aside0.mk hne
  clear hne hN hb HV HV' XR BR B3 D3 Z3
  refine ⟨_, rfl, hK.out _ _ ?_⟩
  clear hK K
  refine pure_ (i := 6) (N := some 48) (v := ?_) (a' := ?_) #[true, true, true, true, true, true, true, false, false, false, false] rfl rfl (by kernel_rfl) (fun _ _ _ h => h) (Or.inl ⟨by rfl, ?_⟩) ?_ ?_
  rotate_left
  · intro w'
    go_simp
    with_reducible rfl
  rotate_left
  · simp only [Act.put, List.setIfInBounds_toArray, List.set_cons_zero, List.set_cons_succ, i64_w, i32_w]
    rfl
  refine pure_ (i := 7) (N := some 55) (v := ?_) (a' := ?_) #[true, true, true, true, true, true, true, true, false, false, false] rfl rfl (by kernel_rfl) (fun _ _ _ h => h) (Or.inl ⟨by rfl, ?_⟩) ?_ ?_
  rotate_left
  · intro w'
    go_simp
    with_reducible rfl
  rotate_left
  · simp only [Act.put, List.setIfInBounds_toArray, List.set_cons_zero, List.set_cons_succ, i64_w, i32_w]
    rfl
  refine pure_ (i := 8) (N := some 56) (v := ?_) (a' := ?_) #[true, true, true, true, true, true, true, true, true, false, false] rfl rfl (by kernel_rfl) (fun _ _ _ h => h) (Or.inl ⟨by rfl, ?_⟩) ?_ ?_
  rotate_left
  · intro w'
    go_simp
    with_reducible rfl
  rotate_left
  · simp only [Act.put, List.setIfInBounds_toArray, List.set_cons_zero, List.set_cons_succ, i64_w, i32_w]
    rfl
  refine pure_ (i := 9) (N := some 13) (v := ?_) (a' := ?_) #[true, true, true, true, true, true, true, true, true, true, false] rfl rfl (by kernel_rfl) (fun _ _ _ h => h) (Or.inl ⟨by rfl, ?_⟩) ?_ ?_
  rotate_left
  · intro w'
    go_simp
    with_reducible rfl
  rotate_left
  · simp only [Act.put, List.setIfInBounds_toArray, List.set_cons_zero, List.set_cons_succ, i64_w, i32_w]
    rfl
  refine pure_ (i := 10) (N := some 14) (v := ?_) (a' := ?_) #[true, true, true, true, true, true, true, true, true, true, true] rfl rfl (by kernel_rfl) (fun _ _ _ h => h) (Or.inl ⟨by rfl, ?_⟩) ?_ ?_
  rotate_left
  · intro w'
    go_simp
    with_reducible rfl
  rotate_left
  · simp only [Act.put, List.setIfInBounds_toArray, List.set_cons_zero, List.set_cons_succ, i64_w, i32_w]
    rfl
  refine done_ (by kernel_rfl) ?_
  obtain rfl : ne = ne1 := NEW5.out.symm.trans NE1.out
  have DW5 := Aside0.mk DW5.out
  clear X Z
  by_cases he : ne = 0
  case neg =>
    obtain rfl := NV.out.1 (by rw [NE1.out]; exact he)
    obtain ⟨_, _, hnn, _⟩ := NW5.out
    obtain rfl := hnn (by rw [NE1.out]; exact he)
    have q1 : (ne != 0) = true := by simpa using he
    clear hnn he
    go_wp2_with fail
    refine (works_calls _).mono ?_
    rintro e W6 ⟨rfl, hb⟩
    have B6 := Aside0.mk (BW5.out.trans (hb.mono BW5.out.size))
    clear hb
    go_wp2
    go_ret
    exact ⟨rfl, B6.out⟩
  case pos =>
    subst he
    obtain ⟨bv, rfl, hvm, hrn⟩ := NV.out.2 NE1.out
    obtain ⟨W2', hW2', _, hnn⟩ := NW5.out
    obtain ⟨bw, rfl, hwm, _⟩ := hnn NE1.out
    have HR := Aside0.mk hrn
    obtain ⟨x0, hx0⟩ : ∃ x, ctx0 ⟨a1_0, a1_1, a1_2, a1_3⟩ l2 = x := ⟨_, rfl⟩
    rw [hx0] at hvm hwm HR
    obtain ⟨c, hcc⟩ : ∃ c : Cf, (⟨a1_0, a1_1, a1_2, a1_3⟩ : Cf) = c := ⟨_, rfl⟩
    rw [hcc] at hvm hwm HR
    have hlen := HR.out.lens
    obtain ⟨g, cap, cur, hsl, hg1, hg2, hcap, hcur⟩ := R53_block HV4.out hlen.2.1.1
    simp only [Value.slice.injEq] at hsl
    obtain ⟨rfl, _, rfl⟩ := hsl
    have HT : Aside0 (Two w W5 c l0 bv bw x0 x0 (fun k => W3.heap.size ≤ k ∧ k < W4.heap.size) (fun k => W2'.heap.size ≤ k ∧ k < W5.heap.size) (fun k => k = g ∨ (Value.slice Ai l2.length ci).ownBlock = some k)) := ⟨by
      have hs := HS4.out
      have hd := DW5.out.size
      have hgl := HLT.out g rfl
      refine ⟨hvm.below DW5.out, hwm, fun k h1 h2 => by omega, fun k hk => ?_, fun k h1 => by omega, fun k h1 => by omega, fun k hk => ?_, BW5.out⟩
      · rcases hk with rfl | hk
        · refine ⟨fun h1 => ?_, fun h1 => ?_⟩ <;> omega
        · have := HI4.out.2 k hk
          refine ⟨fun h1 => ?_, fun h1 => ?_⟩ <;> omega
      · rcases hk with rfl | hk
        · omega
        · have := HI4.out.2 k hk
          omega⟩
    have HG : Aside0 (W5.heap[g]? = some (.cells cur 53 (0, 0)) ∧ cur.size = cc * 2 ∧ l0.length ≤ cc) := ⟨(DW5.out.block g (Array.getElem?_eq_some_iff.1 hg2).1).trans hg2, hcur, hcap⟩
    have HI5 : Aside0 (IR W5 (.slice Ai l2.length ci) l2) := ⟨HI4.out.1.below DW5.out⟩
    clear HLT hvm hwm hrn hnn hx0 hcc hg1 hg2 hcap hcur HV4 HI4 HS4 NV NW5 NE1 NEW5 HAc hW2' hlen XW5 BW5 ZW5 DW5
    have HT0 : Aside0 (∃ Pv Pw : Nat → Prop, Two w W5 c l0 bv bw x0 x0 Pv Pw (fun k => k = g ∨ (Value.slice Ai l2.length ci).ownBlock = some k)) := ⟨⟨_, _, HT.out⟩⟩
    clear HT
    go_wp2_with fail
    go_loopg [15] (l0.length) (fun kq v15 wr => ∃ i : Nat, v15 = .int .i64 (i : Int) ∧ kq + i = l0.length ∧ Aside0 (∃ cur, wr.heap[g]? = some (.cells cur 53 (0, 0)) ∧ cur.size = cc * 2 ∧ l0.length ≤ cc) ∧ Aside0 (∃ Pv Pw : Nat → Prop, Two w wr c l0 bv bw x0 x0 Pv Pw (fun k => k = g ∨ (Value.slice Ai l2.length ci).ownBlock = some k)) ∧ Aside0 (IR wr (.slice Ai l2.length ci) l2))
    case atStart => exact ⟨0, rfl, by omega, ⟨_, HG.out⟩, HT0, HI5⟩
    case round =>
      obtain ⟨i, rfl, hik, HGr, HT, HIr⟩ := hrel
      by_cases hlt : i < l0.length
      · obtain ⟨go, rfl⟩ : ∃ go, gk = go + 1 := ⟨gk - 1, by omega⟩
        have e1 : decide ((i : Int) < (l0.length : Int)) = true := decide_eq_true (by omega)
        have e2 : decide (i < l0.length) = true := decide_eq_true hlt
        have hbd : i < 1000 := by have := HC.out.2.2; omega
        obtain ⟨cur', hcu⟩ := HGr.out
        have HCU := Aside0.mk hcu
        obtain ⟨⟨u, hu⟩, ⟨u', hu'⟩, hf, hf'⟩ := at_two2 hcu.1 hcu.2.1 (i := i) (by omega)
        clear hcu HGr
        go_wp2_with fail
        go_roundg go
        case measure => omega
        case rel =>
          obtain ⟨Pv, Pw, ht⟩ := HT.out
          refine ⟨i + 1, by go_num, by omega, ⟨_, two_put HCU.out.1 (i * 2) _ _, by simpa using HCU.out.2.1, HCU.out.2.2⟩, ⟨⟨Pv, Pw, ht.put (.inl rfl) (kept_two _ _ _ _ _)⟩⟩, ⟨HIr.out.move (fun k hk => (kept_two _ _ _ _ _).block k (HIr.out.lt hk) (fun e => ?_))⟩⟩
          subst e
          obtain ⟨cs, hcs⟩ := HIr.out.typed hk
          rw [HCU.out.1] at hcs
          simp at hcs
      · have e1 : decide ((i : Int) < (l0.length : Int)) = false := decide_eq_false (by omega)
        have e2 : decide (i < l0.length) = false := decide_eq_false hlt
        clear hik hlt HGr
        go_wp2_with fail
        have HT0 : Aside0 (∃ Pv Pw : Nat → Prop, Two w wr c l0 bv bw x0 x0 Pv Pw (fun k => (Value.slice Ai l2.length ci).ownBlock = some k)) := ⟨by
          obtain ⟨Pv, Pw, ht⟩ := HT.out
          exact ⟨Pv, Pw, ht.free (fun k hk => .inr hk)⟩⟩
        clear HT HG HI5
        have HBD : Aside0 (l2.length < 1000) := ⟨by have := HI.out.2.2; omega⟩
        go_loopg [16] (l2.length) (fun kq v16 wr => ∃ (i : Nat) (xs : List Int), v16 = .int .i64 (i : Int) ∧ kq + i = l2.length ∧ xs.length = l2.length ∧ Aside0 (IR wr (.slice Ai l2.length ci) xs) ∧ Aside0 (∃ Pv Pw : Nat → Prop, Two w wr c l0 bv bw x0 x0 Pv Pw (fun k => (Value.slice Ai l2.length ci).ownBlock = some k)))
        case atStart => exact ⟨0, _, rfl, by omega, rfl, HIr, HT0⟩
        case round =>
          obtain ⟨i, xs, rfl, hik, hxl, HX, HT⟩ := hrel
          by_cases hlt : i < l2.length
          · obtain ⟨go, rfl⟩ : ∃ go, gk = go + 1 := ⟨gk - 1, by omega⟩
            obtain ⟨g2, cap2, hsl, hle, hob, hcell, hfr, hg⟩ := HX.out.cell (i := i) (by omega)
            rw [hxl] at hsl
            simp only [Value.slice.injEq] at hsl
            obtain ⟨rfl, _, rfl⟩ := hsl
            obtain ⟨y, hy⟩ : ∃ y, xs.getD i 0 = y := ⟨_, rfl⟩
            rw [hy] at hcell
            have e1 : decide ((i : Int) < (l2.length : Int)) = true := decide_eq_true (by omega)
            have e2 : decide (i < l2.length) = true := decide_eq_true hlt
            have hbd : i < 1000 := by have := HBD.out; omega
            have HOB := Aside0.mk hob
            have HXL := Aside0.mk hxl
            clear hy hob hxl hg hle
            go_wp2_with fail
            go_roundg go
            case measure => omega
            case rel =>
              obtain ⟨Pv, Pw, ht⟩ := HT.out
              exact ⟨i + 1, xs.set i _, by go_num, by omega, by rw [List.length_set]; exact HXL.out, ⟨HX.out.set HOB.out (by rw [HXL.out]; omega) _⟩, ⟨⟨Pv, Pw, ht.put (g := g2) (by simp [Value.ownBlock]) (kept_cell _ _ _ _)⟩⟩⟩
          · have e1 : decide ((i : Int) < (l2.length : Int)) = false := decide_eq_false (by omega)
            have e2 : decide (i < l2.length) = false := decide_eq_false hlt
            have HXL := Aside0.mk hxl
            clear hxl hik hlt
            go_wp2_with fail
            obtain ⟨Pv, Pw, ht⟩ := HT.out
            have T0 := Aside0.mk (ht.free (F' := fun _ => False) (fun _ h => h.elim))
            clear ht HX HT
            refine (run_full T0.out.mv (fun k hk => (T0.out.lv k hk).2) HR.out a3).mono ?_
            rintro e W6 ⟨rfl, hv, hk⟩
            have HR1 : Aside0 (Rn l0 c (to18 l0 a3 x0)) := ⟨HR.out.to18 _⟩
            obtain ⟨r1, hr1⟩ : ∃ r, res18 l0 a3 x0 = r := ⟨_, rfl⟩
            obtain ⟨x1, hx1⟩ : ∃ x, to18 l0 a3 x0 = x := ⟨_, rfl⟩
            rw [hx1] at hv HR1
            rw [hr1]
            have HX1 := Aside0.mk (And.intro hr1 hx1)
            clear hr1 hx1
            have T1 := Aside0.mk (T0.out.run1 hv hk)
            clear hv hk T0
            go_wp2_with fail
            refine (run_full T1.out.mw (fun k hk => (T1.out.lw k hk).2) HR.out a3).mono ?_
            rintro e W7 ⟨rfl, hv, hk⟩
            rw [HX1.out.2] at hv
            rw [HX1.out.1]
            have T2 := Aside0.mk (T1.out.run2 hv hk)
            clear hv hk T1
            go_wp2_with fail
            refine (save_full T2.out.mv HR1.out).mono ?_
            rintro e W8 ⟨⟨sv, tv, jv, ov, rfl, hc⟩, hb⟩
            have HC8 := Aside0.mk (hc.move (W1 := (W8.alloc (.cells cx0 (37 : Nat))).setRow W8.heap.size (cxA x1 sv tv jv ov)) (fun k _ hk => (setRow_other _ _ _ _ (by omega)).trans (heap_alloc_old _ _ hk)))
            have hall := cx_all hc
            have XB := Aside0.mk (setRow_heap (W8.alloc (.cells cx0 (37 : Nat))) W8.heap.size cx0 (cxA x1 sv tv jv ov) (37 : Nat) (0, 0) (heap_alloc_new W8 (.cells cx0 (37 : Nat))))
            have T3 : Aside0 (∃ Pv Pw : Nat → Prop, Two w ((W8.alloc (.cells cx0 (37 : Nat))).setRow W8.heap.size (cxA x1 sv tv jv ov)) c l0 bv bw x1 x1 Pv Pw (fun k => k = W8.heap.size ∨ sv.ownBlock = some k ∨ tv.ownBlock = some k)) := ⟨by
              have h1 := (T2.out.more hb).more ((Below.refl W8.heap.size W8).alloc (Nat.le_refl _) (.cells cx0 (37 : Nat)))
              refine ⟨_, _, (h1.put (g := W8.heap.size) (.inr ⟨Nat.le_refl _, by simp⟩) (kept_setRow _ _ _)).free (fun k hk => ?_)⟩
              rcases hk with rfl | hk | hk
              · exact .inr ⟨Nat.le_refl _, by simp⟩
              · exact .inl (.inr ⟨hc.lo k (.inl hk), hc.st.lt hk⟩)
              · exact .inl (.inr ⟨hc.lo k (.inr (.inl hk)), hc.sl.lt hk⟩)⟩
            have ZB : Aside0 (W8.heap.size < ((W8.alloc (.cells cx0 (37 : Nat))).setRow W8.heap.size (cxA x1 sv tv jv ov)).heap.size) := ⟨by simp⟩
            clear hb T2
            go_wp2_with ((with_reducible refine gate_store (t := 37) (p := 17) rfl ?_); refine wpList_cxstore (cs' := cxA x1 sv tv jv ov) rfl (.tmp 17) (.tmp 110) rfl rfl rfl (heap_alloc_new W8 (.cells cx0 (37 : Nat))) rfl rfl hall ?_)
            clear hall
            obtain ⟨A1, q1, hs1, _⟩ := hc.st.slice
            obtain ⟨A2, q2, hs2, _⟩ := hc.sl.slice
            clear hc
            subst hs1 hs2
            generalize (W8.alloc (.cells cx0 (37 : Nat))).setRow W8.heap.size (cxA x1 (.slice A1 x1.stack.length q1) (.slice A2 x1.slots.length q2) jv ov) = W9 at HC8 XB T3 ZB ⊢
            generalize W8.heap.size = bx at XB T3 ZB ⊢
            have AP : Aside0 (∀ k, (Value.slice A1 x1.stack.length q1).ownBlock = some k → (Value.slice A2 x1.slots.length q2).ownBlock ≠ some k) := ⟨fun k hk => (HC8.out.d1 k hk).1⟩
            have I1 := Aside0.mk HC8.out.st
            have I2 := Aside0.mk HC8.out.sl
            clear HC8
            have ex1 := (cx_cells XB.out).1
            have ex2 := (cx_cells XB.out).2
            clear ex1 ex2
            have HBD : Aside0 (x1.stack.length < 1000) := ⟨by have := HR1.out.lens; omega⟩
            go_loopg [19] (x1.stack.length) (fun kq v19 wr => ∃ (i : Nat) (xs : List Int), v19 = .int .i64 (i : Int) ∧ kq + i = x1.stack.length ∧ xs.length = x1.stack.length ∧ Aside0 (IR wr (.slice A1 x1.stack.length q1) xs) ∧ Aside0 (∃ Pv Pw : Nat → Prop, Two w wr c l0 bv bw x1 x1 Pv Pw (fun k => k = bx ∨ (Value.slice A1 x1.stack.length q1).ownBlock = some k ∨ (Value.slice A2 x1.slots.length q2).ownBlock = some k)) ∧ Aside0 (wr.heap[bx]? = some (.cells (cxA x1 (.slice A1 x1.stack.length q1) (.slice A2 x1.slots.length q2) jv ov) 37 (0, 0))) ∧ Aside0 (IR wr (.slice A2 x1.slots.length q2) x1.slots))
            case atStart => exact ⟨0, _, rfl, by omega, rfl, I1, T3, XB, I2⟩
            case round =>
              obtain ⟨i, xs, rfl, hik, hxl, HX, HT, KBX, KTV⟩ := hrel
              by_cases hlt : i < x1.stack.length
              · obtain ⟨go, rfl⟩ : ∃ go, gk = go + 1 := ⟨gk - 1, by omega⟩
                obtain ⟨g2, cap2, hsl, hle, hob, hcell, hfr, hg⟩ := HX.out.cell (i := i) (by omega)
                rw [hxl] at hsl
                simp only [Value.slice.injEq] at hsl
                obtain ⟨rfl, _, rfl⟩ := hsl
                obtain ⟨y, hy⟩ : ∃ y, xs.getD i 0 = y := ⟨_, rfl⟩
                rw [hy] at hcell
                have e1 : decide ((i : Int) < (x1.stack.length : Int)) = true := decide_eq_true (by omega)
                have e2 : decide (i < x1.stack.length) = true := decide_eq_true hlt
                have hbd : i < 1000 := by have := HBD.out; omega
                have HOB := Aside0.mk hob
                have HXL := Aside0.mk hxl
                clear hy hob hxl hg hle
                have c1 := (cx_cells KBX.out).1
                have c2 := (cx_cells KBX.out).2
                go_wp2_with fail
                go_roundg go
                case measure => omega
                case rel =>
                  obtain ⟨Pv, Pw, ht⟩ := HT.out
                  exact ⟨i + 1, xs.set i _, by go_num, by omega, by rw [List.length_set]; exact HXL.out, ⟨HX.out.set HOB.out (by rw [HXL.out]; omega) _⟩, ⟨⟨Pv, Pw, ht.put (g := g2) (by simp [Value.ownBlock]) (kept_cell _ _ _ _)⟩⟩, ⟨cx_keep KBX.out HX.out HOB.out⟩, ⟨IR.other KTV.out HOB.out AP.out⟩⟩
              · have e1 : decide ((i : Int) < (x1.stack.length : Int)) = false := decide_eq_false (by omega)
                have e2 : decide (i < x1.stack.length) = false := decide_eq_false hlt
                have HXL := Aside0.mk hxl
                clear hxl hik hlt
                have c1 := (cx_cells KBX.out).1
                have c2 := (cx_cells KBX.out).2
                go_wp2_with fail
                have HT1 := HT
                have HB1 := KBX
                have HTV := KTV
                clear HT KBX KTV HX
                have HBD : Aside0 (x1.slots.length < 1000) := ⟨by have := HR1.out.lens; omega⟩
                go_loopg [20] (x1.slots.length) (fun kq v20 wr => ∃ (i : Nat) (xs : List Int), v20 = .int .i64 (i : Int) ∧ kq + i = x1.slots.length ∧ xs.length = x1.slots.length ∧ Aside0 (IR wr (.slice A2 x1.slots.length q2) xs) ∧ Aside0 (∃ Pv Pw : Nat → Prop, Two w wr c l0 bv bw x1 x1 Pv Pw (fun k => k = bx ∨ (Value.slice A1 x1.stack.length q1).ownBlock = some k ∨ (Value.slice A2 x1.slots.length q2).ownBlock = some k)) ∧ Aside0 (wr.heap[bx]? = some (.cells (cxA x1 (.slice A1 x1.stack.length q1) (.slice A2 x1.slots.length q2) jv ov) 37 (0, 0))))
                case atStart => exact ⟨0, _, rfl, by omega, rfl, HTV, HT1, HB1⟩
                case round =>
                  obtain ⟨i, xs, rfl, hik, hxl, HX, HT, KBX⟩ := hrel
                  by_cases hlt : i < x1.slots.length
                  · obtain ⟨go, rfl⟩ : ∃ go, gk = go + 1 := ⟨gk - 1, by omega⟩
                    obtain ⟨g2, cap2, hsl, hle, hob, hcell, hfr, hg⟩ := HX.out.cell (i := i) (by omega)
                    rw [hxl] at hsl
                    simp only [Value.slice.injEq] at hsl
                    obtain ⟨rfl, _, rfl⟩ := hsl
                    obtain ⟨y, hy⟩ : ∃ y, xs.getD i 0 = y := ⟨_, rfl⟩
                    rw [hy] at hcell
                    have e1 : decide ((i : Int) < (x1.slots.length : Int)) = true := decide_eq_true (by omega)
                    have e2 : decide (i < x1.slots.length) = true := decide_eq_true hlt
                    have hbd : i < 1000 := by have := HBD.out; omega
                    have HOB := Aside0.mk hob
                    have HXL := Aside0.mk hxl
                    clear hy hob hxl hg hle
                    have c1 := (cx_cells KBX.out).1
                    have c2 := (cx_cells KBX.out).2
                    go_wp2_with fail
                    go_roundg go
                    case measure => omega
                    case rel =>
                      obtain ⟨Pv, Pw, ht⟩ := HT.out
                      exact ⟨i + 1, xs.set i _, by go_num, by omega, by rw [List.length_set]; exact HXL.out, ⟨HX.out.set HOB.out (by rw [HXL.out]; omega) _⟩, ⟨⟨Pv, Pw, ht.put (g := g2) (by simp [Value.ownBlock]) (kept_cell _ _ _ _)⟩⟩, ⟨cx_keep KBX.out HX.out HOB.out⟩⟩
                  · have e1 : decide ((i : Int) < (x1.slots.length : Int)) = false := decide_eq_false (by omega)
                    have e2 : decide (i < x1.slots.length) = false := decide_eq_false hlt
                    have HXL := Aside0.mk hxl
                    clear hxl hik hlt
                    have c1 := (cx_cells KBX.out).1
                    have c2 := (cx_cells KBX.out).2
                    go_wp2_with fail
                    obtain ⟨Pv, Pw, ht⟩ := HT.out
                    have T0 := Aside0.mk ht
                    clear ht HX HT KBX
                    refine (outs_full T0.out.mv HR1.out).mono ?_
                    rintro e W10 ⟨⟨ov1, rfl, hi, ho⟩, hb⟩
                    obtain ⟨A3, q3, rfl, _⟩ := hi.slice
                    obtain ⟨os, hos⟩ : ∃ o, out16 x1 = o := ⟨_, rfl⟩
                    rw [hos] at hi ho ⊢
                    have HI3 := Aside0.mk hi
                    have HT0 : Aside0 (∃ Pv Pw : Nat → Prop, Two w W10 c l0 bv bw x1 x1 Pv Pw (fun k => (Value.slice A3 os.length q3).ownBlock = some k)) := ⟨⟨_, _, (T0.out.more hb).free (F' := (fun k => (Value.slice A3 os.length q3).ownBlock = some k)) (fun k hk => .inr ⟨ho k hk, hi.lt hk⟩)⟩⟩
                    have HLO : Aside0 (os.length < 1000) := ⟨by have := HR1.out.lens; rw [← hos]; unfold out16; split <;> simp; omega⟩
                    clear hi ho hb hos T0
                    go_wp2_with fail
                    have HBD : Aside0 (os.length < 1000) := ⟨by exact HLO.out⟩
                    go_loopg [23] (os.length) (fun kq v23 wr => ∃ (i : Nat) (xs : List Int), v23 = .int .i64 (i : Int) ∧ kq + i = os.length ∧ xs.length = os.length ∧ Aside0 (IR wr (.slice A3 os.length q3) xs) ∧ Aside0 (∃ Pv Pw : Nat → Prop, Two w wr c l0 bv bw x1 x1 Pv Pw (fun k => (Value.slice A3 os.length q3).ownBlock = some k)))
                    case atStart => exact ⟨0, _, rfl, by omega, rfl, HI3, HT0⟩
                    case round =>
                      obtain ⟨i, xs, rfl, hik, hxl, HX, HT⟩ := hrel
                      by_cases hlt : i < os.length
                      · obtain ⟨go, rfl⟩ : ∃ go, gk = go + 1 := ⟨gk - 1, by omega⟩
                        obtain ⟨g2, cap2, hsl, hle, hob, hcell, hfr, hg⟩ := HX.out.cell (i := i) (by omega)
                        rw [hxl] at hsl
                        simp only [Value.slice.injEq] at hsl
                        obtain ⟨rfl, _, rfl⟩ := hsl
                        obtain ⟨y, hy⟩ : ∃ y, xs.getD i 0 = y := ⟨_, rfl⟩
                        rw [hy] at hcell
                        have e1 : decide ((i : Int) < (os.length : Int)) = true := decide_eq_true (by omega)
                        have e2 : decide (i < os.length) = true := decide_eq_true hlt
                        have hbd : i < 1000 := by have := HBD.out; omega
                        have HOB := Aside0.mk hob
                        have HXL := Aside0.mk hxl
                        clear hy hob hxl hg hle
                        go_wp2_with fail
                        go_roundg go
                        case measure => omega
                        case rel =>
                          obtain ⟨Pv, Pw, ht⟩ := HT.out
                          exact ⟨i + 1, xs.set i _, by go_num, by omega, by rw [List.length_set]; exact HXL.out, ⟨HX.out.set HOB.out (by rw [HXL.out]; omega) _⟩, ⟨⟨Pv, Pw, ht.put (g := g2) (by simp [Value.ownBlock]) (kept_cell _ _ _ _)⟩⟩⟩
                      · have e1 : decide ((i : Int) < (os.length : Int)) = false := decide_eq_false (by omega)
                        have e2 : decide (i < os.length) = false := decide_eq_false hlt
                        have HXL := Aside0.mk hxl
                        clear hxl hik hlt
                        go_wp2_with fail
                        obtain ⟨Pv, Pw, ht⟩ := HT.out
                        have T0 := Aside0.mk (ht.free (F' := fun _ => False) (fun _ h => h.elim))
                        clear ht HX HT
                        refine (run_full T0.out.mv (fun k hk => (T0.out.lv k hk).2) HR1.out 1099511627776).mono ?_
                        rintro e W11 ⟨rfl, hv, hk⟩
                        have HR2 : Aside0 (Rn l0 c (to18 l0 1099511627776 x1) ∧ (to18 l0 1099511627776 x1).ended = true) := ⟨HR1.out.to18 _, to18_ended HR1.out⟩
                        obtain ⟨r2, hr2⟩ : ∃ r, res18 l0 1099511627776 x1 = r := ⟨_, rfl⟩
                        obtain ⟨x2, hx2⟩ : ∃ x, to18 l0 1099511627776 x1 = x := ⟨_, rfl⟩
                        rw [hx2] at hv HR2
                        rw [hr2]
                        have HX2 := Aside0.mk (And.intro hr2 hx2)
                        clear hr2 hx2
                        have T1 := Aside0.mk (T0.out.run1 hv hk)
                        clear hv hk T0
                        go_wp2_with fail
                        refine (run_full T1.out.mw (fun k hk => (T1.out.lw k hk).2) HR1.out 1099511627776).mono ?_
                        rintro e W12 ⟨rfl, hv, hk⟩
                        rw [HX2.out.2] at hv
                        rw [HX2.out.1]
                        have T2 := Aside0.mk (T1.out.run2 hv hk)
                        clear hv hk T1
                        go_wp2_with fail
                        refine (outs_full T2.out.mv HR2.out.1).mono ?_
                        rintro e W13 ⟨⟨oa, rfl, hi, _⟩, hb⟩
                        rw [HR2.out.2]
                        have I13 := Aside0.mk hi
                        have T3 := Aside0.mk (T2.out.below hb)
                        clear hi hb T2
                        go_wp2_with fail
                        refine (outs_full T3.out.mw HR2.out.1).mono ?_
                        rintro e W14 ⟨⟨ob, rfl, hi, _⟩, hb⟩
                        rw [HR2.out.2]
                        have I14 := Aside0.mk (And.intro (I13.out.below hb) hi)
                        have T4 := Aside0.mk (T3.out.below hb)
                        clear hi hb T3 I13
                        go_wp2_with fail
                        have L14 : Aside0 ((out16 x2).length ≤ 1000000) := ⟨by have := HR2.out.1.lens; unfold out16; split <;> simp; omega⟩
                        refine (equal_same I14.out.1 I14.out.2 L14.out).mono ?_
                        rintro e W15 ⟨rfl, hb⟩
                        have T5 := Aside0.mk (T4.out.below hb)
                        clear hb T4 I14
                        go_wp2_with fail
                        refine (spent_calls T5.out.mv).mono ?_
                        rintro e W16 ⟨rfl, hb⟩
                        have T6 := Aside0.mk (T5.out.below hb)
                        clear hb T5
                        go_wp2_with fail
                        refine (spent_calls T6.out.mw).mono ?_
                        rintro e W17 ⟨rfl, hb⟩
                        have T7 := Aside0.mk (T6.out.below hb)
                        clear hb T6
                        go_wp2_with fail
                        refine (works_calls _).mono ?_
                        rintro e W18 ⟨rfl, hb⟩
                        have B18 := Aside0.mk (T7.out.bel.trans (hb.mono T7.out.bel.size))
                        clear hb T7
                        go_wp2
                        go_ret
                        exact ⟨rfl, B18.out⟩
theorem carillonlaw22_VmOwn.calls (A0 : Option Addr) (c0 : Nat) (l0 : List S53) (a1_0 a1_1 a1_2 a1_3 : Int) (A2 : Option Addr) (c2 : Nat) (l2 : List Int) (a3 : Int) (r : Bool) (w : World) (hr0 : Kd.C k53 w A0 l0.length l0) (hc0 : l0.length ≤ c0) (hr2 : Kd.C (Kd.int .i64) w A2 l2.length l2) (hc2 : l2.length ≤ c2) (h : carillonlaw22_VmOwn.f l0 a1_0 a1_1 a1_2 a1_3 l2 a3 = some r) :
    Calls Try.prog 5 #[.slice A0 l0.length c0, .agg #[.int .i64 a1_0, .int .i64 a1_1, .int .i64 a1_2, .int .i64 a1_3], .slice A2 l2.length c2, .int .u8 a3] w fun e w' => e = .returned (.bool r) ∧ Below w.heap.size w w' := by
  unfold carillonlaw22_VmOwn.f at h
  split at h
  · rename_i h3
    obtain rfl : true = r := Option.some.inj h
    by_cases h1 : l0.length ≤ 200 ∧ l2.length ≤ 100
    · exact own_small hr0 hc0 hr2 hc2 h1.1 h1.2 h3.1 h3.2
    · exact own_big (by omega)
  · cases h
end Go.Proofs.Ytlmpoojpbdmmfaa.H
