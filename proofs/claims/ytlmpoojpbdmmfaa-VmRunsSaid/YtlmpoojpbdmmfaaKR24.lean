/- Part 24 of the proof of the law R. The conditions: none. (Its parts: SvmRuns Open Fits PureVmRuns.) -/
import Derived.SizedLaws
import Derived.ChangeArms
import Derived.DataReads
import Derived.KernelRfl
import Derived.Test.YtlmpoojpbdmmfaaKR01
import Derived.Test.YtlmpoojpbdmmfaaKR02
import Derived.Test.YtlmpoojpbdmmfaaKR12
import Derived.Test.YtlmpoojpbdmmfaaKR20
import Derived.Test.YtlmpoojpbdmmfaaKR23
section
set_option linter.unusedVariables false
set_option linter.unusedSimpArgs false
namespace Go.Proofs.Ytlmpoojpbdmmfaa.H
open Go.RowKit Go.Proofs.YtlmpoojpbdmmfaaW.PrintWords Go.Proofs.YtlmpoojpbdmmfaaW.PrintLast Go.Proofs.YtlmpoojpbdmmfaaW.PrintMore Go.Maps
structure VR (w wr : World) (c : Cf) (l : List S53) (bv br : Nat) (xv xr : Ctx) (cv : Value) (Pv Pr : Nat → Prop) : Prop where
  mv : VMem wr Pv bv c l xv
  mr : RMem wr Pr br c xr cv
  ap : ∀ k, Pv k → ¬ Pr k
  lv : ∀ k, Pv k → w.heap.size ≤ k ∧ k < wr.heap.size
  lr : ∀ k, Pr k → w.heap.size ≤ k ∧ k < wr.heap.size
  bel : Below w.heap.size w wr
section
variable {w wr W' : World} {c : Cf} {l : List S53} {bv br : Nat} {xv xr x' : Ctx} {cv : Value} {Pv Pr : Nat → Prop}
theorem VR.run1 (h : VR w wr c l bv br xv xr cv Pv Pr) (hv : VMem W' (Zn Pv wr W') bv c l x') (hk : Kept2 wr W' Pv) : VR w W' c l bv br x' xr cv (Zn Pv wr W') Pr := by
  have hs := hk.size
  have hs2 := h.bel.size
  refine ⟨hv, h.mr.other hk (fun k h1 _ h2 => h.ap k h2 h1), fun k h1 h2 => ?_, fun k h1 => ?_, fun k h1 => ?_, hk.below h.bel (fun k hk => (h.lv k hk).1)⟩
  · have := h.lr k h2
    rcases h1 with h1 | h1
    · exact h.ap k h1 h2
    · omega
  · rcases h1 with h1 | h1
    · have := h.lv k h1; omega
    · omega
  · have := h.lr k h1; omega
theorem VR.run2 (h : VR w wr c l bv br xv xr cv Pv Pr) (hr : RMem W' (Zn Pr wr W') br c x' cv) (hk : Kept2 wr W' Pr) : VR w W' c l bv br xv x' cv Pv (Zn Pr wr W') := by
  have hs := hk.size
  have hs2 := h.bel.size
  refine ⟨h.mv.other hk (fun k h1 _ h2 => h.ap k h1 h2), hr, fun k h1 h2 => ?_, fun k h1 => ?_, fun k h1 => ?_, hk.below h.bel (fun k hk => (h.lr k hk).1)⟩
  · have := h.lv k h1
    rcases h2 with h2 | h2
    · exact h.ap k h1 h2
    · omega
  · have := h.lv k h1; omega
  · rcases h1 with h1 | h1
    · have := h.lr k h1; omega
    · omega
theorem VR.below (h : VR w wr c l bv br xv xr cv Pv Pr) (hb : Below wr.heap.size wr W') : VR w W' c l bv br xv xr cv Pv Pr := by
  have hs := hb.size
  exact ⟨h.mv.below hb, h.mr.below hb, h.ap, fun k hk => by have := h.lv k hk; omega, fun k hk => by have := h.lr k hk; omega, h.bel.trans (hb.mono h.bel.size)⟩
theorem VR.code (h : VR w wr c l bv br xv xr cv Pv Pr) {A : Option Addr} (hC : Kd.C k53 w A l.length l) (W' : World) (hk : Kept2 wr W' Pr) : Kd.C k53 W' A l.length l := Kd.C_below hC (hk.below h.bel (fun k hk => (h.lr k hk).1))
end
theorem rng_ctx0 {c : Cf} {ins : List Int} (h : ∀ v ∈ ins, is64 v) : Rng (ctx0 c ins) :=
  ⟨fun v hv => (by cases hv), fun v hv => (by rw [List.eq_of_mem_replicate hv]; exact is64_zero), h, fun v hv => (by rw [List.eq_of_mem_replicate hv]; exact is64_zero)⟩
theorem run_load37r {w : World} {g : Nat} {c : Cf} {x : Ctx} {cv sv tv iv ov : Value} (h : w.heap[g]? = some (.cells (rmA c x cv sv tv iv ov) 42 (0, 0))) : (Instr.loadAt 37 (.pointer (some ⟨g, 5, none⟩))).run Try.prog w = .ok (.agg (cxA x sv tv iv ov)) w := by
  obtain ⟨fs, hu⟩ := under37
  have := run_loadAt_mid (P := Try.prog) w g 5 37 [.int .i64 (x.at_ : Int), sv, tv, iv, ov, .int .i64 x.spent, .bool x.ended] (.struct fs) (fun j v hv => by
    rcases j with _ | _ | _ | _ | _ | _ | _ | j
    all_goals first | (cases hv; simp [World.cell?, h, rmA]; done) | (simp at hv; done)) hu rfl (by kernel_rfl)
  exact this
theorem run_load37c {w : World} {g : Nat} {x : Ctx} {sv tv iv ov : Value} (h : w.heap[g]? = some (.cells (cxA x sv tv iv ov) 37 (0, 0))) : (Instr.loadAt 37 (.pointer (some ⟨g, 0, none⟩))).run Try.prog w = .ok (.agg (cxA x sv tv iv ov)) w := by
  obtain ⟨fs, hu⟩ := under37
  have := run_loadAt_mid (P := Try.prog) w g 0 37 [.int .i64 (x.at_ : Int), sv, tv, iv, ov, .int .i64 x.spent, .bool x.ended] (.struct fs) (fun j v hv => by
    rcases j with _ | _ | _ | _ | _ | _ | _ | j
    all_goals first | (cases hv; simp [World.cell?, h, cxA]; done) | (simp at hv; done)) hu rfl (by kernel_rfl)
  exact this
set_option maxHeartbeats 4000000 in
set_option maxRecDepth 100000 in
theorem runs_big {A0 : Option Addr} {c0 : Nat} {l0 : List S53} {a1_0 a1_1 a1_2 a1_3 : Int} {A2 : Option Addr} {c2 : Nat} {l2 : List Int} {A3 : Option Addr} {c3 : Nat} {l3 : List Int} {w : World} (h : 200 < l0.length ∨ 100 < l2.length ∨ 100 < l3.length) :
    Calls Try.prog 3 #[.slice A0 l0.length c0, .agg #[.int .i64 a1_0, .int .i64 a1_1, .int .i64 a1_2, .int .i64 a1_3], .slice A2 l2.length c2, .slice A3 l3.length c3] w fun e w' => e = .returned (.bool true) ∧ Below w.heap.size w w' := by
  by_cases h1 : 200 < l0.length
  · have d1 : decide ((200 : Int) < (l0.length : Int)) = true := decide_eq_true (by omega)
    clear h h1
    go_enter Try.func3, Try.ntmps3
    go_wp2_with fail
    refine (works_calls _).mono ?_
    rintro e W' ⟨rfl, hb⟩
    have B := Aside0.mk (((Below.refl w.heap.size w).alloc (Nat.le_refl _) _).trans (hb.mono (by simp)))
    clear hb
    go_wp2
    go_ret
    exact ⟨rfl, B.out⟩
  have d1 : decide ((200 : Int) < (l0.length : Int)) = false := decide_eq_false (by omega)
  by_cases h2 : 100 < l2.length
  · have d2 : decide ((100 : Int) < (l2.length : Int)) = true := decide_eq_true (by omega)
    clear h h1 h2
    go_enter Try.func3, Try.ntmps3
    go_wp2_with fail
    refine (works_calls _).mono ?_
    rintro e W' ⟨rfl, hb⟩
    have B := Aside0.mk (((Below.refl w.heap.size w).alloc (Nat.le_refl _) _).trans (hb.mono (by simp)))
    clear hb
    go_wp2
    go_ret
    exact ⟨rfl, B.out⟩
  have d2 : decide ((100 : Int) < (l2.length : Int)) = false := decide_eq_false (by omega)
  have d3 : decide ((100 : Int) < (l3.length : Int)) = true := decide_eq_true (by omega)
  clear h h1 h2
  go_enter Try.func3, Try.ntmps3
  go_wp2_with fail
  refine (works_calls _).mono ?_
  rintro e W' ⟨rfl, hb⟩
  have B := Aside0.mk (((Below.refl w.heap.size w).alloc (Nat.le_refl _) _).trans (hb.mono (by simp)))
  clear hb
  go_wp2
  go_ret
  exact ⟨rfl, B.out⟩
set_option maxHeartbeats 16000000 in
set_option maxRecDepth 100000 in
theorem runs_small {A0 : Option Addr} {c0 : Nat} {l0 : List S53} {a1_0 a1_1 a1_2 a1_3 : Int} {A2 : Option Addr} {c2 : Nat} {l2 : List Int} {A3 : Option Addr} {c3 : Nat} {l3 : List Int} {w : World} (hr0 : Kd.C k53 w A0 l0.length l0) (hc0 : l0.length ≤ c0) (hr2 : Kd.C (Kd.int .i64) w A2 l2.length l2) (hc2 : l2.length ≤ c2) (hr3 : Kd.C (Kd.int .i64) w A3 l3.length l3) (hc3 : l3.length ≤ c3) (h1 : l0.length ≤ 200) (h2 : l2.length ≤ 100) (h3 : l3.length ≤ 100) (g0 : ∀ i ∈ l0, is64 i.f1) (g2 : ∀ v ∈ l2, is64 v) :
    Calls Try.prog 3 #[.slice A0 l0.length c0, .agg #[.int .i64 a1_0, .int .i64 a1_1, .int .i64 a1_2, .int .i64 a1_3], .slice A2 l2.length c2, .slice A3 l3.length c3] w fun e w' => e = .returned (.bool true) ∧ Below w.heap.size w w' := by
  have HC := Aside0.mk (And.intro hr0 (And.intro hc0 h1))
  have HI := Aside0.mk (And.intro hr2 (And.intro hc2 h2))
  have HB := Aside0.mk (And.intro hr3 (And.intro hc3 h3))
  have HG := Aside0.mk (And.intro g0 g2)
  have d1 : decide ((200 : Int) < (l0.length : Int)) = false := decide_eq_false (by omega)
  have d2 : decide ((100 : Int) < (l2.length : Int)) = false := decide_eq_false (by omega)
  have d3 : decide ((100 : Int) < (l3.length : Int)) = false := decide_eq_false (by omega)
  have X := Aside0.mk (heap_alloc_new w (.cells #[.int .i64 a1_0, .int .i64 a1_1, .int .i64 a1_2, .int .i64 a1_3] (24 : Nat)))
  have B := Aside0.mk ((Below.refl w.heap.size w).alloc (Nat.le_refl _) (.cells #[.int .i64 a1_0, .int .i64 a1_1, .int .i64 a1_2, .int .i64 a1_3] (24 : Nat)))
  have Z : Aside0 (w.heap.size < (w.alloc (.cells #[.int .i64 a1_0, .int .i64 a1_1, .int .i64 a1_2, .int .i64 a1_3] (24 : Nat))).heap.size) := ⟨by simp⟩
  have hu24 := Try.underlying24
  have hz37 := zero37
  clear hr0 hc0 hr2 hc2 hr3 hc3 h1 h2 h3 g0 g2
  go_enter Try.func3, Try.ntmps3
  go_wp2_with fail
  generalize w.alloc (.cells #[.int .i64 a1_0, .int .i64 a1_1, .int .i64 a1_2, .int .i64 a1_3] (24 : Nat)) = W1 at X B Z ⊢
  have B3 : Aside0 (Below w.heap.size w W1.drew) := ⟨below_drew1 B.out⟩
  have D3 : Aside0 (Below W1.heap.size W1 W1.drew) := ⟨below_drew1 (Below.refl _ _)⟩
  have Z3 : Aside0 (w.heap.size < W1.drew.heap.size) := ⟨Z.out⟩
  refine start_ (n := 11) (S := fun w' => w'.heap[w.heap.size]? = some (.cells #[.int .i64 a1_0, .int .i64 a1_1, .int .i64 a1_2, .int .i64 a1_3] (24 : Nat) (0, 0))) (ds := [5]) #[false, false, false, false, false, false, false, false, false, false, false] (by kernel_rfl) rfl rfl X.out (fun hHeld => ?_)
  generalize W1.drew = Wq at B3 D3 Z3 hHeld ⊢
  refine pure_ (i := 0) (N := some 45) (v := ?_) (a' := ?_) #[true, false, false, false, false, false, false, false, false, false, false] rfl rfl (by kernel_rfl) (fun _ _ _ h => h) (Or.inl ⟨by rfl, ?_⟩) ?_ ?_
  rotate_left
  · intro w'
    go_simp
    with_reducible rfl
  rotate_left
  · simp only [Act.put, List.setIfInBounds_toArray, List.set_cons_zero, List.set_cons_succ, i64_w, i32_w]
    rfl
  refine take_ (i := 2) (N := some 47) (v := ?_) (a' := ?_) #[true, false, true, false, false, false, false, false, false, false, false] rfl rfl (by kernel_rfl) (fun _ _ _ h => h) (Or.inl ⟨by rfl, ?_⟩) hHeld ?_ ?_
  rotate_left
  · intro w' hx
    show (do let r ← Instr.loadAt 24 (.pointer (some ⟨w.heap.size, 0, none⟩)); pure (Next.value r) : Sem Next).run Try.prog w' = _
    rw [Sem.run_bind, cf_load hx]
    rfl
  rotate_left
  · simp only [Act.put, List.setIfInBounds_toArray, List.set_cons_zero, List.set_cons_succ, i64_w, i32_w]
    rfl
  refine pure_ (i := 3) (N := some 48) (v := ?_) (a' := ?_) #[true, false, true, true, false, false, false, false, false, false, false] rfl rfl (by kernel_rfl) (fun _ _ _ h => h) (Or.inl ⟨by rfl, ?_⟩) ?_ ?_
  rotate_left
  · intro w'
    go_simp
    with_reducible rfl
  rotate_left
  · simp only [Act.put, List.setIfInBounds_toArray, List.set_cons_zero, List.set_cons_succ, i64_w, i32_w]
    rfl
  refine one_ (i := 1) (N := some 46) #[true, true, true, true, false, false, false, false, false, false, false] rfl rfl (by kernel_rfl) (by decide) (fun K hK => ?_)
  refine goes_ Try.func10 (by kernel_rfl) rfl #[.slice A0 l0.length c0] (by rfl) rfl rfl (by simp only [List.map_toArray, List.map_cons, List.map_nil]; rfl) ?_
  refine (copied_made (Kd.C_below HC.out.1 B3.out) HC.out.2.1 HC.out.2.2).mono ?_
  rintro e w4 ⟨v, rfl, hv, hb⟩
  refine ⟨v, rfl, hK.out _ _ ((hb.block _ Z3.out).trans hHeld) (fun _ => ?_)⟩
  clear hK K
  refine one_ (i := 4) (N := some 49) #[true, true, true, true, true, false, false, false, false, false, false] rfl rfl (by kernel_rfl) (by decide) (fun K hK => ?_)
  refine goes_ Try.func11 (by kernel_rfl) rfl #[.slice A2 l2.length c2] (by rfl) rfl rfl (by simp only [List.map_toArray, List.map_cons, List.map_nil]; rfl) ?_
  refine (numbers_made (Kd.C_below HI.out.1 (B3.out.trans (hb.mono (Nat.le_of_lt Z3.out)))) HI.out.2.1 HI.out.2.2).mono ?_
  rintro e w' ⟨v', rfl, hv', hb'⟩
  have XR : Aside0 (w'.heap[w.heap.size]? = some (.cells #[.int .i64 a1_0, .int .i64 a1_1, .int .i64 a1_2, .int .i64 a1_3] (24 : Nat) (0, 0))) := ⟨(hb'.block _ (Nat.lt_of_lt_of_le Z3.out hb.size)).trans ((hb.block _ Z3.out).trans hHeld)⟩
  have HV := Aside0.mk (R53_rd (Kd.R_below hv hb'))
  have HV' := Aside0.mk hv'.1
  have BR := Aside0.mk (hb.trans (hb'.mono hb.size))
  refine ⟨v', rfl, hK.out _ _ XR.out (fun _ => ?_)⟩
  clear hK K hv hv' hb hb' hHeld
  refine norm_ (a' := ?_) ?_ ?_
  rotate_left
  · simp only [Act.put, List.setIfInBounds_toArray, List.set_cons_zero, List.set_cons_succ]
    rfl
  refine last_ (i := 5) (N := some 50) #[true, true, true, true, true, true, false, false, false, false, false] rfl rfl (by kernel_rfl) (by decide) (fun K hK => ?_)
  refine goes_ Try.func9 (by kernel_rfl) rfl #[v, .agg #[.int .i64 a1_0, .int .i64 a1_1, .int .i64 a1_2, .int .i64 a1_3], v'] (by rfl) rfl rfl (by simp only [List.map_toArray, List.map_cons, List.map_nil]; rfl) ?_
  refine (new_any (c := ⟨a1_0, a1_1, a1_2, a1_3⟩) HV.out HV'.out).mono ?_
  rintro e W2 ⟨pv, rfl, hN, hb⟩
  have NW2 : Aside0 (∃ Wn : World, W1.heap.size ≤ Wn.heap.size ∧ NewIs Wn W2 pv l0 ⟨a1_0, a1_1, a1_2, a1_3⟩ l2) := ⟨_, Nat.le_trans D3.out.size BR.out.size, hN⟩
  have DW2 : Aside0 (Below W1.heap.size W1 W2) := ⟨D3.out.trans ((BR.out.trans (hb.mono BR.out.size)).mono D3.out.size)⟩
  have BW2 : Aside0 (Below w.heap.size w W2) := ⟨B.out.trans (DW2.out.mono B.out.size)⟩
  have XW2 : Aside0 (W2.heap[w.heap.size]? = some (.cells #[.int .i64 a1_0, .int .i64 a1_1, .int .i64 a1_2, .int .i64 a1_3] (24 : Nat) (0, 0))) := ⟨(DW2.out.block _ Z.out).trans X.out⟩
  have ZW2 : Aside0 (w.heap.size < W2.heap.size) := ⟨Nat.lt_of_lt_of_le Z.out DW2.out.size⟩
  obtain ⟨ne, hne⟩ : ∃ ne, newE l0 ⟨a1_0, a1_1, a1_2, a1_3⟩ l2.length = ne := ⟨_, rfl⟩
  rw [hne]
  have NEW2 := Aside0.mk hne
  clear hne hN hb HV HV' XR BR B3 D3 Z3
  refine ⟨_, rfl, hK.out _ _ ?_⟩
  clear hK K
  refine pure_ (i := 6) (N := some 44) (v := ?_) (a' := ?_) #[true, true, true, true, true, true, true, false, false, false, false] rfl rfl (by kernel_rfl) (fun _ _ _ h => h) (Or.inl ⟨by rfl, ?_⟩) ?_ ?_
  rotate_left
  · intro w'
    go_simp
    with_reducible rfl
  rotate_left
  · simp only [Act.put, List.setIfInBounds_toArray, List.set_cons_zero, List.set_cons_succ, i64_w, i32_w]
    rfl
  refine pure_ (i := 7) (N := some 51) (v := ?_) (a' := ?_) #[true, true, true, true, true, true, true, true, false, false, false] rfl rfl (by kernel_rfl) (fun _ _ _ h => h) (Or.inl ⟨by rfl, ?_⟩) ?_ ?_
  rotate_left
  · intro w'
    go_simp
    with_reducible rfl
  rotate_left
  · simp only [Act.put, List.setIfInBounds_toArray, List.set_cons_zero, List.set_cons_succ, i64_w, i32_w]
    rfl
  refine pure_ (i := 8) (N := some 52) (v := ?_) (a' := ?_) #[true, true, true, true, true, true, true, true, true, false, false] rfl rfl (by kernel_rfl) (fun _ _ _ h => h) (Or.inl ⟨by rfl, ?_⟩) ?_ ?_
  rotate_left
  · intro w'
    go_simp
    with_reducible rfl
  rotate_left
  · simp only [Act.put, List.setIfInBounds_toArray, List.set_cons_zero, List.set_cons_succ, i64_w, i32_w]
    rfl
  refine pure_ (i := 9) (N := some 9) (v := ?_) (a' := ?_) #[true, true, true, true, true, true, true, true, true, true, false] rfl rfl (by kernel_rfl) (fun _ _ _ h => h) (Or.inl ⟨by rfl, ?_⟩) ?_ ?_
  rotate_left
  · intro w'
    go_simp
    with_reducible rfl
  rotate_left
  · simp only [Act.put, List.setIfInBounds_toArray, List.set_cons_zero, List.set_cons_succ, i64_w, i32_w]
    rfl
  refine pure_ (i := 10) (N := some 10) (v := ?_) (a' := ?_) #[true, true, true, true, true, true, true, true, true, true, true] rfl rfl (by kernel_rfl) (fun _ _ _ h => h) (Or.inl ⟨by rfl, ?_⟩) ?_ ?_
  rotate_left
  · intro w'
    go_simp
    with_reducible rfl
  rotate_left
  · simp only [Act.put, List.setIfInBounds_toArray, List.set_cons_zero, List.set_cons_succ, i64_w, i32_w]
    rfl
  refine done_ (by kernel_rfl) ?_
  go_wp2_with ((with_reducible refine gate_ (.load 24 (.tmp 5)) rfl ?_); refine wpList_cfload rfl (.tmp 5) rfl rfl XW2.out ?_)
  refine (rnew_calls (c := ⟨a1_0, a1_1, a1_2, a1_3⟩) (Kd.C_below HC.out.1 BW2.out) HC.out.2.1 (RdI.of_C (Kd.C_below HI.out.1 BW2.out)) (by have := HI.out.2.2; omega)).mono ?_
  rintro e W3 ⟨pr, rfl, hN, hb⟩
  have NR := Aside0.mk hN
  rw [NEW2.out]
  have BR := Aside0.mk hb
  have B3 := Aside0.mk (BW2.out.trans (hb.mono BW2.out.size))
  have W1S : Aside0 (w.heap.size ≤ W1.heap.size) := ⟨B.out.size⟩
  clear hN hb XW2 ZW2 X Z B
  by_cases he : ne = 0
  case neg =>
    obtain ⟨_, _, hnn, _⟩ := NW2.out
    obtain rfl := hnn (by rw [NEW2.out]; exact he)
    obtain rfl := NR.out.1 (by rw [NEW2.out]; exact he)
    clear hnn he
    go_wp2_with fail
    refine (works_calls _).mono ?_
    rintro e W6 ⟨rfl, hb⟩
    have B6 := Aside0.mk (B3.out.trans (hb.mono B3.out.size))
    clear hb
    go_wp2
    go_ret
    exact ⟨rfl, B6.out⟩
  case pos =>
    subst he
    obtain ⟨Wn, hWn, _, hnn⟩ := NW2.out
    obtain ⟨bv, rfl, hvm, hrn⟩ := hnn NEW2.out
    obtain ⟨br, rfl, hrm⟩ := NR.out.2 NEW2.out
    have HV := Aside0.mk hvm
    have HR := Aside0.mk hrm
    have HRN := Aside0.mk hrn
    have VR0 : Aside0 (∃ Pv Pr : Nat → Prop, VR w W3 ⟨a1_0, a1_1, a1_2, a1_3⟩ l0 bv br (ctx0 ⟨a1_0, a1_1, a1_2, a1_3⟩ l2) (ctx0 ⟨a1_0, a1_1, a1_2, a1_3⟩ l2) (.slice A0 l0.length c0) Pv Pr) := ⟨_, _, hvm.below BR.out, hrm, fun k h1 h2 => (by omega), fun k h1 => (by have := W1S.out; have := BR.out.size; omega), fun k h1 => (by have := BW2.out.size; omega), B3.out⟩
    have RG := Aside0.mk (rng_ctx0 (c := ⟨a1_0, a1_1, a1_2, a1_3⟩) HG.out.2)
    clear hnn hvm hrm hrn NW2 NR HV HR
    generalize ctx0 ⟨a1_0, a1_1, a1_2, a1_3⟩ l2 = x0 at VR0 RG HRN ⊢
    obtain ⟨c, hc⟩ : ∃ c : Cf, (⟨a1_0, a1_1, a1_2, a1_3⟩ : Cf) = c := ⟨_, rfl⟩
    rw [hc] at VR0 HRN
    clear hc
    go_wp2_with fail
    go_loopg [13] (l3.length + l0.length + 1) (fun kq v13 wr => ∃ (i : Nat) (x : Ctx), v13 = .int .i64 (i : Int) ∧ kq + i = l3.length + l0.length + 1 ∧ Aside0 (∃ Pv Pr : Nat → Prop, VR w wr c l0 bv br x x (.slice A0 l0.length c0) Pv Pr) ∧ Aside0 (Rn l0 c x ∧ Rng x))
    case atStart =>
      exact ⟨0, x0, rfl, by omega, VR0, ⟨HRN.out, RG.out⟩⟩
    case round =>
      obtain ⟨i, x, rfl, hki, VR1, RN1⟩ := hrel
      have hl0 := HC.out.2.2
      have hl3 := HB.out.2.2
      by_cases hi : i ≤ l3.length + l0.length
      · have dl : decide ((i : Int) ≤ (l3.length : Int) + (l0.length : Int)) = true := decide_eq_true (by omega)
        obtain ⟨go, rfl⟩ : ∃ go, gk = go + 1 := ⟨gk - 1, by omega⟩
        obtain ⟨Pv, Pr, vr⟩ := VR1.out
        have VR2 := Aside0.mk vr
        clear vr VR1
        go_wp2_with fail
        refine (save_full VR2.out.mv RN1.out.1).mono ?_
        rintro e W8 ⟨⟨sv, tv, jv, ov, rfl, hc⟩, hb⟩
        have HC8 := Aside0.mk (hc.move (W1 := (W8.alloc (.cells cx0 (37 : Nat))).setRow W8.heap.size (cxA x sv tv jv ov)) (fun k _ hk => (setRow_other _ _ _ _ (by omega)).trans (heap_alloc_old _ _ hk)))
        have hall := cx_all hc
        have XB := Aside0.mk (setRow_heap (W8.alloc (.cells cx0 (37 : Nat))) W8.heap.size cx0 (cxA x sv tv jv ov) (37 : Nat) (0, 0) (heap_alloc_new W8 (.cells cx0 (37 : Nat))))
        have VR3 : Aside0 (VR w ((W8.alloc (.cells cx0 (37 : Nat))).setRow W8.heap.size (cxA x sv tv jv ov)) c l0 bv br x x (.slice A0 l0.length c0) Pv Pr) := ⟨by
          have h1 := VR2.out.below hb
          refine h1.below (((Below.refl W8.heap.size W8).alloc (Nat.le_refl _) (.cells cx0 (37 : Nat))).trans ?_)
          exact ⟨rfl, rfl, rfl, by simp, fun k hk => setRow_other _ _ _ _ (by omega)⟩⟩
        clear hb VR2
        go_wp2_with ((with_reducible refine gate_store (t := 37) (p := 14) rfl ?_); refine wpList_cxstore (cs' := cxA x sv tv jv ov) rfl (.tmp 14) (.tmp 89) rfl rfl rfl (heap_alloc_new W8 (.cells cx0 (37 : Nat))) rfl rfl hall ?_)
        clear hall
        generalize (W8.alloc (.cells cx0 (37 : Nat))).setRow W8.heap.size (cxA x sv tv jv ov) = W9 at HC8 XB VR3 ⊢
        generalize W8.heap.size = bx at XB HC8 ⊢
        obtain ⟨sv2, tv2, iv2, ov2, hra⟩ := VR3.out.mr
        have RA3 := Aside0.mk hra
        have HN := RN1.out.1.lens
        have HLN := Aside0.mk HN
        clear hra HN
        have VR4 : Aside0 (VR w W9.drew c l0 bv br x x (.slice A0 l0.length c0) Pv Pr) := ⟨VR3.out.below (below_drew1 (Below.refl _ _))⟩
        have HC9 := Aside0.mk (HC8.out.move (W1 := W9.drew) (fun k _ _ => rfl))
        have RA4 := Aside0.mk (RA3.out.move (W1 := W9.drew) (fun k _ _ => rfl))
        refine start_ (n := 21) (S := fun w' => w'.heap[bx]? = some (.cells (cxA x sv tv jv ov) 37 (0, 0)) ∧ w'.heap[br]? = some (.cells (rmA c x (.slice A0 l0.length c0) sv2 tv2 iv2 ov2) 42 (0, 0))) (ds := []) #[false, false, false, false, false, false, false, false, false, false, false, false, false, false, false, false, false, false, false, false, false] (by kernel_rfl) rfl rfl ⟨XB.out, RA3.out.vb⟩ (fun hHeld => ?_)
        generalize W9.drew = W10 at VR4 HC9 RA4 hHeld ⊢
        clear XB VR3 HC8 RA3
        refine pure_ (i := 0) (N := some 91) (v := ?_) (a' := ?_) #[true, false, false, false, false, false, false, false, false, false, false, false, false, false, false, false, false, false, false, false, false] rfl rfl (by kernel_rfl) (fun _ _ _ h => h) (Or.inl ⟨by rfl, ?_⟩) ?_ ?_
        rotate_left
        · intro w'
          go_simp
          with_reducible rfl
        rotate_left
        · simp only [Act.put, List.setIfInBounds_toArray, List.set_cons_zero, List.set_cons_succ, i64_w, i32_w]
          rfl
        refine pure_ (i := 1) (N := some 92) (v := ?_) (a' := ?_) #[true, true, false, false, false, false, false, false, false, false, false, false, false, false, false, false, false, false, false, false, false] rfl rfl (by kernel_rfl) (fun _ _ _ h => h) (Or.inl ⟨by rfl, ?_⟩) ?_ ?_
        rotate_left
        · intro w'
          go_simp
          with_reducible rfl
        rotate_left
        · simp only [Act.put, List.setIfInBounds_toArray, List.set_cons_zero, List.set_cons_succ, i64_w, i32_w]
          rfl
        refine pure_ (i := 2) (N := some 93) (v := ?_) (a' := ?_) #[true, true, true, false, false, false, false, false, false, false, false, false, false, false, false, false, false, false, false, false, false] rfl rfl (by kernel_rfl) (fun _ _ _ h => h) (Or.inl ⟨by rfl, ?_⟩) ?_ ?_
        rotate_left
        · intro w'
          go_simp
          with_reducible rfl
        rotate_left
        · simp only [Act.put, List.setIfInBounds_toArray, List.set_cons_zero, List.set_cons_succ, i64_w, i32_w]
          rfl
        refine take_ (i := 3) (N := some 94) (v := ?_) (a' := ?_) #[true, true, true, true, false, false, false, false, false, false, false, false, false, false, false, false, false, false, false, false, false] rfl rfl (by kernel_rfl) (fun _ _ _ h => h) (Or.inl ⟨by rfl, ?_⟩) hHeld ?_ ?_
        rotate_left
        · rintro w' ⟨s0, s1⟩
          show (do let r ← Instr.loadAt 37 (.pointer (some ⟨bx, 0, none⟩)); pure (Next.value r) : Sem Next).run Try.prog w' = _
          rw [Sem.run_bind, run_load37c s0]
          rfl
        rotate_left
        · simp only [Act.put, List.setIfInBounds_toArray, List.set_cons_zero, List.set_cons_succ, i64_w, i32_w]
          rfl
        refine pure_ (i := 4) (N := some 95) (v := ?_) (a' := ?_) #[true, true, true, true, true, false, false, false, false, false, false, false, false, false, false, false, false, false, false, false, false] rfl rfl (by kernel_rfl) (fun _ _ _ h => h) (Or.inl ⟨by rfl, ?_⟩) ?_ ?_
        rotate_left
        · intro w'
          go_simp
          with_reducible rfl
        rotate_left
        · simp only [Act.put, List.setIfInBounds_toArray, List.set_cons_zero, List.set_cons_succ, i64_w, i32_w]
          rfl
        refine pure_ (i := 5) (N := some 96) (v := ?_) (a' := ?_) #[true, true, true, true, true, true, false, false, false, false, false, false, false, false, false, false, false, false, false, false, false] rfl rfl (by kernel_rfl) (fun _ _ _ h => h) (Or.inl ⟨by rfl, ?_⟩) ?_ ?_
        rotate_left
        · intro w'
          go_simp
          with_reducible rfl
        rotate_left
        · simp only [Act.put, List.setIfInBounds_toArray, List.set_cons_zero, List.set_cons_succ, i64_w, i32_w]
          rfl
        refine pure_ (i := 6) (N := some 97) (v := ?_) (a' := ?_) #[true, true, true, true, true, true, true, false, false, false, false, false, false, false, false, false, false, false, false, false, false] rfl rfl (by kernel_rfl) (fun _ _ _ h => h) (Or.inl ⟨by rfl, ?_⟩) ?_ ?_
        rotate_left
        · intro w'
          go_simp
          with_reducible rfl
        rotate_left
        · simp only [Act.put, List.setIfInBounds_toArray, List.set_cons_zero, List.set_cons_succ, i64_w, i32_w]
          rfl
        refine take_ (i := 7) (N := some 98) (v := ?_) (a' := ?_) #[true, true, true, true, true, true, true, true, false, false, false, false, false, false, false, false, false, false, false, false, false] rfl rfl (by kernel_rfl) (fun _ _ _ h => h) (Or.inl ⟨by rfl, ?_⟩) hHeld ?_ ?_
        rotate_left
        · rintro w' ⟨s0, s1⟩
          show (do let r ← Instr.loadAt 37 (.pointer (some ⟨br, 5, none⟩)); pure (Next.value r) : Sem Next).run Try.prog w' = _
          rw [Sem.run_bind, run_load37r s1]
          rfl
        rotate_left
        · simp only [Act.put, List.setIfInBounds_toArray, List.set_cons_zero, List.set_cons_succ, i64_w, i32_w]
          rfl
        refine one_ (i := 8) (N := some 99) #[true, true, true, true, true, true, true, true, true, false, false, false, false, false, false, false, false, false, false, false, false] rfl rfl (by kernel_rfl) (by decide) (fun K hK => ?_)
        refine goes_ Try.func14 (by kernel_rfl) rfl #[.agg (cxA x sv tv jv ov), .agg (cxA x sv2 tv2 iv2 ov2)] (by rfl) rfl rfl (by simp only [List.map_toArray, List.map_cons, List.map_nil]; rfl) ?_
        refine (same_true (at_ := (x.at_ : Int)) (sp := x.spent) (en := x.ended) HC9.out.st HC9.out.sl HC9.out.inn HC9.out.ou RA4.out.st RA4.out.sl RA4.out.inn RA4.out.ou (by have := HLN.out; omega) (by have := HLN.out; omega) (by have := HLN.out; omega) (by have := HLN.out; omega)).mono ?_
        rintro e W11 ⟨rfl, hb⟩
        have VRn := Aside0.mk (VR4.out.below hb)
        have HCn := Aside0.mk (HC9.out.move (fun k _ hk => hb.block k hk))
        have RAn := Aside0.mk (RA4.out.below hb)
        refine ⟨_, rfl, hK.out _ _ ⟨(hb.block _ (Array.getElem?_eq_some_iff.1 hHeld.1).1).trans hHeld.1, (hb.block _ (Array.getElem?_eq_some_iff.1 hHeld.2).1).trans hHeld.2⟩ (fun hHeld2 => ?_)⟩
        clear hK K hHeld hb VR4 HC9 RA4
        have hHeld := hHeld2
        have VR4 := VRn
        have HC9 := HCn
        have RA4 := RAn
        clear hHeld2 VRn HCn RAn
        refine norm_ (a' := ?_) ?_ ?_
        rotate_left
        · show Act.put _ (some 99) _ = _
          simp only [Act.put, List.setIfInBounds_toArray, List.set_cons_zero, List.set_cons_succ, i64_w, i32_w]
          rfl
        refine pure_ (i := 9) (N := some 100) (v := ?_) (a' := ?_) #[true, true, true, true, true, true, true, true, true, true, false, false, false, false, false, false, false, false, false, false, false] rfl rfl (by kernel_rfl) (fun _ _ _ h => h) (Or.inl ⟨by rfl, ?_⟩) ?_ ?_
        rotate_left
        · intro w'
          go_simp
          with_reducible rfl
        rotate_left
        · simp only [Act.put, List.setIfInBounds_toArray, List.set_cons_zero, List.set_cons_succ, i64_w, i32_w]
          rfl
        refine pure_ (i := 10) (N := some 101) (v := ?_) (a' := ?_) #[true, true, true, true, true, true, true, true, true, true, true, false, false, false, false, false, false, false, false, false, false] rfl rfl (by kernel_rfl) (fun _ _ _ h => h) (Or.inl ⟨by rfl, ?_⟩) ?_ ?_
        rotate_left
        · intro w'
          go_simp
          with_reducible rfl
        rotate_left
        · simp only [Act.put, List.setIfInBounds_toArray, List.set_cons_zero, List.set_cons_succ, i64_w, i32_w]
          rfl
        refine pure_ (i := 11) (N := some 102) (v := ?_) (a' := ?_) #[true, true, true, true, true, true, true, true, true, true, true, true, false, false, false, false, false, false, false, false, false] rfl rfl (by kernel_rfl) (fun _ _ _ h => h) (Or.inl ⟨by rfl, ?_⟩) ?_ ?_
        rotate_left
        · intro w'
          go_simp
          with_reducible rfl
        rotate_left
        · simp only [Act.put, List.setIfInBounds_toArray, List.set_cons_zero, List.set_cons_succ, i64_w, i32_w]
          rfl
        refine pure_ (i := 12) (N := some 103) (v := ?_) (a' := ?_) #[true, true, true, true, true, true, true, true, true, true, true, true, true, false, false, false, false, false, false, false, false] rfl rfl (by kernel_rfl) (fun _ _ _ h => h) (Or.inl ⟨by rfl, ?_⟩) ?_ ?_
        rotate_left
        · intro w'
          go_simp
          with_reducible rfl
        rotate_left
        · simp only [Act.put, List.setIfInBounds_toArray, List.set_cons_zero, List.set_cons_succ, i64_w, i32_w]
          rfl
        refine pure_ (i := 14) (N := some 105) (v := ?_) (a' := ?_) #[true, true, true, true, true, true, true, true, true, true, true, true, true, false, true, false, false, false, false, false, false] rfl rfl (by kernel_rfl) (fun _ _ _ h => h) (Or.inl ⟨by rfl, ?_⟩) ?_ ?_
        rotate_left
        · intro w'
          go_simp
          with_reducible rfl
        rotate_left
        · simp only [Act.put, List.setIfInBounds_toArray, List.set_cons_zero, List.set_cons_succ, i64_w, i32_w]
          rfl
        refine pure_ (i := 15) (N := some 106) (v := ?_) (a' := ?_) #[true, true, true, true, true, true, true, true, true, true, true, true, true, false, true, true, false, false, false, false, false] rfl rfl (by kernel_rfl) (fun _ _ _ h => h) (Or.inl ⟨by rfl, ?_⟩) ?_ ?_
        rotate_left
        · intro w'
          go_simp
          with_reducible rfl
        rotate_left
        · simp only [Act.put, List.setIfInBounds_toArray, List.set_cons_zero, List.set_cons_succ, i64_w, i32_w]
          rfl
        refine pure_ (i := 16) (N := some 107) (v := ?_) (a' := ?_) #[true, true, true, true, true, true, true, true, true, true, true, true, true, false, true, true, true, false, false, false, false] rfl rfl (by kernel_rfl) (fun _ _ _ h => h) (Or.inl ⟨by rfl, ?_⟩) ?_ ?_
        rotate_left
        · intro w'
          go_simp
          with_reducible rfl
        rotate_left
        · simp only [Act.put, List.setIfInBounds_toArray, List.set_cons_zero, List.set_cons_succ, i64_w, i32_w]
          rfl
        refine pure_ (i := 17) (N := some 108) (v := ?_) (a' := ?_) #[true, true, true, true, true, true, true, true, true, true, true, true, true, false, true, true, true, true, false, false, false] rfl rfl (by kernel_rfl) (fun _ _ _ h => h) (Or.inl ⟨by rfl, ?_⟩) ?_ ?_
        rotate_left
        · intro w'
          go_simp
          with_reducible rfl
        rotate_left
        · simp only [Act.put, List.setIfInBounds_toArray, List.set_cons_zero, List.set_cons_succ, i64_w, i32_w]
          rfl
        refine take_ (i := 18) (N := some 109) (v := ?_) (a' := ?_) #[true, true, true, true, true, true, true, true, true, true, true, true, true, false, true, true, true, true, true, false, false] rfl rfl (by kernel_rfl) (fun _ _ _ h => h) (Or.inl ⟨by rfl, ?_⟩) hHeld ?_ ?_
        rotate_left
        · rintro w' ⟨s0, s1⟩
          have s10 : w'.cell? ⟨br, 10, none⟩ = some (.int .i64 x.spent) := by simp [World.cell?, s1, rmA]
          go_simp
          with_reducible rfl
        rotate_left
        · simp only [Act.put, List.setIfInBounds_toArray, List.set_cons_zero, List.set_cons_succ, i64_w, i32_w]
          rfl
        refine one_ (i := 13) (N := some 104) #[true, true, true, true, true, true, true, true, true, true, true, true, true, true, true, true, true, true, true, false, false] rfl rfl (by kernel_rfl) (by decide) (fun K hK => ?_)
        refine goes_ Try.func15 (by kernel_rfl) rfl #[.pointer (some ⟨bv, 0, none⟩)] (by rfl) rfl rfl (by simp only [List.map_toArray, List.map_cons, List.map_nil]; rfl) ?_
        refine (spent_calls VR4.out.mv).mono ?_
        rintro e W12 ⟨rfl, hb⟩
        have VRn := Aside0.mk (VR4.out.below hb)
        have HCn := Aside0.mk (HC9.out.move (fun k _ hk => hb.block k hk))
        have RAn := Aside0.mk (RA4.out.below hb)
        refine ⟨_, rfl, hK.out _ _ ⟨(hb.block _ (Array.getElem?_eq_some_iff.1 hHeld.1).1).trans hHeld.1, (hb.block _ (Array.getElem?_eq_some_iff.1 hHeld.2).1).trans hHeld.2⟩ (fun hHeld2 => ?_)⟩
        clear hK K hHeld hb VR4 HC9 RA4
        have hHeld := hHeld2
        have VR4 := VRn
        have HC9 := HCn
        have RA4 := RAn
        clear hHeld2 VRn HCn RAn
        refine norm_ (a' := ?_) ?_ ?_
        rotate_left
        · show Act.put _ (some 104) _ = _
          simp only [Act.put, List.setIfInBounds_toArray, List.set_cons_zero, List.set_cons_succ, i64_w, i32_w]
          rfl
        refine pure_ (i := 19) (N := some 110) (v := ?_) (a' := ?_) #[true, true, true, true, true, true, true, true, true, true, true, true, true, true, true, true, true, true, true, true, false] rfl rfl (by kernel_rfl) (fun _ _ _ h => h) (Or.inl ⟨by rfl, ?_⟩) ?_ ?_
        rotate_left
        · intro w'
          go_simp
          with_reducible rfl
        rotate_left
        · simp only [Act.put, List.setIfInBounds_toArray, List.set_cons_zero, List.set_cons_succ, i64_w, i32_w]
          rfl
        refine pure_ (i := 20) (N := some 111) (v := ?_) (a' := ?_) #[true, true, true, true, true, true, true, true, true, true, true, true, true, true, true, true, true, true, true, true, true] rfl rfl (by kernel_rfl) (fun _ _ _ h => h) (Or.inl ⟨by rfl, ?_⟩) ?_ ?_
        rotate_left
        · intro w'
          go_simp
          with_reducible rfl
        rotate_left
        · simp only [Act.put, List.setIfInBounds_toArray, List.set_cons_zero, List.set_cons_succ, i64_w, i32_w]
          rfl
        refine done_ (by kernel_rfl) ?_
        clear hHeld HC9 RA4
        go_wp2_with fail
        refine (outs_full VR4.out.mv RN1.out.1).mono ?_
        rintro e W13 ⟨⟨oa, rfl, hi, _⟩, hb⟩
        have VR5 := Aside0.mk (VR4.out.below hb)
        obtain ⟨sv5, tv5, iv5, ov5, hra⟩ := VR5.out.mr
        have RA5 := Aside0.mk hra
        have HI5 := Aside0.mk hi
        have y11 : W13.cell? ⟨br, 11, none⟩ = some (.bool x.ended) := RA5.out.cell rfl
        have y9 : W13.cell? ⟨br, 9, none⟩ = some ov5 := RA5.out.cell rfl
        obtain ⟨Ao, co, rfl, _⟩ := hi.slice
        clear hb VR4 hra hi
        obtain ⟨en, hen⟩ : ∃ en, x.ended = en := ⟨_, rfl⟩
        rw [hen] at y11 ⊢
        have HEN := Aside0.mk hen
        clear hen
        cases en with
        | true =>
          have eo : out16 x = x.outs := by simp [out16, HEN.out]
          rw [eo] at HI5 ⊢
          have HLO : Aside0 (x.outs.length ≤ 1000000) := ⟨by have := HLN.out; omega⟩
          clear eo
          go_wp2_with fail
          refine (equal_same HI5.out RA5.out.ou HLO.out).mono ?_
          rintro e W14 ⟨rfl, hb⟩
          have VR6 := Aside0.mk (VR5.out.below hb)
          clear hb VR5 RA5 HI5 y11 y9
          by_cases hb3 : i < l3.length
          · have db : decide ((i : Int) < (l3.length : Int)) = true := decide_eq_true (by omega)
            obtain ⟨ad, rfl⟩ : ∃ ad, A3 = some ad := by
              cases A3 with
              | none =>
                have h0 := (RdI.of_C HB.out.1).1 rfl
                rw [h0] at hb3
                exact absurd hb3 (by simp)
              | some ad => exact ⟨ad, rfl⟩
            obtain ⟨bud, hbud⟩ : ∃ b, l3[i]? = some b := ⟨_, List.getElem?_eq_getElem hb3⟩
            have HBW := Aside0.mk ((RdI.of_C HB.out.1).2 ad rfl i bud hbud)
            have hbc : W14.cell? (ad.add i) = some (.int .i64 bud) := pw_cell_below VR6.out.bel HBW.out
            have hil : (i : Int) < (l3.length : Int) := by omega
            clear hbud
            go_wp2_with fail
            refine (run_full VR6.out.mv (fun k hk => (VR6.out.lv k hk).2) RN1.out.1 bud).mono ?_
            rintro e W15 ⟨rfl, hv, hk⟩
            have VR7 := Aside0.mk (VR6.out.run1 hv hk)
            clear hv hk VR6 hbc
            have hbc : W15.cell? (ad.add i) = some (.int .i64 bud) := pw_cell_below VR7.out.bel HBW.out
            obtain ⟨rs, hrs⟩ : ∃ r, res18 l0 bud x = r := ⟨_, rfl⟩
            rw [hrs]
            have HRS := Aside0.mk hrs
            clear hrs
            obtain ⟨r1, r2, r3⟩ := rs
            go_wp2_with fail
            refine (rrun_full VR7.out.mr (fun W' hk => VR7.out.code HC.out.1 W' hk) (fun k hk => (VR7.out.lr k hk).2) RN1.out.1 RN1.out.2 HG.out.1 bud).mono ?_
            rintro e W16 ⟨rfl, hr, hk⟩
            have VR8 := Aside0.mk (VR7.out.run2 hr hk)
            rw [HRS.out]
            clear hr hk VR7 hbc
            go_wp2_with fail
            go_roundg go
            case measure => omega
            case rel =>
              exact ⟨i + 1, to18 l0 bud x, by simp, by omega, ⟨_, _, VR8.out⟩, ⟨RN1.out.1.to18 _, RN1.out.2.to18 HG.out.1 _⟩⟩
          · have db : decide ((i : Int) < (l3.length : Int)) = false := decide_eq_false (by omega)
            go_wp2_with fail
            refine (step_full VR6.out.mv (fun k hk => (VR6.out.lv k hk).2) RN1.out.1).mono ?_
            rintro e W15 ⟨rfl, hv, hk⟩
            have VR7 := Aside0.mk (VR6.out.run1 hv hk)
            clear hv hk VR6
            obtain ⟨rs, hrs⟩ : ∃ r, res20 l0 x = r := ⟨_, rfl⟩
            rw [hrs]
            have HRS := Aside0.mk hrs
            clear hrs
            obtain ⟨r1, r2, r3⟩ := rs
            go_wp2_with fail
            refine (rstep_full VR7.out.mr (VR7.out.code HC.out.1 _ (Kept2.refl _ _)) (fun k hk => (VR7.out.lr k hk).2) RN1.out.1 RN1.out.2).mono ?_
            rintro e W16 ⟨rfl, hr, hk⟩
            have VR8 := Aside0.mk (VR7.out.run2 hr hk)
            rw [HRS.out]
            clear hr hk VR7
            go_wp2_with fail
            go_roundg go
            case measure => omega
            case rel =>
              exact ⟨i + 1, to20 l0 x, by simp, by omega, ⟨_, _, VR8.out⟩, ⟨RN1.out.1.to20, RN1.out.2.to20 HG.out.1⟩⟩
        | false =>
          have eo : out16 x = [] := by simp [out16, HEN.out]
          rw [eo] at HI5 ⊢
          clear eo
          have VR6 := VR5
          clear VR5 RA5 HI5 y9
          by_cases hb3 : i < l3.length
          · have db : decide ((i : Int) < (l3.length : Int)) = true := decide_eq_true (by omega)
            obtain ⟨ad, rfl⟩ : ∃ ad, A3 = some ad := by
              cases A3 with
              | none =>
                have h0 := (RdI.of_C HB.out.1).1 rfl
                rw [h0] at hb3
                exact absurd hb3 (by simp)
              | some ad => exact ⟨ad, rfl⟩
            obtain ⟨bud, hbud⟩ : ∃ b, l3[i]? = some b := ⟨_, List.getElem?_eq_getElem hb3⟩
            have HBW := Aside0.mk ((RdI.of_C HB.out.1).2 ad rfl i bud hbud)
            have hbc : W13.cell? (ad.add i) = some (.int .i64 bud) := pw_cell_below VR6.out.bel HBW.out
            have hil : (i : Int) < (l3.length : Int) := by omega
            clear hbud
            go_wp2_with fail
            refine (run_full VR6.out.mv (fun k hk => (VR6.out.lv k hk).2) RN1.out.1 bud).mono ?_
            rintro e W15 ⟨rfl, hv, hk⟩
            have VR7 := Aside0.mk (VR6.out.run1 hv hk)
            clear hv hk VR6 hbc
            have hbc : W15.cell? (ad.add i) = some (.int .i64 bud) := pw_cell_below VR7.out.bel HBW.out
            obtain ⟨rs, hrs⟩ : ∃ r, res18 l0 bud x = r := ⟨_, rfl⟩
            rw [hrs]
            have HRS := Aside0.mk hrs
            clear hrs
            obtain ⟨r1, r2, r3⟩ := rs
            go_wp2_with fail
            refine (rrun_full VR7.out.mr (fun W' hk => VR7.out.code HC.out.1 W' hk) (fun k hk => (VR7.out.lr k hk).2) RN1.out.1 RN1.out.2 HG.out.1 bud).mono ?_
            rintro e W16 ⟨rfl, hr, hk⟩
            have VR8 := Aside0.mk (VR7.out.run2 hr hk)
            rw [HRS.out]
            clear hr hk VR7 hbc
            go_wp2_with fail
            go_roundg go
            case measure => omega
            case rel =>
              exact ⟨i + 1, to18 l0 bud x, by simp, by omega, ⟨_, _, VR8.out⟩, ⟨RN1.out.1.to18 _, RN1.out.2.to18 HG.out.1 _⟩⟩
          · have db : decide ((i : Int) < (l3.length : Int)) = false := decide_eq_false (by omega)
            go_wp2_with fail
            refine (step_full VR6.out.mv (fun k hk => (VR6.out.lv k hk).2) RN1.out.1).mono ?_
            rintro e W15 ⟨rfl, hv, hk⟩
            have VR7 := Aside0.mk (VR6.out.run1 hv hk)
            clear hv hk VR6
            obtain ⟨rs, hrs⟩ : ∃ r, res20 l0 x = r := ⟨_, rfl⟩
            rw [hrs]
            have HRS := Aside0.mk hrs
            clear hrs
            obtain ⟨r1, r2, r3⟩ := rs
            go_wp2_with fail
            refine (rstep_full VR7.out.mr (VR7.out.code HC.out.1 _ (Kept2.refl _ _)) (fun k hk => (VR7.out.lr k hk).2) RN1.out.1 RN1.out.2).mono ?_
            rintro e W16 ⟨rfl, hr, hk⟩
            have VR8 := Aside0.mk (VR7.out.run2 hr hk)
            rw [HRS.out]
            clear hr hk VR7
            go_wp2_with fail
            go_roundg go
            case measure => omega
            case rel =>
              exact ⟨i + 1, to20 l0 x, by simp, by omega, ⟨_, _, VR8.out⟩, ⟨RN1.out.1.to20, RN1.out.2.to20 HG.out.1⟩⟩
      · have dl : decide ((i : Int) ≤ (l3.length : Int) + (l0.length : Int)) = false := decide_eq_false (by omega)
        obtain ⟨Pv, Pr, vr⟩ := VR1.out
        have B5 := Aside0.mk vr.bel
        clear vr VR1
        go_wp2_with fail
        refine (works_calls _).mono ?_
        rintro e W6 ⟨rfl, hb⟩
        have B6 := Aside0.mk (B5.out.trans (hb.mono B5.out.size))
        clear hb
        go_wp2
        go_ret
        exact ⟨rfl, B6.out⟩
def carillonlaw22_VmRuns.f (l0 : List S53) (a1_0 a1_1 a1_2 a1_3 : Int) (l2 : List Int) (l3 : List Int) : Option Bool := if (∀ i ∈ l0, is64 i.f1) ∧ (∀ v ∈ l2, is64 v) then some true else none
theorem carillonlaw22_VmRuns.calls (A0 : Option Addr) (c0 : Nat) (l0 : List S53) (a1_0 a1_1 a1_2 a1_3 : Int) (A2 : Option Addr) (c2 : Nat) (l2 : List Int) (A3 : Option Addr) (c3 : Nat) (l3 : List Int) (r : Bool) (w : World) (hr0 : Kd.C k53 w A0 l0.length l0) (hc0 : l0.length ≤ c0) (hr2 : Kd.C (Kd.int .i64) w A2 l2.length l2) (hc2 : l2.length ≤ c2) (hr3 : Kd.C (Kd.int .i64) w A3 l3.length l3) (hc3 : l3.length ≤ c3) (h : carillonlaw22_VmRuns.f l0 a1_0 a1_1 a1_2 a1_3 l2 l3 = some r) :
    Calls Try.prog 3 #[.slice A0 l0.length c0, .agg #[.int .i64 a1_0, .int .i64 a1_1, .int .i64 a1_2, .int .i64 a1_3], .slice A2 l2.length c2, .slice A3 l3.length c3] w fun e w' => e = .returned (.bool r) ∧ Below w.heap.size w w' := by
  unfold carillonlaw22_VmRuns.f at h
  split at h
  · rename_i hg
    obtain rfl : true = r := Option.some.inj h
    by_cases h1 : l0.length ≤ 200 ∧ l2.length ≤ 100 ∧ l3.length ≤ 100
    · exact runs_small hr0 hc0 hr2 hc2 hr3 hc3 h1.1 h1.2.1 h1.2.2 hg.1 hg.2
    · exact runs_big (by omega)
  · cases h
end Go.Proofs.Ytlmpoojpbdmmfaa.H
end
section
set_option linter.unusedVariables false
namespace Go.Proofs.YtlmpoojpbdmmfaaOpen
open Go.Proofs.YtlmpoojpbdmmfaaW.PrintWords
def Fits (P : Program) (t : TypeId) {α : Type} (k : Kd α) (G : α → Prop) (n : Nat) : Prop :=
  ∀ (H : Type) (enc : TypeId × Value → H) (w : World) (base : Nat) (spare : Nat → Bool) (held : Bool) (cs : List Value) (x : DataW H × List MemPlace),
    DataW.trod enc P w base spare held n t cs = some x → (∀ m ∈ x.1.weights P t, m ≤ 140737488351232) → ∃ y, k.K w y cs ∧ G y
section
variable {P : Program} {t e : TypeId}
theorem fits_zero {α : Type} (k : Kd α) (G : α → Prop) : Fits P t k G 0 := by
  intro H enc w base spare held cs x h _
  simp [DataW.trod] at h
theorem fits_imp {α : Type} {k : Kd α} {G G' : α → Prop} {n : Nat} (h : Fits P t k G n) (hG : ∀ y, G y → G' y) : Fits P t k G' n := by
  intro H enc w base spare held cs x h1 h2
  obtain ⟨y, h3, h4⟩ := h H enc w base spare held cs x h1 h2
  exact ⟨y, h3, hG y h4⟩
theorem fits_int {k : IntKind} (hu : P.underlying t = some (.int k)) (n : Nat) : Fits P t (Kd.int k) (fun x => (Lit.int k x).wf = true) n := by
  intro H enc w base spare held cs x h _
  obtain ⟨y, rfl, _, hw⟩ := DataW.trod_int hu h
  exact ⟨y, rfl, hw⟩
theorem list_of {α : Type} {p : Nat → α → Prop} : ∀ n, (∀ i, i < n → ∃ x, p i x) → ∃ l : List α, l.length = n ∧ ∀ i x, l[i]? = some x → p i x := by
  intro n
  induction n with
  | zero => exact fun _ => ⟨[], rfl, fun i x h => by simp at h⟩
  | succ n ih =>
    intro h
    obtain ⟨l, hl, hp⟩ := ih (fun i hi => h i (Nat.lt_succ_of_lt hi))
    obtain ⟨x, hx⟩ := h n (Nat.lt_succ_self n)
    refine ⟨l ++ [x], by simp [hl], fun i y hy => ?_⟩
    rcases Nat.lt_or_ge i l.length with hi | hi
    · rw [List.getElem?_append_left hi] at hy
      exact hp i y hy
    · rw [List.getElem?_append_right hi] at hy
      rcases Nat.eq_or_lt_of_le hi with he | he
      · subst he
        simp at hy
        subst hy
        rw [hl]
        exact hx
      · rw [List.getElem?_eq_none (by simp; omega)] at hy
        cases hy
theorem weightsAll_mem {H : Type} {d : DataW H} : ∀ {l : List (DataW H)}, d ∈ l → ∀ m ∈ d.weights P e, m ∈ DataW.weightsAll P e l
  | x :: l, hd, m, hm => by
    simp only [DataW.weightsAll, List.mem_append]
    rcases List.mem_cons.1 hd with rfl | hd
    · exact .inl hm
    · exact .inr (weightsAll_mem hd m hm)
theorem fits_slice {α : Type} {k : Kd α} {G : α → Prop} {n : Nat} (hu : P.underlying t = some (.slice e)) (hc : P.cellsOf e = k.sz) {B : Nat} (hB : P.bytesOf e = B) (h : Fits P e k G n) :
    Fits P t (Kd.slice e k) (fun l => l.length ≤ 9223372036854775807 ∧ l.length * B ≤ 140737488351232 ∧ ∀ x ∈ l, G x) (n + 1) := by
  intro H enc w base spare held cs x h' hW
  rcases DataW.trod_slice hu h' with ⟨rfl, rfl⟩ | ⟨a, len, cap, elems, rest, n', hn, rfl, rfl, hb, hl, hm, hlen, hel, _⟩
  · exact ⟨[], ⟨none, 0, rfl, Nat.le_refl _, Kd.C_nil _ _⟩, by simp, by simp, by simp⟩
  · obtain rfl : n' = n := by omega
    have hws : ∀ m, m ∈ (elems.length + rest.length) * P.bytesOf e :: (DataW.weightsAll P e (elems.map (·.1)) ++ DataW.weightsAll P e (rest.map (·.1))) → m ≤ 140737488351232 := by
      intro m hm'
      refine hW m ?_
      simpa [DataW.weights, hu] using hm'
    obtain ⟨ys, hys, hp⟩ := list_of (p := fun i y => ∃ c, w.cells? base (a.add (i * P.cellsOf e)) (P.cellsOf e) = some c ∧ k.K w y c ∧ G y) len (fun i hi => by
      have := hel i hi
      rw [List.getElem?_eq_getElem (by omega)] at this
      obtain ⟨c, h1, h2⟩ := Option.bind_eq_some_iff.1 this
      obtain ⟨y, h3, h4⟩ := h H enc w base spare held c _ h2 (fun m hm' => hws m (List.mem_cons_of_mem _ (List.mem_append_left _ (weightsAll_mem (List.mem_map.2 ⟨_, List.getElem_mem (by omega), rfl⟩) m hm'))))
      exact ⟨y, c, h1, h3, h4⟩)
    have hmx : len ≤ 9223372036854775807 := by simp only [maxLen] at hm; omega
    refine ⟨ys, ⟨some a, cap, by rw [hys], by omega, ?_⟩, by omega, ?_, ?_⟩
    · refine ⟨rfl, by omega, fun _ => ⟨a, rfl, fun j p hj => ?_⟩⟩
      obtain ⟨c, h1, h2, _⟩ := hp j p hj
      obtain ⟨_, hcl, hcell⟩ := World.cells?_some h1
      refine ⟨c, k.K_len h2, h2, fun i u hi => ?_⟩
      have hil : i < c.length := (List.getElem?_eq_some_iff.1 hi).1
      have := hcell i (by omega)
      rw [hi, hc] at this
      rw [← this]
      congr 1
      unfold Addr.add
      by_cases h0 : j * k.sz = 0 <;> by_cases h1 : i = 0 <;> simp [h0, h1, Nat.add_assoc]
    · have := hws _ List.mem_cons_self
      rw [hB] at this
      exact Nat.le_trans (Nat.mul_le_mul_right _ (by omega)) this
    · intro x hx
      obtain ⟨i, hi⟩ := List.mem_iff_getElem?.1 hx
      obtain ⟨_, _, _, h4⟩ := hp i x hi
      exact h4
def trodS {H : Type} (enc : TypeId × Value → H) (P : Program) (w : World) (base : Nat) (spare : Nat → Bool) (held : Bool) (n : Nat) : List TypeId → List Value → List (DataW H × List MemPlace) → Prop
  | [], cs, xs => cs = [] ∧ xs = []
  | t :: ts, cs, xs => ∃ x xs', xs = x :: xs' ∧ DataW.trod enc P w base spare held n t (cs.take (P.cellsOf t)) = some x ∧ trodS enc P w base spare held n ts (cs.drop (P.cellsOf t)) xs'
def FitsS (P : Program) (ts : List TypeId) {α : Type} (k : Kd α) (G : α → Prop) (n : Nat) : Prop :=
  ∀ (H : Type) (enc : TypeId × Value → H) (w : World) (base : Nat) (spare : Nat → Bool) (held : Bool) (cs : List Value) (xs : List (DataW H × List MemPlace)),
    trodS enc P w base spare held n ts cs xs → (∀ m ∈ DataW.weightsEach P ts (xs.map (·.1)), m ≤ 140737488351232) → ∃ y, k.K w y cs ∧ G y
theorem fitsS_one {α : Type} {k : Kd α} {G : α → Prop} {n : Nat} (h : Fits P t k G n) : FitsS P [t] k G n := by
  rintro H enc w base spare held cs xs ⟨x, xs', rfl, h1, h2, rfl⟩ hW
  obtain ⟨y, h3, h4⟩ := h H enc w base spare held _ x h1 (fun m hm => hW m (by simp [DataW.weightsEach, hm]))
  refine ⟨y, ?_, h4⟩
  have e : cs = cs.take (P.cellsOf t) := by
    conv => lhs; rw [← List.take_append_drop (P.cellsOf t) cs, h2, List.append_nil]
  rw [e]
  exact h3
theorem fitsS_pair {α β : Type} {k : Kd α} {k2 : Kd β} {G : α → Prop} {G2 : β → Prop} {ts : List TypeId} {n : Nat} (h : Fits P t k G n) (h2 : FitsS P ts k2 G2 n) : FitsS P (t :: ts) (Kd.pair k k2) (fun y => G y.1 ∧ G2 y.2) n := by
  rintro H enc w base spare held cs xs ⟨x, xs', rfl, h3, h4⟩ hW
  obtain ⟨y, h5, h6⟩ := h H enc w base spare held _ x h3 (fun m hm => hW m (by simp [DataW.weightsEach, hm]))
  obtain ⟨z, h7, h8⟩ := h2 H enc w base spare held _ xs' h4 (fun m hm => hW m (by simp [DataW.weightsEach, hm]))
  exact ⟨(y, z), ⟨_, _, (List.take_append_drop _ _).symm, h5, h7⟩, h6, h8⟩
def offs (P : Program) : List Field → Nat → Nat → Bool
  | [], off, n => off == n
  | f :: fs, off, n => f.offset == off && offs P fs (off + P.cellsOf f.type) n
theorem trodS_of {H : Type} {enc : TypeId × Value → H} {w : World} {base : Nat} {spare : Nat → Bool} {held : Bool} {n : Nat} {cs : List Value} : ∀ (fs : List Field) (off : Nat) (xs : List (DataW H × List MemPlace)),
    xs.length = fs.length → (∀ (i : Nat) (f : Field), fs[i]? = some f → DataW.trod enc P w base spare held n f.type ((cs.drop f.offset).take (P.cellsOf f.type)) = xs[i]?) → offs P fs off cs.length = true → trodS enc P w base spare held n (fs.map (·.type)) (cs.drop off) xs
  | [], off, xs, hl, _, ho => by
    simp [offs] at ho
    exact ⟨by simp [ho], List.eq_nil_of_length_eq_zero (by simpa using hl)⟩
  | f :: fs, off, [], hl, _, _ => by simp at hl
  | f :: fs, off, x :: xs, hl, h, ho => by
    simp [offs] at ho
    obtain ⟨rfl, ho⟩ := ho
    refine ⟨x, xs, rfl, by simpa using h 0 f rfl, ?_⟩
    have := trodS_of fs _ xs (by simpa using hl) (fun i g hg => by simpa using h (i + 1) g (by simpa using hg)) ho
    simpa [List.drop_drop, Nat.add_comm] using this
theorem fits_struct {α β : Type} {k : Kd α} {G : α → Prop} {n m : Nat} {fs : Array Field} {ts : List TypeId} (f : β → α) (g : α → β) (hfg : ∀ x, f (g x) = x) (hu : P.underlying t = some (.struct fs)) (hts : fs.toList.map (·.type) = ts) (hc : P.cellsOf t = m) (ho : offs P fs.toList 0 m = true)
    (h : FitsS P ts k G n) : Fits P t (Kd.iso k f) (fun y => G (f y)) (n + 1) := by
  subst hts
  subst hc
  intro H enc w base spare held cs x h' hW
  obtain ⟨xs, n', hn, rfl, hcl, hxl, hx⟩ := DataW.trod_struct hu h'
  obtain rfl : n' = n := by omega
  have ht := trodS_of (cs := cs) fs.toList 0 xs (by simpa using hxl) (fun i f hf => hx i f (by simpa using hf)) (by rw [hcl]; exact ho)
  obtain ⟨y, h1, h2⟩ := h H enc w base spare held cs xs (by simpa using ht) (fun m hm => hW m (by simpa [DataW.weights, hu] using hm))
  exact ⟨g y, by show k.K w (f (g y)) cs; rw [hfg]; exact h1, by show G (f (g y)); rw [hfg]; exact h2⟩
end
theorem arg_of {H : Type} {enc : TypeId × Value → H} {P : Program} {W : World} {base : Nat} {spare : Nat → Bool} {held : Bool} {t : TypeId} {α : Type} {k : Kd α} {G : α → Prop} (hf : ∀ n, Fits P t k G n) {v : Value} {d : DataW H} {ps : List MemPlace} {ts : List TypeId} {ds : List (DataW H)} {j : Nat}
    (hsz : (DataW.weightsEach P ts ds).all (· ≤ reachBytes) = true) (ht : ts[j]? = some t) (hd : ds[j]? = some d) (h : DataW.Trod enc P W base spare held t v d ps) : ∃ y, k.K W y v.cells.toList ∧ G y := by
  obtain ⟨n, hn⟩ := h
  refine hf n H enc W base spare held _ _ hn (fun m hm => ?_)
  have := List.all_eq_true.1 hsz m (DataW.weights_mem_each ht hd m hm)
  have h2 := of_decide_eq_true this
  exact h2
end Go.Proofs.YtlmpoojpbdmmfaaOpen
end
section
set_option linter.unusedVariables false
namespace Go.Proofs.Ytlmpoojpbdmmfaa.H
open Go.RowKit Go.Proofs.YtlmpoojpbdmmfaaW.PrintWords Go.Proofs.YtlmpoojpbdmmfaaOpen
theorem fits_5 (n : Nat) : Fits Try.prog 5 (Kd.int .u8) (fun x : Int => (Lit.int .u8 x).wf = true) n := fits_int Try.underlying5 n
theorem fits_2 (n : Nat) : Fits Try.prog 2 (Kd.int .i64) (fun x : Int => (Lit.int .i64 x).wf = true) n := fits_int Try.underlying2 n
def G53 (x : S53) : Prop := (fun x : Int => (Lit.int .u8 x).wf = true) x.f0 ∧ (fun x : Int => (Lit.int .i64 x).wf = true) x.f1
theorem fits_53 (n : Nat) : Fits Try.prog 53 k53 G53 n := by
  cases n with
  | zero => exact fits_zero _ _
  | succ n => exact fits_imp (fits_struct (m := 2) (fun x : S53 => (x.f0, x.f1)) (fun p => ⟨p.1, p.2⟩) (fun _ => rfl) Try.underlying53 rfl (by kernel_rfl) (by kernel_rfl) (fitsS_pair (fits_5 n) (fitsS_one (fits_2 n)))) (fun y h => h)
theorem fits_22 (n : Nat) : Fits Try.prog 22 (Kd.slice 53 k53) (fun l : List (S53) => l.length ≤ 9223372036854775807 ∧ l.length * 16 ≤ 140737488351232 ∧ ∀ x ∈ l, G53 x) n := by
  cases n with
  | zero => exact fits_zero _ _
  | succ n => exact fits_slice Try.underlying22 (by kernel_rfl) (by kernel_rfl) (fits_53 n)
theorem fits_3 (n : Nat) : Fits Try.prog 3 (Kd.int .i64) (fun x : Int => (Lit.int .i64 x).wf = true) n := fits_int Try.underlying3 n
def G24 (x : S24) : Prop := (fun x : Int => (Lit.int .i64 x).wf = true) x.f0 ∧ (fun x : Int => (Lit.int .i64 x).wf = true) x.f1 ∧ (fun x : Int => (Lit.int .i64 x).wf = true) x.f2 ∧ (fun x : Int => (Lit.int .i64 x).wf = true) x.f3
theorem fits_24 (n : Nat) : Fits Try.prog 24 k24 G24 n := by
  cases n with
  | zero => exact fits_zero _ _
  | succ n => exact fits_imp (fits_struct (m := 4) (fun x : S24 => (x.f0, x.f1, x.f2, x.f3)) (fun p => ⟨p.1, p.2.1, p.2.2.1, p.2.2.2⟩) (fun _ => rfl) Try.underlying24 rfl (by kernel_rfl) (by kernel_rfl) (fitsS_pair (fits_3 n) (fitsS_pair (fits_3 n) (fitsS_pair (fits_3 n) (fitsS_one (fits_3 n)))))) (fun y h => h)
theorem fits_25 (n : Nat) : Fits Try.prog 25 (Kd.slice 2 (Kd.int .i64)) (fun l : List (Int) => l.length ≤ 9223372036854775807 ∧ l.length * 8 ≤ 140737488351232 ∧ ∀ x ∈ l, (fun x : Int => (Lit.int .i64 x).wf = true) x) n := by
  cases n with
  | zero => exact fits_zero _ _
  | succ n => exact fits_slice Try.underlying25 (by kernel_rfl) (by kernel_rfl) (fits_2 n)
end Go.Proofs.Ytlmpoojpbdmmfaa.H
end
section
namespace Go.Proofs.Ytlmpoojpbdmmfaa.H.Pure
open Go.RowKit Go.Proofs.YtlmpoojpbdmmfaaW.PrintWords Go.Proofs.YtlmpoojpbdmmfaaW.PrintLast
theorem VmRuns : ∀ (y0 : List (S53)) (y1 : S24) (y2 : List Int) (y3 : List Int), (fun l : List (S53) => l.length ≤ 9223372036854775807 ∧ l.length * 16 ≤ 140737488351232 ∧ ∀ x ∈ l, G53 x) y0 → G24 y1 → (fun l : List (Int) => l.length ≤ 9223372036854775807 ∧ l.length * 8 ≤ 140737488351232 ∧ ∀ x ∈ l, (fun x : Int => (Lit.int .i64 x).wf = true) x) y2 → (fun l : List (Int) => l.length ≤ 9223372036854775807 ∧ l.length * 8 ≤ 140737488351232 ∧ ∀ x ∈ l, (fun x : Int => (Lit.int .i64 x).wf = true) x) y3 → ∃ _k : Nat, carillonlaw22_VmRuns.f y0 y1.f0 y1.f1 y1.f2 y1.f3 y2 y3 = some true :=
  fun y0 y1 y2 y3 h0 _ h2 _ => ⟨0, by
    have hw : ∀ x : Int, (Lit.int .i64 x).wf = true → is64 x := fun x hx => by
      simp [Lit.wf, IntKind.min, IntKind.max, IntKind.bits, IntKind.signed] at hx
      unfold is64
      omega
    unfold carillonlaw22_VmRuns.f
    rw [if_pos ⟨fun x hx => hw _ (h0.2.2 x hx).2, fun v hv => hw _ (h2.2.2 v hv)⟩]⟩
end Go.Proofs.Ytlmpoojpbdmmfaa.H.Pure
end
