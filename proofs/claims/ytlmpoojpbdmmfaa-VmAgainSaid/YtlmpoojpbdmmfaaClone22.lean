/- What is made of two numbers: each function of the map, and the map itself. No conditions. slices.Clone of numbers and of instructions: a row of its own. The conditions: the list lies in memory. -/
import Derived.Test.YtlmpoojpbdmmfaaPush22
import Derived.Test.YtlmpoojpbdmmfaaHx1
import Derived.LoopTactic
import Derived.BigQuiet
import Derived.Deep.QuietTactic
import Derived.StillTailTactics
import Derived.OwnWalk
import Derived.WalkSpells
set_option linter.unusedVariables false
set_option linter.unusedSimpArgs false
namespace Go.Proofs.Ytlmpoojpbdmmfaa.H
open Go.RowKit Go.Proofs.YtlmpoojpbdmmfaaW.PrintWords Go.Proofs.YtlmpoojpbdmmfaaW.PrintLast Go.Proofs.YtlmpoojpbdmmfaaW.PrintMore Go.Maps
theorem truth_val (b : Bool) : vm_truth.f b = some (tr b) := by cases b <;> rfl
theorem drawn_below {w w' : World} (h : Drawn0 w w') : Below w.heap.size w w' := h.below
section
variable (d t : Int) (w : World)
set_option maxHeartbeats 4000000 in
theorem c52 : Calls Try.prog 52 #[.int .i64 d, .int .i64 t] w fun e w' => e = .returned (.int .i64 (wrap64 (d + t))) ∧ Below w.heap.size w w' := by
  go_enter Try.func52, Try.ntmps52
  go_wp2
  go_ret
  exact ⟨rfl, Below.refl _ _⟩
set_option maxHeartbeats 4000000 in
theorem c53 : Calls Try.prog 53 #[.int .i64 d, .int .i64 t] w fun e w' => e = .returned (.int .i64 (wrap64 (d - t))) ∧ Below w.heap.size w w' := by
  go_enter Try.func53, Try.ntmps53
  go_wp2
  go_ret
  exact ⟨rfl, Below.refl _ _⟩
set_option maxHeartbeats 4000000 in
theorem c54 : Calls Try.prog 54 #[.int .i64 d, .int .i64 t] w fun e w' => e = .returned (.int .i64 (wrap64 (d * t))) ∧ Below w.heap.size w w' := by
  go_enter Try.func54, Try.ntmps54
  go_wp2
  go_ret
  exact ⟨rfl, Below.refl _ _⟩
set_option maxHeartbeats 4000000 in
theorem c57 : Calls Try.prog 57 #[.int .i64 d, .int .i64 t] w fun e w' => e = .returned (.int .i64 (tr (decide (d = t)))) ∧ Below w.heap.size w w' := by
  go_enter Try.func57, Try.ntmps57
  go_wp2_with fail
  refine (vm_truth.calls _ _ _ (truth_val _)).mono ?_
  rintro e w' ⟨rfl, hd⟩
  go_wp2
  go_ret
  refine ⟨?_, drawn_below hd⟩
  simp [tr]
set_option maxHeartbeats 4000000 in
theorem c59 : Calls Try.prog 59 #[.int .i64 d, .int .i64 t] w fun e w' => e = .returned (.int .i64 (tr (decide (d ≠ t)))) ∧ Below w.heap.size w w' := by
  go_enter Try.func59, Try.ntmps59
  go_wp2_with fail
  refine (vm_truth.calls _ _ _ (truth_val _)).mono ?_
  rintro e w' ⟨rfl, hd⟩
  go_wp2
  go_ret
  refine ⟨?_, drawn_below hd⟩
  simp [tr]
set_option maxHeartbeats 4000000 in
theorem c60 : Calls Try.prog 60 #[.int .i64 d, .int .i64 t] w fun e w' => e = .returned (.int .i64 (tr (decide (d < t)))) ∧ Below w.heap.size w w' := by
  go_enter Try.func60, Try.ntmps60
  go_wp2_with fail
  refine (vm_truth.calls _ _ _ (truth_val _)).mono ?_
  rintro e w' ⟨rfl, hd⟩
  go_wp2
  go_ret
  refine ⟨?_, drawn_below hd⟩
  simp [tr]
set_option maxHeartbeats 4000000 in
theorem c61 : Calls Try.prog 61 #[.int .i64 d, .int .i64 t] w fun e w' => e = .returned (.int .i64 (tr (decide (d ≤ t)))) ∧ Below w.heap.size w w' := by
  go_enter Try.func61, Try.ntmps61
  go_wp2_with fail
  refine (vm_truth.calls _ _ _ (truth_val _)).mono ?_
  rintro e w' ⟨rfl, hd⟩
  go_wp2
  go_ret
  refine ⟨?_, drawn_below hd⟩
  simp [tr]
set_option maxHeartbeats 4000000 in
theorem c62 : Calls Try.prog 62 #[.int .i64 d, .int .i64 t] w fun e w' => e = .returned (.int .i64 (tr (decide (t < d)))) ∧ Below w.heap.size w w' := by
  go_enter Try.func62, Try.ntmps62
  go_wp2_with fail
  refine (vm_truth.calls _ _ _ (truth_val _)).mono ?_
  rintro e w' ⟨rfl, hd⟩
  go_wp2
  go_ret
  refine ⟨?_, drawn_below hd⟩
  simp [tr]
set_option maxHeartbeats 4000000 in
theorem c63 : Calls Try.prog 63 #[.int .i64 d, .int .i64 t] w fun e w' => e = .returned (.int .i64 (tr (decide (t ≤ d)))) ∧ Below w.heap.size w w' := by
  go_enter Try.func63, Try.ntmps63
  go_wp2_with fail
  refine (vm_truth.calls _ _ _ (truth_val _)).mono ?_
  rintro e w' ⟨rfl, hd⟩
  go_wp2
  go_ret
  refine ⟨?_, drawn_below hd⟩
  simp [tr]
set_option maxHeartbeats 4000000 in
theorem c64 : Calls Try.prog 64 #[.int .i64 d, .int .i64 t] w fun e w' => e = .returned (.int .i64 (tr (decide (d ≠ 0) && decide (t ≠ 0)))) ∧ Below w.heap.size w w' := by
  by_cases h : d = 0
  · subst h
    go_enter Try.func64, Try.ntmps64
    go_wp2_with fail
    refine (vm_truth.calls _ _ _ (truth_val _)).mono ?_
    rintro e w' ⟨rfl, hd⟩
    go_wp2
    go_ret
    exact ⟨by simp [tr], drawn_below hd⟩
  · have h1 : (d != 0) = true := by simp [h]
    have H := Aside0.mk h
    clear h
    go_enter Try.func64, Try.ntmps64
    go_wp2_with fail
    refine (vm_truth.calls _ _ _ (truth_val _)).mono ?_
    rintro e w' ⟨rfl, hd⟩
    go_wp2
    go_ret
    exact ⟨by have := H.out; simp [tr, this], drawn_below hd⟩
set_option maxHeartbeats 4000000 in
theorem c65 : Calls Try.prog 65 #[.int .i64 d, .int .i64 t] w fun e w' => e = .returned (.int .i64 (tr (decide (d ≠ 0) || decide (t ≠ 0)))) ∧ Below w.heap.size w w' := by
  by_cases h : d = 0
  · subst h
    go_enter Try.func65, Try.ntmps65
    go_wp2_with fail
    refine (vm_truth.calls _ _ _ (truth_val _)).mono ?_
    rintro e w' ⟨rfl, hd⟩
    go_wp2
    go_ret
    exact ⟨by simp [tr], drawn_below hd⟩
  · have h1 : (d != 0) = true := by simp [h]
    have H := Aside0.mk h
    clear h
    go_enter Try.func65, Try.ntmps65
    go_wp2_with fail
    refine (vm_truth.calls _ _ _ (truth_val _)).mono ?_
    rintro e w' ⟨rfl, hd⟩
    go_wp2
    go_ret
    exact ⟨by have := H.out; simp [tr, this], drawn_below hd⟩
theorem div_val : num_Div.f d t = some (divv d t) := by
  unfold num_Div.f divv
  repeat' split
  all_goals rfl
theorem mod_val : num_Mod.f d t = some (modv d t) := by
  unfold num_Mod.f modv
  repeat' split
  all_goals rfl
/-- Each function of the map. -/
theorem pr_calls {op : Int} (h0 : 8 ≤ op) (h1 : op ≤ 20) : Calls Try.prog (fnOf op) #[.int .i64 d, .int .i64 t] w fun e w' => e = .returned (.int .i64 (pr op d t)) ∧ Below w.heap.size w w' := by
  have h : op = 8 ∨ op = 9 ∨ op = 10 ∨ op = 11 ∨ op = 12 ∨ op = 13 ∨ op = 14 ∨ op = 15 ∨ op = 16 ∨ op = 17 ∨ op = 18 ∨ op = 19 ∨ op = 20 := by omega
  rcases h with rfl | rfl | rfl | rfl | rfl | rfl | rfl | rfl | rfl | rfl | rfl | rfl | rfl
  · exact c52 d t w
  · exact c53 d t w
  · exact c54 d t w
  · exact (num_Div.calls d t _ w (div_val d t)).mono fun e w' h => ⟨h.1, drawn_below h.2⟩
  · exact (num_Mod.calls d t _ w (mod_val d t)).mono fun e w' h => ⟨h.1, drawn_below h.2⟩
  · exact c57 d t w
  · exact c59 d t w
  · exact c60 d t w
  · exact c61 d t w
  · exact c62 d t w
  · exact c63 d t w
  · exact c64 d t w
  · exact c65 d t w
end
/-- A key more. -/
theorem pm_put {W : World} {M n : Nat} {D : DataW Unit} (h : W.ownsMap Try.prog 5 fnR M n D) (hn : n < 1000) (op : Int) (h0 : 0 ≤ op) (h1 : op ≤ 255) (f : Nat) :
    ∃ W', (Instr.mapUpdate 67 (.map (some M)) (.int .u8 op) (.func (.func f) #[] #[])).run Try.prog W = .ok () W' ∧ W'.ownsMap Try.prog 5 fnR M (n + 1) (D.put (.int .u8 op) (.lit (.int .i64 (f : Int)))) ∧ W.grownBy W' (some M) :=
  h.update key5 under67 (by unfold maxLen; omega) (key_u8 op h0 h1) rfl
theorem lit_ne {a b : Int} (h : a ≠ b) : Lit.int .u8 a ≠ Lit.int .u8 b := by simpa using h
theorem grown_trans {w1 w2 w3 : World} {r : Option Nat} (h : w1.grownBy w2 r) (k : w2.grownBy w3 r) : w1.grownBy w3 r :=
  ⟨k.os.trans h.os, k.tape.trans h.tape, k.output.trans h.output, Nat.le_trans h.size k.size, fun i hi hn => (k.block i (Nat.lt_of_lt_of_le hi h.size) hn).trans (h.block i hi hn)⟩
set_option maxHeartbeats 8000000 in
theorem pairs_calls (w : World) : Calls Try.prog 30 #[] w fun e w' => ∃ M, e = .returned (.map (some M)) ∧ PM w' M ∧ w.heap.size ≤ M ∧ Below w.heap.size w w' := by
  have hmm := @run_makeMap Try.prog
  have O0 := World.ownsMap_made w Try.prog 5 fnR
  have G0 : w.grownBy (w.alloc (.map #[] 0)) (some w.heap.size) := World.grownBy_alloc w (.map #[] 0) _
  obtain ⟨W1, r1, O1, g1⟩ := pm_put O0 (by decide) 8 (by decide) (by decide) 52
  have G1 := grown_trans G0 g1
  obtain ⟨W2, r2, O2, g2⟩ := pm_put O1 (by decide) 9 (by decide) (by decide) 53
  have G2 := grown_trans G1 g2
  obtain ⟨W3, r3, O3, g3⟩ := pm_put O2 (by decide) 10 (by decide) (by decide) 54
  have G3 := grown_trans G2 g3
  obtain ⟨W4, r4, O4, g4⟩ := pm_put O3 (by decide) 11 (by decide) (by decide) 55
  have G4 := grown_trans G3 g4
  obtain ⟨W5, r5, O5, g5⟩ := pm_put O4 (by decide) 12 (by decide) (by decide) 56
  have G5 := grown_trans G4 g5
  obtain ⟨W6, r6, O6, g6⟩ := pm_put O5 (by decide) 13 (by decide) (by decide) 57
  have G6 := grown_trans G5 g6
  obtain ⟨W7, r7, O7, g7⟩ := pm_put O6 (by decide) 14 (by decide) (by decide) 59
  have G7 := grown_trans G6 g7
  obtain ⟨W8, r8, O8, g8⟩ := pm_put O7 (by decide) 15 (by decide) (by decide) 60
  have G8 := grown_trans G7 g8
  obtain ⟨W9, r9, O9, g9⟩ := pm_put O8 (by decide) 16 (by decide) (by decide) 61
  have G9 := grown_trans G8 g9
  obtain ⟨W10, r10, O10, g10⟩ := pm_put O9 (by decide) 17 (by decide) (by decide) 62
  have G10 := grown_trans G9 g10
  obtain ⟨W11, r11, O11, g11⟩ := pm_put O10 (by decide) 18 (by decide) (by decide) 63
  have G11 := grown_trans G10 g11
  obtain ⟨W12, r12, O12, g12⟩ := pm_put O11 (by decide) 19 (by decide) (by decide) 64
  have G12 := grown_trans G11 g12
  obtain ⟨W13, r13, O13, g13⟩ := pm_put O12 (by decide) 20 (by decide) (by decide) 65
  have G13 := grown_trans G12 g13
  have HP : Aside0 (PM W13 w.heap.size) := ⟨by
    refine ⟨_, 13, O13, fun op h0 h1 => ?_⟩
    have h : op = 8 ∨ op = 9 ∨ op = 10 ∨ op = 11 ∨ op = 12 ∨ op = 13 ∨ op = 14 ∨ op = 15 ∨ op = 16 ∨ op = 17 ∨ op = 18 ∨ op = 19 ∨ op = 20 := by omega
    rcases h with rfl | rfl | rfl | rfl | rfl | rfl | rfl | rfl | rfl | rfl | rfl | rfl | rfl
    · rw [atKey_put_other (lit_ne (by decide)), atKey_put_other (lit_ne (by decide)), atKey_put_other (lit_ne (by decide)), atKey_put_other (lit_ne (by decide)), atKey_put_other (lit_ne (by decide)), atKey_put_other (lit_ne (by decide)), atKey_put_other (lit_ne (by decide)), atKey_put_other (lit_ne (by decide)), atKey_put_other (lit_ne (by decide)), atKey_put_other (lit_ne (by decide)), atKey_put_other (lit_ne (by decide)), atKey_put_other (lit_ne (by decide)), atKey_put_same O0.isMap (key5.key (key_u8 8 (by decide) (by decide)))]; rfl
    · rw [atKey_put_other (lit_ne (by decide)), atKey_put_other (lit_ne (by decide)), atKey_put_other (lit_ne (by decide)), atKey_put_other (lit_ne (by decide)), atKey_put_other (lit_ne (by decide)), atKey_put_other (lit_ne (by decide)), atKey_put_other (lit_ne (by decide)), atKey_put_other (lit_ne (by decide)), atKey_put_other (lit_ne (by decide)), atKey_put_other (lit_ne (by decide)), atKey_put_other (lit_ne (by decide)), atKey_put_same O1.isMap (key5.key (key_u8 9 (by decide) (by decide)))]; rfl
    · rw [atKey_put_other (lit_ne (by decide)), atKey_put_other (lit_ne (by decide)), atKey_put_other (lit_ne (by decide)), atKey_put_other (lit_ne (by decide)), atKey_put_other (lit_ne (by decide)), atKey_put_other (lit_ne (by decide)), atKey_put_other (lit_ne (by decide)), atKey_put_other (lit_ne (by decide)), atKey_put_other (lit_ne (by decide)), atKey_put_other (lit_ne (by decide)), atKey_put_same O2.isMap (key5.key (key_u8 10 (by decide) (by decide)))]; rfl
    · rw [atKey_put_other (lit_ne (by decide)), atKey_put_other (lit_ne (by decide)), atKey_put_other (lit_ne (by decide)), atKey_put_other (lit_ne (by decide)), atKey_put_other (lit_ne (by decide)), atKey_put_other (lit_ne (by decide)), atKey_put_other (lit_ne (by decide)), atKey_put_other (lit_ne (by decide)), atKey_put_other (lit_ne (by decide)), atKey_put_same O3.isMap (key5.key (key_u8 11 (by decide) (by decide)))]; rfl
    · rw [atKey_put_other (lit_ne (by decide)), atKey_put_other (lit_ne (by decide)), atKey_put_other (lit_ne (by decide)), atKey_put_other (lit_ne (by decide)), atKey_put_other (lit_ne (by decide)), atKey_put_other (lit_ne (by decide)), atKey_put_other (lit_ne (by decide)), atKey_put_other (lit_ne (by decide)), atKey_put_same O4.isMap (key5.key (key_u8 12 (by decide) (by decide)))]; rfl
    · rw [atKey_put_other (lit_ne (by decide)), atKey_put_other (lit_ne (by decide)), atKey_put_other (lit_ne (by decide)), atKey_put_other (lit_ne (by decide)), atKey_put_other (lit_ne (by decide)), atKey_put_other (lit_ne (by decide)), atKey_put_other (lit_ne (by decide)), atKey_put_same O5.isMap (key5.key (key_u8 13 (by decide) (by decide)))]; rfl
    · rw [atKey_put_other (lit_ne (by decide)), atKey_put_other (lit_ne (by decide)), atKey_put_other (lit_ne (by decide)), atKey_put_other (lit_ne (by decide)), atKey_put_other (lit_ne (by decide)), atKey_put_other (lit_ne (by decide)), atKey_put_same O6.isMap (key5.key (key_u8 14 (by decide) (by decide)))]; rfl
    · rw [atKey_put_other (lit_ne (by decide)), atKey_put_other (lit_ne (by decide)), atKey_put_other (lit_ne (by decide)), atKey_put_other (lit_ne (by decide)), atKey_put_other (lit_ne (by decide)), atKey_put_same O7.isMap (key5.key (key_u8 15 (by decide) (by decide)))]; rfl
    · rw [atKey_put_other (lit_ne (by decide)), atKey_put_other (lit_ne (by decide)), atKey_put_other (lit_ne (by decide)), atKey_put_other (lit_ne (by decide)), atKey_put_same O8.isMap (key5.key (key_u8 16 (by decide) (by decide)))]; rfl
    · rw [atKey_put_other (lit_ne (by decide)), atKey_put_other (lit_ne (by decide)), atKey_put_other (lit_ne (by decide)), atKey_put_same O9.isMap (key5.key (key_u8 17 (by decide) (by decide)))]; rfl
    · rw [atKey_put_other (lit_ne (by decide)), atKey_put_other (lit_ne (by decide)), atKey_put_same O10.isMap (key5.key (key_u8 18 (by decide) (by decide)))]; rfl
    · rw [atKey_put_other (lit_ne (by decide)), atKey_put_same O11.isMap (key5.key (key_u8 19 (by decide) (by decide)))]; rfl
    · rw [atKey_put_same O12.isMap (key5.key (key_u8 20 (by decide) (by decide)))]; rfl⟩
  have HB : Aside0 (Below w.heap.size w W13) := ⟨⟨G13.os, G13.tape, G13.output, G13.size, fun k hk => G13.block k hk (by simp; omega)⟩⟩
  clear O0 O1 O2 O3 O4 O5 O6 O7 O8 O9 O10 O11 O12 O13 G0 G1 G2 G3 G4 G5 G6 G7 G8 G9 G10 G11 G12 G13 g1 g2 g3 g4 g5 g6 g7 g8 g9 g10 g11 g12 g13
  go_enter Try.func30, Try.ntmps30
  go_wp2
  go_ret
  exact ⟨_, rfl, HP.out, Nat.le_refl _, HB.out⟩
end Go.Proofs.Ytlmpoojpbdmmfaa.H
set_option linter.unusedVariables false
set_option linter.unusedSimpArgs false
namespace Go.Proofs.Ytlmpoojpbdmmfaa.H
open Go.RowKit Go.Proofs.YtlmpoojpbdmmfaaW.PrintWords Go.Proofs.YtlmpoojpbdmmfaaW.PrintLast Go.Proofs.YtlmpoojpbdmmfaaW.PrintMore Go.Maps
/-- A list of numbers that is read at a slice. -/
def RdI (W : World) (A : Option Addr) (xs : List Int) : Prop := (A = none → xs = []) ∧ ∀ ad, A = some ad → ∀ j y, xs[j]? = some y → W.cell? (ad.add j) = some (.int .i64 y)
theorem IR.rd {W : World} {v : Value} {xs : List Int} (h : IR W v xs) : ∃ A cap, v = .slice A xs.length cap ∧ xs.length ≤ cap ∧ RdI W A xs ∧ (A = none → cap = 0) := by
  rcases h.2 with ⟨rfl, h0⟩ | ⟨g, cap, cur, rfl, _, hg, hnc, _, hcs, ht⟩
  · have : xs = [] := List.eq_nil_of_length_eq_zero h0
    subst this
    exact ⟨none, 0, rfl, Nat.le_refl _, ⟨fun _ => rfl, fun ad e => (by cases e)⟩, fun _ => rfl⟩
  · refine ⟨_, cap, rfl, hnc, ⟨fun e => (by cases e), fun ad e j y hj => ?_⟩, fun e => (by cases e)⟩
    cases e
    have hlt : j < xs.length := (List.getElem?_eq_some_iff.1 hj).1
    obtain ⟨g', cap', he, _, _, hc, _, _⟩ := h.cell hlt
    simp only [Value.slice.injEq, Option.some.injEq, Addr.mk.injEq] at he
    obtain ⟨⟨rfl, _, _⟩, _, _⟩ := he
    rw [Addr.add_lit, Nat.zero_add, hc]
    simp [List.getD_eq_getElem?_getD, hj]
theorem RdI.of_C {W : World} {A : Option Addr} {xs : List Int} (h : Kd.C (Kd.int .i64) W A xs.length xs) : RdI W A xs := by
  constructor
  · intro e
    by_cases h0 : xs.length = 0
    · exact List.eq_nil_of_length_eq_zero h0
    · obtain ⟨ad, h1, _⟩ := Kd.at_int h 0 (by omega) (by omega)
      rw [e] at h1
      cases h1
  · intro ad e j y hj
    have hlt : j < xs.length := (List.getElem?_eq_some_iff.1 hj).1
    obtain ⟨ad', h1, h2⟩ := Kd.at_int h (j : Int) (by omega) (by omega)
    rw [e] at h1
    cases h1
    rw [Int.toNat_natCast] at h2
    rw [h2]
    simp [rd, hj]
theorem RdI.below {W W' : World} {A : Option Addr} {xs : List Int} (h : RdI W A xs) (hb : Below W.heap.size W W') : RdI W' A xs := ⟨h.1, fun ad e j y hj => pw_cell_below hb (h.2 ad e j y hj)⟩
set_option maxHeartbeats 4000000 in
set_option maxRecDepth 100000 in
theorem clone_ints {W : World} {A : Option Addr} {xs : List Int} {cap : Nat} (h : RdI W A xs) (hA : A = none → cap = 0) (hlen : xs.length ≤ 500000) :
    Calls Try.prog 28 #[.slice A xs.length cap] W fun e W' => ∃ v', e = .returned v' ∧ IR W' v' xs ∧ (∀ k, v'.ownBlock = some k → W.heap.size ≤ k) ∧ Below W.heap.size W W' := by
  cases A with
  | none =>
    have hx := h.1 rfl
    subst hx
    obtain rfl := hA rfl
    clear h hA hlen
    simp only [List.length_nil]
    have hq := Lib.run_eql_slice_nil (P := Try.prog) W 25 2 none 0 0 0 0 Try.underlying25
    go_enter Try.func28, Try.ntmps28
    go_wp2
    go_ret
    exact ⟨_, rfl, IR.nil _, fun k hk => by simp [Value.ownBlock] at hk, Below.refl _ _⟩
  | some ad =>
    have H := Aside0.mk h
    have HL := Aside0.mk hlen
    have O : Aside0 (IR (W.alloc (.cells #[] (2 : Nat))) (.slice (some ⟨W.heap.size, 0, none⟩) 0 0) []) := ⟨⟨rfl, .inr ⟨W.heap.size, 0, #[], rfl, Nat.zero_le _, heap_alloc_new _ _, Nat.le_refl _, by decide, rfl, rfl⟩⟩⟩
    clear h hA hlen
    have hq := Lib.run_eql_slice_nil (P := Try.prog) W 25 2 (some ad) xs.length cap 0 0 Try.underlying25
    go_enter Try.func28, Try.ntmps28
    go_wp2_with ((with_reducible refine gate_builtin (b := .append) (xs := #[.tmp 5, .tmp 6]) rfl ?_); refine stop_here ?_)
    unfold Stop
    refine wpList_more rfl (.tmp 5) (.tmp 6) rfl xs rfl O.out rfl ?hc ?hl ?_
    case hc => exact fun j y hj => pw_cell_below ((Below.refl _ _).alloc (Nat.le_refl _) _) (H.out.2 ad rfl j y hj)
    case hl => have := HL.out; simp only [List.length_nil]; omega
    intro v' W' hv' hg' ho'
    have V := Aside0.mk hv'
    have G : Aside0 (Below W.heap.size W W') := ⟨((Below.refl _ _).alloc (Nat.le_refl _) (.cells #[] (2 : Nat))).grown hg' (by simp) (fun k e => by have e2 : some W.heap.size = some k := e; have := Option.some.inj e2; omega)⟩
    have N : Aside0 (∀ k, v'.ownBlock = some k → W.heap.size ≤ k) := ⟨fun k hk => by
      rcases ho' with ho' | ⟨k', h1, h2⟩
      · rw [hk] at ho'; have e2 : some k = some W.heap.size := ho'; have := Option.some.inj e2; omega
      · rw [hk] at h1; cases h1; simp at h2; omega⟩
    clear hv' hg' ho'
    go_wp2
    go_ret
    exact ⟨_, rfl, V.out, N.out, G.out⟩
theorem k53_M {w : World} {base : Nat} {ok : Nat → Prop} {x : S53} {cs : List Value} (h : k53.K w x cs) : k53.M w base ok x cs := h
set_option maxHeartbeats 4000000 in
set_option maxRecDepth 100000 in
theorem clone_code {W : World} {A : Option Addr} {l : List S53} {cap : Nat} (h : Kd.C k53 W A l.length l) (hA : A = none → cap = 0) (hlen : l.length ≤ 500000) :
    Calls Try.prog 29 #[.slice A l.length cap] W fun e W' => ∃ v', e = .returned v' ∧ Kd.R k53 53 W' 0 (fun k => W.heap.size ≤ k) v' l ∧ Below W.heap.size W W' := by
  cases A with
  | none =>
    have hx : l = [] := by
      by_cases h0 : l.length = 0
      · exact List.eq_nil_of_length_eq_zero h0
      · obtain ⟨ad, h1, _⟩ := at_T53 h 0 (by omega) (by omega)
        cases h1
    subst hx
    obtain rfl := hA rfl
    clear h hA hlen
    simp only [List.length_nil]
    have hq := Lib.run_eql_slice_nil (P := Try.prog) W 22 53 none 0 0 0 0 Try.underlying22
    go_enter Try.func29, Try.ntmps29
    go_wp2
    go_ret
    exact ⟨_, rfl, Kd.R_nil _ _ _ _ _, Below.refl _ _⟩
  | some ad =>
    have H := Aside0.mk h
    have HL := Aside0.mk hlen
    have O : Aside0 (Kd.R k53 53 (W.alloc (.cells #[] (53 : Nat))) 0 (fun k => W.heap.size ≤ k) (.slice (some ⟨W.heap.size, 0, none⟩) 0 0) []) := ⟨⟨fun k hk => by simp [Value.ownBlock] at hk; omega, [], ⟨rfl, .inr ⟨W.heap.size, 0, #[], rfl, Nat.zero_le _, heap_alloc_new _ _, Nat.le_refl _, by decide, rfl, rfl⟩⟩, Reps.none _ _⟩⟩
    clear h hA hlen
    have hq := Lib.run_eql_slice_nil (P := Try.prog) W 22 53 (some ad) l.length cap 0 0 Try.underlying22
    go_enter Try.func29, Try.ntmps29
    go_wp2_with ((with_reducible refine gate_builtin (b := .append) (xs := #[.tmp 5, .tmp 6]) rfl ?_); refine stop_here ?_)
    unfold Stop
    refine Kd.R_append_rows k53 (Rr := k53.K (W.alloc (.cells #[] (53 : Nat)))) (w0 := W.alloc (.cells #[] (53 : Nat))) 0 rfl (.tmp 5) (.tmp 6) 22 53 (.agg #[(.int .u8 0), (.int .i64 0)]) 16 rfl Try.underlying22 info53 rfl (by decide) (by decide) (.slice (some ⟨W.heap.size, 0, none⟩) 0 0) [] l (some ad) l.length cap _ (fun _ => False) rfl rfl O.out ?hR (fun _ _ h => k53_M h) (fun _ h => h.elim) ?hf (Below.refl _ _) (Nat.zero_le _) ?hl ?_
    case hR => exact Kd.C_below H.out ((Below.refl _ _).alloc (Nat.le_refl _) _)
    case hf => intro k hk; simp at hk; omega
    case hl => have := HL.out; simp only [List.length_nil]; omega
    intro v' W' hv' _ hg' ho'
    have V := Aside0.mk hv'
    have G : Aside0 (Below W.heap.size W W') := ⟨((Below.refl _ _).alloc (Nat.le_refl _) (.cells #[] (53 : Nat))).grown hg' (by simp) (fun k e => by have e2 : some W.heap.size = some k := e; have := Option.some.inj e2; omega)⟩
    clear hv' hg' ho'
    go_wp2
    go_ret
    exact ⟨_, rfl, V.out, G.out⟩
end Go.Proofs.Ytlmpoojpbdmmfaa.H
