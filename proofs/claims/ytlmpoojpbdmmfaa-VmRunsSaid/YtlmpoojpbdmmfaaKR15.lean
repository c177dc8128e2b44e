/- Part 15 of the proof of the law R. The conditions: none. (Its parts: Hx6 P18 SafeB19 Big22.) -/
import Derived.KernelRfl
import Derived.Deep.WholeRow
import Derived.Laws.BitsLemmas
import Derived.Deep.MidRow
import Derived.Test.YtlmpoojpbdmmfaaKR02
import Derived.Test.YtlmpoojpbdmmfaaKR03
import Derived.Test.YtlmpoojpbdmmfaaKR04
import Derived.Test.YtlmpoojpbdmmfaaKR07
import Derived.Test.YtlmpoojpbdmmfaaKR13
import Derived.Test.YtlmpoojpbdmmfaaKR14
section
namespace Go.Proofs.Ytlmpoojpbdmmfaa.H
open Go.RowKit Go.Proofs.YtlmpoojpbdmmfaaW.PrintWords Go.Proofs.YtlmpoojpbdmmfaaW.PrintLast Go.Proofs.YtlmpoojpbdmmfaaW.PrintMore
attribute [local go_sem] max2_int min2_int max_two min_two max_three min_three max_four min_four   -- for this text's walks alone
set_option linter.unusedVariables false
set_option linter.unusedSimpArgs false
mutual
def carillonref18_Cycles.j0 : Nat → Int → Int → Bool → Option (Int)
  | 0, _, _, _ => none
  | k + 1, x0, x3, x4 => if x4 = true then (some 2) else (if x3 = 10 then (some 3) else (if x3 = 11 then (carillonref18_Cycles.j1 k x0 (x3 == 11)) else (carillonref18_Cycles.j1 k x0 (x3 == 12))))
def carillonref18_Cycles.j1 : Nat → Int → Bool → Option (Int)
  | 0, _, _ => none
  | k + 1, x0, x10 => if x10 = true then (some 8) else ((carillonref18_Size.f k x0).bind fun t145 => (if t145 < 0 then (some 0) else (some 1)))
end
def carillonref18_Cycles.f (k : Nat) (a0 : Int) : Option (Int) := if a0 = 4 then (carillonref18_Cycles.j0 k a0 a0 (a0 == 4)) else (if a0 = 5 then (carillonref18_Cycles.j0 k a0 a0 (a0 == 5)) else (carillonref18_Cycles.j0 k a0 a0 (a0 == 22)))
theorem carillonref18_Cycles.mono_l : ∀ k, (∀ y0 y1 y2, LeO (carillonref18_Cycles.j0 k y0 y1 y2) (carillonref18_Cycles.j0 (k + 1) y0 y1 y2)) ∧ (∀ y0 y1, LeO (carillonref18_Cycles.j1 k y0 y1) (carillonref18_Cycles.j1 (k + 1) y0 y1))
  | 0 => ⟨fun _ _ _ r h => by simp [carillonref18_Cycles.j0] at h, fun _ _ r h => by simp [carillonref18_Cycles.j1] at h⟩
  | k + 1 => by
    obtain ⟨ih0, ih1⟩ := carillonref18_Cycles.mono_l k
    refine ⟨?_, ?_⟩
    · intro y0 y1 y2
      unfold carillonref18_Cycles.j0
      repeat' first
      | (with_reducible exact ih0 _ _ _)
      | (with_reducible exact ih1 _ _)
      | (with_reducible exact carillonref18_Size.mono _ _)
      | (with_reducible exact LeO.refl _)
      | (with_reducible exact LeO.none _)
      | (with_reducible refine LeO.ite ?_ ?_)
      | (with_reducible refine LeO.bind ?_ (fun _ => ?_))
      | exact ih0 _ _ _
      | exact ih1 _ _
      | exact carillonref18_Size.mono _ _
      | exact LeO.none _
      | refine LeO.ite ?_ ?_
      | refine LeO.bind ?_ (fun _ => ?_)
    · intro y0 y1
      unfold carillonref18_Cycles.j1
      repeat' first
      | (with_reducible exact ih0 _ _ _)
      | (with_reducible exact ih1 _ _)
      | (with_reducible exact carillonref18_Size.mono _ _)
      | (with_reducible exact LeO.refl _)
      | (with_reducible exact LeO.none _)
      | (with_reducible refine LeO.ite ?_ ?_)
      | (with_reducible refine LeO.bind ?_ (fun _ => ?_))
      | exact ih0 _ _ _
      | exact ih1 _ _
      | exact carillonref18_Size.mono _ _
      | exact LeO.none _
      | refine LeO.ite ?_ ?_
      | refine LeO.bind ?_ (fun _ => ?_)
theorem carillonref18_Cycles.mono : ∀ a0 k, LeO (carillonref18_Cycles.f k a0) (carillonref18_Cycles.f (k + 1) a0) := by
  intro a0 k
  obtain ⟨ih0, ih1⟩ := carillonref18_Cycles.mono_l k
  unfold carillonref18_Cycles.f
  repeat' first
      | (with_reducible exact ih0 _ _ _)
      | (with_reducible exact ih1 _ _)
      | (with_reducible exact carillonref18_Size.mono _ _)
      | (with_reducible exact LeO.refl _)
      | (with_reducible exact LeO.none _)
      | (with_reducible refine LeO.ite ?_ ?_)
      | (with_reducible refine LeO.bind ?_ (fun _ => ?_))
      | exact ih0 _ _ _
      | exact ih1 _ _
      | exact carillonref18_Size.mono _ _
      | exact LeO.none _
      | refine LeO.ite ?_ ?_
      | refine LeO.bind ?_ (fun _ => ?_)
set_option maxHeartbeats 8000000 in
set_option maxRecDepth 100000 in
theorem carillonref18_Cycles.calls (k : Nat) (a0 : Int) (r : Int) (w : World) (h : carillonref18_Cycles.f k a0 = some r) :
    Calls Try.prog 35 #[.int .u8 a0] w fun e w' => e = .returned (.int .i64 r) ∧ Drawn0 w w' := by
  have H : (if a0 = 4 then (carillonref18_Cycles.j0 k a0 a0 (a0 == 4)) else (if a0 = 5 then (carillonref18_Cycles.j0 k a0 a0 (a0 == 5)) else (carillonref18_Cycles.j0 k a0 a0 (a0 == 22)))) = some r := h
  clear h
  have HC2 := Aside0.mk H
  clear H
  go_enter Try.func35, Try.ntmps35
  go_upto_if 4 with (fail)
  go_cut [4] (fun v4 wc => ∃ (kq : Nat) (x4_1 : Bool), v4 = .bool x4_1 ∧ Aside0 (carillonref18_Cycles.j0 kq a0 a0 x4_1 = some r) ∧ Aside0 (kq ≤ k) ∧ Drawn0 w wc)
  case first =>
    have H := HC2.out
    clear HC2
    by_cases c3 : a0 = 4
    · rw [if_pos c3] at H
      have c3b0 : (a0 == 4) = true := beq_iff_eq.mpr c3
      have c3b1 : (a0 != 4) = false := bne_eq_false_iff_eq.mpr c3
      clear c3
      (first | rw [c3b0] | (simp only [i64_w, i32_w]; rw [c3b0]) | skip)
      have H' := Aside0.mk H
      clear H
      go_wp2
      go_meet
      case rel => exact ⟨_, ((a0 == 4)), (by first | rfl | (simp; done) | (simp [*]; done)), H', ⟨by first | omega | exact Nat.le_refl _⟩, by repeat (first | exact Drawn0.refl _ | apply Drawn0.step)⟩
    · rw [if_neg c3] at H
      have c3b0 : (a0 == 4) = false := beq_eq_false_iff_ne.mpr c3
      have c3b1 : (a0 != 4) = true := bne_iff_ne.mpr c3
      (first | rw [c3b0] | (simp only [i64_w, i32_w]; rw [c3b0]) | skip)
      by_cases c4 : a0 = 5
      · rw [if_pos c4] at H
        have c4b0 : (a0 == 5) = true := beq_iff_eq.mpr c4
        have c4b1 : (a0 != 5) = false := bne_eq_false_iff_eq.mpr c4
        clear c4
        have H' := Aside0.mk H
        clear H
        go_wp2
        go_meet
        case rel => exact ⟨_, ((a0 == 5)), (by first | rfl | (simp; done) | (simp [*]; done)), H', ⟨by first | omega | exact Nat.le_refl _⟩, by repeat (first | exact Drawn0.refl _ | apply Drawn0.step)⟩
      · rw [if_neg c4] at H
        have c4b0 : (a0 == 5) = false := beq_eq_false_iff_ne.mpr c4
        have c4b1 : (a0 != 5) = true := bne_iff_ne.mpr c4
        have H' := Aside0.mk H
        clear H
        go_wp2
        go_meet
        case rel => exact ⟨_, ((a0 == 22)), (by first | rfl | (simp; done) | (simp [*]; done)), H', ⟨by first | omega | exact Nat.le_refl _⟩, by repeat (first | exact Drawn0.refl _ | apply Drawn0.step)⟩
  case rest =>
    clear HC2
    try clear p2
    try clear c3
    try clear c3b0
    try clear c3b1
    try clear c4
    try clear c4b0
    try clear c4b1
    obtain ⟨kq, x4_1, rfl, HA, HJ1, ⟨mc1, rfl⟩⟩ := hcut
    cases kq with
    | zero => exact absurd HA.out (by simp [carillonref18_Cycles.j0])
    | succ kj1 =>
      have H := HA.out
      clear HA
      simp only [carillonref18_Cycles.j0] at H
      by_cases c5 : x4_1 = true
      · subst c5
        have H1 : (some 2) = some r := by rw [if_pos rfl] at H; exact H
        clear H
        have H := H1
        clear H1
        obtain rfl := Option.some.inj H
        go_wp2
        go_ret
        exact ⟨by first | rfl | (simp; done) | (simp [*]; done), by repeat (first | exact Drawn0.refl _ | apply Drawn0.step)⟩
      · replace c5 := Bool.eq_false_iff.mpr c5
        subst c5
        have H1 : (if a0 = 10 then (some 3) else (if a0 = 11 then (carillonref18_Cycles.j1 kj1 a0 (a0 == 11)) else (carillonref18_Cycles.j1 kj1 a0 (a0 == 12)))) = some r := by rw [if_neg (show ¬ (false = true) by decide)] at H; exact H
        clear H
        have H := H1
        clear H1
        by_cases c6 : a0 = 10
        · rw [if_pos c6] at H
          have c6b0 : (a0 == 10) = true := beq_iff_eq.mpr c6
          have c6b1 : (a0 != 10) = false := bne_eq_false_iff_eq.mpr c6
          clear c6
          obtain rfl := Option.some.inj H
          go_wp2
          go_ret
          exact ⟨by first | rfl | (simp; done) | (simp [*]; done), by repeat (first | exact Drawn0.refl _ | apply Drawn0.step)⟩
        · rw [if_neg c6] at H
          have c6b0 : (a0 == 10) = false := beq_eq_false_iff_ne.mpr c6
          have c6b1 : (a0 != 10) = true := bne_iff_ne.mpr c6
          have HC7 := Aside0.mk H
          clear H
          go_upto_if 10 with (fail)
          go_cut [10] (fun v10 wc => ∃ (kq : Nat) (x10_6 : Bool), v10 = .bool x10_6 ∧ Aside0 (carillonref18_Cycles.j1 kq a0 x10_6 = some r) ∧ Aside0 (kq ≤ kj1) ∧ Drawn0 w wc)
          case first =>
            have H := HC7.out
            clear HC7
            by_cases c8 : a0 = 11
            · rw [if_pos c8] at H
              have c8b0 : (a0 == 11) = true := beq_iff_eq.mpr c8
              have c8b1 : (a0 != 11) = false := bne_eq_false_iff_eq.mpr c8
              clear c8
              (first | rw [c8b0] | (simp only [i64_w, i32_w]; rw [c8b0]) | skip)
              have H' := Aside0.mk H
              clear H
              go_wp2
              go_meet
              case rel => exact ⟨_, ((a0 == 11)), (by first | rfl | (simp; done) | (simp [*]; done)), H', ⟨by have := HJ1.out; first | omega | exact Nat.le_refl _⟩, by repeat (first | exact Drawn0.refl _ | apply Drawn0.step)⟩
            · rw [if_neg c8] at H
              have c8b0 : (a0 == 11) = false := beq_eq_false_iff_ne.mpr c8
              have c8b1 : (a0 != 11) = true := bne_iff_ne.mpr c8
              (first | rw [c8b0] | (simp only [i64_w, i32_w]; rw [c8b0]) | skip)
              have H' := Aside0.mk H
              clear H
              go_wp2
              go_meet
              case rel => exact ⟨_, ((a0 == 12)), (by first | rfl | (simp; done) | (simp [*]; done)), H', ⟨by have := HJ1.out; first | omega | exact Nat.le_refl _⟩, by repeat (first | exact Drawn0.refl _ | apply Drawn0.step)⟩
          case rest =>
            clear HC7
            try clear c1
            try clear p2
            try clear c3
            try clear c3b0
            try clear c3b1
            try clear c4
            try clear c4b0
            try clear c4b1
            try clear c5
            try clear c6
            try clear c6b0
            try clear c6b1
            try clear c8
            try clear c8b0
            try clear c8b1
            try clear p2
            obtain ⟨kq, x10_6, rfl, HA, HJ6, ⟨mc6, rfl⟩⟩ := hcut
            cases kq with
            | zero => exact absurd HA.out (by simp [carillonref18_Cycles.j1])
            | succ kj6 =>
              have H := HA.out
              clear HA
              simp only [carillonref18_Cycles.j1] at H
              by_cases c9 : x10_6 = true
              · subst c9
                have H1 : (some 8) = some r := by rw [if_pos rfl] at H; exact H
                clear H
                have H := H1
                clear H1
                obtain rfl := Option.some.inj H
                go_wp2
                go_ret
                exact ⟨by first | rfl | (simp; done) | (simp [*]; done), by repeat (first | exact Drawn0.refl _ | apply Drawn0.step)⟩
              · replace c9 := Bool.eq_false_iff.mpr c9
                subst c9
                have H1 : ((carillonref18_Size.f kj6 a0).bind fun t145 => (if t145 < 0 then (some 0) else (some 1))) = some r := by rw [if_neg (show ¬ (false = true) by decide)] at H; exact H
                clear H
                have H := H1
                clear H1
                replace H := Option.bind_eq_some_iff.mp H
                obtain ⟨t145, A100, H⟩ := H
                replace H : (if t145 < 0 then (some 0) else (some 1)) = some r := H
                have A10 := Aside0.mk A100
                clear A100
                by_cases c11 : t145 < 0
                · rw [if_pos c11] at H
                  have c11b0 : decide (t145 < 0) = true := decide_eq_true c11
                  clear c11
                  obtain rfl := Option.some.inj H
                  go_wp2_with (first | ((with_reducible refine gate_callee (f := 69) rfl ?_); refine goesL_ (some 14) rfl rfl Try.func69 (by kernel_rfl) rfl #[.int .u8 a0] rfl (by (try simp only [List.map_toArray, List.map_cons, List.map_nil]); first | done | rfl | (simp only [List.length_drop, List.length_take]; rfl)) ?_; (with_reducible refine (carillonref18_Size.calls kj6 a0 t145 _ A10.out).mono ?_); rintro e w' ⟨rfl, ⟨nd, rfl⟩⟩; refine ⟨_, rfl, ?_⟩))
                  go_ret
                  exact ⟨by first | rfl | (simp; done) | (simp [*]; done), by repeat (first | exact Drawn0.refl _ | apply Drawn0.step)⟩
                · rw [if_neg c11] at H
                  have c11b0 : decide (t145 < 0) = false := decide_eq_false c11
                  clear c11
                  obtain rfl := Option.some.inj H
                  go_wp2_with (first | ((with_reducible refine gate_callee (f := 69) rfl ?_); refine goesL_ (some 14) rfl rfl Try.func69 (by kernel_rfl) rfl #[.int .u8 a0] rfl (by (try simp only [List.map_toArray, List.map_cons, List.map_nil]); first | done | rfl | (simp only [List.length_drop, List.length_take]; rfl)) ?_; (with_reducible refine (carillonref18_Size.calls kj6 a0 t145 _ A10.out).mono ?_); rintro e w' ⟨rfl, ⟨nd, rfl⟩⟩; refine ⟨_, rfl, ?_⟩))
                  go_ret
                  exact ⟨by first | rfl | (simp; done) | (simp [*]; done), by repeat (first | exact Drawn0.refl _ | apply Drawn0.step)⟩
end Go.Proofs.Ytlmpoojpbdmmfaa.H
end
section
set_option linter.unusedVariables false
set_option linter.unusedSimpArgs false
namespace Go.Proofs.Ytlmpoojpbdmmfaa.H
open Go.RowKit Go.Proofs.YtlmpoojpbdmmfaaW.PrintWords Go.Proofs.YtlmpoojpbdmmfaaW.PrintLast Go.Proofs.YtlmpoojpbdmmfaaW.PrintMore
theorem Ev.if_pos {α : Type} {c : Prop} [Decidable c] {g f : Nat → Option α} {r : α} (h : c) (k : Ev g r) : Ev (fun n => if c then g n else f n) r := Ev.congr (fun n => _root_.if_pos h) k
theorem Ev.if_neg {α : Type} {c : Prop} [Decidable c] {g f : Nat → Option α} {r : α} (h : ¬ c) (k : Ev f r) : Ev (fun n => if c then g n else f n) r := Ev.congr (fun n => _root_.if_neg h) k
theorem ev_rsize (op : Int) : Ev (fun k => carillonref18_Size.f k op) (if isOp op = true then (sz op : Int) else -1) := by
  refine ⟨2, fun k hk => ?_⟩
  obtain ⟨k, rfl⟩ : ∃ m, k = m + 2 := ⟨k - 2, by omega⟩
  simp only [carillonref18_Size.f, carillonref18_Size.j0, carillonref18_Size.j1, sz, isOp]
  by_cases h1 : op = 1
  · subst h1; simp [cyc, isOp]
  by_cases h2 : op = 2
  · subst h2; simp [cyc, isOp]
  by_cases h3 : op = 3
  · subst h3; simp [cyc, isOp]
  by_cases h21 : op = 21
  · subst h21; simp [cyc, isOp]
  by_cases h22 : op = 22
  · subst h22; simp [cyc, isOp]
  by_cases h4 : op = 4
  · subst h4; simp [cyc, isOp]
  by_cases h5 : op = 5
  · subst h5; simp [cyc, isOp]
  simp only [h1, h2, h3, h21, h22, h4, h5, if_false, false_or, beq_eq_false_iff_ne.mpr h22, beq_eq_false_iff_ne.mpr h5]
  by_cases g : op < 1
  · simp [g] <;> omega
  · by_cases g2 : op > 23
    · simp [g, g2] <;> omega
    · simp [g, g2] <;> omega
theorem ev_rmay (op a : Int) : Ev (fun k => carillonref18_May.f k op a) (mayB op a) := by
  obtain ⟨K, hK⟩ := ev_rsize op
  refine ⟨K + 2, fun k hk => ?_⟩
  obtain ⟨k, rfl⟩ : ∃ m, k = m + 2 := ⟨k - 2, by omega⟩
  have hs := hK k (by omega)
  simp only [carillonref18_May.f, carillonref18_May.j0, carillonref18_May.j1, hs, Option.bind_some]
  simp only [sz, isOp, mayB]
  by_cases h1 : op = 1
  · subst h1; simp [cyc, isOp]
  by_cases h2 : op = 2
  · subst h2; simp; split <;> simp_all <;> omega
  by_cases h3 : op = 3
  · subst h3; simp; split <;> simp_all <;> omega
  by_cases h21 : op = 21
  · subst h21; simp; split <;> simp_all <;> omega
  by_cases h22 : op = 22
  · subst h22; simp; split <;> simp_all <;> omega
  by_cases h4 : op = 4
  · subst h4; simp; split <;> simp_all <;> omega
  by_cases h5 : op = 5
  · subst h5; simp; split <;> simp_all <;> omega
  simp only [h1, h2, h3, h21, h22, h4, h5, if_false, false_or, beq_eq_false_iff_ne.mpr h3, beq_eq_false_iff_ne.mpr h5]
  by_cases g : 1 ≤ op ∧ op ≤ 23
  · by_cases ha : a = 0 <;> simp [g, ha]
  · simp [g] <;> omega
theorem ev_rcycles (op : Int) : Ev (fun k => carillonref18_Cycles.f k op) (cyc op) := by
  obtain ⟨K, hK⟩ := ev_rsize op
  refine ⟨K + 2, fun k hk => ?_⟩
  obtain ⟨k, rfl⟩ : ∃ m, k = m + 2 := ⟨k - 2, by omega⟩
  have hs := hK k (by omega)
  simp only [carillonref18_Cycles.f, carillonref18_Cycles.j0, carillonref18_Cycles.j1, hs, Option.bind_some]
  simp only [isOp, cyc]
  by_cases h4 : op = 4
  · subst h4; simp [cyc, isOp]
  by_cases h5 : op = 5
  · subst h5; simp [cyc, isOp]
  by_cases h22 : op = 22
  · subst h22; simp [cyc, isOp]
  by_cases h10 : op = 10
  · subst h10; simp [cyc, isOp]
  by_cases h11 : op = 11
  · subst h11; simp [cyc, isOp]
  by_cases h12 : op = 12
  · subst h12; simp [cyc, isOp]
  simp only [h4, h5, h22, h10, h11, h12, if_false, false_or, beq_eq_false_iff_ne.mpr h22, beq_eq_false_iff_ne.mpr h12]
  by_cases g : 1 ≤ op ∧ op ≤ 23
  · simp [g] <;> omega
  · simp [g] <;> omega
end Go.Proofs.Ytlmpoojpbdmmfaa.H
end
section
set_option linter.unusedVariables false
set_option linter.unusedSimpArgs false
namespace Go.Proofs.Ytlmpoojpbdmmfaa.H
open Go.RowKit Go.Proofs.YtlmpoojpbdmmfaaW.PrintWords Go.Proofs.YtlmpoojpbdmmfaaW.PrintLast Go.Proofs.YtlmpoojpbdmmfaaW.PrintMore
theorem ev_reff (op : Int) : Ev (fun k => carillonref19_Effect.f k op) (tks op, gvs op) := by
  refine ⟨3, fun k hk => ?_⟩
  obtain ⟨k, rfl⟩ : ∃ m, k = m + 3 := ⟨k - 3, by omega⟩
  clear hk
  by_cases h : 1 ≤ op ∧ op ≤ 23
  · have h1 : op = 1 ∨ op = 2 ∨ op = 3 ∨ op = 4 ∨ op = 5 ∨ op = 6 ∨ op = 7 ∨ op = 8 ∨ op = 9 ∨ op = 10 ∨ op = 11 ∨ op = 12 ∨ op = 13 ∨ op = 14 ∨ op = 15 ∨ op = 16 ∨ op = 17 ∨ op = 18 ∨ op = 19 ∨ op = 20 ∨ op = 21 ∨ op = 22 ∨ op = 23 := by omega
    rcases h1 with rfl | rfl | rfl | rfl | rfl | rfl | rfl | rfl | rfl | rfl | rfl | rfl | rfl | rfl | rfl | rfl | rfl | rfl | rfl | rfl | rfl | rfl | rfl <;> rfl
  · have e : ∀ c : Int, 1 ≤ c → c ≤ 23 → (op = c) = False := fun c h1 h2 => eq_false (by omega)
    have e' : ∀ c : Int, 1 ≤ c → c ≤ 23 → (op == c) = false := fun c h1 h2 => beq_eq_false_iff_ne.mpr (by omega)
    have t1 : tks op = 0 := by unfold tks; rw [if_neg (by omega), if_neg (by omega)]
    have t2 : gvs op = 0 := by unfold gvs; rw [if_neg (by omega), if_neg (by omega)]
    rw [t1, t2]
    simp only [carillonref19_Effect.f, carillonref19_Effect.j0, carillonref19_Effect.j1, carillonref19_Effect.j2, e 1 (by decide) (by decide), e 2 (by decide) (by decide), e' 4 (by decide) (by decide), e 3 (by decide) (by decide), e 5 (by decide) (by decide), e' 22 (by decide) (by decide), e 6 (by decide) (by decide), e' 7 (by decide) (by decide), if_false, Bool.false_eq_true]
    by_cases g : op ≥ 8
    · rw [if_pos g, if_neg (by omega)]
    · rw [if_neg g]
end Go.Proofs.Ytlmpoojpbdmmfaa.H
end
section
set_option linter.unusedVariables false
set_option linter.unusedSimpArgs false
namespace Go.Proofs.Ytlmpoojpbdmmfaa.H
open Go.RowKit Go.Proofs.YtlmpoojpbdmmfaaW.PrintWords Go.Proofs.YtlmpoojpbdmmfaaW.PrintLast Go.Proofs.YtlmpoojpbdmmfaaW.PrintMore
theorem zero117 (w : World) : (zeroValue 117).run Try.prog w = .ok (.agg #[.int .u64 0, .int .u64 0, .int .u64 0, .int .u64 0, .bool false]) w := by kernel_rfl
theorem zero115 (w : World) : (zeroValue 115).run Try.prog w = .ok (.agg #[.int .u64 0, .int .u64 0, .int .u64 0, .int .u64 0]) w := by kernel_rfl
theorem wraps_u64 (n : Int) (h₀ : 0 ≤ n) (h₁ : n < 2 ^ 64) : IntKind.u64.wrap n = n := by rw [IntKind.wrap_u64]; omega
theorem and32 {x : Int} (h0 : 0 ≤ x) (h1 : x < 18446744073709551616) : Go.bits .and .u64 x 4294967295 = x % 4294967296 := bits_mask .u64 64 (by decide) wraps_u64 32 (by decide) x h0 h1
set_option maxHeartbeats 4000000 in
theorem of_calls (x u d0 d1 : Int) (hu : IntKind.u64.wrap (if x < 0 then -IntKind.u64.wrap x else x) = u) (h0 : Go.bits .and .u64 u 4294967295 = d0) (h1 : u / 4294967296 = d1) (w : World) : Calls Try.prog 78 #[.int .i64 x] w fun e w' => e = .returned (.agg #[.int .u64 d0, .int .u64 d1, .int .u64 0, .int .u64 0, .bool (decide (x < 0))]) ∧ Below w.heap.size w w' := by
  have hz := zero117
  have hz5 := zero115
  by_cases hn : x < 0
  · have e1 : decide (x < 0) = true := decide_eq_true hn
    rw [if_pos hn] at hu
    go_enter Try.func78, Try.ntmps78
    go_wp2
    exact bodyPost_ret (v := .agg #[.int .u64 d0, .int .u64 d1, .int .u64 0, .int .u64 0, .bool (decide (x < 0))]) (by simp [results, Try.results78, go_sem, hu, h0, h1, e1]) rfl ⟨rfl, (Below.refl _ _).alloc (Nat.le_refl _) _⟩
  · have e1 : decide (x < 0) = false := decide_eq_false hn
    rw [if_neg hn] at hu
    go_enter Try.func78, Try.ntmps78
    go_wp2
    exact bodyPost_ret (v := .agg #[.int .u64 d0, .int .u64 d1, .int .u64 0, .int .u64 0, .bool (decide (x < 0))]) (by simp [results, Try.results78, go_sem, hu, h0, h1, e1]) rfl ⟨by rw [e1], (Below.refl _ _).alloc (Nat.le_refl _) _⟩
set_option maxHeartbeats 4000000 in
theorem round_calls (d0 d1 d2 d3 u r : Int) (n : Bool) (hu : Go.bits .or .u64 d0 (IntKind.u64.wrap (d1 * 4294967296)) = u) (hr : IntKind.i64.wrap (if n = true then IntKind.u64.wrap (-u) else u) = r) (w : World) : Calls Try.prog 81 #[.agg #[.int .u64 d0, .int .u64 d1, .int .u64 d2, .int .u64 d3, .bool n]] w fun e w' => e = .returned (.int .i64 r) ∧ Below w.heap.size w w' := by
  have hu117 := Try.underlying117
  have B := Aside0.mk ((Below.refl w.heap.size w).alloc (Nat.le_refl _) (.cells #[.int .u64 d0, .int .u64 d1, .int .u64 d2, .int .u64 d3, .bool n] (117 : Nat)))
  cases n with
  | true =>
    rw [if_pos rfl] at hr
    go_enter Try.func81, Try.ntmps81
    go_wp2
    go_ret
    exact ⟨rfl, B.out⟩
  | false =>
    rw [if_neg (by simp)] at hr
    go_enter Try.func81, Try.ntmps81
    go_wp2
    go_ret
    exact ⟨rfl, B.out⟩
theorem under115 : Try.prog.underlying 115 = some (.array 4 95) := by kernel_rfl
theorem inf95 : (Try.prog.info? 95).map (·.size) = some 1 := by kernel_rfl
theorem guard115 : Try.prog.eqGuardType Try.prog.depth 115 = false := by kernel_rfl
theorem part_u64 (xs : List Int) (i : Nat) (hi : i < xs.length) (w : World) : (part 95 (xs.map (Value.int .u64)).toArray i).run Try.prog w = .ok (.int .u64 (xs.getD i 0)) w := by
  have h4 : (isAgg 95).run Try.prog w = .ok false w := by
    unfold isAgg; rw [Sem.run_bind, run_underlying Try.underlying95 w]; rfl
  simp [part, Sem.run_bind, h4, hi, List.getD_eq_getElem?_getD]
theorem run_equal115 (a0 a1 a2 a3 : Int) (d : Nat) (w : World) :
    (Op.equalIn (d+2) 115 (.agg ([a0, a1, a2, a3].map (Value.int .u64)).toArray) (.agg ([0, 0, 0, 0].map (Value.int .u64)).toArray)).run Try.prog w = .ok (a0 == 0 && a1 == 0 && a2 == 0 && a3 == 0) w := by
  rw [Op.equalIn]
  simp only [Sem.run_bind, run_underlying under115, Result.andThen_ok]
  have hs : (Go.sizeOf 95).run Try.prog w = .ok 1 w := by
    cases hq : Try.prog.info? 95 with
    | none => have := inf95; simp [hq] at this
    | some i => have := inf95; simp [hq] at this; simp [sizeOf, typeInfo, hq, this]
  simp only [hs, Result.andThen_ok, Nat.mul_one]
  rw [Std.Legacy.Range.forIn_eq_forIn_range']
  simp only [Std.Legacy.Range.size, Nat.sub_zero, Nat.add_sub_cancel, Nat.div_one]
  have hr : List.range' 0 4 1 = [0, 1, 2, 3] := by decide
  rw [hr]
  have p0 := part_u64 [a0, a1, a2, a3] 0 (by simp) w
  have p1 := part_u64 [a0, a1, a2, a3] 1 (by simp) w
  have p2 := part_u64 [a0, a1, a2, a3] 2 (by simp) w
  have p3 := part_u64 [a0, a1, a2, a3] 3 (by simp) w
  have q0 := part_u64 [0, 0, 0, 0] 0 (by simp) w
  have q1 := part_u64 [0, 0, 0, 0] 1 (by simp) w
  have q2 := part_u64 [0, 0, 0, 0] 2 (by simp) w
  have q3 := part_u64 [0, 0, 0, 0] 3 (by simp) w
  have e0 := fun a b => run_equalIn_int (P := Try.prog) (w := w) d 95 .u64 .u64 a b Try.underlying95
  simp only [List.map_cons, List.map_nil, List.getD_cons_zero, List.getD_cons_succ] at p0 p1 p2 p3 q0 q1 q2 q3 ⊢
  simp only [List.forIn_cons, List.forIn_nil, Sem.run_bind, p0, q0, Result.andThen_ok, e0]
  by_cases c0 : a0 = 0
  · subst c0
    simp only [beq_self_eq_true, Bool.not_true, Bool.false_eq_true, if_false, Sem.run_pure, Result.andThen_ok, Sem.run_bind, p1, q1, e0]
    by_cases c1 : a1 = 0
    · subst c1
      simp only [beq_self_eq_true, Bool.not_true, Bool.false_eq_true, if_false, Sem.run_pure, Result.andThen_ok, Sem.run_bind, p2, q2, e0]
      by_cases c2 : a2 = 0
      · subst c2
        simp only [beq_self_eq_true, Bool.not_true, Bool.false_eq_true, if_false, Sem.run_pure, Result.andThen_ok, Sem.run_bind, p3, q3, e0]
        by_cases c3 : a3 = 0
        · subst c3
          simp
        · have : (a3 == 0) = false := by simpa using c3
          simp [this]
      · have : (a2 == 0) = false := by simpa using c2
        simp [this]
    · have : (a1 == 0) = false := by simpa using c1
      simp [this]
  · have : (a0 == 0) = false := by simpa using c0
    simp [this]
theorem wpList_eql115 {ops : Array Oper} {rest : List Oper} {op : Oper} {a : Act} {w : World} {Q : Exit → Act → World → Prop} (hgd : op.guard = none) (x y : Operand) (ho : op.op = .binOp .eql 115 x y 115) {a0 a1 a2 a3 : Int}
    (hx : a.eval x = .agg #[.int .u64 a0, .int .u64 a1, .int .u64 a2, .int .u64 a3]) (hy : a.eval y = .agg #[.int .u64 0, .int .u64 0, .int .u64 0, .int .u64 0])
    (h : wpList Try.prog ops Q rest (a.put op.dst (.bool (a0 == 0 && a1 == 0 && a2 == 0 && a3 == 0))) w) : wpList Try.prog ops Q (op :: rest) a w := by
  refine wpList_plain hgd fun _ hK => ?_
  unfold Oper.wp execOp
  have hg := run_eqGuard_agg (P := Try.prog) w .eql 115 x y #[.int .u64 a0, .int .u64 a1, .int .u64 a2, .int .u64 a3] #[.int .u64 0, .int .u64 0, .int .u64 0, .int .u64 0] guard115
  have he : (binOp .eql 115 (.agg #[.int .u64 a0, .int .u64 a1, .int .u64 a2, .int .u64 a3]) (.agg #[.int .u64 0, .int .u64 0, .int .u64 0, .int .u64 0])).run Try.prog w = .ok (.bool (a0 == 0 && a1 == 0 && a2 == 0 && a3 == 0)) w := by
    simp only [binOp, Op.equal, Sem.run_bind]
    rw [show Op.maxDepth = 9998 + 2 from rfl]
    have := run_equal115 a0 a1 a2 a3 9998 w
    simp only [List.map_cons, List.map_nil] at this
    rw [this]
    rfl
  simp only [ho, hx, hy, Sem.run_bind, hg, Result.andThen_ok, he]
  exact hK _ _ h
set_option maxHeartbeats 4000000 in
theorem zero_calls (d0 d1 d2 d3 : Int) (n : Bool) (w : World) : Calls Try.prog 82 #[.agg #[.int .u64 d0, .int .u64 d1, .int .u64 d2, .int .u64 d3, .bool n]] w fun e w' => e = .returned (.bool (d0 == 0 && d1 == 0 && d2 == 0 && d3 == 0)) ∧ Below w.heap.size w w' := by
  have hu117 := Try.underlying117
  have hz5 := zero115
  have B := Aside0.mk ((Below.refl w.heap.size w).alloc (Nat.le_refl _) (.cells #[.int .u64 d0, .int .u64 d1, .int .u64 d2, .int .u64 d3, .bool n] (117 : Nat)))
  go_enter Try.func82, Try.ntmps82
  go_wp2_with ((with_reducible refine gate_ (.binOp .eql 115 (.tmp 4) (.tmp 5) 115) rfl ?_); refine wpList_eql115 rfl (.tmp 4) (.tmp 5) rfl rfl rfl ?_)
  go_ret
  exact ⟨rfl, B.out⟩
theorem bcells {W : World} {g : Nat} {d0 d1 d2 d3 : Int} {n : Bool} (h : W.heap[g]? = some (.cells #[.int .u64 d0, .int .u64 d1, .int .u64 d2, .int .u64 d3, .bool n] (117 : Nat) (0, 0))) : W.cell? ⟨g, 0, none⟩ = some (.int .u64 d0) ∧ W.cell? ⟨g, 1, none⟩ = some (.int .u64 d1) ∧ W.cell? ⟨g, 2, none⟩ = some (.int .u64 d2) ∧ W.cell? ⟨g, 3, none⟩ = some (.int .u64 d3) ∧ W.cell? ⟨g, 4, none⟩ = some (.bool n) ∧ (∀ j, W.frozen? ⟨g, j, none⟩ = false) := by simp [World.cell?, World.frozen?, h]
set_option maxHeartbeats 4000000 in
theorem signed_calls (d0 d1 d2 d3 : Int) (n g : Bool) (w : World) : Calls Try.prog 79 #[.agg #[.int .u64 d0, .int .u64 d1, .int .u64 d2, .int .u64 d3, .bool n], .bool g] w fun e w' => e = .returned (.agg #[.int .u64 d0, .int .u64 d1, .int .u64 d2, .int .u64 d3, .bool (g && !(d0 == 0 && d1 == 0 && d2 == 0 && d3 == 0))]) ∧ Below w.heap.size w w' := by
  have hu117 := Try.underlying117
  have hz := zero117
  cases g with
  | false =>
    go_enter Try.func79, Try.ntmps79
    go_wp2
    exact bodyPost_ret (v := .agg #[.int .u64 d0, .int .u64 d1, .int .u64 d2, .int .u64 d3, .bool false]) (by simp [results, Try.results79, go_sem]) rfl ⟨rfl, ((Below.refl _ _).alloc (Nat.le_refl _) _).alloc (by simp) _⟩
  | true =>
    go_enter Try.func79, Try.ntmps79
    go_wp2_with fail
    have X := Aside0.mk ((heap_alloc_old (w := w.alloc (.cells #[.int .u64 d0, .int .u64 d1, .int .u64 d2, .int .u64 d3, .bool n] (117 : Nat))) (.cells #[.int .u64 0, .int .u64 0, .int .u64 0, .int .u64 0, .bool false] (117 : Nat)) (by simp)).trans (heap_alloc_new w (.cells #[.int .u64 d0, .int .u64 d1, .int .u64 d2, .int .u64 d3, .bool n] (117 : Nat))))
    have Y : Aside0 (((w.alloc (.cells #[.int .u64 d0, .int .u64 d1, .int .u64 d2, .int .u64 d3, .bool n] (117 : Nat))).alloc (.cells #[.int .u64 0, .int .u64 0, .int .u64 0, .int .u64 0, .bool false] (117 : Nat))).heap[w.heap.size + 1]? = some (.cells #[.int .u64 0, .int .u64 0, .int .u64 0, .int .u64 0, .bool false] (117 : Nat) (0, 0))) := ⟨by
      have := heap_alloc_new (w.alloc (.cells #[.int .u64 d0, .int .u64 d1, .int .u64 d2, .int .u64 d3, .bool n] (117 : Nat))) (.cells #[.int .u64 0, .int .u64 0, .int .u64 0, .int .u64 0, .bool false] (117 : Nat))
      simpa using this⟩
    have B := Aside0.mk (((Below.refl w.heap.size w).alloc (Nat.le_refl _) (.cells #[.int .u64 d0, .int .u64 d1, .int .u64 d2, .int .u64 d3, .bool n] (117 : Nat))).alloc (by simp) (.cells #[.int .u64 0, .int .u64 0, .int .u64 0, .int .u64 0, .bool false] (117 : Nat)))
    have Z : Aside0 (w.heap.size + 1 < ((w.alloc (.cells #[.int .u64 d0, .int .u64 d1, .int .u64 d2, .int .u64 d3, .bool n] (117 : Nat))).alloc (.cells #[.int .u64 0, .int .u64 0, .int .u64 0, .int .u64 0, .bool false] (117 : Nat))).heap.size) := ⟨by simp⟩
    generalize (w.alloc (.cells #[.int .u64 d0, .int .u64 d1, .int .u64 d2, .int .u64 d3, .bool n] (117 : Nat))).alloc (.cells #[.int .u64 0, .int .u64 0, .int .u64 0, .int .u64 0, .bool false] (117 : Nat)) = W1 at X Y B Z ⊢
    refine (zero_calls d0 d1 d2 d3 n _).mono ?_
    rintro e W2 ⟨rfl, hb⟩
    obtain ⟨x0, x1, x2, x3, x4, xf⟩ := bcells ((hb.block _ (by have := Z.out; omega)).trans X.out)
    obtain ⟨y0, y1, y2, y3, y4, yf⟩ := bcells ((hb.block _ Z.out).trans Y.out)
    have B2 := Aside0.mk (B.out.trans (hb.mono B.out.size))
    clear hb X Y B
    obtain ⟨q, hq⟩ : ∃ q, (d0 == 0 && d1 == 0 && d2 == 0 && d3 == 0) = q := ⟨_, rfl⟩
    rw [hq]
    have HQ := Aside0.mk hq
    clear hq
    go_wp2
    exact bodyPost_ret (v := .agg #[.int .u64 d0, .int .u64 d1, .int .u64 d2, .int .u64 d3, .bool (!q)]) (by simp [results, Try.results79, go_sem, x0, x1, x2, x3, x4, y0, y1, y2, y3, y4]) rfl ⟨by rw [HQ.out]; simp, (((((((B2.out.setCell (by simp) _).setCell (by simp) _).setCell (by simp) _).setCell (by simp) _).setCell (by simp) _).setCell (by simp) _))⟩
def ii : Nat → Int | 0 => 0 | 1 => 1 | 2 => 2 | 3 => 3 | _ => 4
def carry4 (c0 c1 c2 c3 : Int) : Nat → Int | 0 => 0 | 1 => c0 | 2 => c1 | 3 => c2 | _ => c3
def u0 (a r : Int) : Nat → Int | 0 => a | _ => r
def u1 (a r : Int) : Nat → Int | 0 => a | 1 => a | _ => r
def u2 (a r : Int) : Nat → Int | 0 => a | 1 => a | 2 => a | _ => r
def u3 (a r : Int) : Nat → Int | 0 => a | 1 => a | 2 => a | 3 => a | _ => r
theorem bstart (w : World) (o0 o1 o2 : Obj) : (((w.alloc o0).alloc o1).alloc o2).heap[w.heap.size]? = some o0 ∧ (((w.alloc o0).alloc o1).alloc o2).heap[w.heap.size + 1]? = some o1 ∧ (((w.alloc o0).alloc o1).alloc o2).heap[w.heap.size + 1 + 1]? = some o2 := by
  refine ⟨?_, ?_, ?_⟩
  · rw [heap_alloc_old _ _ (by simp; omega), heap_alloc_old _ _ (by simp)]; exact heap_alloc_new _ _
  · rw [heap_alloc_old _ _ (by simp)]
    have := heap_alloc_new (w.alloc o0) o1
    simpa using this
  · have := heap_alloc_new ((w.alloc o0).alloc o1) o2
    simpa using this
theorem bset {W : World} {g : Nat} {cs : Array Value} (h : W.heap[g]? = some (.cells cs (117 : Nat) (0, 0))) (j : Nat) (v : Value) : (W.setCell ⟨g, j, none⟩ v).heap[g]? = some (.cells (cs.setIfInBounds j v) (117 : Nat) (0, 0)) := by simp [World.setCell, Array.getElem?_modify, h]
theorem bother {W : World} {g k : Nat} {o : Option Obj} (h : W.heap[k]? = o) (hk : k ≠ g) (j : Nat) (v : Value) : (W.setCell ⟨g, j, none⟩ v).heap[k]? = o := (Below.heap_setCell W ⟨g, j, none⟩ v k hk).trans h
def plusPost (a0 a1 a2 a3 b0 b1 b2 b3 : Int) (n : Bool) (w : World) (e : Ending) (w' : World) : Prop := (∃ r0 r1 r2 r3 c0 c1 c2 c3 : Int, e = .returned (.agg #[.int .u64 r0, .int .u64 r1, .int .u64 r2, .int .u64 r3, .bool n]) ∧ r0 + 4294967296 * c0 = a0 + b0 ∧ r1 + 4294967296 * c1 = a1 + b1 + c0 ∧ r2 + 4294967296 * c2 = a2 + b2 + c1 ∧ r3 + 4294967296 * c3 = a3 + b3 + c2 ∧ (0 ≤ r0 ∧ r0 < 4294967296) ∧ (0 ≤ r1 ∧ r1 < 4294967296) ∧ (0 ≤ r2 ∧ r2 < 4294967296) ∧ (0 ≤ r3 ∧ r3 < 4294967296) ∧ (0 ≤ c3 ∧ c3 ≤ 1)) ∧ Below w.heap.size w w'
set_option maxHeartbeats 8000000 in
set_option maxRecDepth 100000 in
theorem plus_calls (a0 a1 a2 a3 b0 b1 b2 b3 : Int) (n m : Bool) (ha : (0 ≤ a0 ∧ a0 < 4294967296) ∧ (0 ≤ a1 ∧ a1 < 4294967296) ∧ (0 ≤ a2 ∧ a2 < 4294967296) ∧ (0 ≤ a3 ∧ a3 < 4294967296)) (hb : (0 ≤ b0 ∧ b0 < 4294967296) ∧ (0 ≤ b1 ∧ b1 < 4294967296) ∧ (0 ≤ b2 ∧ b2 < 4294967296) ∧ (0 ≤ b3 ∧ b3 < 4294967296)) (w : World) :
    Calls Try.prog 83 #[.agg #[.int .u64 a0, .int .u64 a1, .int .u64 a2, .int .u64 a3, .bool n], .agg #[.int .u64 b0, .int .u64 b1, .int .u64 b2, .int .u64 b3, .bool m]] w (plusPost a0 a1 a2 a3 b0 b1 b2 b3 n w) := by
  obtain ⟨r0, hr0⟩ : ∃ r, (a0 + b0) % 4294967296 = r := ⟨_, rfl⟩
  obtain ⟨c0, hc0⟩ : ∃ r, (a0 + b0) / 4294967296 = r := ⟨_, rfl⟩
  obtain ⟨r1, hr1⟩ : ∃ r, (a1 + b1 + c0) % 4294967296 = r := ⟨_, rfl⟩
  obtain ⟨c1, hc1⟩ : ∃ r, (a1 + b1 + c0) / 4294967296 = r := ⟨_, rfl⟩
  obtain ⟨r2, hr2⟩ : ∃ r, (a2 + b2 + c1) % 4294967296 = r := ⟨_, rfl⟩
  obtain ⟨c2, hc2⟩ : ∃ r, (a2 + b2 + c1) / 4294967296 = r := ⟨_, rfl⟩
  obtain ⟨r3, hr3⟩ : ∃ r, (a3 + b3 + c2) % 4294967296 = r := ⟨_, rfl⟩
  obtain ⟨c3, hc3⟩ : ∃ r, (a3 + b3 + c2) / 4294967296 = r := ⟨_, rfl⟩
  have HF : Aside0 (r0 + 4294967296 * c0 = a0 + b0 ∧ r1 + 4294967296 * c1 = a1 + b1 + c0 ∧ r2 + 4294967296 * c2 = a2 + b2 + c1 ∧ r3 + 4294967296 * c3 = a3 + b3 + c2 ∧ (0 ≤ r0 ∧ r0 < 4294967296) ∧ (0 ≤ r1 ∧ r1 < 4294967296) ∧ (0 ≤ r2 ∧ r2 < 4294967296) ∧ (0 ≤ r3 ∧ r3 < 4294967296) ∧ (0 ≤ c3 ∧ c3 ≤ 1)) := ⟨by refine ⟨?_, ?_, ?_, ?_, ?_, ?_, ?_, ?_, ?_⟩ <;> omega⟩
  have HE : Aside0 (((a0 + b0) % 4294967296 = r0 ∧ (a0 + b0) / 4294967296 = c0) ∧ ((a1 + b1 + c0) % 4294967296 = r1 ∧ (a1 + b1 + c0) / 4294967296 = c1) ∧ ((a2 + b2 + c1) % 4294967296 = r2 ∧ (a2 + b2 + c1) / 4294967296 = c2) ∧ ((a3 + b3 + c2) % 4294967296 = r3 ∧ (a3 + b3 + c2) / 4294967296 = c3)) := ⟨⟨hr0, hc0⟩, ⟨hr1, hc1⟩, ⟨hr2, hc2⟩, ⟨hr3, hc3⟩⟩
  have HA := Aside0.mk (And.intro ha hb)
  have HCC : Aside0 ((0 ≤ c0 ∧ c0 ≤ 1) ∧ (0 ≤ c1 ∧ c1 ≤ 1) ∧ (0 ≤ c2 ∧ c2 ≤ 1)) := ⟨by refine ⟨?_, ?_, ?_⟩ <;> omega⟩
  clear hr0 hc0 hr1 hc1 hr2 hc2 hr3 hc3 ha hb
  have hu117 := Try.underlying117
  have hu115 := under115
  have hz := zero117
  go_enter Try.func83, Try.ntmps83
  go_wp2_with fail
  have X : Aside0 ((((w.alloc (.cells #[.int .u64 a0, .int .u64 a1, .int .u64 a2, .int .u64 a3, .bool n] (117 : Nat))).alloc (.cells #[.int .u64 b0, .int .u64 b1, .int .u64 b2, .int .u64 b3, .bool m] (117 : Nat))).alloc (.cells #[.int .u64 0, .int .u64 0, .int .u64 0, .int .u64 0, .bool false] (117 : Nat))).heap[w.heap.size]? = some (.cells #[.int .u64 a0, .int .u64 a1, .int .u64 a2, .int .u64 a3, .bool n] (117 : Nat) (0, 0)) ∧ (((w.alloc (.cells #[.int .u64 a0, .int .u64 a1, .int .u64 a2, .int .u64 a3, .bool n] (117 : Nat))).alloc (.cells #[.int .u64 b0, .int .u64 b1, .int .u64 b2, .int .u64 b3, .bool m] (117 : Nat))).alloc (.cells #[.int .u64 0, .int .u64 0, .int .u64 0, .int .u64 0, .bool false] (117 : Nat))).heap[w.heap.size + 1]? = some (.cells #[.int .u64 b0, .int .u64 b1, .int .u64 b2, .int .u64 b3, .bool m] (117 : Nat) (0, 0)) ∧ (((w.alloc (.cells #[.int .u64 a0, .int .u64 a1, .int .u64 a2, .int .u64 a3, .bool n] (117 : Nat))).alloc (.cells #[.int .u64 b0, .int .u64 b1, .int .u64 b2, .int .u64 b3, .bool m] (117 : Nat))).alloc (.cells #[.int .u64 0, .int .u64 0, .int .u64 0, .int .u64 0, .bool false] (117 : Nat))).heap[w.heap.size + 1 + 1]? = some (.cells #[.int .u64 0, .int .u64 0, .int .u64 0, .int .u64 0, .bool false] (117 : Nat) (0, 0))) := ⟨bstart w (.cells #[.int .u64 a0, .int .u64 a1, .int .u64 a2, .int .u64 a3, .bool n] (117 : Nat)) (.cells #[.int .u64 b0, .int .u64 b1, .int .u64 b2, .int .u64 b3, .bool m] (117 : Nat)) (.cells #[.int .u64 0, .int .u64 0, .int .u64 0, .int .u64 0, .bool false] (117 : Nat))⟩
  have B := Aside0.mk ((((Below.refl w.heap.size w).alloc (Nat.le_refl _) (.cells #[.int .u64 a0, .int .u64 a1, .int .u64 a2, .int .u64 a3, .bool n] (117 : Nat))).alloc (by simp) (.cells #[.int .u64 b0, .int .u64 b1, .int .u64 b2, .int .u64 b3, .bool m] (117 : Nat))).alloc (by simp; omega) (.cells #[.int .u64 0, .int .u64 0, .int .u64 0, .int .u64 0, .bool false] (117 : Nat)))
  generalize (((w.alloc (.cells #[.int .u64 a0, .int .u64 a1, .int .u64 a2, .int .u64 a3, .bool n] (117 : Nat))).alloc (.cells #[.int .u64 b0, .int .u64 b1, .int .u64 b2, .int .u64 b3, .bool m] (117 : Nat))).alloc (.cells #[.int .u64 0, .int .u64 0, .int .u64 0, .int .u64 0, .bool false] (117 : Nat))) = W3 at X B ⊢
  generalize hB : w.heap.size = b at X B ⊢
  go_loopg [5, 6] 4 (fun kq v5 v6 wr => ∃ i : Nat, v5 = .int .u64 (carry4 c0 c1 c2 c3 i) ∧ v6 = .int .i64 (ii i) ∧ kq + i = 4 ∧ Aside0 (wr.heap[b]? = some (.cells #[.int .u64 (u0 a0 r0 i), .int .u64 (u1 a1 r1 i), .int .u64 (u2 a2 r2 i), .int .u64 (u3 a3 r3 i), .bool n] (117 : Nat) (0, 0)) ∧ wr.heap[b + 1]? = some (.cells #[.int .u64 b0, .int .u64 b1, .int .u64 b2, .int .u64 b3, .bool m] (117 : Nat) (0, 0)) ∧ wr.heap[b + 1 + 1]? = some (.cells #[.int .u64 0, .int .u64 0, .int .u64 0, .int .u64 0, .bool false] (117 : Nat) (0, 0))) ∧ Aside0 (Below b w wr))
  case atStart => exact ⟨0, rfl, rfl, rfl, X, B⟩
  case round =>
    obtain ⟨i, rfl, rfl, hik, HX, HB⟩ := hrel
    obtain ⟨a0r, a1r, a2r, a3r⟩ := HA.out.1
    obtain ⟨b0r, b1r, b2r, b3r⟩ := HA.out.2
    obtain ⟨c0r, c1r, c2r⟩ := HCC.out
    have hi : i = 0 ∨ i = 1 ∨ i = 2 ∨ i = 3 ∨ i = 4 := by omega
    rcases hi with rfl | rfl | rfl | rfl | rfl
    · dsimp only [ii, carry4, u0, u1, u2, u3] at HX ⊢
      obtain ⟨x0, x1, x2, x3, x4, xf⟩ := bcells HX.out.1
      obtain ⟨y0, y1, y2, y3, y4, yf⟩ := bcells HX.out.2.1
      obtain ⟨go, rfl⟩ : ∃ go, gk = go + 1 := ⟨gk - 1, by omega⟩
      have ha32 : Go.bits .and .u64 (a0 + b0) 4294967295 = r0 := by rw [and32 (by omega) (by omega)]; exact HE.out.1.1
      have HA32 := Aside0.mk ha32
      clear ha32
      go_wp2_with fail
      go_quiet (fail)
      go_wp2
      go_roundg go
      case measure => omega
      case rel =>
        refine ⟨1, by show _ = Value.int .u64 c0; rw [← HE.out.1.2], rfl, by omega, ⟨?_, bother HX.out.2.1 (by omega) _ _, bother HX.out.2.2 (by omega) _ _⟩, ⟨(pw_below_drewN HB.out nq).setCell (by simp) _⟩⟩
        have h := bset (W := wr.drewN nq) (g := b) HX.out.1 0 (.int .u64 (Go.bits .and .u64 (a0 + b0) 4294967295))
        rw [HA32.out] at h
        rw [HA32.out]
        exact h
    · dsimp only [ii, carry4, u0, u1, u2, u3] at HX ⊢
      obtain ⟨x0, x1, x2, x3, x4, xf⟩ := bcells HX.out.1
      obtain ⟨y0, y1, y2, y3, y4, yf⟩ := bcells HX.out.2.1
      obtain ⟨go, rfl⟩ : ∃ go, gk = go + 1 := ⟨gk - 1, by omega⟩
      have ha32 : Go.bits .and .u64 (a1 + b1 + c0) 4294967295 = r1 := by rw [and32 (by omega) (by omega)]; exact HE.out.2.1.1
      have HA32 := Aside0.mk ha32
      clear ha32
      go_wp2_with fail
      go_quiet (fail)
      go_wp2
      go_roundg go
      case measure => omega
      case rel =>
        refine ⟨2, by show _ = Value.int .u64 c1; rw [← HE.out.2.1.2], rfl, by omega, ⟨?_, bother HX.out.2.1 (by omega) _ _, bother HX.out.2.2 (by omega) _ _⟩, ⟨(pw_below_drewN HB.out nq).setCell (by simp) _⟩⟩
        have h := bset (W := wr.drewN nq) (g := b) HX.out.1 1 (.int .u64 (Go.bits .and .u64 (a1 + b1 + c0) 4294967295))
        rw [HA32.out] at h
        rw [HA32.out]
        exact h
    · dsimp only [ii, carry4, u0, u1, u2, u3] at HX ⊢
      obtain ⟨x0, x1, x2, x3, x4, xf⟩ := bcells HX.out.1
      obtain ⟨y0, y1, y2, y3, y4, yf⟩ := bcells HX.out.2.1
      obtain ⟨go, rfl⟩ : ∃ go, gk = go + 1 := ⟨gk - 1, by omega⟩
      have ha32 : Go.bits .and .u64 (a2 + b2 + c1) 4294967295 = r2 := by rw [and32 (by omega) (by omega)]; exact HE.out.2.2.1.1
      have HA32 := Aside0.mk ha32
      clear ha32
      go_wp2_with fail
      go_quiet (fail)
      go_wp2
      go_roundg go
      case measure => omega
      case rel =>
        refine ⟨3, by show _ = Value.int .u64 c2; rw [← HE.out.2.2.1.2], rfl, by omega, ⟨?_, bother HX.out.2.1 (by omega) _ _, bother HX.out.2.2 (by omega) _ _⟩, ⟨(pw_below_drewN HB.out nq).setCell (by simp) _⟩⟩
        have h := bset (W := wr.drewN nq) (g := b) HX.out.1 2 (.int .u64 (Go.bits .and .u64 (a2 + b2 + c1) 4294967295))
        rw [HA32.out] at h
        rw [HA32.out]
        exact h
    · dsimp only [ii, carry4, u0, u1, u2, u3] at HX ⊢
      obtain ⟨x0, x1, x2, x3, x4, xf⟩ := bcells HX.out.1
      obtain ⟨y0, y1, y2, y3, y4, yf⟩ := bcells HX.out.2.1
      obtain ⟨go, rfl⟩ : ∃ go, gk = go + 1 := ⟨gk - 1, by omega⟩
      have ha32 : Go.bits .and .u64 (a3 + b3 + c2) 4294967295 = r3 := by rw [and32 (by omega) (by omega)]; exact HE.out.2.2.2.1
      have HA32 := Aside0.mk ha32
      clear ha32
      go_wp2_with fail
      go_quiet (fail)
      go_wp2
      go_roundg go
      case measure => omega
      case rel =>
        refine ⟨4, by show _ = Value.int .u64 c3; rw [← HE.out.2.2.2.2], rfl, by omega, ⟨?_, bother HX.out.2.1 (by omega) _ _, bother HX.out.2.2 (by omega) _ _⟩, ⟨(pw_below_drewN HB.out nq).setCell (by simp) _⟩⟩
        have h := bset (W := wr.drewN nq) (g := b) HX.out.1 3 (.int .u64 (Go.bits .and .u64 (a3 + b3 + c2) 4294967295))
        rw [HA32.out] at h
        rw [HA32.out]
        exact h
    · dsimp only [ii, carry4, u0, u1, u2, u3] at HX ⊢
      obtain ⟨x0, x1, x2, x3, x4, xf⟩ := bcells HX.out.1
      obtain ⟨z0, z1, z2, z3, z4, zf⟩ := bcells HX.out.2.2
      go_wp2
      exact bodyPost_ret (v := .agg #[.int .u64 r0, .int .u64 r1, .int .u64 r2, .int .u64 r3, .bool n]) (by simp [results, Try.results83, go_sem, x0, x1, x2, x3, x4, z0, z1, z2, z3, z4]) rfl ⟨⟨r0, r1, r2, r3, c0, c1, c2, c3, rfl, HF.out⟩, by rw [hB]; exact ((((HB.out.setCell (by simp; omega) _).setCell (by simp; omega) _).setCell (by simp; omega) _).setCell (by simp; omega) _).setCell (by simp; omega) _⟩
def minusPost (a0 a1 a2 a3 b0 b1 b2 b3 : Int) (n : Bool) (w : World) (e : Ending) (w' : World) : Prop := (∃ r0 r1 r2 r3 c0 c1 c2 c3 : Int, e = .returned (.agg #[.int .u64 r0, .int .u64 r1, .int .u64 r2, .int .u64 r3, .bool n]) ∧ r0 = a0 - b0 + 4294967296 * c0 ∧ r1 = a1 - b1 - c0 + 4294967296 * c1 ∧ r2 = a2 - b2 - c1 + 4294967296 * c2 ∧ r3 = a3 - b3 - c2 + 4294967296 * c3 ∧ (0 ≤ r0 ∧ r0 < 4294967296) ∧ (0 ≤ r1 ∧ r1 < 4294967296) ∧ (0 ≤ r2 ∧ r2 < 4294967296) ∧ (0 ≤ r3 ∧ r3 < 4294967296) ∧ (0 ≤ c3 ∧ c3 ≤ 1)) ∧ Below w.heap.size w w'
set_option maxHeartbeats 8000000 in
set_option maxRecDepth 100000 in
theorem minus_calls (a0 a1 a2 a3 b0 b1 b2 b3 : Int) (n m : Bool) (ha : (0 ≤ a0 ∧ a0 < 4294967296) ∧ (0 ≤ a1 ∧ a1 < 4294967296) ∧ (0 ≤ a2 ∧ a2 < 4294967296) ∧ (0 ≤ a3 ∧ a3 < 4294967296)) (hb : (0 ≤ b0 ∧ b0 < 4294967296) ∧ (0 ≤ b1 ∧ b1 < 4294967296) ∧ (0 ≤ b2 ∧ b2 < 4294967296) ∧ (0 ≤ b3 ∧ b3 < 4294967296)) (w : World) :
    Calls Try.prog 85 #[.agg #[.int .u64 a0, .int .u64 a1, .int .u64 a2, .int .u64 a3, .bool n], .agg #[.int .u64 b0, .int .u64 b1, .int .u64 b2, .int .u64 b3, .bool m]] w (minusPost a0 a1 a2 a3 b0 b1 b2 b3 n w) := by
  obtain ⟨r0, hr0⟩ : ∃ r, (4294967296 + a0 - b0) % 4294967296 = r := ⟨_, rfl⟩
  obtain ⟨c0, hc0⟩ : ∃ r, 1 - (4294967296 + a0 - b0) / 4294967296 = r := ⟨_, rfl⟩
  obtain ⟨r1, hr1⟩ : ∃ r, (4294967296 + a1 - b1 - c0) % 4294967296 = r := ⟨_, rfl⟩
  obtain ⟨c1, hc1⟩ : ∃ r, 1 - (4294967296 + a1 - b1 - c0) / 4294967296 = r := ⟨_, rfl⟩
  obtain ⟨r2, hr2⟩ : ∃ r, (4294967296 + a2 - b2 - c1) % 4294967296 = r := ⟨_, rfl⟩
  obtain ⟨c2, hc2⟩ : ∃ r, 1 - (4294967296 + a2 - b2 - c1) / 4294967296 = r := ⟨_, rfl⟩
  obtain ⟨r3, hr3⟩ : ∃ r, (4294967296 + a3 - b3 - c2) % 4294967296 = r := ⟨_, rfl⟩
  obtain ⟨c3, hc3⟩ : ∃ r, 1 - (4294967296 + a3 - b3 - c2) / 4294967296 = r := ⟨_, rfl⟩
  have HF : Aside0 (r0 = a0 - b0 + 4294967296 * c0 ∧ r1 = a1 - b1 - c0 + 4294967296 * c1 ∧ r2 = a2 - b2 - c1 + 4294967296 * c2 ∧ r3 = a3 - b3 - c2 + 4294967296 * c3 ∧ (0 ≤ r0 ∧ r0 < 4294967296) ∧ (0 ≤ r1 ∧ r1 < 4294967296) ∧ (0 ≤ r2 ∧ r2 < 4294967296) ∧ (0 ≤ r3 ∧ r3 < 4294967296) ∧ (0 ≤ c3 ∧ c3 ≤ 1)) := ⟨by refine ⟨?_, ?_, ?_, ?_, ?_, ?_, ?_, ?_, ?_⟩ <;> omega⟩
  have HE : Aside0 (((4294967296 + a0 - b0) % 4294967296 = r0 ∧ 1 - (4294967296 + a0 - b0) / 4294967296 = c0) ∧ ((4294967296 + a1 - b1 - c0) % 4294967296 = r1 ∧ 1 - (4294967296 + a1 - b1 - c0) / 4294967296 = c1) ∧ ((4294967296 + a2 - b2 - c1) % 4294967296 = r2 ∧ 1 - (4294967296 + a2 - b2 - c1) / 4294967296 = c2) ∧ ((4294967296 + a3 - b3 - c2) % 4294967296 = r3 ∧ 1 - (4294967296 + a3 - b3 - c2) / 4294967296 = c3)) := ⟨⟨hr0, hc0⟩, ⟨hr1, hc1⟩, ⟨hr2, hc2⟩, ⟨hr3, hc3⟩⟩
  have HA := Aside0.mk (And.intro ha hb)
  have HCC : Aside0 ((0 ≤ c0 ∧ c0 ≤ 1) ∧ (0 ≤ c1 ∧ c1 ≤ 1) ∧ (0 ≤ c2 ∧ c2 ≤ 1)) := ⟨by refine ⟨?_, ?_, ?_⟩ <;> omega⟩
  clear hr0 hc0 hr1 hc1 hr2 hc2 hr3 hc3 ha hb
  have hu117 := Try.underlying117
  have hu115 := under115
  have hz := zero117
  go_enter Try.func85, Try.ntmps85
  go_wp2_with fail
  have X : Aside0 ((((w.alloc (.cells #[.int .u64 a0, .int .u64 a1, .int .u64 a2, .int .u64 a3, .bool n] (117 : Nat))).alloc (.cells #[.int .u64 b0, .int .u64 b1, .int .u64 b2, .int .u64 b3, .bool m] (117 : Nat))).alloc (.cells #[.int .u64 0, .int .u64 0, .int .u64 0, .int .u64 0, .bool false] (117 : Nat))).heap[w.heap.size]? = some (.cells #[.int .u64 a0, .int .u64 a1, .int .u64 a2, .int .u64 a3, .bool n] (117 : Nat) (0, 0)) ∧ (((w.alloc (.cells #[.int .u64 a0, .int .u64 a1, .int .u64 a2, .int .u64 a3, .bool n] (117 : Nat))).alloc (.cells #[.int .u64 b0, .int .u64 b1, .int .u64 b2, .int .u64 b3, .bool m] (117 : Nat))).alloc (.cells #[.int .u64 0, .int .u64 0, .int .u64 0, .int .u64 0, .bool false] (117 : Nat))).heap[w.heap.size + 1]? = some (.cells #[.int .u64 b0, .int .u64 b1, .int .u64 b2, .int .u64 b3, .bool m] (117 : Nat) (0, 0)) ∧ (((w.alloc (.cells #[.int .u64 a0, .int .u64 a1, .int .u64 a2, .int .u64 a3, .bool n] (117 : Nat))).alloc (.cells #[.int .u64 b0, .int .u64 b1, .int .u64 b2, .int .u64 b3, .bool m] (117 : Nat))).alloc (.cells #[.int .u64 0, .int .u64 0, .int .u64 0, .int .u64 0, .bool false] (117 : Nat))).heap[w.heap.size + 1 + 1]? = some (.cells #[.int .u64 0, .int .u64 0, .int .u64 0, .int .u64 0, .bool false] (117 : Nat) (0, 0))) := ⟨bstart w (.cells #[.int .u64 a0, .int .u64 a1, .int .u64 a2, .int .u64 a3, .bool n] (117 : Nat)) (.cells #[.int .u64 b0, .int .u64 b1, .int .u64 b2, .int .u64 b3, .bool m] (117 : Nat)) (.cells #[.int .u64 0, .int .u64 0, .int .u64 0, .int .u64 0, .bool false] (117 : Nat))⟩
  have B := Aside0.mk ((((Below.refl w.heap.size w).alloc (Nat.le_refl _) (.cells #[.int .u64 a0, .int .u64 a1, .int .u64 a2, .int .u64 a3, .bool n] (117 : Nat))).alloc (by simp) (.cells #[.int .u64 b0, .int .u64 b1, .int .u64 b2, .int .u64 b3, .bool m] (117 : Nat))).alloc (by simp; omega) (.cells #[.int .u64 0, .int .u64 0, .int .u64 0, .int .u64 0, .bool false] (117 : Nat)))
  generalize (((w.alloc (.cells #[.int .u64 a0, .int .u64 a1, .int .u64 a2, .int .u64 a3, .bool n] (117 : Nat))).alloc (.cells #[.int .u64 b0, .int .u64 b1, .int .u64 b2, .int .u64 b3, .bool m] (117 : Nat))).alloc (.cells #[.int .u64 0, .int .u64 0, .int .u64 0, .int .u64 0, .bool false] (117 : Nat))) = W3 at X B ⊢
  generalize hB : w.heap.size = b at X B ⊢
  go_loopg [5, 6] 4 (fun kq v5 v6 wr => ∃ i : Nat, v5 = .int .u64 (carry4 c0 c1 c2 c3 i) ∧ v6 = .int .i64 (ii i) ∧ kq + i = 4 ∧ Aside0 (wr.heap[b]? = some (.cells #[.int .u64 (u0 a0 r0 i), .int .u64 (u1 a1 r1 i), .int .u64 (u2 a2 r2 i), .int .u64 (u3 a3 r3 i), .bool n] (117 : Nat) (0, 0)) ∧ wr.heap[b + 1]? = some (.cells #[.int .u64 b0, .int .u64 b1, .int .u64 b2, .int .u64 b3, .bool m] (117 : Nat) (0, 0)) ∧ wr.heap[b + 1 + 1]? = some (.cells #[.int .u64 0, .int .u64 0, .int .u64 0, .int .u64 0, .bool false] (117 : Nat) (0, 0))) ∧ Aside0 (Below b w wr))
  case atStart => exact ⟨0, rfl, rfl, rfl, X, B⟩
  case round =>
    obtain ⟨i, rfl, rfl, hik, HX, HB⟩ := hrel
    obtain ⟨a0r, a1r, a2r, a3r⟩ := HA.out.1
    obtain ⟨b0r, b1r, b2r, b3r⟩ := HA.out.2
    obtain ⟨c0r, c1r, c2r⟩ := HCC.out
    have hi : i = 0 ∨ i = 1 ∨ i = 2 ∨ i = 3 ∨ i = 4 := by omega
    rcases hi with rfl | rfl | rfl | rfl | rfl
    · dsimp only [ii, carry4, u0, u1, u2, u3] at HX ⊢
      obtain ⟨x0, x1, x2, x3, x4, xf⟩ := bcells HX.out.1
      obtain ⟨y0, y1, y2, y3, y4, yf⟩ := bcells HX.out.2.1
      obtain ⟨go, rfl⟩ : ∃ go, gk = go + 1 := ⟨gk - 1, by omega⟩
      have ha32 : Go.bits .and .u64 (4294967296 + a0 - b0) 4294967295 = r0 := by rw [and32 (by omega) (by omega)]; exact HE.out.1.1
      have HA32 := Aside0.mk ha32
      clear ha32
      go_wp2_with fail
      go_quiet (fail)
      go_wp2
      go_roundg go
      case measure => omega
      case rel =>
        refine ⟨1, by show _ = Value.int .u64 c0; rw [← HE.out.1.2], rfl, by omega, ⟨?_, bother HX.out.2.1 (by omega) _ _, bother HX.out.2.2 (by omega) _ _⟩, ⟨(pw_below_drewN HB.out nq).setCell (by simp) _⟩⟩
        have h := bset (W := wr.drewN nq) (g := b) HX.out.1 0 (.int .u64 (Go.bits .and .u64 (4294967296 + a0 - b0) 4294967295))
        rw [HA32.out] at h
        rw [HA32.out]
        exact h
    · dsimp only [ii, carry4, u0, u1, u2, u3] at HX ⊢
      obtain ⟨x0, x1, x2, x3, x4, xf⟩ := bcells HX.out.1
      obtain ⟨y0, y1, y2, y3, y4, yf⟩ := bcells HX.out.2.1
      obtain ⟨go, rfl⟩ : ∃ go, gk = go + 1 := ⟨gk - 1, by omega⟩
      have ha32 : Go.bits .and .u64 (4294967296 + a1 - b1 - c0) 4294967295 = r1 := by rw [and32 (by omega) (by omega)]; exact HE.out.2.1.1
      have HA32 := Aside0.mk ha32
      clear ha32
      go_wp2_with fail
      go_quiet (fail)
      go_wp2
      go_roundg go
      case measure => omega
      case rel =>
        refine ⟨2, by show _ = Value.int .u64 c1; rw [← HE.out.2.1.2], rfl, by omega, ⟨?_, bother HX.out.2.1 (by omega) _ _, bother HX.out.2.2 (by omega) _ _⟩, ⟨(pw_below_drewN HB.out nq).setCell (by simp) _⟩⟩
        have h := bset (W := wr.drewN nq) (g := b) HX.out.1 1 (.int .u64 (Go.bits .and .u64 (4294967296 + a1 - b1 - c0) 4294967295))
        rw [HA32.out] at h
        rw [HA32.out]
        exact h
    · dsimp only [ii, carry4, u0, u1, u2, u3] at HX ⊢
      obtain ⟨x0, x1, x2, x3, x4, xf⟩ := bcells HX.out.1
      obtain ⟨y0, y1, y2, y3, y4, yf⟩ := bcells HX.out.2.1
      obtain ⟨go, rfl⟩ : ∃ go, gk = go + 1 := ⟨gk - 1, by omega⟩
      have ha32 : Go.bits .and .u64 (4294967296 + a2 - b2 - c1) 4294967295 = r2 := by rw [and32 (by omega) (by omega)]; exact HE.out.2.2.1.1
      have HA32 := Aside0.mk ha32
      clear ha32
      go_wp2_with fail
      go_quiet (fail)
      go_wp2
      go_roundg go
      case measure => omega
      case rel =>
        refine ⟨3, by show _ = Value.int .u64 c2; rw [← HE.out.2.2.1.2], rfl, by omega, ⟨?_, bother HX.out.2.1 (by omega) _ _, bother HX.out.2.2 (by omega) _ _⟩, ⟨(pw_below_drewN HB.out nq).setCell (by simp) _⟩⟩
        have h := bset (W := wr.drewN nq) (g := b) HX.out.1 2 (.int .u64 (Go.bits .and .u64 (4294967296 + a2 - b2 - c1) 4294967295))
        rw [HA32.out] at h
        rw [HA32.out]
        exact h
    · dsimp only [ii, carry4, u0, u1, u2, u3] at HX ⊢
      obtain ⟨x0, x1, x2, x3, x4, xf⟩ := bcells HX.out.1
      obtain ⟨y0, y1, y2, y3, y4, yf⟩ := bcells HX.out.2.1
      obtain ⟨go, rfl⟩ : ∃ go, gk = go + 1 := ⟨gk - 1, by omega⟩
      have ha32 : Go.bits .and .u64 (4294967296 + a3 - b3 - c2) 4294967295 = r3 := by rw [and32 (by omega) (by omega)]; exact HE.out.2.2.2.1
      have HA32 := Aside0.mk ha32
      clear ha32
      go_wp2_with fail
      go_quiet (fail)
      go_wp2
      go_roundg go
      case measure => omega
      case rel =>
        refine ⟨4, by show _ = Value.int .u64 c3; rw [← HE.out.2.2.2.2], rfl, by omega, ⟨?_, bother HX.out.2.1 (by omega) _ _, bother HX.out.2.2 (by omega) _ _⟩, ⟨(pw_below_drewN HB.out nq).setCell (by simp) _⟩⟩
        have h := bset (W := wr.drewN nq) (g := b) HX.out.1 3 (.int .u64 (Go.bits .and .u64 (4294967296 + a3 - b3 - c2) 4294967295))
        rw [HA32.out] at h
        rw [HA32.out]
        exact h
    · dsimp only [ii, carry4, u0, u1, u2, u3] at HX ⊢
      obtain ⟨x0, x1, x2, x3, x4, xf⟩ := bcells HX.out.1
      obtain ⟨z0, z1, z2, z3, z4, zf⟩ := bcells HX.out.2.2
      go_wp2
      exact bodyPost_ret (v := .agg #[.int .u64 r0, .int .u64 r1, .int .u64 r2, .int .u64 r3, .bool n]) (by simp [results, Try.results85, go_sem, x0, x1, x2, x3, x4, z0, z1, z2, z3, z4]) rfl ⟨⟨r0, r1, r2, r3, c0, c1, c2, c3, rfl, HF.out⟩, by rw [hB]; exact ((((HB.out.setCell (by simp; omega) _).setCell (by simp; omega) _).setCell (by simp; omega) _).setCell (by simp; omega) _).setCell (by simp; omega) _⟩
end Go.Proofs.Ytlmpoojpbdmmfaa.H
end
