/- cost.Bound computes 'bound'. The conditions: the argument reads as a list of instructions. -/
import Derived.Test.YtnaapecmooljaaaBwalk21
import Derived.LoopTactic
set_option linter.unusedVariables false
set_option linter.unusedSimpArgs false
namespace Go.Proofs.Ytnaapecmooljaaa.H
open Go.RowKit Go.Proofs.YtnaapecmooljaaaW.PrintWords
def cost_Bound.f (l0 : List (S26)) : Option (Int × Int × Int) := some (bound l0)
set_option maxHeartbeats 2000000 in
set_option maxRecDepth 100000 in
theorem bound_long (A0 : Option Addr) (n c : Nat) (l : List S26) (w : World) (hr : Kd.C k26 w A0 n l) (hn : 4096 < n) :
    Calls Try.prog 26 #[.slice A0 n c] w fun e w' => e = .returned (.tuple #[.int .i64 0, .int .i64 0, .int .i64 4]) ∧ w' = w := by
  have hd : decide (4096 < n) = true := decide_eq_true hn
  go_enter Try.func26, Try.ntmps26
  go_wp2
  refine bodyPost_ret (results_tmp3 rfl _ _ _) rfl ?_
  exact ⟨rfl, rfl⟩
set_option maxHeartbeats 2000000 in
set_option maxRecDepth 100000 in
theorem bound_none (A0 : Option Addr) (c : Nat) (w : World) :
    Calls Try.prog 26 #[.slice A0 0 c] w fun e w' => e = .returned (.tuple #[.int .i64 0, .int .i64 0, .int .i64 195]) ∧ w' = w := by
  go_enter Try.func26, Try.ntmps26
  go_wp2
  go_loop [19] (fun v19 => v19 = .int .i64 0) (fun _ => 0)
  case atStart => rfl
  case round =>
    subst hrel
    go_wp2
    refine bodyPost_ret (results_tmp3 rfl _ _ _) rfl ?_
    exact ⟨rfl, rfl⟩
theorem cost_Bound.calls (A0 : Option Addr) (c0 : Nat) (l0 : List (S26)) (r1 : Int) (r2 : Int) (r3 : Int) (w : World) (hr0 : Kd.C k26 w A0 l0.length l0) (hc0 : l0.length ≤ c0) (h : cost_Bound.f l0 = some (r1, r2, r3)) :
    Calls Try.prog 26 #[.slice A0 l0.length c0] w fun e w' => e = .returned (.tuple #[.int .i64 r1, .int .i64 r2, .int .i64 r3]) ∧ Below w.heap.size w w' := by
  have hb : bound l0 = (r1, r2, r3) := Option.some.inj h
  by_cases hbig : 4096 < l0.length
  · refine (bound_long A0 l0.length c0 l0 w hr0 hbig).mono ?_
    rintro e w' ⟨rfl, rfl⟩
    rw [bound, if_pos hbig] at hb
    simp only [Prod.mk.injEq] at hb
    obtain ⟨rfl, rfl, rfl⟩ := hb
    exact ⟨rfl, Below.refl _ _⟩
  · by_cases h0 : l0.length = 0
    · have hb0 : bound l0 = (0, 0, 195) := by
        have : l0 = [] := List.length_eq_zero_iff.1 h0
        subst this
        rfl
      rw [hb0] at hb
      simp only [Prod.mk.injEq] at hb
      obtain ⟨rfl, rfl, rfl⟩ := hb
      rw [h0]
      refine (bound_none A0 c0 w).mono ?_
      rintro e w' ⟨rfl, rfl⟩
      exact ⟨rfl, Below.refl _ _⟩
    · obtain ⟨ad, rfl⟩ : ∃ ad, A0 = some ad := by
        obtain ⟨ad, e, _⟩ := at_T26 hr0 0 (by omega) (by omega)
        exact ⟨ad, e⟩
      have := bound_calls ad l0.length c0 l0 w hr0 (by omega) (by omega)
      rw [hb] at this
      exact this
end Go.Proofs.Ytnaapecmooljaaa.H
