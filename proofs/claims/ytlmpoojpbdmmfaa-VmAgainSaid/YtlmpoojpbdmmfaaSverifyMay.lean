/- verify.May: which confs may be. No conditions. -/
import Derived.Test.YtlmpoojpbdmmfaaD18
set_option linter.unusedVariables false
set_option linter.unusedSimpArgs false
namespace Go.Proofs.Ytlmpoojpbdmmfaa.H
open Go.RowKit Go.Proofs.YtlmpoojpbdmmfaaW.PrintWords Go.Proofs.YtlmpoojpbdmmfaaW.PrintLast Go.Proofs.YtlmpoojpbdmmfaaW.PrintMore

def mayC (a b c d : Int) : Bool := decide (0 ≤ a ∧ a ≤ 512) && decide (0 ≤ b ∧ b ≤ 64) && decide (0 ≤ c ∧ c ≤ 64) && decide (1 ≤ d ∧ d ≤ 256)
def verify_May.f (a0_0 : Int) (a0_1 : Int) (a0_2 : Int) (a0_3 : Int) : Option (Bool) := some (mayC a0_0 a0_1 a0_2 a0_3)
set_option maxHeartbeats 4000000 in
theorem verify_May.calls (a0_0 : Int) (a0_1 : Int) (a0_2 : Int) (a0_3 : Int) (r : Bool) (w : World) (h : verify_May.f a0_0 a0_1 a0_2 a0_3 = some r) :
    Calls Try.prog 47 #[.agg #[.int .i64 a0_0, .int .i64 a0_1, .int .i64 a0_2, .int .i64 a0_3]] w fun e w' => e = .returned (.bool r) ∧ Below w.heap.size w w' := by
  simp only [verify_May.f, Option.some.injEq] at h
  subst h
  go_enter Try.func47, Try.ntmps47
  go_wp2
  all_goals (
    go_ret
    refine ⟨?_, (Below.refl _ _).alloc (Nat.le_refl _) _⟩
    simp only [mayC, Ending.returned.injEq, Value.bool.injEq]
    simp [*]
    try first | omega | (intros; omega) | (rw [Bool.eq_iff_iff]; simp; omega))
end Go.Proofs.Ytlmpoojpbdmmfaa.H
