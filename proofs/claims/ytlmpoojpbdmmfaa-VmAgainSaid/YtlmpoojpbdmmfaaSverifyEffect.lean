/- verify.Effect: what an op takes and gives. No conditions. -/
import Derived.Test.YtlmpoojpbdmmfaaV19
set_option linter.unusedVariables false
set_option linter.unusedSimpArgs false
namespace Go.Proofs.Ytlmpoojpbdmmfaa.H
open Go.RowKit Go.Proofs.YtlmpoojpbdmmfaaW.PrintWords Go.Proofs.YtlmpoojpbdmmfaaW.PrintLast Go.Proofs.YtlmpoojpbdmmfaaW.PrintMore
def verify_Effect.f (a0 : Int) : Option (Int × Int) := some (tks a0, gvs a0)
set_option maxHeartbeats 4000000 in
theorem verify_Effect.calls (a0 : Int) (r1 : Int) (r2 : Int) (w : World) (h : verify_Effect.f a0 = some (r1, r2)) :
    Calls Try.prog 74 #[.int .u8 a0] w fun e w' => e = .returned (.tuple #[.int .i64 r1, .int .i64 r2]) ∧ Drawn0 w w' := by
  simp only [verify_Effect.f, Option.some.injEq, Prod.mk.injEq] at h
  obtain ⟨rfl, rfl⟩ := h
  by_cases h : 1 ≤ a0 ∧ a0 ≤ 23
  · have h1 : a0 = 1 ∨ a0 = 2 ∨ a0 = 3 ∨ a0 = 4 ∨ a0 = 5 ∨ a0 = 6 ∨ a0 = 7 ∨ a0 = 8 ∨ a0 = 9 ∨ a0 = 10 ∨ a0 = 11 ∨ a0 = 12 ∨ a0 = 13 ∨ a0 = 14 ∨ a0 = 15 ∨ a0 = 16 ∨ a0 = 17 ∨ a0 = 18 ∨ a0 = 19 ∨ a0 = 20 ∨ a0 = 21 ∨ a0 = 22 ∨ a0 = 23 := by omega
    clear h
    rcases h1 with rfl | rfl | rfl | rfl | rfl | rfl | rfl | rfl | rfl | rfl | rfl | rfl | rfl | rfl | rfl | rfl | rfl | rfl | rfl | rfl | rfl | rfl | rfl
    all_goals (
      go_enter Try.func74, Try.ntmps74
      go_wp2
      go_ret2
      exact ⟨rfl, Drawn0.refl _⟩)
  · have e : ∀ c : Int, 1 ≤ c → c ≤ 23 → (a0 == c) = false := fun c h1 h2 => beq_eq_false_iff_ne.mpr (by omega)
    have t1 : tks a0 = 0 := by unfold tks; rw [if_neg (by omega), if_neg (by omega)]
    have t2 : gvs a0 = 0 := by unfold gvs; rw [if_neg (by omega), if_neg (by omega)]
    rw [t1, t2]
    have e1 := e 1 (by decide) (by decide)
    have e2 := e 2 (by decide) (by decide)
    have e3 := e 3 (by decide) (by decide)
    have e4 := e 4 (by decide) (by decide)
    have e5 := e 5 (by decide) (by decide)
    have e6 := e 6 (by decide) (by decide)
    have e7 := e 7 (by decide) (by decide)
    have e8 := e 8 (by decide) (by decide)
    have e9 := e 9 (by decide) (by decide)
    have e10 := e 10 (by decide) (by decide)
    have e11 := e 11 (by decide) (by decide)
    have e12 := e 12 (by decide) (by decide)
    have e13 := e 13 (by decide) (by decide)
    have e14 := e 14 (by decide) (by decide)
    have e15 := e 15 (by decide) (by decide)
    have e16 := e 16 (by decide) (by decide)
    have e17 := e 17 (by decide) (by decide)
    have e18 := e 18 (by decide) (by decide)
    have e19 := e 19 (by decide) (by decide)
    have e20 := e 20 (by decide) (by decide)
    have e22 := e 22 (by decide) (by decide)
    clear e t1 t2 h
    go_enter Try.func74, Try.ntmps74
    go_wp2
    go_ret2
    exact ⟨rfl, Drawn0.refl _⟩
end Go.Proofs.Ytlmpoojpbdmmfaa.H
