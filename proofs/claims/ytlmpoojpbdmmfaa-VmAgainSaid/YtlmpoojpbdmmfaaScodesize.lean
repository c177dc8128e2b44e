/- code.size: how many bytes an op's Arg has, and whether there is that op. No conditions. -/
import Derived.Test.YtlmpoojpbdmmfaaD18
namespace Go.Proofs.Ytlmpoojpbdmmfaa.H
open Go.RowKit Go.Proofs.YtlmpoojpbdmmfaaW.PrintWords Go.Proofs.YtlmpoojpbdmmfaaW.PrintLast Go.Proofs.YtlmpoojpbdmmfaaW.PrintMore
def code_size.f (a0 : Int) : Option (Int × Bool) := some ((sz a0 : Int), isOp a0)
set_option maxHeartbeats 4000000 in
theorem code_size.calls (a0 : Int) (r1 : Int) (r2 : Bool) (w : World) (h : code_size.f a0 = some (r1, r2)) :
    Calls Try.prog 68 #[.int .u8 a0] w fun e w' => e = .returned (.tuple #[.int .i64 r1, .bool r2]) ∧ Drawn0 w w' := by
  simp only [code_size.f, Option.some.injEq, Prod.mk.injEq] at h
  obtain ⟨rfl, rfl⟩ := h
  by_cases h1 : a0 = 1
  · subst h1
    go_enter Try.func68, Try.ntmps68
    go_wp2
    go_ret2
    exact ⟨rfl, Drawn0.refl _⟩
  by_cases h2 : a0 = 2
  · subst h2
    go_enter Try.func68, Try.ntmps68
    go_wp2
    go_ret2
    exact ⟨rfl, Drawn0.refl _⟩
  by_cases h3 : a0 = 3
  · subst h3
    go_enter Try.func68, Try.ntmps68
    go_wp2
    go_ret2
    exact ⟨rfl, Drawn0.refl _⟩
  by_cases h4 : a0 = 4
  · subst h4
    go_enter Try.func68, Try.ntmps68
    go_wp2
    go_ret2
    exact ⟨rfl, Drawn0.refl _⟩
  by_cases h5 : a0 = 5
  · subst h5
    go_enter Try.func68, Try.ntmps68
    go_wp2
    go_ret2
    exact ⟨rfl, Drawn0.refl _⟩
  by_cases h21 : a0 = 21
  · subst h21
    go_enter Try.func68, Try.ntmps68
    go_wp2
    go_ret2
    exact ⟨rfl, Drawn0.refl _⟩
  by_cases h22 : a0 = 22
  · subst h22
    go_enter Try.func68, Try.ntmps68
    go_wp2
    go_ret2
    exact ⟨rfl, Drawn0.refl _⟩
  have hz : sz a0 = 0 := by simp [sz, h1, h2, h3, h4, h5, h21, h22]
  rw [hz]
  have b1 : (a0 == 1) = false := beq_eq_false_iff_ne.mpr h1
  have b2 : (a0 == 2) = false := beq_eq_false_iff_ne.mpr h2
  have b3 : (a0 == 3) = false := beq_eq_false_iff_ne.mpr h3
  have b4 : (a0 == 4) = false := beq_eq_false_iff_ne.mpr h4
  have b5 : (a0 == 5) = false := beq_eq_false_iff_ne.mpr h5
  have b21 : (a0 == 21) = false := beq_eq_false_iff_ne.mpr h21
  have b22 : (a0 == 22) = false := beq_eq_false_iff_ne.mpr h22
  clear h1 h2 h3 h4 h5 h21 h22 hz
  by_cases g : 1 ≤ a0
  · have hi : isOp a0 = decide (a0 ≤ 23) := by simp [isOp, g]
    rw [hi]
    have g' : decide (1 ≤ a0) = true := decide_eq_true g
    clear hi g
    go_enter Try.func68, Try.ntmps68
    go_wp2
    go_ret2
    exact ⟨rfl, Drawn0.refl _⟩
  · have hi : isOp a0 = false := by simp [isOp, g]
    rw [hi]
    have g' : decide (1 ≤ a0) = false := decide_eq_false g
    clear hi g
    go_enter Try.func68, Try.ntmps68
    go_wp2
    go_ret2
    exact ⟨rfl, Drawn0.refl _⟩
end Go.Proofs.Ytlmpoojpbdmmfaa.H
