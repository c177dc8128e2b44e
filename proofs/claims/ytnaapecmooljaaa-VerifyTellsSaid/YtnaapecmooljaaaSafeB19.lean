/- What VerifySafe's walk asks: the known code, the order of a statement, the arrays' zero values, the reference's effects. No conditions. -/
import Derived.Test.YtnaapecmooljaaaSafe19
import Derived.Test.YtnaapecmooljaaaHx18
import Derived.Test.YtnaapecmooljaaaHx19
import Derived.KernelRfl
import Derived.Deep.WholeRow
set_option linter.unusedVariables false
set_option linter.unusedSimpArgs false
namespace Go.Proofs.Ytnaapecmooljaaa.H
open Go.RowKit Go.Proofs.YtnaapecmooljaaaW.PrintWords Go.Proofs.YtnaapecmooljaaaW.PrintLast Go.Proofs.YtnaapecmooljaaaW.PrintMore
theorem works19 : carillonlaw19_works.f = some true := by kernel_rfl
def vs_T3 : Bool × List (List Nat × List Nat) := (true, [([], []), ([0], [0]), ([], []), ([1, 2, 1], [1, 2]), ([3], [3]), ([4], [4]), ([4], [4]), ([5, 3, 0, 1, 2, 3, 4, 5], [5]), ([6, 7, 0, 1, 2, 3, 4, 5, 6, 7], [6])])
def vs_B3 : List Nat := [0, 1, 0, 7, 15, 31, 31, 63, 255]
theorem vs_tab3 : rtab .any (opsOf Try.f11 3) = vs_T3 := by kernel_rfl
theorem vs_bits3 : waitsOk vs_T3.2 vs_B3 = true := by kernel_rfl
theorem vs_z58 (w : World) : (zeroValue 58).run Try.prog w = .ok (.agg ((List.replicate 512 false).map Value.bool).toArray) w := (zero_of_info (P := Try.prog) (t := 58) (v := .agg ((List.replicate 512 false).map Value.bool).toArray) (n := 512) (by kernel_rfl)).1 w
theorem vs_z59 (w : World) : (zeroValue 59).run Try.prog w = .ok (.agg ((List.replicate 64 (0 : Int)).map (Value.int .i64)).toArray) w := (zero_of_info (P := Try.prog) (t := 59) (v := .agg ((List.replicate 64 (0 : Int)).map (Value.int .i64)).toArray) (n := 64) (by kernel_rfl)).1 w
theorem ev_reff (op : Int) : Ev (fun k => carillonref19_Effect.f k op) (tks op, gvs op) := by
  refine ⟨3, fun k hk => ?_⟩
  obtain ⟨k, rfl⟩ : ∃ m, k = m + 3 := ⟨k - 3, by omega⟩
  clear hk
  by_cases h : 1 ≤ op ∧ op ≤ 23
  · have h1 : op = 1 ∨ op = 2 ∨ op = 3 ∨ op = 4 ∨ op = 5 ∨ op = 6 ∨ op = 7 ∨ op = 8 ∨ op = 9 ∨ op = 10 ∨ op = 11 ∨ op = 12 ∨ op = 13 ∨ op = 14 ∨ op = 15 ∨ op = 16 ∨ op = 17 ∨ op = 18 ∨ op = 19 ∨ op = 20 ∨ op = 21 ∨ op = 22 ∨ op = 23 := by omega
    rcases h1 with rfl | rfl | rfl | rfl | rfl | rfl | rfl | rfl | rfl | rfl | rfl | rfl | rfl | rfl | rfl | rfl | rfl | rfl | rfl | rfl | rfl | rfl | rfl <;> rfl
  · have e : ∀ c : Int, 1 ≤ c → c ≤ 23 → (op = c) = False := fun c h1 h2 => eq_false (by omega)
    have e' : ∀ c : Int, 1 ≤ c → c ≤ 23 → (op == c) = false := fun c h1 h2 => beq_eq_false_iff_ne.mpr (by omega)
    have t1 : tks op = 0 := by unfold tks; rw [if_neg (by omega), if_neg (by omega)]
    have t2 : gvs op = 0 := by unfold gvs; rw [if_neg (by omega), if_neg (by omega)]
    rw [t1, t2]
    simp only [carillonref19_Effect.f, carillonref19_Effect.j0, carillonref19_Effect.j1, carillonref19_Effect.j2, e 1 (by decide) (by decide), e 2 (by decide) (by decide), e' 4 (by decide) (by decide), e 3 (by decide) (by decide), e 5 (by decide) (by decide), e' 22 (by decide) (by decide), e 6 (by decide) (by decide), e' 7 (by decide) (by decide), if_false, Bool.false_eq_true]
    by_cases g : op ≥ 8
    · rw [if_pos g, if_neg (by omega)]
    · rw [if_neg g]
end Go.Proofs.Ytnaapecmooljaaa.H
