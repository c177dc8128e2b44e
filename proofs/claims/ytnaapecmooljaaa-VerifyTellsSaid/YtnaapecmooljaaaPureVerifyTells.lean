/- The pure statement of VerifyTells: verifying tells what the reference tells. The conditions: the arguments' own sizes. -/
import Derived.Test.YtnaapecmooljaaaFits
import Derived.Test.YtnaapecmooljaaaSverifyTells
set_option linter.unusedVariables false
set_option linter.unusedSimpArgs false
namespace Go.Proofs.Ytnaapecmooljaaa.H.Pure
open Go.RowKit Go.Proofs.YtnaapecmooljaaaW.PrintWords Go.Proofs.YtnaapecmooljaaaW.PrintLast
theorem tells_j (l : List S26) (c : Cf) (op n e : Int) (k : Nat) (hE : carillonref19_Effect.f k op = some (tks op, gvs op)) (hS : carillonref18_Same.f k l l = some true) :
    carillonlaw19_VerifyTells.j0 (k + 1) l op l n e n e c.slots c.reads c.writes c.stack = some true := by
  simp only [carillonlaw19_VerifyTells.j0, verify_Effect.f, Option.bind_some, hE, hS, if_true, verify_May.f, may_val, works19, BEq.rfl]
theorem VerifyTells : ∀ (y0 : List (S26)) (y1 : S48) (y2 : Int), (fun l : List (S26) => l.length ≤ 9223372036854775807 ∧ l.length * 16 ≤ 140737488351232 ∧ ∀ x ∈ l, G26 x) y0 → G48 y1 → (fun x : Int => (Lit.int .u8 x).wf = true) y2 → ∃ k, carillonlaw19_VerifyTells.f k y0 y1.f0 y1.f1 y1.f2 y1.f3 y2 = some true := by
  intro l c op hl _ _
  obtain ⟨KE, hE⟩ := ev_reff op
  obtain ⟨KS, hS⟩ := ev_same l (by omega)
  refine ⟨max KE KS + 1, ?_⟩
  have hE := hE (max KE KS) (by omega)
  have hS := hS (max KE KS) (by omega)
  unfold carillonlaw19_VerifyTells.f
  by_cases h1 : (l.length : Int) > 300
  · rw [if_pos h1, works19]; rfl
  rw [if_neg h1, if_pos (by simp only [List.length_nil]; omega)]
  simp only [Option.bind_some, List.nil_append, verify_Verify.f, carillonref19_States.f, ← ver_sref]
  have hj := fun n e => tells_j l ⟨c.f0, c.f1, c.f2, c.f3⟩ op n e (max KE KS) hE hS
  simp only at hj
  by_cases he : (ver l ⟨c.f0, c.f1, c.f2, c.f3⟩).2 = 0
  · rw [if_pos he]
    exact hj _ _
  · rw [if_neg he, ver_err he]
    exact hj _ _
end Go.Proofs.Ytnaapecmooljaaa.H.Pure
