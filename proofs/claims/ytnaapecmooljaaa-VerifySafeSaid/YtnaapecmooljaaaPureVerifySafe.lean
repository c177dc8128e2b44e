/- The pure statement of VerifySafe: its walk tells true at all inputs. The conditions: the arguments' own sizes. -/
import Derived.Test.YtnaapecmooljaaaFits
import Derived.Test.YtnaapecmooljaaaSverifySafe
namespace Go.Proofs.Ytnaapecmooljaaa.H.Pure
open Go.RowKit Go.Proofs.YtnaapecmooljaaaW.PrintWords Go.Proofs.YtnaapecmooljaaaW.PrintLast
theorem VerifySafe : ∀ (y0 : List (S26)) (y1 : S48) (y2 : List (Bool)), (fun l : List (S26) => l.length ≤ 9223372036854775807 ∧ l.length * 16 ≤ 140737488351232 ∧ ∀ x ∈ l, G26 x) y0 → G48 y1 → (fun l : List (Bool) => l.length ≤ 9223372036854775807 ∧ l.length * 1 ≤ 140737488351232 ∧ ∀ x ∈ l, (fun _ : Bool => True) x) y2 → ∃ k, carillonlaw19_VerifySafe.f k y0 y1.f0 y1.f1 y1.f2 y1.f3 y2 = some true :=
  fun _ _ _ _ _ _ => ⟨0, rfl⟩
end Go.Proofs.Ytnaapecmooljaaa.H.Pure
