/- The pure statement of VmAgain: its walk tells true at all inputs. The conditions: none. -/
import Derived.Test.YtlmpoojpbdmmfaaFits
import Derived.Test.YtlmpoojpbdmmfaaSvmAgain
namespace Go.Proofs.Ytlmpoojpbdmmfaa.H.Pure
open Go.RowKit Go.Proofs.YtlmpoojpbdmmfaaW.PrintWords Go.Proofs.YtlmpoojpbdmmfaaW.PrintLast
theorem VmAgain : ∀ (y0 : List (S53)) (y1 : S24) (y2 : List Int) (y3 : List Int), (fun l : List (S53) => l.length ≤ 9223372036854775807 ∧ l.length * 16 ≤ 140737488351232 ∧ ∀ x ∈ l, G53 x) y0 → G24 y1 → (fun l : List (Int) => l.length ≤ 9223372036854775807 ∧ l.length * 8 ≤ 140737488351232 ∧ ∀ x ∈ l, (fun x : Int => (Lit.int .i64 x).wf = true) x) y2 → (fun l : List (Int) => l.length ≤ 9223372036854775807 ∧ l.length * 1 ≤ 140737488351232 ∧ ∀ x ∈ l, (fun x : Int => (Lit.int .u8 x).wf = true) x) y3 → ∃ _k : Nat, carillonlaw22_VmAgain.f y0 y1.f0 y1.f1 y1.f2 y1.f3 y2 y3 = some true :=
  fun _ _ _ _ _ _ _ _ => ⟨0, rfl⟩
end Go.Proofs.Ytlmpoojpbdmmfaa.H.Pure
