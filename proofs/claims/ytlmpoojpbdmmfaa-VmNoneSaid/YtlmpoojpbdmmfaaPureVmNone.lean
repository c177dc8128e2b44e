/- The pure statement of VmNone: its walk tells true at all inputs. The conditions: none. -/
import Derived.Test.YtlmpoojpbdmmfaaFits
import Derived.Test.YtlmpoojpbdmmfaaSvmNone
namespace Go.Proofs.Ytlmpoojpbdmmfaa.H.Pure
open Go.RowKit Go.Proofs.YtlmpoojpbdmmfaaW.PrintWords Go.Proofs.YtlmpoojpbdmmfaaW.PrintLast
theorem VmNone : ∀ (y0 : Int), (fun x : Int => (Lit.int .i64 x).wf = true) y0 → ∃ _k : Nat, carillonlaw22_VmNone.f y0 = some true :=
  fun _ _ => ⟨0, rfl⟩
end Go.Proofs.Ytlmpoojpbdmmfaa.H.Pure
