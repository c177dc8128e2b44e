/- Each type of the laws' arguments: what reads as data of it is a value of its kind. The conditions: none. -/
import Derived.Test.YtlmpoojpbdmmfaaOpen
import Derived.Test.YtlmpoojpbdmmfaaHx0
import Derived.KernelRfl
set_option linter.unusedVariables false
namespace Go.Proofs.Ytlmpoojpbdmmfaa.H
open Go.RowKit Go.Proofs.YtlmpoojpbdmmfaaW.PrintWords Go.Proofs.YtlmpoojpbdmmfaaOpen
theorem fits_2 (n : Nat) : Fits Try.prog 2 (Kd.int .i64) (fun x : Int => (Lit.int .i64 x).wf = true) n := fits_int Try.underlying2 n
end Go.Proofs.Ytlmpoojpbdmmfaa.H
