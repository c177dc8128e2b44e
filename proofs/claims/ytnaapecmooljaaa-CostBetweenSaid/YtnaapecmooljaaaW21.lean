/- The law's own known code, reckoned. Plain. -/
import Derived.Test.YtnaapecmooljaaaHx8
import Derived.KernelRfl
namespace Go.Proofs.Ytnaapecmooljaaa.H
open Go.RowKit Go.Proofs.YtnaapecmooljaaaW.PrintWords
theorem works21 : carillonlaw21_works.f = some true := by kernel_rfl
end Go.Proofs.Ytnaapecmooljaaa.H
