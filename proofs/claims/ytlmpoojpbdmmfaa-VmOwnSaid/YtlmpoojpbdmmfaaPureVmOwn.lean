/- The pure statement of VmOwn: its walk tells true at all inputs. The conditions: none. -/
import Derived.Test.YtlmpoojpbdmmfaaFits
import Derived.Test.YtlmpoojpbdmmfaaSvmOwn
namespace Go.Proofs.Ytlmpoojpbdmmfaa.H.Pure
open Go.RowKit Go.Proofs.YtlmpoojpbdmmfaaW.PrintWords Go.Proofs.YtlmpoojpbdmmfaaW.PrintLast
theorem VmOwn : ∀ (y0 : List (S53)) (y1 : S24) (y2 : List Int) (y3 : Int), (fun l : List (S53) => l.length ≤ 9223372036854775807 ∧ l.length * 16 ≤ 140737488351232 ∧ ∀ x ∈ l, G53 x) y0 → G24 y1 → (fun l : List (Int) => l.length ≤ 9223372036854775807 ∧ l.length * 8 ≤ 140737488351232 ∧ ∀ x ∈ l, (fun x : Int => (Lit.int .i64 x).wf = true) x) y2 → (fun x : Int => (Lit.int .u8 x).wf = true) y3 → ∃ _k : Nat, carillonlaw22_VmOwn.f y0 y1.f0 y1.f1 y1.f2 y1.f3 y2 y3 = some true := by
  intro y0 y1 y2 y3 _ _ _ h
  refine ⟨0, ?_⟩
  have h2 : 0 ≤ y3 ∧ y3 ≤ 255 := by simpa [Lit.wf, IntKind.min, IntKind.max, IntKind.bits, IntKind.signed] using h
  rw [carillonlaw22_VmOwn.f, if_pos h2]
end Go.Proofs.Ytlmpoojpbdmmfaa.H.Pure
