/- Each type of the laws' arguments: what reads as data of it is a value of its kind. The conditions: none. -/
import Derived.Test.YtnaapecmooljaaaOpen
import Derived.Test.YtnaapecmooljaaaHx0
import Derived.KernelRfl
set_option linter.unusedVariables false
namespace Go.Proofs.Ytnaapecmooljaaa.H
open Go.RowKit Go.Proofs.YtnaapecmooljaaaW.PrintWords Go.Proofs.YtnaapecmooljaaaOpen
theorem fits_5 (n : Nat) : Fits Try.prog 5 (Kd.int .u8) (fun x : Int => (Lit.int .u8 x).wf = true) n := fits_int Try.underlying5 n
theorem fits_2 (n : Nat) : Fits Try.prog 2 (Kd.int .i64) (fun x : Int => (Lit.int .i64 x).wf = true) n := fits_int Try.underlying2 n
def G26 (x : S26) : Prop := (fun x : Int => (Lit.int .u8 x).wf = true) x.f0 ∧ (fun x : Int => (Lit.int .i64 x).wf = true) x.f1
theorem fits_26 (n : Nat) : Fits Try.prog 26 k26 G26 n := by
  cases n with
  | zero => exact fits_zero _ _
  | succ n => exact fits_imp (fits_struct (m := 2) (fun x : S26 => (x.f0, x.f1)) (fun p => ⟨p.1, p.2⟩) (fun _ => rfl) Try.underlying26 rfl (by kernel_rfl) (by kernel_rfl) (fitsS_pair (fits_5 n) (fitsS_one (fits_2 n)))) (fun y h => h)
theorem fits_22 (n : Nat) : Fits Try.prog 22 (Kd.slice 26 k26) (fun l : List (S26) => l.length ≤ 9223372036854775807 ∧ l.length * 16 ≤ 140737488351232 ∧ ∀ x ∈ l, G26 x) n := by
  cases n with
  | zero => exact fits_zero _ _
  | succ n => exact fits_slice Try.underlying22 (by kernel_rfl) (by kernel_rfl) (fits_26 n)
theorem fits_3 (n : Nat) : Fits Try.prog 3 (Kd.int .i64) (fun x : Int => (Lit.int .i64 x).wf = true) n := fits_int Try.underlying3 n
def G48 (x : S48) : Prop := (fun x : Int => (Lit.int .i64 x).wf = true) x.f0 ∧ (fun x : Int => (Lit.int .i64 x).wf = true) x.f1 ∧ (fun x : Int => (Lit.int .i64 x).wf = true) x.f2 ∧ (fun x : Int => (Lit.int .i64 x).wf = true) x.f3
theorem fits_48 (n : Nat) : Fits Try.prog 48 k48 G48 n := by
  cases n with
  | zero => exact fits_zero _ _
  | succ n => exact fits_imp (fits_struct (m := 4) (fun x : S48 => (x.f0, x.f1, x.f2, x.f3)) (fun p => ⟨p.1, p.2.1, p.2.2.1, p.2.2.2⟩) (fun _ => rfl) Try.underlying48 rfl (by kernel_rfl) (by kernel_rfl) (fitsS_pair (fits_3 n) (fitsS_pair (fits_3 n) (fitsS_pair (fits_3 n) (fitsS_one (fits_3 n)))))) (fun y h => h)
end Go.Proofs.Ytnaapecmooljaaa.H
