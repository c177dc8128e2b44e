/- Each type of the laws' arguments: what reads as data of it is a value of its kind. The conditions: none. -/
import Derived.Test.YtlmpoojpbdmmfaaOpen
import Derived.Test.YtlmpoojpbdmmfaaHx0
import Derived.KernelRfl
set_option linter.unusedVariables false
namespace Go.Proofs.Ytlmpoojpbdmmfaa.H
open Go.RowKit Go.Proofs.YtlmpoojpbdmmfaaW.PrintWords Go.Proofs.YtlmpoojpbdmmfaaOpen
theorem fits_2 (n : Nat) : Fits Try.prog 2 (Kd.int .i64) (fun x : Int => (Lit.int .i64 x).wf = true) n := fits_int Try.underlying2 n
theorem fits_5 (n : Nat) : Fits Try.prog 5 (Kd.int .u8) (fun x : Int => (Lit.int .u8 x).wf = true) n := fits_int Try.underlying5 n
def G53 (x : S53) : Prop := (fun x : Int => (Lit.int .u8 x).wf = true) x.f0 ∧ (fun x : Int => (Lit.int .i64 x).wf = true) x.f1
theorem fits_53 (n : Nat) : Fits Try.prog 53 k53 G53 n := by
  cases n with
  | zero => exact fits_zero _ _
  | succ n => exact fits_imp (fits_struct (m := 2) (fun x : S53 => (x.f0, x.f1)) (fun p => ⟨p.1, p.2⟩) (fun _ => rfl) Try.underlying53 rfl (by kernel_rfl) (by kernel_rfl) (fitsS_pair (fits_5 n) (fitsS_one (fits_2 n)))) (fun y h => h)
theorem fits_22 (n : Nat) : Fits Try.prog 22 (Kd.slice 53 k53) (fun l : List (S53) => l.length ≤ 9223372036854775807 ∧ l.length * 16 ≤ 140737488351232 ∧ ∀ x ∈ l, G53 x) n := by
  cases n with
  | zero => exact fits_zero _ _
  | succ n => exact fits_slice Try.underlying22 (by kernel_rfl) (by kernel_rfl) (fits_53 n)
theorem fits_3 (n : Nat) : Fits Try.prog 3 (Kd.int .i64) (fun x : Int => (Lit.int .i64 x).wf = true) n := fits_int Try.underlying3 n
def G24 (x : S24) : Prop := (fun x : Int => (Lit.int .i64 x).wf = true) x.f0 ∧ (fun x : Int => (Lit.int .i64 x).wf = true) x.f1 ∧ (fun x : Int => (Lit.int .i64 x).wf = true) x.f2 ∧ (fun x : Int => (Lit.int .i64 x).wf = true) x.f3
theorem fits_24 (n : Nat) : Fits Try.prog 24 k24 G24 n := by
  cases n with
  | zero => exact fits_zero _ _
  | succ n => exact fits_imp (fits_struct (m := 4) (fun x : S24 => (x.f0, x.f1, x.f2, x.f3)) (fun p => ⟨p.1, p.2.1, p.2.2.1, p.2.2.2⟩) (fun _ => rfl) Try.underlying24 rfl (by kernel_rfl) (by kernel_rfl) (fitsS_pair (fits_3 n) (fitsS_pair (fits_3 n) (fitsS_pair (fits_3 n) (fitsS_one (fits_3 n)))))) (fun y h => h)
theorem fits_25 (n : Nat) : Fits Try.prog 25 (Kd.slice 2 (Kd.int .i64)) (fun l : List (Int) => l.length ≤ 9223372036854775807 ∧ l.length * 8 ≤ 140737488351232 ∧ ∀ x ∈ l, (fun x : Int => (Lit.int .i64 x).wf = true) x) n := by
  cases n with
  | zero => exact fits_zero _ _
  | succ n => exact fits_slice Try.underlying25 (by kernel_rfl) (by kernel_rfl) (fits_2 n)
theorem fits_61 (n : Nat) : Fits Try.prog 61 (Kd.slice 5 (Kd.int .u8)) (fun l : List (Int) => l.length ≤ 9223372036854775807 ∧ l.length * 1 ≤ 140737488351232 ∧ ∀ x ∈ l, (fun x : Int => (Lit.int .u8 x).wf = true) x) n := by
  cases n with
  | zero => exact fits_zero _ _
  | succ n => exact fits_slice Try.underlying61 (by kernel_rfl) (by kernel_rfl) (fits_5 n)
end Go.Proofs.Ytlmpoojpbdmmfaa.H
