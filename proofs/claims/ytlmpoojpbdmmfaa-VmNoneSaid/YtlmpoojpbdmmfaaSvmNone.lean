/- The law VmNone: what a run that is none answers, and the sample's run. -/
import Derived.Test.YtlmpoojpbdmmfaaWorks22
set_option linter.unusedVariables false
set_option linter.unusedSimpArgs false
namespace Go.Proofs.Ytlmpoojpbdmmfaa.H
open Go.RowKit Go.Proofs.YtlmpoojpbdmmfaaW.PrintWords Go.Proofs.YtlmpoojpbdmmfaaW.PrintLast Go.Proofs.YtlmpoojpbdmmfaaW.PrintMore Go.Maps
def carillonlaw22_VmNone.f (a0 : Int) : Option Bool := some true
set_option maxHeartbeats 8000000 in
set_option maxRecDepth 100000 in
theorem carillonlaw22_VmNone.calls (a0 : Int) (r : Bool) (w : World) (h : carillonlaw22_VmNone.f a0 = some r) :
    Calls Try.prog 4 #[.int .i64 a0] w fun e w' => e = .returned (.bool r) ∧ Below w.heap.size w w' := by
  obtain rfl : true = r := Option.some.inj h
  clear h
  have hz := zero37
  go_enter Try.func4, Try.ntmps4
  go_wp2_with fail
  refine (step_nil _).mono ?_
  rintro e W1 ⟨rfl, b1⟩
  have B1 := Aside0.mk b1
  clear b1
  go_wp2_with fail
  refine (run_nil _ _).mono ?_
  rintro e W2 ⟨rfl, b2⟩
  have B2 : Aside0 (Below w.heap.size w W2) := ⟨B1.out.trans (b2.mono B1.out.size)⟩
  clear b2 B1
  go_wp2_with fail
  refine (outs_nil _).mono ?_
  rintro e W3 ⟨rfl, b3⟩
  have B3 : Aside0 (Below w.heap.size w W3) := ⟨B2.out.trans (b3.mono B2.out.size)⟩
  clear b3 B2
  go_wp2_with fail
  refine (save_nil _).mono ?_
  rintro e W4 ⟨rfl, b4⟩
  have B4 : Aside0 (Below w.heap.size w W4) := ⟨B3.out.trans (b4.mono B3.out.size)⟩
  clear b4 B3
  have X5 := Aside0.mk (heap_alloc_new W4 (.cells cx0 (37 : Nat)))
  have B5 : Aside0 (Below w.heap.size w (W4.alloc (.cells cx0 (37 : Nat)))) := ⟨B4.out.alloc B4.out.size _⟩
  have S4 : Aside0 (w.heap.size ≤ W4.heap.size) := ⟨B4.out.size⟩
  clear B4
  go_wp2_with (first | ((with_reducible refine gate_store (t := 37) (p := 12) rfl ?_); refine wpList_cxstore (cs' := cx0) rfl (.tmp 12) (.tmp 35) rfl rfl rfl X5.out rfl rfl cx0_all ?_))
  refine (spent_nil _).mono ?_
  rintro e W6 ⟨rfl, b6⟩
  have B6 : Aside0 (Below w.heap.size w W6) := ⟨(setRow_below2 B5.out S4.out cx0).trans (b6.mono (setRow_below2 B5.out S4.out cx0).size)⟩
  clear b6 B5 X5
  go_wp2_with fail
  refine (works_calls _).mono ?_
  rintro e W7 ⟨rfl, b7⟩
  have B7 : Aside0 (Below w.heap.size w W7) := ⟨B6.out.trans (b7.mono B6.out.size)⟩
  clear b7 B6
  go_wp2
  go_ret
  exact ⟨rfl, B7.out⟩
end Go.Proofs.Ytlmpoojpbdmmfaa.H
