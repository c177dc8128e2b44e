/- The pure statement of CostTells: how long code takes at most and at least, how long each way takes, which code has no end. The conditions: the arguments' own sizes. -/
import Derived.Test.YtnaapecmooljaaaFits
import Derived.Test.YtnaapecmooljaaaRB21
import Derived.Test.YtnaapecmooljaaaQ18
import Derived.Test.YtnaapecmooljaaaHx12
import Derived.Test.YtnaapecmooljaaaHx8
set_option linter.unusedVariables false
set_option linter.unusedSimpArgs false
namespace Go.Proofs.Ytnaapecmooljaaa.H.Pure
open Go.RowKit Go.Proofs.YtnaapecmooljaaaW.PrintWords Go.Proofs.YtnaapecmooljaaaW.PrintLast

theorem tells_w : carillonlaw21_works.f = some true := by kernel_rfl
theorem tells_works : Ev (fun _ => carillonlaw21_works.f) true := by rw [tells_w]; exact Ev.now _
theorem tells_j0 (l : List S26) (ts : List Bool) (x : Bool) (hx : x = false → l.length ≤ 400 ∧ ts.length ≤ 400) : Ev (fun k => carillonlaw21_CostTells.j0 k l ts x) true := by
  cases x with
  | true => exact Ev.step (f := fun _ => (carillonlaw21_works.f).bind fun t => some t) (fun k => by simp only [carillonlaw21_CostTells.j0, if_true]) (Ev.bind tells_works (Ev.now _))
  | false =>
    obtain ⟨h1, h2⟩ := hx rfl
    refine Ev.step (f := fun k => (if ([] : List (S26)).length + l.length < 8796093022208 then ((some (([] : List (S26)) ++ l : List (S26))).bind fun y333 => ((cost_Bound.f y333).bind fun bt336 => ((carillonref21_Bound.f k l).bind fun bt339 => (if ([] : List Bool).length + ts.length < 140737488355328 then ((cost_Path.f y333 (([] : List Bool) ++ ts)).bind fun bt345 => ((carillonref21_Path.f k l ts).bind fun bt347 => (if bt336.1 = bt339.1 then (if bt336.2.1 = bt339.2.1 then (if bt336.2.2 = bt339.2.2 then (if bt345.1 = bt347.1 then (if bt345.2 = bt347.2 then ((carillonref18_Same.f k y333 l).bind fun t349 => (if t349 = true then ((carillonlaw21_works.f).bind fun t350 => (some t350)) else (some false))) else (some false)) else (some false)) else (some false)) else (some false)) else (some false)))) else (none))))) else (none))) (fun k => by simp only [carillonlaw21_CostTells.j0, Bool.false_eq_true, if_false]) ?_
    refine Ev.if_pos (by simp only [List.length_nil]; omega) (Ev.bind (Ev.now _) ?_)
    simp only [List.nil_append]
    refine Ev.bind (show Ev (fun _ => cost_Bound.f l) (bound l) from Ev.now _) (Ev.bind (ev_rbound l) (Ev.if_pos (by simp only [List.length_nil]; omega) ?_))
    refine Ev.bind (show Ev (fun _ => cost_Path.f l ts) (path l ts) from Ev.now _) (Ev.bind (ev_rpath l ts) ?_)
    exact Ev.if_pos rfl (Ev.if_pos rfl (Ev.if_pos rfl (Ev.if_pos rfl (Ev.if_pos rfl (Ev.bind (ev_same l (by omega)) (Ev.if_pos rfl (Ev.bind tells_works (Ev.now _))))))))
theorem CostTells : ∀ (y0 : List (S26)) (y1 : List (Bool)), (fun l : List (S26) => l.length ≤ 9223372036854775807 ∧ l.length * 16 ≤ 140737488351232 ∧ ∀ x ∈ l, G26 x) y0 → (fun l : List (Bool) => l.length ≤ 9223372036854775807 ∧ l.length * 1 ≤ 140737488351232 ∧ ∀ x ∈ l, (fun _ : Bool => True) x) y1 → ∃ k, carillonlaw21_CostTells.f k y0 y1 = some true := by
  intro l ts _ _
  refine Ev.rounds ?_
  unfold carillonlaw21_CostTells.f
  by_cases h : (l.length : Int) > 400
  · exact Ev.if_pos h (tells_j0 l ts true (by simp))
  · exact Ev.if_neg h (tells_j0 l ts _ (fun e => by simp at e; omega))
end Go.Proofs.Ytnaapecmooljaaa.H.Pure
