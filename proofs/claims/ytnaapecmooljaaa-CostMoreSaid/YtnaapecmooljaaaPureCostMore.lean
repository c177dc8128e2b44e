/- The pure statement of CostMore: an instruction more behind the first one costs its cycles more. The conditions: the arguments' own sizes. -/
import Derived.Test.YtnaapecmooljaaaFits
import Derived.Test.YtnaapecmooljaaaMore21
import Derived.Test.YtnaapecmooljaaaW21
import Derived.Test.YtnaapecmooljaaaQ18
import Derived.Test.YtnaapecmooljaaaHx14
set_option linter.unusedVariables false
set_option linter.unusedSimpArgs false
namespace Go.Proofs.Ytnaapecmooljaaa.H.Pure
open Go.RowKit Go.Proofs.YtnaapecmooljaaaW.PrintWords Go.Proofs.YtnaapecmooljaaaW.PrintLast

theorem ev_bound (l : List S26) : Ev (fun _ => cost_Bound.f l) (bound l) := Ev.now _
theorem ev_works21 : Ev (fun _ => carillonlaw21_works.f) true := by rw [works21]; exact Ev.now _
theorem more_works0 (l : List S26) (a b : Int) : Ev (fun k => carillonlaw21_CostMore.j0 k l true a b) true :=
  Ev.step (f := fun _ => (carillonlaw21_works.f).bind fun t => some t) (fun k => by simp only [carillonlaw21_CostMore.j0, if_true]) (Ev.bind ev_works21 (Ev.now _))
theorem more_works1 (l : List S26) (a b : Int) : Ev (fun k => carillonlaw21_CostMore.j1 k l true a b) true :=
  Ev.step (f := fun _ => (carillonlaw21_works.f).bind fun t => some t) (fun k => by simp only [carillonlaw21_CostMore.j1, if_true]) (Ev.bind ev_works21 (Ev.now _))
theorem more_j1 (h : S26) (r : List S26) (a b : Int) (hl : (h :: r).length ≤ 300) (h1 : h.f0 ≠ 21 ∧ h.f0 ≠ 22 ∧ h.f0 ≠ 23) (h2 : a ≠ 21 ∧ a ≠ 22 ∧ a ≠ 23) (hm : mayB a b = true) :
    Ev (fun k => carillonlaw21_CostMore.j1 k (h :: r) false a b) true := by
  refine Ev.step (f := fun k => if ([] : List S26).length + (h :: r).length < 8796093022208 then ((cost_Bound.f (([] : List S26) ++ (h :: r))).bind fun bt383 => (if bt383.2.2 = 0 then (if 0 < ((h :: r).length : Int) then ((some ([h, ⟨a, b⟩] : List S26)).bind fun y387 => (if 1 ≤ ((h :: r).length : Int) then ((some (r : List S26)).bind fun y390 => (if y387.length + y390.length < 8796093022208 then ((cost_Bound.f (y387 ++ y390)).bind fun bt397 => ((carillonref18_Cycles.f k a).bind fun t400 => (if bt397.2.2 = 0 then (if bt397.1 = (wrap64 (bt383.1 + t400)) then (if bt397.2.1 = (wrap64 (bt383.2.1 + t400)) then ((carillonlaw21_works.f).bind fun t401 => (some t401)) else (some false)) else (some false)) else (some false)))) else (none))) else (none))) else (none)) else ((carillonlaw21_works.f).bind fun t402 => (some t402)))) else (none)) (fun k => ?_) ?_
  · simp only [carillonlaw21_CostMore.j1, Bool.false_eq_true, if_false]
    rfl
  simp only [List.length_cons] at hl
  refine Ev.if_pos (by simp only [List.length_nil, List.length_cons]; omega) ?_
  rw [List.nil_append]
  refine Ev.bind (ev_bound _) ?_
  by_cases hb : (bound (h :: r)).2.2 = 0
  · refine Ev.if_pos hb (Ev.if_pos (by simp only [List.length_cons]; omega) (Ev.bind (Ev.now _) (Ev.if_pos (by simp only [List.length_cons]; omega) (Ev.bind (Ev.now _) (Ev.if_pos (by simp only [List.length_cons, List.length_nil]; omega) ?_)))))
    refine Ev.bind (ev_bound _) (Ev.bind (ev_rcycles a) ?_)
    have e := bound_more h ⟨a, b⟩ r (by simp only [List.length_cons]; omega) h1 h2 hm hb
    obtain ⟨_, _, _, hv, _⟩ := bound_val hb
    have r1 := lo_range (h :: r) (h :: r).length 0
    have r2 := hi_range (h :: r) (h :: r).length 0
    have r3 := cyc_range a
    have e1 : (bound (h :: r)).1 = lo (h :: r) (h :: r).length 0 := by rw [hv]
    have e2 : (bound (h :: r)).2.1 = hi (h :: r) (h :: r).length 0 := by rw [hv]
    simp only [List.length_cons] at r1 r2
    rw [show ([h, ⟨a, b⟩] : List S26) ++ r = h :: ⟨a, b⟩ :: r from rfl, e]
    rw [wrap_ok (x := (bound (h :: r)).1 + cyc a) (by rw [e1]; simp only [List.length_cons]; omega) (by rw [e1]; simp only [List.length_cons]; omega),
      wrap_ok (x := (bound (h :: r)).2.1 + cyc a) (by rw [e2]; simp only [List.length_cons]; omega) (by rw [e2]; simp only [List.length_cons]; omega)]
    exact Ev.if_pos rfl (Ev.if_pos rfl (Ev.if_pos rfl (Ev.bind ev_works21 (Ev.now _))))
  · exact Ev.if_neg hb (Ev.bind ev_works21 (Ev.now _))
theorem more_all (l : List S26) (a b : Int) : Ev (fun k => carillonlaw21_CostMore.f k l a b) true := by
  unfold carillonlaw21_CostMore.f
  by_cases h : (l.length : Int) > 300
  · exact Ev.if_pos h (more_works0 l a b)
  refine Ev.if_neg h ?_
  match l, h with
  | [], _ => exact more_works0 [] a b
  | h0 :: r, h =>
    have e : (((h0 :: r).length : Int) == 0) = false := by simp; omega
    rw [e]
    refine Ev.step (f := fun k => if 0 < ((h0 :: r).length : Int) then (if h0.f0 = 21 then (carillonlaw21_CostMore.j1 k (h0 :: r) true a b) else (if h0.f0 = 22 then (carillonlaw21_CostMore.j1 k (h0 :: r) true a b) else (if h0.f0 = 23 then (carillonlaw21_CostMore.j1 k (h0 :: r) true a b) else (if a = 21 then (carillonlaw21_CostMore.j1 k (h0 :: r) true a b) else (if a = 22 then (carillonlaw21_CostMore.j1 k (h0 :: r) true a b) else (if a = 23 then (carillonlaw21_CostMore.j1 k (h0 :: r) true a b) else ((carillonref18_May.f k a b).bind fun t378 => (carillonlaw21_CostMore.j1 k (h0 :: r) (!t378) a b)))))))) else (none)) (fun k => ?_) ?_
    · simp only [carillonlaw21_CostMore.j0, Bool.false_eq_true, if_false]
      rfl
    refine Ev.if_pos (by simp only [List.length_cons]; omega) ?_
    by_cases g1 : h0.f0 = 21
    · exact Ev.if_pos g1 (more_works1 _ a b)
    refine Ev.if_neg g1 ?_
    by_cases g2 : h0.f0 = 22
    · exact Ev.if_pos g2 (more_works1 _ a b)
    refine Ev.if_neg g2 ?_
    by_cases g3 : h0.f0 = 23
    · exact Ev.if_pos g3 (more_works1 _ a b)
    refine Ev.if_neg g3 ?_
    by_cases g4 : a = 21
    · exact Ev.if_pos g4 (more_works1 _ a b)
    refine Ev.if_neg g4 ?_
    by_cases g5 : a = 22
    · exact Ev.if_pos g5 (more_works1 _ a b)
    refine Ev.if_neg g5 ?_
    by_cases g6 : a = 23
    · exact Ev.if_pos g6 (more_works1 _ a b)
    refine Ev.if_neg g6 (Ev.bind (ev_rmay a b) ?_)
    cases hm : mayB a b with
    | false => exact more_works1 _ a b
    | true => exact more_j1 h0 r a b (by simp only [List.length_cons] at h ⊢; omega) ⟨g1, g2, g3⟩ ⟨g4, g5, g6⟩ hm
theorem CostMore : ∀ (y0 : List (S26)) (y1 : S26), (fun l : List (S26) => l.length ≤ 9223372036854775807 ∧ l.length * 16 ≤ 140737488351232 ∧ ∀ x ∈ l, G26 x) y0 → G26 y1 → ∃ k, carillonlaw21_CostMore.f k y0 y1.f0 y1.f1 = some true := by
  intro l i _ _
  exact Ev.rounds (more_all l i.f0 i.f1)
end Go.Proofs.Ytnaapecmooljaaa.H.Pure
