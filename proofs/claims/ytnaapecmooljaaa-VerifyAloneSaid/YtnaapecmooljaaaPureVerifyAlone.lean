/- The pure statement of VerifyAlone: behind code that may run nothing may stand. The conditions: the arguments' own sizes. -/
import Derived.Test.YtnaapecmooljaaaFits
import Derived.Test.YtnaapecmooljaaaVp19
import Derived.Test.YtnaapecmooljaaaHx18
import Derived.Test.YtnaapecmooljaaaHx21
import Derived.KernelRfl
set_option linter.unusedVariables false
set_option linter.unusedSimpArgs false
namespace Go.Proofs.Ytnaapecmooljaaa.H.Pure
open Go.RowKit Go.Proofs.YtnaapecmooljaaaW.PrintWords Go.Proofs.YtnaapecmooljaaaW.PrintLast Go.Proofs.YtnaapecmooljaaaW.PrintMore

theorem Ev.yes {α : Type} {c : Prop} [Decidable c] {g f : Nat → Option α} {r : α} (h : c) (k : Ev g r) : Ev (fun n => if c then g n else f n) r := Ev.congr (fun n => _root_.if_pos h) k
theorem Ev.no {α : Type} {c : Prop} [Decidable c] {g f : Nat → Option α} {r : α} (h : ¬ c) (k : Ev f r) : Ev (fun n => if c then g n else f n) r := Ev.congr (fun n => _root_.if_neg h) k
theorem alone_works : carillonlaw19_works.f = some true := by kernel_rfl
theorem rd_app (l r : List S26) {k : Nat} (h : k < l.length) : rd_T26 (l ++ r) (k : Int) = rd_T26 l (k : Int) := by
  unfold rd_T26
  rw [Int.toNat_natCast]
  simp [List.getD_eq_getElem?_getD, List.getElem?_append, h]
theorem rd_take (l : List S26) {k n : Nat} (h : k < n) : rd_T26 (l.take n) (k : Int) = rd_T26 l (k : Int) := by
  unfold rd_T26
  rw [Int.toNat_natCast]
  simp [List.getD_eq_getElem?_getD, List.getElem?_take, h]
/-- Behind the end nothing is reached. -/
theorem vgo_behind {l r : List S26} {c : Cf} (hr : 0 < r.length) : ∀ {d k : Nat} {m : Nat → Option St} {most n : Int}, d + k = l.length → (∀ j, l.length ≤ j → m j = none) → vgo l c d k m most = (n, 0) → vgo (l ++ r) c (d + r.length) k m most = (0, 194)
  | 0, k, m, most, n, hd, hm, h => by
    obtain ⟨e, he⟩ : ∃ e, 0 + r.length = e + 1 := ⟨r.length - 1, by omega⟩
    rw [he, vgo, hm k (by omega)]
  | d + 1, k, m, most, n, hd, hm, h => by
    obtain ⟨s, a1, a2, a3, a4⟩ := vgo_step h
    have e := rd_app l r (show k < l.length by omega)
    have hc := folP_cut (n2 := (l ++ r).length) (by simp) a3
    rw [show d + 1 + r.length = (d + r.length) + 1 by omega, vgo, a1]
    simp only
    rw [e, if_pos a2, hc.1, if_pos a3]
    refine vgo_behind hr (by omega) (fun j hj => ?_) a4
    by_cases e1 : j = k
    · rw [if_pos e1]
    · rw [if_neg e1]
      refine folP_none a3 hj ?_
      rw [if_neg e1]
      exact hm j hj
/-- Without its last instruction it fails. -/
theorem vgo_short {l : List S26} {c : Cf} : ∀ {d k : Nat} {m : Nat → Option St} {most n : Int}, d + 1 + k = l.length → (∀ j, l.length - 1 ≤ j → m j = none) → vgo l c (d + 1) k m most = (n, 0) → (vgo (l.take (l.length - 1)) c d k m most).2 ≠ 0
  | 0, k, m, most, n, hd, hm, h => by
    obtain ⟨s, a1, a2, a3, a4⟩ := vgo_step h
    rw [hm k (by omega)] at a1
    cases a1
  | d + 1, k, m, most, n, hd, hm, h => by
    obtain ⟨s, a1, a2, a3, a4⟩ := vgo_step h
    have e := rd_take l (show k < l.length - 1 by omega)
    have hlen : (l.take (l.length - 1)).length = l.length - 1 := by simp
    rw [vgo, a1]
    simp only
    rw [e, if_pos a2, hlen]
    by_cases hf : (folP (l.length - 1) (fun j => if j = k then some (chk s (rd_T26 l k) c).1 else m j) (chk s (rd_T26 l k) c).1 k (rd_T26 l k)).2 = 0
    · rw [if_pos hf]
      have hc := folP_cut (n2 := l.length) (by omega) hf
      rw [hc.1] at a4
      refine vgo_short (by omega) (fun j hj => ?_) a4
      by_cases e1 : j = k
      · rw [if_pos e1]
      · rw [if_neg e1]
        refine folP_none hf hj ?_
        rw [if_neg e1]
        exact hm j hj
    · rw [if_neg hf]
      exact hf
theorem ver_behind {l r : List S26} {c : Cf} (hl : l.length ≤ 300) (hr : 0 < r.length) (hr2 : r.length ≤ 300) (h : (ver l c).2 = 0) : ver (l ++ r) c = (0, 194) := by
  obtain ⟨hm, h0, h1, _⟩ := ver_ok h
  have hp := ver_pair h
  unfold ver
  rw [if_neg (by rw [hm]; decide), if_neg (by rw [List.length_append]; omega), if_neg (by rw [List.length_append]; omega)]
  have := vgo_behind (r := r) hr (by omega) (fun j hj => by rw [if_neg (by omega)]) hp
  rw [List.length_append]
  exact this
theorem ver_short {l : List S26} {c : Cf} (h : (ver l c).2 = 0) : (ver (l.take (l.length - 1)) c).2 ≠ 0 := by
  obtain ⟨hm, h0, h1, _⟩ := ver_ok h
  have hp := ver_pair h
  have hlen : (l.take (l.length - 1)).length = l.length - 1 := by simp
  unfold ver
  rw [if_neg (by rw [hm]; decide), if_neg (by omega)]
  by_cases e : l.length - 1 = 0
  · rw [if_pos (by omega)]; simp
  · rw [if_neg (by omega), hlen]
    obtain ⟨d, hd⟩ : ∃ d, l.length = d + 1 := ⟨l.length - 1, by omega⟩
    have h2 : l.length - 1 = d := by omega
    rw [hd] at hp
    have := vgo_short (l := l) (d := d) (k := 0) (by omega) (fun j hj => by rw [if_neg (by omega)]) hp
    rw [h2] at this ⊢
    exact this
theorem alone_j0t (l r : List S26) (a b c d : Int) : Ev (fun k => carillonlaw19_VerifyAlone.j0 k l r true a b c d) true :=
  Ev.step (f := fun _ => (carillonlaw19_works.f).bind fun t => some t) (fun k => by simp only [carillonlaw19_VerifyAlone.j0, if_true]) (by rw [alone_works]; exact Ev.now _)
theorem alone_all (l r : List S26) (a b c d : Int) : Ev (fun k => carillonlaw19_VerifyAlone.f k l r a b c d) true := by
  unfold carillonlaw19_VerifyAlone.f
  by_cases h1 : (l.length : Int) > 300
  · exact Ev.yes h1 (alone_j0t _ _ _ _ _ _)
  refine Ev.no h1 ?_
  by_cases h2 : (r.length : Int) > 300
  · exact Ev.yes h2 (alone_j0t _ _ _ _ _ _)
  refine Ev.no h2 ?_
  by_cases h3 : (r.length : Int) = 0
  · rw [show ((r.length : Int) == 0) = true by simpa using h3]
    exact alone_j0t _ _ _ _ _ _
  rw [show ((r.length : Int) == 0) = false from beq_eq_false_iff_ne.mpr h3]
  have e1 : ∀ l' : List S26, verify_Verify.f l' a b c d = some (ver l' ⟨a, b, c, d⟩) := fun _ => rfl
  refine Ev.step (f := fun k => if (ver l ⟨a, b, c, d⟩).2 = 0 then (carillonlaw19_VerifyAlone.j1 k l r (ver l ⟨a, b, c, d⟩).2 ((l.length : Int) == 0) a b c d) else (carillonlaw19_VerifyAlone.j1 k l r (ver l ⟨a, b, c, d⟩).2 true a b c d)) (fun k => ?_) ?_
  · simp only [carillonlaw19_VerifyAlone.j0, Bool.false_eq_true, if_false]
    rw [if_pos (by simp only [List.length_nil]; omega), List.nil_append, e1]
    rfl
  by_cases hv : (ver l ⟨a, b, c, d⟩).2 = 0
  · refine Ev.yes hv ?_
    obtain ⟨hm, h0, _, _⟩ := ver_ok hv
    rw [show ((l.length : Int) == 0) = false from beq_eq_false_iff_ne.mpr (by omega), hv]
    have hw : wrap64 ((l.length : Int) - 1) = (l.length : Int) - 1 := by unfold wrap64; omega
    have ht : ((l.length : Int) - 1).toNat = l.length - 1 := by omega
    have b1 := ver_behind (r := r) (by omega) (by omega) (by omega) hv
    have b2 := ver_short hv
    have b3 := ver_err b2
    refine Ev.step (f := fun _ => some true) (fun k => ?_) (Ev.now _)
    simp only [carillonlaw19_VerifyAlone.j1, Bool.false_eq_true, if_false]
    rw [if_pos (by simp only [List.length_nil]; omega), List.nil_append, Option.bind_some, if_pos (by omega), e1, b1, Option.bind_some, hw, if_pos (by omega), if_pos (by omega), ht, Option.bind_some,
      if_pos (by simp only [List.length_nil, List.length_take]; omega), List.nil_append, e1, Option.bind_some, if_pos rfl, if_pos rfl, if_pos b3, if_neg b2, alone_works]
    rfl
  · refine Ev.no hv (Ev.step (f := fun _ => some true) (fun k => ?_) (Ev.now _))
    simp only [carillonlaw19_VerifyAlone.j1, if_true]
    rw [if_neg hv, alone_works]
    rfl
theorem VerifyAlone : ∀ (y0 : List (S26)) (y1 : List (S26)) (y2 : S48), (fun l : List (S26) => l.length ≤ 9223372036854775807 ∧ l.length * 16 ≤ 140737488351232 ∧ ∀ x ∈ l, G26 x) y0 → (fun l : List (S26) => l.length ≤ 9223372036854775807 ∧ l.length * 16 ≤ 140737488351232 ∧ ∀ x ∈ l, G26 x) y1 → G48 y2 → ∃ k, carillonlaw19_VerifyAlone.f k y0 y1 y2.f0 y2.f1 y2.f2 y2.f3 = some true := by
  intro l r c _ _ _
  exact Ev.rounds (alone_all l r c.f0 c.f1 c.f2 c.f3)
end Go.Proofs.Ytnaapecmooljaaa.H.Pure
