/- What is reached is closed under what follows. Plain. -/
import Derived.Test.YtnaapecmooljaaaBst21
set_option linter.unusedVariables false
namespace Go.Proofs.Ytnaapecmooljaaa.H
open Go.RowKit Go.Proofs.YtnaapecmooljaaaW.PrintWords
theorem set_true {is : List Bool} {j k : Nat} (h : is.getD j false = true) : (is.set k true).getD j false = true := by
  simp only [List.getD_eq_getElem?_getD, List.getElem?_set] at h ⊢
  split
  · rename_i e; subst e
    split
    · rfl
    · rename_i hk; rw [List.getElem?_eq_none (by omega)] at h; simp at h
  · exact h
theorem setAll_true {xs : List (Nat × Int)} {j : Nat} : ∀ {is : List Bool}, is.getD j false = true → (setAll is xs).getD j false = true := by
  induction xs with
  | nil => intro is h; exact h
  | cons x r ih => intro is h; exact ih (set_true h)
theorem setAll_mem {xs : List (Nat × Int)} {x : Nat × Int} (hx : x ∈ xs) : ∀ {is : List Bool}, x.1 < is.length → (setAll is xs).getD x.1 false = true := by
  induction xs with
  | nil => cases hx
  | cons y r ih =>
    intro is hl
    show (setAll (is.set y.1 true) r).getD x.1 false = true
    rcases List.mem_cons.1 hx with rfl | hx
    · refine setAll_true ?_
      simp [List.getD_eq_getElem?_getD, hl]
    · exact ih hx (by simpa using hl)
theorem scan_true {l : List S26} : ∀ (d k : Nat) (is out : List Bool), scan l d k is = (out, 0) → ∀ j, is.getD j false = true → out.getD j false = true
  | 0, k, is, out, h, j, hj => by simp only [scan, Prod.mk.injEq] at h; rw [← h.1]; exact hj
  | d + 1, k, is, out, h, j, hj => by
    rw [scan] at h
    split at h
    · split at h
      · rename_i he
        obtain ⟨h1, h2⟩ := scan1_ok (fun x hx => by rcases succs_err hx with e | e <;> rw [e] <;> decide) _ he
        rw [h1] at h
        exact scan_true d (k + 1) _ out h j (setAll_true hj)
      · rename_i he
        simp only [Prod.mk.injEq] at h
        exact absurd h.2 he
    · exact scan_true d (k + 1) _ out h j hj
theorem scan_reach {l : List S26} (hok : okAll l = true) : ∀ (d k : Nat) (is out : List Bool), d + k = l.length → is.length = l.length → scan l d k is = (out, 0) →
    ∀ j, k ≤ j → j < l.length → out.getD j false = true → ∀ x ∈ succs (rd_T26 l j) j, out.getD x.1 false = true
  | 0, k, is, out, hd, hl, h => fun j h1 h2 => by omega
  | d + 1, k, is, out, hd, hl, h => by
    have hk : k < l.length := by omega
    have hs := (scan_spec hok (d + 1) k is out hd h).1 k (Nat.le_refl _) (.inr (Nat.le_refl _))
    rw [scan] at h
    split at h
    · rename_i hb
      split at h
      · rename_i he
        obtain ⟨h1, h2⟩ := scan1_ok (fun x hx => by rcases succs_err hx with e | e <;> rw [e] <;> decide) _ he
        rw [h1] at h
        intro j hj hjl ho x hx
        rcases Nat.eq_or_lt_of_le hj with rfl | hj
        · exact scan_true d _ _ out h _ (setAll_mem hx (by rw [hl]; exact h2 x hx))
        · exact scan_reach hok d (k + 1) _ out (by omega) (by rw [setAll_length]; exact hl) h j hj hjl ho x hx
      · rename_i he
        simp only [Prod.mk.injEq] at h
        exact absurd h.2 he
    · rename_i hb
      intro j hj hjl ho x hx
      rcases Nat.eq_or_lt_of_le hj with rfl | hj
      · rcases hs with e | e
        · rw [e] at ho; exact absurd ho hb
        · omega
      · exact scan_reach hok d (k + 1) _ out (by omega) hl h j hj hjl ho x hx
/-- Code that has a cost: where a walk may stand. -/
structure Fine (l : List S26) (is : List Bool) : Prop where
  ok : okAll l = true
  pos : 0 < l.length
  le : l.length ≤ 4096
  zero : is.getD 0 false = true
  next : ∀ k, k < l.length → is.getD k false = true → ∀ x ∈ succs (rd_T26 l k) k, x.1 < l.length ∧ k < x.1 ∧ is.getD x.1 false = true
theorem fine_of_bound {l : List S26} (h : (bound l).2.2 = 0) : ∃ is, Fine l is := by
  unfold bound at h
  split at h
  · simp at h
  rename_i h1
  split at h
  · rename_i h2
    split at h
    · simp at h
    rename_i h3
    split at h
    · rename_i h4
      have e : scan l l.length 0 (start21 l.length) = ((scan l l.length 0 (start21 l.length)).1, 0) := by rw [← h4]
      refine ⟨(scan l l.length 0 (start21 l.length)).1, h2, by omega, by omega, ?_, fun k hk hb x hx => ⟨scan_in e h2 hk hb x hx, ?_, ?_⟩⟩
      · refine scan_true _ _ _ _ e 0 ?_
        have : 0 < l.length := by omega
        simp [start21, List.getD_eq_getElem?_getD, this]
      · exact succs_gt (ok_args2 h2 k hk) x hx
      · exact scan_reach h2 _ _ _ _ (by omega) (by simp [start21]) e k (Nat.zero_le _) hk hb x hx
    · rename_i h4; exact absurd h h4
  · simp at h
end Go.Proofs.Ytnaapecmooljaaa.H
