/- What is reached is closed under what follows. Plain. What the cost is, by recursion: plain. The conditions: what each names. Runs in pieces, and what they cost: plain. The conditions: the code is verified. A run that is laid away and taken up again: what lies in memory. The conditions: what each names. -/
import Derived.Test.YtlmpoojpbdmmfaaScostBound
import Derived.Test.YtlmpoojpbdmmfaaTwo22
import Derived.Test.YtlmpoojpbdmmfaaLoad22
set_option linter.unusedVariables false
namespace Go.Proofs.Ytlmpoojpbdmmfaa.H
open Go.RowKit Go.Proofs.YtlmpoojpbdmmfaaW.PrintWords
theorem set_true {is : List Bool} {j k : Nat} (h : is.getD j false = true) : (is.set k true).getD j false = true := by
  simp only [List.getD_eq_getElem?_getD, List.getElem?_set] at h ⊢
  split
  · rename_i e; subst e
    split
    · rfl
    · rename_i hk; rw [List.getElem?_eq_none (by omega)] at h; simp at h
  · exact h
theorem setAll_true {xs : List (Nat × Int)} {j : Nat} : ∀ {is : List Bool}, is.getD j false = true → (setAll is xs).getD j false = true := by
  induction xs with
  | nil => intro is h; exact h
  | cons x r ih => intro is h; exact ih (set_true h)
theorem setAll_mem {xs : List (Nat × Int)} {x : Nat × Int} (hx : x ∈ xs) : ∀ {is : List Bool}, x.1 < is.length → (setAll is xs).getD x.1 false = true := by
  induction xs with
  | nil => cases hx
  | cons y r ih =>
    intro is hl
    show (setAll (is.set y.1 true) r).getD x.1 false = true
    rcases List.mem_cons.1 hx with rfl | hx
    · refine setAll_true ?_
      simp [List.getD_eq_getElem?_getD, hl]
    · exact ih hx (by simpa using hl)
theorem scan_true {l : List S53} : ∀ (d k : Nat) (is out : List Bool), scan l d k is = (out, 0) → ∀ j, is.getD j false = true → out.getD j false = true
  | 0, k, is, out, h, j, hj => by simp only [scan, Prod.mk.injEq] at h; rw [← h.1]; exact hj
  | d + 1, k, is, out, h, j, hj => by
    rw [scan] at h
    split at h
    · split at h
      · rename_i he
        obtain ⟨h1, h2⟩ := scan1_ok (fun x hx => by rcases succs_err hx with e | e <;> rw [e] <;> decide) _ he
        rw [h1] at h
        exact scan_true d (k + 1) _ out h j (setAll_true hj)
      · rename_i he
        simp only [Prod.mk.injEq] at h
        exact absurd h.2 he
    · exact scan_true d (k + 1) _ out h j hj
theorem scan_reach {l : List S53} (hok : okAll l = true) : ∀ (d k : Nat) (is out : List Bool), d + k = l.length → is.length = l.length → scan l d k is = (out, 0) →
    ∀ j, k ≤ j → j < l.length → out.getD j false = true → ∀ x ∈ succs (rd_T53 l j) j, out.getD x.1 false = true
  | 0, k, is, out, hd, hl, h => fun j h1 h2 => by omega
  | d + 1, k, is, out, hd, hl, h => by
    have hk : k < l.length := by omega
    have hs := (scan_spec hok (d + 1) k is out hd h).1 k (Nat.le_refl _) (.inr (Nat.le_refl _))
    rw [scan] at h
    split at h
    · rename_i hb
      split at h
      · rename_i he
        obtain ⟨h1, h2⟩ := scan1_ok (fun x hx => by rcases succs_err hx with e | e <;> rw [e] <;> decide) _ he
        rw [h1] at h
        intro j hj hjl ho x hx
        rcases Nat.eq_or_lt_of_le hj with rfl | hj
        · exact scan_true d _ _ out h _ (setAll_mem hx (by rw [hl]; exact h2 x hx))
        · exact scan_reach hok d (k + 1) _ out (by omega) (by rw [setAll_length]; exact hl) h j hj hjl ho x hx
      · rename_i he
        simp only [Prod.mk.injEq] at h
        exact absurd h.2 he
    · rename_i hb
      intro j hj hjl ho x hx
      rcases Nat.eq_or_lt_of_le hj with rfl | hj
      · rcases hs with e | e
        · rw [e] at ho; exact absurd ho hb
        · omega
      · exact scan_reach hok d (k + 1) _ out (by omega) hl h j hj hjl ho x hx
/-- Code that has a cost: where a walk may stand. -/
structure Fine (l : List S53) (is : List Bool) : Prop where
  ok : okAll l = true
  pos : 0 < l.length
  le : l.length ≤ 4096
  zero : is.getD 0 false = true
  next : ∀ k, k < l.length → is.getD k false = true → ∀ x ∈ succs (rd_T53 l k) k, x.1 < l.length ∧ k < x.1 ∧ is.getD x.1 false = true
theorem fine_of_bound {l : List S53} (h : (bound l).2.2 = 0) : ∃ is, Fine l is := by
  unfold bound at h
  split at h
  · simp at h
  rename_i h1
  split at h
  · rename_i h2
    split at h
    · simp at h
    rename_i h3
    split at h
    · rename_i h4
      have e : scan l l.length 0 (start21 l.length) = ((scan l l.length 0 (start21 l.length)).1, 0) := by rw [← h4]
      refine ⟨(scan l l.length 0 (start21 l.length)).1, h2, by omega, by omega, ?_, fun k hk hb x hx => ⟨scan_in e h2 hk hb x hx, ?_, ?_⟩⟩
      · refine scan_true _ _ _ _ e 0 ?_
        have : 0 < l.length := by omega
        simp [start21, List.getD_eq_getElem?_getD, this]
      · exact succs_gt (ok_args2 h2 k hk) x hx
      · exact scan_reach h2 _ _ _ _ (by omega) (by simp [start21]) e k (Nat.zero_le _) hk hb x hx
    · rename_i h4; exact absurd h h4
  · simp at h
end Go.Proofs.Ytlmpoojpbdmmfaa.H
set_option linter.unusedVariables false
set_option linter.unusedSimpArgs false
namespace Go.Proofs.Ytlmpoojpbdmmfaa.H
open Go.RowKit Go.Proofs.YtlmpoojpbdmmfaaW.PrintWords

/-- The least and the most that code costs from place k on, d steps looked at. -/
def lo (l : List S53) : Nat → Nat → Int
  | 0, _ => 0
  | d + 1, k => (match succs (rd_T53 l k) k with | [] => 0 | [x] => lo l d x.1 | x :: y :: _ => min (lo l d x.1) (lo l d y.1)) + cyc (rd_T53 l k).f0
def hi (l : List S53) : Nat → Nat → Int
  | 0, _ => 0
  | d + 1, k => (match succs (rd_T53 l k) k with | [] => 0 | [x] => hi l d x.1 | x :: y :: _ => max (hi l d x.1) (hi l d y.1)) + cyc (rd_T53 l k).f0
theorem cyc_rng21 (op : Int) : 0 ≤ cyc op ∧ cyc op ≤ 8 := by
  unfold cyc
  repeat' split
  all_goals omega
theorem lo_range (l : List S53) : ∀ d k, 0 ≤ lo l d k ∧ lo l d k ≤ 8 * d
  | 0, k => by simp [lo]
  | d + 1, k => by
    have hc := cyc_rng21 (rd_T53 l k).f0
    rw [lo]
    split
    · omega
    · rename_i x _; have := lo_range l d x.1; omega
    · rename_i x y _ _; have h1 := lo_range l d x.1; have h2 := lo_range l d y.1; rw [Int.min_def]; split <;> omega
theorem hi_range (l : List S53) : ∀ d k, 0 ≤ hi l d k ∧ hi l d k ≤ 8 * d
  | 0, k => by simp [hi]
  | d + 1, k => by
    have hc := cyc_rng21 (rd_T53 l k).f0
    rw [hi]
    split
    · omega
    · rename_i x _; have := hi_range l d x.1; omega
    · rename_i x y _ _; have h1 := hi_range l d x.1; have h2 := hi_range l d y.1; rw [Int.max_def]; split <;> omega
theorem succs_len (i : S53) (k : Nat) : (succs i k).length ≤ 2 := by
  unfold succs
  split
  · simp
  split
  · simp
  split <;> simp
/-- More steps than there are places behind change nothing. -/
theorem lo_fuel {l : List S53} {is : List Bool} (F : Fine l is) : ∀ d e k, k < l.length → is.getD k false = true → l.length ≤ k + d → l.length ≤ k + e → lo l d k = lo l e k
  | 0, _, k, hk, _, h1, _ => by omega
  | _ + 1, 0, k, hk, _, _, h2 => by omega
  | d + 1, e + 1, k, hk, hb, h1, h2 => by
    have hn := F.next k hk hb
    rw [lo, lo]
    split
    · rfl
    · rename_i x hs
      rw [hs] at hn
      obtain ⟨a, b, c⟩ := hn x (by simp)
      rw [lo_fuel F d e x.1 a c (by omega) (by omega)]
    · rename_i x y r hs
      rw [hs] at hn
      obtain ⟨a, b, c⟩ := hn x (by simp)
      obtain ⟨a2, b2, c2⟩ := hn y (by simp)
      rw [lo_fuel F d e x.1 a c (by omega) (by omega), lo_fuel F d e y.1 a2 c2 (by omega) (by omega)]
theorem hi_fuel {l : List S53} {is : List Bool} (F : Fine l is) : ∀ d e k, k < l.length → is.getD k false = true → l.length ≤ k + d → l.length ≤ k + e → hi l d k = hi l e k
  | 0, _, k, hk, _, h1, _ => by omega
  | _ + 1, 0, k, hk, _, _, h2 => by omega
  | d + 1, e + 1, k, hk, hb, h1, h2 => by
    have hn := F.next k hk hb
    rw [hi, hi]
    split
    · rfl
    · rename_i x hs
      rw [hs] at hn
      obtain ⟨a, b, c⟩ := hn x (by simp)
      rw [hi_fuel F d e x.1 a c (by omega) (by omega)]
    · rename_i x y r hs
      rw [hs] at hn
      obtain ⟨a, b, c⟩ := hn x (by simp)
      obtain ⟨a2, b2, c2⟩ := hn y (by simp)
      rw [hi_fuel F d e x.1 a c (by omega) (by omega), hi_fuel F d e y.1 a2 c2 (by omega) (by omega)]
theorem wrap_ok {x : Int} (h0 : 0 ≤ x) (h1 : x ≤ 100000) : wrap64 x = x := by unfold wrap64; omega
theorem getD_set_self {a : List Int} {k : Nat} (h : k < a.length) (v : Int) : (a.set k v).getD k 0 = v := by simp [List.getD_eq_getElem?_getD, h]
theorem getD_set_other {a : List Int} {j k : Nat} (h : k ≠ j) (v : Int) : (a.set k v).getD j 0 = a.getD j 0 := by simp [List.getD_eq_getElem?_getD, List.getElem?_set, h]
/-- What the arrays hold when the places from m on are done. -/
structure Done (l : List S53) (is : List Bool) (m : Nat) (a b : List Int) : Prop where
  la : a.length = l.length
  lb : b.length = l.length
  zero : ∀ j, j < m → a.getD j 0 = 0 ∧ b.getD j 0 = 0
  val : ∀ j, m ≤ j → j < l.length → is.getD j false = true → a.getD j 0 = lo l l.length j ∧ b.getD j 0 = hi l l.length j
theorem done_step {l : List S53} {is : List Bool} (F : Fine l is) {k : Nat} (hk : k < l.length) {a b : List Int} (h : Done l is (k + 1) a b) : Done l is k (stepB l is k (a, b)).1 (stepB l is k (a, b)).2 := by
  unfold stepB
  by_cases hb : is.getD k false = true
  · rw [if_pos hb]
    simp only
    obtain ⟨z1, z2⟩ := h.zero k (by omega)
    have hc := cyc_rng21 (rd_T53 l k).f0
    have hn := F.next k hk hb
    have hF := F.le
    have l1 : lo l l.length k = lo l (l.length + 1) k := lo_fuel F _ _ k hk hb (by omega) (by omega)
    have l2 : hi l l.length k = hi l (l.length + 1) k := hi_fuel F _ _ k hk hb (by omega) (by omega)
    rw [lo] at l1
    rw [hi] at l2
    have key : ∀ (a' b' : List Int) (va vb : Int), a'.length = l.length → b'.length = l.length → (∀ j, j ≠ k → a'.getD j 0 = a.getD j 0 ∧ b'.getD j 0 = b.getD j 0) → a'.getD k 0 = va → b'.getD k 0 = vb →
        lo l l.length k = va + cyc (rd_T53 l k).f0 → hi l l.length k = vb + cyc (rd_T53 l k).f0 → Done l is k (addAt a' k (cyc (rd_T53 l k).f0)) (addAt b' k (cyc (rd_T53 l k).f0)) := by
      intro a' b' va vb ha hb' hj hva hvb e1 e2
      have r1 := lo_range l l.length k
      have r2 := hi_range l l.length k
      have w1 : wrap64 (va + cyc (rd_T53 l k).f0) = lo l l.length k := by rw [e1]; exact wrap_ok (by omega) (by omega)
      have w2 : wrap64 (vb + cyc (rd_T53 l k).f0) = hi l l.length k := by rw [e2]; exact wrap_ok (by omega) (by omega)
      refine ⟨by simp [addAt, ha], by simp [addAt, hb'], fun j hj' => ?_, fun j h1 h2 h3 => ?_⟩
      · rw [addAt, addAt, getD_set_other (by omega), getD_set_other (by omega), (hj j (by omega)).1, (hj j (by omega)).2]
        exact h.zero j (by omega)
      · rw [addAt, addAt, hva, hvb, w1, w2]
        by_cases e : k = j
        · subst e
          rw [getD_set_self (by omega), getD_set_self (by omega)]
          exact ⟨rfl, rfl⟩
        · rw [getD_set_other e, getD_set_other e, (hj j (by omega)).1, (hj j (by omega)).2]
          exact h.val j (by omega) h2 h3
    have hlen := succs_len (rd_T53 l k) k
    generalize hs : succs (rd_T53 l k) k = xs at *
    match xs, hlen with
    | [], _ => exact key a b 0 0 h.la h.lb (fun _ _ => ⟨rfl, rfl⟩) z1 z2 l1 l2
    | [x], _ =>
      obtain ⟨x1, x2, x3⟩ := hn x (by simp)
      obtain ⟨vx, vy⟩ := h.val x.1 (by omega) x1 x3
      have rx := hi_range l l.length x.1
      simp only [inner, List.foldl, stepI, true_or, if_true, z2]
      refine key _ _ (lo l l.length x.1) (hi l l.length x.1) (by simp [h.la]) (by simp [h.lb]) (fun j hj => ⟨getD_set_other (Ne.symm hj) _, getD_set_other (Ne.symm hj) _⟩) (by rw [getD_set_self (by rw [h.la]; exact hk), vx]) (by rw [getD_set_self (by rw [h.lb]; exact hk), vy, Int.max_def]; split <;> omega) l1 l2
    | [x, y], _ =>
      obtain ⟨x1, x2, x3⟩ := hn x (by simp)
      obtain ⟨y1, y2, y3⟩ := hn y (by simp)
      obtain ⟨vx, vx2⟩ := h.val x.1 (by omega) x1 x3
      obtain ⟨vy, vy2⟩ := h.val y.1 (by omega) y1 y3
      have rx := hi_range l l.length x.1
      have ry := hi_range l l.length y.1
      simp only [inner, List.foldl, stepI, true_or, if_true, z2, Bool.false_eq_true, false_or, getD_set_self (show k < a.length by rw [h.la]; exact hk), getD_set_self (show k < b.length by rw [h.lb]; exact hk), getD_set_other (show k ≠ y.1 by omega), vx, vx2, vy, vy2]
      refine key _ _ (min (lo l l.length x.1) (lo l l.length y.1)) (max (hi l l.length x.1) (hi l l.length y.1)) ?_ (by simp [h.lb]) (fun j hj => ⟨?_, ?_⟩) ?_ ?_ l1 l2
      · split <;> simp [h.la]
      · split
        · rw [getD_set_other (Ne.symm hj), getD_set_other (Ne.symm hj)]
        · rw [getD_set_other (Ne.symm hj)]
      · rw [getD_set_other (Ne.symm hj), getD_set_other (Ne.symm hj)]
      · rw [Int.min_def]
        split
        · rw [getD_set_self (by simp [h.la]; exact hk), if_neg (by omega)]
        · rw [getD_set_self (by simp [h.la]; exact hk)]
          rename_i h5
          split <;> omega
      · rw [getD_set_self (by simp [h.lb]; exact hk), Int.max_def, Int.max_def, Int.max_def]
        split <;> split <;> (try split) <;> omega
  · rw [if_neg hb]
    exact ⟨h.la, h.lb, fun j hj => h.zero j (by omega), fun j h1 h2 h3 => h.val j (by rcases Nat.eq_or_lt_of_le h1 with e | e; subst e; exact absurd h3 hb; omega) h2 h3⟩
theorem done_back {l : List S53} {is : List Bool} (F : Fine l is) : ∀ m (ab : List Int × List Int), m ≤ l.length → Done l is m ab.1 ab.2 → Done l is 0 (back l is m ab).1 (back l is m ab).2
  | 0, ab, _, h => h
  | m + 1, ab, hm, h => by rw [back]; exact done_back F m _ (by omega) (done_step F (by omega) h)
/-- Where a walk may come. -/
inductive Reach (l : List S53) : Nat → Prop where
  | zero : Reach l 0
  | next {k : Nat} {x : Nat × Int} : Reach l k → k < l.length → x ∈ succs (rd_T53 l k) k → x.1 < l.length → Reach l x.1
theorem setAll_inv {p : Nat → Prop} {xs : List (Nat × Int)} (hx : ∀ x ∈ xs, p x.1) : ∀ {is : List Bool}, (∀ j, is.getD j false = true → p j) → ∀ j, (setAll is xs).getD j false = true → p j := by
  induction xs with
  | nil => intro is h; exact h
  | cons y r ih =>
    intro is h
    refine ih (fun x hx' => hx x (by simp [hx'])) (fun j hj => ?_)
    simp only [List.getD_eq_getElem?_getD, List.getElem?_set] at hj
    split at hj
    · rename_i e; subst e; exact hx y (by simp)
    · exact h j (by rw [List.getD_eq_getElem?_getD]; exact hj)
theorem scan_zero {l : List S53} (hr : ∀ k, Reach l k → k < l.length → ∀ x ∈ succs (rd_T53 l k) k, x.1 < l.length) : ∀ (d k : Nat) (is : List Bool), d + k = l.length → (∀ j, is.getD j false = true → Reach l j) →
    (scan l d k is).2 = 0 ∧ ∀ j, (scan l d k is).1.getD j false = true → Reach l j
  | 0, k, is, _, hi => ⟨rfl, hi⟩
  | d + 1, k, is, hd, hi => by
    rw [scan]
    split
    · rename_i hb
      have hk := hr k (hi k hb) (by omega)
      rw [scan1_all _ _ _ hk]
      simp only [if_true]
      exact scan_zero hr d (k + 1) _ (by omega) (setAll_inv (fun x hx => Reach.next (hi k hb) (by omega) hx (hk x hx)) hi)
    · exact scan_zero hr d (k + 1) is (by omega) hi
theorem start_reach (l : List S53) : ∀ j, (start21 l.length).getD j false = true → Reach l j := by
  intro j hj
  simp only [start21, List.getD_eq_getElem?_getD, List.getElem?_set] at hj
  split at hj
  · rename_i e; subst e; exact Reach.zero
  · simp [List.getElem?_replicate] at hj
    split at hj <;> simp at hj
theorem bound_ok {l : List S53} (hok : okAll l = true) (h0 : 0 < l.length) (h1 : l.length ≤ 4096) (hr : ∀ k, Reach l k → k < l.length → ∀ x ∈ succs (rd_T53 l k) k, x.1 < l.length) : (bound l).2.2 = 0 := by
  unfold bound
  rw [if_neg (by omega), if_pos hok, if_neg (by omega), if_pos (scan_zero hr _ 0 _ (by omega) (start_reach l)).1]
theorem bound_val {l : List S53} (h : (bound l).2.2 = 0) : okAll l = true ∧ 0 < l.length ∧ l.length ≤ 4096 ∧ bound l = (lo l l.length 0, hi l l.length 0, 0) ∧ ∃ is, Fine l is := by
  obtain ⟨is0, F0⟩ := fine_of_bound h
  have h1 := F0.le
  have h2 := F0.pos
  have h3 := F0.ok
  refine ⟨h3, h2, h1, ?_, is0, F0⟩
  unfold bound at h ⊢
  rw [if_neg (by omega), if_pos h3, if_neg (by omega)] at h ⊢
  split at h
  · rename_i h4
    rw [if_pos h4]
    have e : scan l l.length 0 (start21 l.length) = ((scan l l.length 0 (start21 l.length)).1, 0) := by rw [← h4]
    generalize (scan l l.length 0 (start21 l.length)).1 = is at e ⊢
    have hz : is.getD 0 false = true := scan_true _ _ _ _ e 0 (by simp [start21, List.getD_eq_getElem?_getD, h2])
    have F : Fine l is := ⟨h3, h2, h1, hz, fun k hk hb x hx => ⟨scan_in e h3 hk hb x hx, succs_gt (ok_args2 h3 k hk) x hx, scan_reach h3 _ _ _ _ (by omega) (by simp [start21]) e k (Nat.zero_le _) hk hb x hx⟩⟩
    have D := done_back F l.length (List.replicate l.length 0, List.replicate l.length 0) (Nat.le_refl _)
      ⟨by simp, by simp, fun j hj => by simp [List.getD_eq_getElem?_getD, hj], fun j h5 h6 => by omega⟩
    obtain ⟨v1, v2⟩ := D.val 0 (Nat.le_refl _) h2 hz
    rw [v1, v2]
  · rename_i h4; exact absurd h h4
/-- Where code that has a cost is come to: there it goes on within. -/
theorem fine_reach {l : List S53} {is : List Bool} (F : Fine l is) : ∀ k, Reach l k → k < l.length ∧ is.getD k false = true := by
  intro k h
  induction h with
  | zero => exact ⟨F.pos, F.zero⟩
  | next _ hk hx hl ih => have := F.next _ ih.1 ih.2 _ hx; exact ⟨this.1, this.2.2⟩
end Go.Proofs.Ytlmpoojpbdmmfaa.H
set_option linter.unusedVariables false
set_option linter.unusedSimpArgs false
namespace Go.Proofs.Ytlmpoojpbdmmfaa.H
open Go.RowKit Go.Proofs.YtlmpoojpbdmmfaaW.PrintWords
/-- So many steps, until it has ended. -/
def stpN (l : List S53) : Nat → Ctx → Ctx
  | 0, x => x
  | n + 1, x => if x.ended = true then x else stpN l n (stp l x)
section
variable {l : List S53} {c : Cf}
theorem stpN_ended : ∀ (n : Nat) {x : Ctx}, x.ended = true → stpN l n x = x
  | 0, x, _ => rfl
  | n + 1, x, h => by rw [stpN, if_pos h]
theorem stpN_add : ∀ (m n : Nat) (x : Ctx), stpN l (m + n) x = stpN l n (stpN l m x)
  | 0, n, x => by rw [Nat.zero_add]; rfl
  | m + 1, n, x => by
    rw [show m + 1 + n = (m + n) + 1 by omega, stpN, stpN]
    by_cases h : x.ended = true
    · rw [if_pos h, if_pos h, stpN_ended n h]
    · rw [if_neg h, if_neg h]
      exact stpN_add m n _
theorem runN_stpN {cy : Int} : ∀ (n : Nat) (sum : Int) (x : Ctx), ∃ m, (runN l cy n sum x).2 = stpN l m x
  | 0, sum, x => ⟨0, rfl⟩
  | n + 1, sum, x => by
    rw [Go.Proofs.Ytlmpoojpbdmmfaa.H.runN]
    by_cases e : sum < cy ∧ x.ended = false
    · rw [if_pos e]
      obtain ⟨m, hm⟩ := runN_stpN (cy := cy) n (sum + cyc (rd_T53 l (x.at_ : Int)).f0) (stp l x)
      refine ⟨m + 1, ?_⟩
      rw [hm, stpN, if_neg (by rw [e.2]; simp)]
    · rw [if_neg e]
      exact ⟨0, rfl⟩
theorem to18_stpN (cy : Int) (x : Ctx) : ∃ m, to18 l cy x = stpN l m x := by
  unfold to18
  split
  · exact ⟨0, rfl⟩
  split
  · exact ⟨0, rfl⟩
  · exact runN_stpN _ _ _
theorem stpN_big {x : Ctx} {m n : Nat} (h : (stpN l m x).ended = true) (hmn : m ≤ n) : stpN l n x = stpN l m x := by
  obtain ⟨d, rfl⟩ : ∃ d, n = m + d := ⟨n - m, by omega⟩
  rw [stpN_add, stpN_ended d h]
theorem stpN_same {x : Ctx} {m n : Nat} (h : (stpN l m x).ended = true) (k : (stpN l n x).ended = true) : stpN l n x = stpN l m x := by
  rcases Nat.le_total m n with e | e
  · exact stpN_big h e
  · exact (stpN_big k e).symm
/-- A run that goes on to its end ends as the whole run ends. -/
theorem again_fin {x : Ctx} (h : Rn l c x) (cy : Int) : to18 l 1099511627776 (to18 l cy x) = to18 l 1099511627776 x := by
  obtain ⟨m, hm⟩ := to18_stpN (l := l) cy x
  obtain ⟨a, ha⟩ := to18_stpN (l := l) 1099511627776 (to18 l cy x)
  obtain ⟨b, hb⟩ := to18_stpN (l := l) 1099511627776 x
  have e1 := to18_ended (h.to18 cy)
  have e2 := to18_ended h
  rw [ha] at e1 ⊢
  rw [hb] at e2 ⊢
  rw [hm] at e1 ⊢
  rw [← stpN_add] at e1 ⊢
  exact (stpN_same e2 e1)
theorem runN_spent {cy : Int} : ∀ (n : Nat) (sum : Int) (x : Ctx), (runN l cy n sum x).2.spent = x.spent + ((runN l cy n sum x).1 - sum)
  | 0, sum, x => by simp [Go.Proofs.Ytlmpoojpbdmmfaa.H.runN]
  | n + 1, sum, x => by
    rw [Go.Proofs.Ytlmpoojpbdmmfaa.H.runN]
    by_cases e : sum < cy ∧ x.ended = false
    · rw [if_pos e]
      have h1 := runN_spent (cy := cy) n (sum + cyc (rd_T53 l (x.at_ : Int)).f0) (stp l x)
      have h2 := stp_spent l x
      rw [h1, h2]
      omega
    · rw [if_neg e]
      simp
/-- The least and the most of what is still ahead. -/
theorem lo_le_succ {d k q : Nat} {e : Int} (h : (q, e) ∈ succs (rd_T53 l k) k) : lo l (d + 1) k ≤ lo l d q + cyc (rd_T53 l k).f0 ∧ hi l d q + cyc (rd_T53 l k).f0 ≤ hi l (d + 1) k := by
  rw [lo, hi]
  have hl := succs_len (rd_T53 l k) k
  generalize succs (rd_T53 l k) k = ss at h hl ⊢
  match ss with
  | [] => simp at h
  | [a] =>
    simp at h
    subst h
    exact ⟨Int.le_refl _, Int.le_refl _⟩
  | [a, b] =>
    simp at h
    rcases h with h | h
    · subst h
      simp only
      refine ⟨?_, ?_⟩
      · rw [Int.min_def]; split <;> omega
      · rw [Int.max_def]; split <;> omega
    · subst h
      simp only
      refine ⟨?_, ?_⟩
      · rw [Int.min_def]; split <;> omega
      · rw [Int.max_def]; split <;> omega
  | a :: b :: d :: r => simp at hl
theorem succs_tg (i : S53) (k : Nat) : (succs i k).map (·.1) = tg19 i k := by
  unfold succs tg19
  repeat' split
  all_goals rfl
theorem lo_end {d k : Nat} (h : (rd_T53 l k).f0 = 23) : lo l (d + 1) k = cyc (rd_T53 l k).f0 ∧ hi l (d + 1) k = cyc (rd_T53 l k).f0 := by
  rw [lo, hi]
  have : succs (rd_T53 l k) k = [] := by unfold succs; rw [if_pos h]
  rw [this]
  simp
theorem run_between {cy : Int} : ∀ (n d : Nat) (sum : Int) (x : Ctx), Rn l c x → x.ended = false → l.length + 1 ≤ n + x.at_ → l.length ≤ x.at_ + d → sum + 8 * (n : Int) ≤ cy →
    lo l d x.at_ ≤ (runN l cy n sum x).1 - sum ∧ (runN l cy n sum x).1 - sum ≤ hi l d x.at_
  | 0, d, sum, x, h, he, h1, h2, h3 => by have := h.lens; omega
  | n + 1, 0, sum, x, h, he, h1, h2, h3 => by have := h.lens; omega
  | n + 1, d + 1, sum, x, h, he, h1, h2, h3 => by
    have hc := cyc_range (rd_T53 l (x.at_ : Int)).f0
    rw [Go.Proofs.Ytlmpoojpbdmmfaa.H.runN, if_pos ⟨by omega, he⟩]
    obtain ⟨r1, r2, _, _⟩ := h.stp he
    obtain ⟨m, A, w, _⟩ := h.wf
    have hp := w.pre
    by_cases e23 : (rd_T53 l (x.at_ : Int)).f0 = 23
    · have hen : (stp l x).ended = true := by simp [stp, one_end e23]
      rw [runN_stop _ _ _ _ _ (by rw [hen]; simp)]
      have hl := lo_end (l := l) (d := d) e23
      simp only
      omega
    · obtain ⟨hn1, hn2⟩ := one_next (x := x) (p := x.at_) hp.may e23
      have hen : (stp l x).ended = false := by simp only [stp]; rw [hn2]; exact he
      have hat : (stp l x).at_ = ((x.at_ : Int) + (one (rd_T53 l (x.at_ : Int)) x).2).toNat := rfl
      rw [← hat, ← succs_tg, List.mem_map] at hn1
      obtain ⟨⟨q, e⟩, hm, hq⟩ := hn1
      simp only at hq
      subst hq
      have hlt : x.at_ < (stp l x).at_ := by
        rcases r2 with r2 | r2
        · rw [hen] at r2; cases r2
        · exact r2.2
      have ih := run_between (cy := cy) n d (sum + cyc (rd_T53 l (x.at_ : Int)).f0) (stp l x) r1 hen (by omega) (by omega) (by omega)
      have hs := lo_le_succ (d := d) hm
      omega
theorem ver_bound (h : (ver l c).2 = 0) : bound l = (lo l l.length 0, hi l l.length 0, 0) := by
  obtain ⟨_, h0, h1, hv⟩ := ver_ok h
  have ha := vgo_all (by omega) (ver_pair h)
  have hok : okAll l = true := okAll_of (fun j hj => (ha j (Nat.zero_le _) hj).1)
  have hb : (bound l).2.2 = 0 := bound_ok hok h0 h1 (fun k _ hk x hx => (ha k (Nat.zero_le _) hk).2 x.1 (by rw [← succs_tg]; exact List.mem_map_of_mem hx))
  obtain ⟨_, _, _, hbv, _⟩ := bound_val hb
  exact hbv
/-- The whole run, from the start. -/
theorem whole {ins : List Int} (h : Rn l c (ctx0 c ins)) : res18 l 1099511627776 (ctx0 c ins) = ((to18 l 1099511627776 (ctx0 c ins)).spent, true, 0) ∧ lo l l.length 0 ≤ (to18 l 1099511627776 (ctx0 c ins)).spent ∧ (to18 l 1099511627776 (ctx0 c ins)).spent ≤ hi l l.length 0 := by
  have hl := h.lens
  have he := to18_ended h
  have e0 : (ctx0 c ins).ended = false := rfl
  have e1 : to18 l 1099511627776 (ctx0 c ins) = (runN l 1099511627776 (l.length + 1) 0 (ctx0 c ins)).2 := by simp [to18, e0]
  have e2 : res18 l 1099511627776 (ctx0 c ins) = ((runN l 1099511627776 (l.length + 1) 0 (ctx0 c ins)).1, (runN l 1099511627776 (l.length + 1) 0 (ctx0 c ins)).2.ended, 0) := by simp [res18, e0]
  have hs := runN_spent (l := l) (cy := 1099511627776) (l.length + 1) 0 (ctx0 c ins)
  have hb := run_between (cy := 1099511627776) (l.length + 1) l.length 0 (ctx0 c ins) h e0 (by simp [ctx0]) (by simp [ctx0]) (by omega)
  have ea : (ctx0 c ins).at_ = 0 := rfl
  have es : (ctx0 c ins).spent = 0 := rfl
  rw [e1] at he ⊢
  rw [e2, he]
  rw [ea] at hb
  rw [es] at hs
  refine ⟨by rw [hs]; simp, ?_, ?_⟩ <;> omega
/-- What is spent stays small. -/
def Sm (x : Ctx) : Prop := x.spent ≤ 8 * (x.at_ : Int) + (if x.ended = true then 8 else 0)
theorem Sm.stp {x : Ctx} (h : Sm x) (hr : Rn l c x) (he : x.ended = false) : Sm (stp l x) := by
  obtain ⟨r1, r2, r3, r4⟩ := hr.stp he
  unfold Sm at h ⊢
  rw [he] at h
  simp only [Bool.false_eq_true, if_false] at h
  rcases r2 with r2 | ⟨r2, r5⟩
  · rw [if_pos r2]
    have : x.at_ ≤ (Go.Proofs.Ytlmpoojpbdmmfaa.H.stp l x).at_ := by
      obtain ⟨m, A, w, _⟩ := hr.wf
      have hd := one_dist (x := x) w.pre.may
      have hat : (Go.Proofs.Ytlmpoojpbdmmfaa.H.stp l x).at_ = ((x.at_ : Int) + (one (rd_T53 l (x.at_ : Int)) x).2).toNat := rfl
      omega
    omega
  · rw [r2]
    simp only [Bool.false_eq_true, if_false]
    omega
theorem Sm.stpN : ∀ (n : Nat) {x : Ctx}, Sm x → Rn l c x → Sm (stpN l n x) ∧ Rn l c (stpN l n x)
  | 0, x, h, hr => ⟨h, hr⟩
  | n + 1, x, h, hr => by
    rw [Go.Proofs.Ytlmpoojpbdmmfaa.H.stpN]
    by_cases he : x.ended = true
    · rw [if_pos he]; exact ⟨h, hr⟩
    · rw [if_neg he]
      have he' : x.ended = false := by simpa using he
      exact Sm.stpN n (h.stp hr he') (hr.stp he').1
theorem Sm.to18 {x : Ctx} (h : Sm x) (hr : Rn l c x) (cy : Int) : Sm (to18 l cy x) := by
  obtain ⟨m, hm⟩ := to18_stpN (l := l) cy x
  rw [hm]
  exact (h.stpN m hr).1
end
end Go.Proofs.Ytlmpoojpbdmmfaa.H
set_option linter.unusedVariables false
set_option linter.unusedSimpArgs false
namespace Go.Proofs.Ytlmpoojpbdmmfaa.H
open Go.RowKit Go.Proofs.YtlmpoojpbdmmfaaW.PrintWords Go.Proofs.YtlmpoojpbdmmfaaW.PrintLast Go.Proofs.YtlmpoojpbdmmfaaW.PrintMore Go.Maps
theorem run_load37 {W : World} {g : Nat} {cs : Array Value} (h : W.heap[g]? = some (.cells cs 37 (0, 0))) (h7 : cs.size = 7) : (Instr.loadAt 37 (.pointer (some ⟨g, 0, none⟩))).run Try.prog W = .ok (.agg cs) W := by
  obtain ⟨fs, hu⟩ := under37
  have := run_loadAt_mid (P := Try.prog) W g 0 37 cs.toList (.struct fs) (fun j v hv => by
    have hv' : cs[j]? = some v := by simpa using hv
    simp [World.cell?, h, hv']) hu rfl (by rw [info37, Array.length_toList, h7])
  simpa using this
theorem wpList_load37 {ops : Array Oper} {rest : List Oper} {op : Oper} {a : Act} {w : World} {Q : Exit → Act → World → Prop} (hgd : op.guard = none) (x : Operand) (ho : op.op = .load 37 x) {g : Nat} (hx : a.eval x = .pointer (some ⟨g, 0, none⟩)) {cs : Array Value}
    (hb : w.heap[g]? = some (.cells cs 37 (0, 0))) (h7 : cs.size = 7) (h : wpList Try.prog ops Q rest (a.put op.dst (.agg cs)) w) : wpList Try.prog ops Q (op :: rest) a w := by
  refine wpList_plain hgd fun _ hK => ?_
  unfold Oper.wp execOp
  simp only [ho, hx, Sem.run_bind, Result.andThen_ok, run_load37 hb h7]
  exact hK _ _ h
theorem four_all {W : World} {lo : Nat} {a b c d : List Int} {sv tv iv ov : Value} (h : Four W lo a b c d sv tv iv ov) (at_ sp : Int) (en : Bool) : (cxI at_ sv tv iv ov sp en).all (·.oneCell') = true := by
  have e1 := one_slice h.st
  have e2 := one_slice h.sl
  have e3 := one_slice h.inn
  have e4 := one_slice h.ou
  simp [cxI, e1, e2, e3, e4]
  simp [Value.oneCell']
theorem ld_ok {l : List S53} {c : Cf} {m : Int} {A : Nat → Vst} {x : Ctx} (w : Wfx l c m A x) (h0 : 0 ≤ x.spent) (hs : Sm x) (hl : l.length ≤ 4096) : LdOk l c A (x.at_ : Int) x.stack.length x.slots.length x.ins.length x.outs.length x.spent x.ended := by
  have := w.lt
  refine ⟨by omega, by omega, w.sl, w.inn, w.ou, h0, ?_, w.en, by rw [Int.toNat_natCast]; exact w.st⟩
  unfold Sm at hs
  split at hs <;> omega
theorem run_some {W : World} {P : Nat → Prop} {b : Nat} {c : Cf} {l : List S53} {x : Ctx} (h : VMem W P b c l x) (hP : ∀ k, P k → k < W.heap.size) (hr : Rn l c x) (cy : Int) :
    Calls Try.prog 18 #[.pointer (some ⟨b, 0, none⟩), .int .i64 cy] W fun e W' => ∃ r : Int × Bool × Int, e = .returned (.tuple #[.int .i64 r.1, .bool r.2.1, .int .i64 r.2.2]) ∧ VMem W' (Zn P W W') b c l (to18 l cy x) ∧ Kept2 W W' P :=
  (run_full h hP hr cy).mono (fun _ _ ⟨h1, h2, h3⟩ => ⟨_, h1, h2, h3⟩)
section
variable {w wr W' : World} {c : Cf} {l : List S53} {bv bw : Nat} {xv xw x' : Ctx} {Pv Pw F : Nat → Prop}
/-- Blocks of neither have turned. -/
theorem Two.outer (h : Two w wr c l bv bw xv xw Pv Pw F) {Po : Nat → Prop} (hk : Kept2 wr W' Po) (hd : ∀ k, Po k → ¬ Pv k ∧ ¬ Pw k) (hl : ∀ k, Po k → w.heap.size ≤ k) : Two w W' c l bv bw xv xw Pv Pw F := by
  have hs := hk.size
  refine ⟨h.mv.other hk (fun k h1 _ h2 => (hd k h2).1 h1), h.mw.other hk (fun k h1 _ h2 => (hd k h2).2 h1), h.ap, h.fv, fun k h1 => ?_, fun k h1 => ?_, fun k h1 => ?_, hk.below h.bel hl⟩
  · have := h.lv k h1; omega
  · have := h.lw k h1; omega
  · have := h.lf k h1; omega
/-- Another run takes the place of the second. -/
theorem Two.swap (h : Two w wr c l bv bw xv xw Pv Pw F) (hb : Below wr.heap.size wr W') {Py : Nat → Prop} {y : Nat} (hy : VMem W' Py y c l x') (hP : ∀ k, Py k → wr.heap.size ≤ k ∧ k < W'.heap.size) :
    Two w W' c l bv y xv x' Pv Py F ∧ VMem W' Pw bw c l xw ∧ (∀ k, Pw k → ¬ Pv k ∧ ¬ Py k ∧ ¬ F k ∧ w.heap.size ≤ k ∧ k < wr.heap.size) := by
  have hs := hb.size
  have hs0 := h.bel.size
  refine ⟨⟨h.mv.below hb, hy, fun k h1 h2 => ?_, fun k hf => ⟨(h.fv k hf).1, fun h2 => ?_⟩, fun k h1 => ?_, fun k h1 => ?_, fun k h1 => ?_, h.bel.trans (hb.mono hs0)⟩, h.mw.below hb, fun k h1 => ⟨fun h2 => h.ap k h2 h1, fun h2 => ?_, fun h2 => (h.fv k h2).2 h1, (h.lw k h1).1, (h.lw k h1).2⟩⟩
  · have := h.lv k h1; have := hP k h2; omega
  · have := h.lf k hf; have := hP k h2; omega
  · have := h.lv k h1; omega
  · have := hP k h1; omega
  · have := h.lf k h1; omega
  · have := h.lw k h1; have := hP k h2; omega
end
/-- The two contexts, as they lie in memory. -/
structure RW (W : World) (B xb zb : Nat) (x : Ctx) (cs cr cw ck : Int) (s t i o s' t' i' o' : Value) : Prop where
  cf : W.heap[B]? = some (.cells #[.int .i64 cs, .int .i64 cr, .int .i64 cw, .int .i64 ck] (24 : Nat) (0, 0))
  xa : W.heap[xb]? = some (.cells (cxA x s t i o) 37 (0, 0))
  za : W.heap[zb]? = some (.cells (cxA x s' t' i' o') 37 (0, 0))
  f : Four W 0 x.stack x.slots x.ins x.outs s t i o
  g : Four W 0 x.stack x.slots x.ins x.outs s' t' i' o'
def own4 (s t i o : Value) (k : Nat) : Prop := s.ownBlock = some k ∨ t.ownBlock = some k ∨ i.ownBlock = some k ∨ o.ownBlock = some k
def FW (B xb zb : Nat) (s t i o s' t' i' o' : Value) : Nat → Prop := fun k => k = B ∨ k = xb ∨ k = zb ∨ own4 s t i o k ∨ own4 s' t' i' o' k
theorem RW.move {W W1 : World} {B xb zb : Nat} {x : Ctx} {cs cr cw ck : Int} {s t i o s' t' i' o' : Value} (h : RW W B xb zb x cs cr cw ck s t i o s' t' i' o') (hs : W.heap.size ≤ W1.heap.size) (hm : ∀ k, FW B xb zb s t i o s' t' i' o' k → W1.heap[k]? = W.heap[k]?) : RW W1 B xb zb x cs cr cw ck s t i o s' t' i' o' :=
  ⟨(hm B (.inl rfl)).trans h.cf, (hm xb (.inr (.inl rfl))).trans h.xa, (hm zb (.inr (.inr (.inl rfl)))).trans h.za, h.f.move hs (fun k hk => hm k (.inr (.inr (.inr (.inl hk))))), h.g.move hs (fun k hk => hm k (.inr (.inr (.inr (.inr hk)))))⟩
theorem RW.same {W : World} {B xb zb : Nat} {x : Ctx} {cs cr cw ck : Int} {s t i o s' t' i' o' : Value} (h : RW W B xb zb x cs cr cw ck s t i o s' t' i' o') (l1 : x.stack.length ≤ 1000000) (l2 : x.slots.length ≤ 1000000) (l3 : x.ins.length ≤ 1000000) (l4 : x.outs.length ≤ 1000000) :
    Calls Try.prog 14 #[.agg (cxA x s t i o), .agg (cxA x s' t' i' o')] W fun e W' => e = .returned (.bool true) ∧ Below W.heap.size W W' :=
  same_true (at_ := (x.at_ : Int)) (sp := x.spent) (en := x.ended) h.f.st h.f.sl h.f.inn h.f.ou h.g.st h.g.sl h.g.inn h.g.ou l1 l2 l3 l4
end Go.Proofs.Ytlmpoojpbdmmfaa.H
