/- What the cost is, by recursion: plain. The conditions: what each names. -/
import Derived.Test.YtnaapecmooljaaaScan21
set_option linter.unusedVariables false
set_option linter.unusedSimpArgs false
namespace Go.Proofs.Ytnaapecmooljaaa.H
open Go.RowKit Go.Proofs.YtnaapecmooljaaaW.PrintWords

/-- The least and the most that code costs from place k on, d steps looked at. -/
def lo (l : List S26) : Nat → Nat → Int
  | 0, _ => 0
  | d + 1, k => (match succs (rd_T26 l k) k with | [] => 0 | [x] => lo l d x.1 | x :: y :: _ => min (lo l d x.1) (lo l d y.1)) + cyc (rd_T26 l k).f0
def hi (l : List S26) : Nat → Nat → Int
  | 0, _ => 0
  | d + 1, k => (match succs (rd_T26 l k) k with | [] => 0 | [x] => hi l d x.1 | x :: y :: _ => max (hi l d x.1) (hi l d y.1)) + cyc (rd_T26 l k).f0
theorem cyc_range (op : Int) : 0 ≤ cyc op ∧ cyc op ≤ 8 := by
  unfold cyc
  repeat' split
  all_goals omega
theorem lo_range (l : List S26) : ∀ d k, 0 ≤ lo l d k ∧ lo l d k ≤ 8 * d
  | 0, k => by simp [lo]
  | d + 1, k => by
    have hc := cyc_range (rd_T26 l k).f0
    rw [lo]
    split
    · omega
    · rename_i x _; have := lo_range l d x.1; omega
    · rename_i x y _ _; have h1 := lo_range l d x.1; have h2 := lo_range l d y.1; rw [Int.min_def]; split <;> omega
theorem hi_range (l : List S26) : ∀ d k, 0 ≤ hi l d k ∧ hi l d k ≤ 8 * d
  | 0, k => by simp [hi]
  | d + 1, k => by
    have hc := cyc_range (rd_T26 l k).f0
    rw [hi]
    split
    · omega
    · rename_i x _; have := hi_range l d x.1; omega
    · rename_i x y _ _; have h1 := hi_range l d x.1; have h2 := hi_range l d y.1; rw [Int.max_def]; split <;> omega
theorem succs_len (i : S26) (k : Nat) : (succs i k).length ≤ 2 := by
  unfold succs
  split
  · simp
  split
  · simp
  split <;> simp
/-- More steps than there are places behind change nothing. -/
theorem lo_fuel {l : List S26} {is : List Bool} (F : Fine l is) : ∀ d e k, k < l.length → is.getD k false = true → l.length ≤ k + d → l.length ≤ k + e → lo l d k = lo l e k
  | 0, _, k, hk, _, h1, _ => by omega
  | _ + 1, 0, k, hk, _, _, h2 => by omega
  | d + 1, e + 1, k, hk, hb, h1, h2 => by
    have hn := F.next k hk hb
    rw [lo, lo]
    split
    · rfl
    · rename_i x hs
      rw [hs] at hn
      obtain ⟨a, b, c⟩ := hn x (by simp)
      rw [lo_fuel F d e x.1 a c (by omega) (by omega)]
    · rename_i x y r hs
      rw [hs] at hn
      obtain ⟨a, b, c⟩ := hn x (by simp)
      obtain ⟨a2, b2, c2⟩ := hn y (by simp)
      rw [lo_fuel F d e x.1 a c (by omega) (by omega), lo_fuel F d e y.1 a2 c2 (by omega) (by omega)]
theorem hi_fuel {l : List S26} {is : List Bool} (F : Fine l is) : ∀ d e k, k < l.length → is.getD k false = true → l.length ≤ k + d → l.length ≤ k + e → hi l d k = hi l e k
  | 0, _, k, hk, _, h1, _ => by omega
  | _ + 1, 0, k, hk, _, _, h2 => by omega
  | d + 1, e + 1, k, hk, hb, h1, h2 => by
    have hn := F.next k hk hb
    rw [hi, hi]
    split
    · rfl
    · rename_i x hs
      rw [hs] at hn
      obtain ⟨a, b, c⟩ := hn x (by simp)
      rw [hi_fuel F d e x.1 a c (by omega) (by omega)]
    · rename_i x y r hs
      rw [hs] at hn
      obtain ⟨a, b, c⟩ := hn x (by simp)
      obtain ⟨a2, b2, c2⟩ := hn y (by simp)
      rw [hi_fuel F d e x.1 a c (by omega) (by omega), hi_fuel F d e y.1 a2 c2 (by omega) (by omega)]
theorem wrap_ok {x : Int} (h0 : 0 ≤ x) (h1 : x ≤ 100000) : wrap64 x = x := by unfold wrap64; omega
theorem getD_set_self {a : List Int} {k : Nat} (h : k < a.length) (v : Int) : (a.set k v).getD k 0 = v := by simp [List.getD_eq_getElem?_getD, h]
theorem getD_set_other {a : List Int} {j k : Nat} (h : k ≠ j) (v : Int) : (a.set k v).getD j 0 = a.getD j 0 := by simp [List.getD_eq_getElem?_getD, List.getElem?_set, h]
/-- What the arrays hold when the places from m on are done. -/
structure Done (l : List S26) (is : List Bool) (m : Nat) (a b : List Int) : Prop where
  la : a.length = l.length
  lb : b.length = l.length
  zero : ∀ j, j < m → a.getD j 0 = 0 ∧ b.getD j 0 = 0
  val : ∀ j, m ≤ j → j < l.length → is.getD j false = true → a.getD j 0 = lo l l.length j ∧ b.getD j 0 = hi l l.length j
theorem done_step {l : List S26} {is : List Bool} (F : Fine l is) {k : Nat} (hk : k < l.length) {a b : List Int} (h : Done l is (k + 1) a b) : Done l is k (stepB l is k (a, b)).1 (stepB l is k (a, b)).2 := by
  unfold stepB
  by_cases hb : is.getD k false = true
  · rw [if_pos hb]
    simp only
    obtain ⟨z1, z2⟩ := h.zero k (by omega)
    have hc := cyc_range (rd_T26 l k).f0
    have hn := F.next k hk hb
    have hF := F.le
    have l1 : lo l l.length k = lo l (l.length + 1) k := lo_fuel F _ _ k hk hb (by omega) (by omega)
    have l2 : hi l l.length k = hi l (l.length + 1) k := hi_fuel F _ _ k hk hb (by omega) (by omega)
    rw [lo] at l1
    rw [hi] at l2
    have key : ∀ (a' b' : List Int) (va vb : Int), a'.length = l.length → b'.length = l.length → (∀ j, j ≠ k → a'.getD j 0 = a.getD j 0 ∧ b'.getD j 0 = b.getD j 0) → a'.getD k 0 = va → b'.getD k 0 = vb →
        lo l l.length k = va + cyc (rd_T26 l k).f0 → hi l l.length k = vb + cyc (rd_T26 l k).f0 → Done l is k (addAt a' k (cyc (rd_T26 l k).f0)) (addAt b' k (cyc (rd_T26 l k).f0)) := by
      intro a' b' va vb ha hb' hj hva hvb e1 e2
      have r1 := lo_range l l.length k
      have r2 := hi_range l l.length k
      have w1 : wrap64 (va + cyc (rd_T26 l k).f0) = lo l l.length k := by rw [e1]; exact wrap_ok (by omega) (by omega)
      have w2 : wrap64 (vb + cyc (rd_T26 l k).f0) = hi l l.length k := by rw [e2]; exact wrap_ok (by omega) (by omega)
      refine ⟨by simp [addAt, ha], by simp [addAt, hb'], fun j hj' => ?_, fun j h1 h2 h3 => ?_⟩
      · rw [addAt, addAt, getD_set_other (by omega), getD_set_other (by omega), (hj j (by omega)).1, (hj j (by omega)).2]
        exact h.zero j (by omega)
      · rw [addAt, addAt, hva, hvb, w1, w2]
        by_cases e : k = j
        · subst e
          rw [getD_set_self (by omega), getD_set_self (by omega)]
          exact ⟨rfl, rfl⟩
        · rw [getD_set_other e, getD_set_other e, (hj j (by omega)).1, (hj j (by omega)).2]
          exact h.val j (by omega) h2 h3
    have hlen := succs_len (rd_T26 l k) k
    generalize hs : succs (rd_T26 l k) k = xs at *
    match xs, hlen with
    | [], _ => exact key a b 0 0 h.la h.lb (fun _ _ => ⟨rfl, rfl⟩) z1 z2 l1 l2
    | [x], _ =>
      obtain ⟨x1, x2, x3⟩ := hn x (by simp)
      obtain ⟨vx, vy⟩ := h.val x.1 (by omega) x1 x3
      have rx := hi_range l l.length x.1
      simp only [inner, List.foldl, stepI, true_or, if_true, z2]
      refine key _ _ (lo l l.length x.1) (hi l l.length x.1) (by simp [h.la]) (by simp [h.lb]) (fun j hj => ⟨getD_set_other (Ne.symm hj) _, getD_set_other (Ne.symm hj) _⟩) (by rw [getD_set_self (by rw [h.la]; exact hk), vx]) (by rw [getD_set_self (by rw [h.lb]; exact hk), vy, Int.max_def]; split <;> omega) l1 l2
    | [x, y], _ =>
      obtain ⟨x1, x2, x3⟩ := hn x (by simp)
      obtain ⟨y1, y2, y3⟩ := hn y (by simp)
      obtain ⟨vx, vx2⟩ := h.val x.1 (by omega) x1 x3
      obtain ⟨vy, vy2⟩ := h.val y.1 (by omega) y1 y3
      have rx := hi_range l l.length x.1
      have ry := hi_range l l.length y.1
      simp only [inner, List.foldl, stepI, true_or, if_true, z2, Bool.false_eq_true, false_or, getD_set_self (show k < a.length by rw [h.la]; exact hk), getD_set_self (show k < b.length by rw [h.lb]; exact hk), getD_set_other (show k ≠ y.1 by omega), vx, vx2, vy, vy2]
      refine key _ _ (min (lo l l.length x.1) (lo l l.length y.1)) (max (hi l l.length x.1) (hi l l.length y.1)) ?_ (by simp [h.lb]) (fun j hj => ⟨?_, ?_⟩) ?_ ?_ l1 l2
      · split <;> simp [h.la]
      · split
        · rw [getD_set_other (Ne.symm hj), getD_set_other (Ne.symm hj)]
        · rw [getD_set_other (Ne.symm hj)]
      · rw [getD_set_other (Ne.symm hj), getD_set_other (Ne.symm hj)]
      · rw [Int.min_def]
        split
        · rw [getD_set_self (by simp [h.la]; exact hk), if_neg (by omega)]
        · rw [getD_set_self (by simp [h.la]; exact hk)]
          rename_i h5
          split <;> omega
      · rw [getD_set_self (by simp [h.lb]; exact hk), Int.max_def, Int.max_def, Int.max_def]
        split <;> split <;> (try split) <;> omega
  · rw [if_neg hb]
    exact ⟨h.la, h.lb, fun j hj => h.zero j (by omega), fun j h1 h2 h3 => h.val j (by rcases Nat.eq_or_lt_of_le h1 with e | e; subst e; exact absurd h3 hb; omega) h2 h3⟩
theorem done_back {l : List S26} {is : List Bool} (F : Fine l is) : ∀ m (ab : List Int × List Int), m ≤ l.length → Done l is m ab.1 ab.2 → Done l is 0 (back l is m ab).1 (back l is m ab).2
  | 0, ab, _, h => h
  | m + 1, ab, hm, h => by rw [back]; exact done_back F m _ (by omega) (done_step F (by omega) h)
/-- Where a walk may come. -/
inductive Reach (l : List S26) : Nat → Prop where
  | zero : Reach l 0
  | next {k : Nat} {x : Nat × Int} : Reach l k → k < l.length → x ∈ succs (rd_T26 l k) k → x.1 < l.length → Reach l x.1
theorem setAll_inv {p : Nat → Prop} {xs : List (Nat × Int)} (hx : ∀ x ∈ xs, p x.1) : ∀ {is : List Bool}, (∀ j, is.getD j false = true → p j) → ∀ j, (setAll is xs).getD j false = true → p j := by
  induction xs with
  | nil => intro is h; exact h
  | cons y r ih =>
    intro is h
    refine ih (fun x hx' => hx x (by simp [hx'])) (fun j hj => ?_)
    simp only [List.getD_eq_getElem?_getD, List.getElem?_set] at hj
    split at hj
    · rename_i e; subst e; exact hx y (by simp)
    · exact h j (by rw [List.getD_eq_getElem?_getD]; exact hj)
theorem scan_zero {l : List S26} (hr : ∀ k, Reach l k → k < l.length → ∀ x ∈ succs (rd_T26 l k) k, x.1 < l.length) : ∀ (d k : Nat) (is : List Bool), d + k = l.length → (∀ j, is.getD j false = true → Reach l j) →
    (scan l d k is).2 = 0 ∧ ∀ j, (scan l d k is).1.getD j false = true → Reach l j
  | 0, k, is, _, hi => ⟨rfl, hi⟩
  | d + 1, k, is, hd, hi => by
    rw [scan]
    split
    · rename_i hb
      have hk := hr k (hi k hb) (by omega)
      rw [scan1_all _ _ _ hk]
      simp only [if_true]
      exact scan_zero hr d (k + 1) _ (by omega) (setAll_inv (fun x hx => Reach.next (hi k hb) (by omega) hx (hk x hx)) hi)
    · exact scan_zero hr d (k + 1) is (by omega) hi
theorem start_reach (l : List S26) : ∀ j, (start21 l.length).getD j false = true → Reach l j := by
  intro j hj
  simp only [start21, List.getD_eq_getElem?_getD, List.getElem?_set] at hj
  split at hj
  · rename_i e; subst e; exact Reach.zero
  · simp [List.getElem?_replicate] at hj
    split at hj <;> simp at hj
theorem bound_ok {l : List S26} (hok : okAll l = true) (h0 : 0 < l.length) (h1 : l.length ≤ 4096) (hr : ∀ k, Reach l k → k < l.length → ∀ x ∈ succs (rd_T26 l k) k, x.1 < l.length) : (bound l).2.2 = 0 := by
  unfold bound
  rw [if_neg (by omega), if_pos hok, if_neg (by omega), if_pos (scan_zero hr _ 0 _ (by omega) (start_reach l)).1]
theorem bound_val {l : List S26} (h : (bound l).2.2 = 0) : okAll l = true ∧ 0 < l.length ∧ l.length ≤ 4096 ∧ bound l = (lo l l.length 0, hi l l.length 0, 0) ∧ ∃ is, Fine l is := by
  obtain ⟨is0, F0⟩ := fine_of_bound h
  have h1 := F0.le
  have h2 := F0.pos
  have h3 := F0.ok
  refine ⟨h3, h2, h1, ?_, is0, F0⟩
  unfold bound at h ⊢
  rw [if_neg (by omega), if_pos h3, if_neg (by omega)] at h ⊢
  split at h
  · rename_i h4
    rw [if_pos h4]
    have e : scan l l.length 0 (start21 l.length) = ((scan l l.length 0 (start21 l.length)).1, 0) := by rw [← h4]
    generalize (scan l l.length 0 (start21 l.length)).1 = is at e ⊢
    have hz : is.getD 0 false = true := scan_true _ _ _ _ e 0 (by simp [start21, List.getD_eq_getElem?_getD, h2])
    have F : Fine l is := ⟨h3, h2, h1, hz, fun k hk hb x hx => ⟨scan_in e h3 hk hb x hx, succs_gt (ok_args2 h3 k hk) x hx, scan_reach h3 _ _ _ _ (by omega) (by simp [start21]) e k (Nat.zero_le _) hk hb x hx⟩⟩
    have D := done_back F l.length (List.replicate l.length 0, List.replicate l.length 0) (Nat.le_refl _)
      ⟨by simp, by simp, fun j hj => by simp [List.getD_eq_getElem?_getD, hj], fun j h5 h6 => by omega⟩
    obtain ⟨v1, v2⟩ := D.val 0 (Nat.le_refl _) h2 hz
    rw [v1, v2]
  · rename_i h4; exact absurd h h4
/-- Where code that has a cost is come to: there it goes on within. -/
theorem fine_reach {l : List S26} {is : List Bool} (F : Fine l is) : ∀ k, Reach l k → k < l.length ∧ is.getD k false = true := by
  intro k h
  induction h with
  | zero => exact ⟨F.pos, F.zero⟩
  | next _ hk hx hl ih => have := F.next _ ih.1 ih.2 _ hx; exact ⟨this.1, this.2.2⟩
end Go.Proofs.Ytnaapecmooljaaa.H
