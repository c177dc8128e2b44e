/- The reference's cost, carillonref21.Bound and Path, compute what 'bound' and 'path' say. The conditions: what each names. -/
import Derived.Test.YtnaapecmooljaaaCost21
import Derived.Test.YtnaapecmooljaaaBwalk21
import Derived.Test.YtnaapecmooljaaaNext21
import Derived.Test.YtnaapecmooljaaaQ18
import Derived.Test.YtnaapecmooljaaaHx10
import Derived.Test.YtnaapecmooljaaaHx11
import Derived.Test.YtnaapecmooljaaaHx3
import Derived.Test.YtnaapecmooljaaaHx4
import Derived.Test.YtnaapecmooljaaaHx9
set_option linter.unusedVariables false
set_option linter.unusedSimpArgs false
namespace Go.Proofs.Ytnaapecmooljaaa.H
open Go.RowKit Go.Proofs.YtnaapecmooljaaaW.PrintWords Go.Proofs.YtnaapecmooljaaaW.PrintLast Go.Proofs.YtnaapecmooljaaaW.PrintMore

def fol (l : List S26) (k : Nat) : List Int := (succs (rd_T26 l k) k).map (fun x => (x.1 : Int))
theorem follows_val {l : List S26} (hok : okAll l = true) (hle : l.length ≤ 4096) {k : Nat} (hk : k < l.length) : carillonref19_Follows.f l (k : Int) = some (fol l k) := by
  unfold carillonref19_Follows.f fol succs
  rw [_root_.if_pos (by omega), _root_.if_pos (by omega)]
  have ha := ok_args hok k hk
  by_cases h1 : (rd_T26 l (k : Int)).f0 = 23
  · simp [h1]
  by_cases h2 : (rd_T26 l (k : Int)).f0 = 21
  · rw [_root_.if_neg h1, _root_.if_pos h2, _root_.if_neg h1, _root_.if_pos h2, wrap_small (by omega) (by omega)]
    simp only [List.map]
    congr 2
    omega
  by_cases h3 : (rd_T26 l (k : Int)).f0 = 22
  · rw [_root_.if_neg h1, _root_.if_neg h2, _root_.if_pos h3, _root_.if_neg h1, _root_.if_neg h2, _root_.if_pos h3, wrap_small (by omega) (by omega), wrap_small (by omega) (by omega)]
    simp only [List.map]
    congr 3
    omega
  · rw [_root_.if_neg h1, _root_.if_neg h2, _root_.if_neg h3, _root_.if_neg h1, _root_.if_neg h2, _root_.if_neg h3, wrap_small (by omega) (by omega)]
    simp only [List.map]
    congr 1
theorem succs_code {i : S26} {k : Nat} {pre r : List (Nat × Int)} {x : Nat × Int} (h : succs i k = pre ++ x :: r) : x.2 = if pre.length = 0 ∧ i.f0 ≠ 21 then 195 else 190 := by
  unfold succs at h
  split at h
  · simp at h
  split at h
  · rename_i h2
    match pre, h with
    | [], h => simp at h; rw [← h.1]; simp [h2]
    | [a], h => simp at h
    | a :: b :: t, h => simp at h
  split at h
  · rename_i h2 h3
    match pre, h with
    | [], h => simp at h; rw [← h.1]; simp [h2]
    | [a], h => simp at h; rw [← h.2.1]; simp
    | a :: b :: t, h => simp at h
  · rename_i h2 h3
    match pre, h with
    | [], h => simp at h; rw [← h.1]; simp [h2]
    | [a], h => simp at h
    | a :: b :: t, h => simp at h
theorem rd_fol {l : List S26} {k : Nat} {pre r : List (Nat × Int)} {x : Nat × Int} (h : succs (rd_T26 l k) k = pre ++ x :: r) : rd (fol l k) ((pre.length : Nat) : Int) = (x.1 : Int) := by
  unfold rd fol
  rw [Int.toNat_natCast, h]
  simp [List.getD_eq_getElem?_getD]
theorem fol_len {l : List S26} {k : Nat} : (fol l k).length = (succs (rd_T26 l k) k).length := by simp [fol]
theorem rdOf_at {α : Type} (d : α) (xs : List α) (k : Nat) : rdOf d xs (k : Int) = xs.getD k d := by unfold rdOf; rw [Int.toNat_natCast]
theorem rd_at (xs : List Int) (k : Nat) : rd xs (k : Int) = xs.getD k 0 := by unfold rd; rw [Int.toNat_natCast]

theorem scan_length {l : List S26} : ∀ (d k : Nat) (is : List Bool), is.length = l.length → (scan l d k is).2 = 0 → (scan l d k is).1.length = l.length
  | 0, k, is, hl, _ => hl
  | d + 1, k, is, hl, hz => by
    rw [scan] at hz ⊢
    split
    · rename_i h1
      rw [_root_.if_pos h1] at hz
      split
      · rename_i h2
        rw [_root_.if_pos h2] at hz
        refine scan_length d (k + 1) _ ?_ hz
        rw [(scan1_ok (fun x hx => by rcases succs_err hx with e | e <;> rw [e] <;> decide) _ h2).1, setAll_length]
        exact hl
      · rename_i h2
        rw [_root_.if_neg h2] at hz
        exact absurd hz h2
    · rename_i h1
      rw [_root_.if_neg h1] at hz
      exact scan_length d (k + 1) is hl hz
/-! ### what is reached -/
theorem ev_b_j3f {l : List S26} {is : List Bool} {k : Nat} {xs : List Int} {j : Int} {R : Int × Int × Int} (hk : k < l.length) (hl : l.length ≤ 4096) (h : Ev (fun n => carillonref21_Bound.l1 n l is ((k + 1 : Nat) : Int)) R) : Ev (fun n => carillonref21_Bound.j3 n l is (k : Int) xs j false) R :=
  Ev.step (f := fun n => carillonref21_Bound.l1 n l is ((k + 1 : Nat) : Int)) (fun n => by simp only [carillonref21_Bound.j3]; rw [_root_.if_neg (by decide), wrap_small (by omega) (by omega)]; rfl) h
theorem ev_b_l2 {l : List S26} (hle : l.length ≤ 4096) {k : Nat} (hk : k < l.length) (R : Int × Int × Int) (hgt : ∀ x ∈ succs (rd_T26 l k) k, k < x.1) : ∀ (rest pre : List (Nat × Int)) (is : List Bool), succs (rd_T26 l k) k = pre ++ rest → is.length = l.length → is.getD k false = true →
    ((scan1 l.length is rest).2 = 0 → Ev (fun n => carillonref21_Bound.l1 n l (scan1 l.length is rest).1 ((k + 1 : Nat) : Int)) R) → ((scan1 l.length is rest).2 ≠ 0 → R = (0, 0, (scan1 l.length is rest).2)) →
    Ev (fun n => carillonref21_Bound.l2 n l is (k : Int) (fol l k) ((pre.length : Nat) : Int)) R := by
  intro rest
  induction rest with
  | nil =>
    intro pre is hs hl hb h1 h2
    have hf : (fol l k).length = pre.length := by rw [fol_len, hs]; simp
    exact Ev.step (f := fun n => carillonref21_Bound.j3 n l is (k : Int) (fol l k) ((pre.length : Nat) : Int) false) (fun n => by simp only [carillonref21_Bound.l2]; rw [_root_.if_neg (by omega)]) (ev_b_j3f hk hle (h1 rfl))
  | cons x r ih =>
    intro pre is hs hl hb h1 h2
    have hf : (fol l k).length = pre.length + (r.length + 1) := by rw [fol_len, hs]; simp
    have hsl := succs_len (rd_T26 l k) k
    rw [← fol_len (l := l), hf] at hsl
    refine Ev.step (f := fun n => carillonref21_Bound.j3 n l is (k : Int) (fol l k) ((pre.length : Nat) : Int) true) (fun n => by simp only [carillonref21_Bound.l2]; rw [_root_.if_pos (by omega), _root_.if_pos (by omega), _root_.if_pos (by omega), rdOf_at, hb]) ?_
    have hx := hgt x (by rw [hs]; simp)
    by_cases hn : l.length ≤ x.1
    · have e : scan1 l.length is (x :: r) = ([], x.2) := by simp [scan1, hn]
      rw [e] at h1 h2
      have hc := succs_code hs
      have hR := h2 (by show x.2 ≠ 0; rw [hc]; split <;> decide)
      rw [hR]
      have hj4 : ∀ b, Ev (fun n => carillonref21_Bound.j4 n b) ((0, 0, if b = true then 195 else 190) : Int × Int × Int) := fun b =>
        Ev.step (f := fun n => some ((0, 0, if b = true then 195 else 190) : Int × Int × Int)) (fun n => by simp only [carillonref21_Bound.j4]; cases b <;> rfl) (Ev.now _)
      have hr := rd_fol hs
      by_cases hp : pre.length = 0
      · have h4 := hj4 ((rd_T26 l (k : Int)).f0 != 21)
        refine Ev.step (f := fun n => carillonref21_Bound.j4 n ((rd_T26 l (k : Int)).f0 != 21)) (fun n => ?_) ?_
        · simp only [carillonref21_Bound.j3, if_true]
          rw [_root_.if_pos (by omega), _root_.if_pos (by omega), hr, _root_.if_pos (by omega), _root_.if_pos (by omega), _root_.if_pos (by omega), _root_.if_pos (by omega)]
        · show Ev _ (0, 0, x.2)
          rw [hc]
          by_cases h21 : (rd_T26 l (k : Int)).f0 = 21
          · simpa [hp, h21] using h4
          · simpa [hp, h21] using h4
      · have h4 := hj4 false
        refine Ev.step (f := fun n => carillonref21_Bound.j4 n false) (fun n => ?_) ?_
        · simp only [carillonref21_Bound.j3, if_true]
          rw [_root_.if_pos (by omega), _root_.if_pos (by omega), hr, _root_.if_pos (by omega), _root_.if_neg (by omega)]
        · show Ev _ (0, 0, x.2)
          rw [hc]
          simpa [hp] using h4
    · have e : scan1 l.length is (x :: r) = scan1 l.length (is.set x.1 true) r := by simp only [scan1]; rw [_root_.if_neg hn]
      rw [e] at h1 h2
      have hr := rd_fol hs
      have := ih (pre ++ [x]) (is.set x.1 true) (by rw [hs]; simp) (by simpa using hl) (set_true hb) h1 h2
      refine Ev.step (f := fun n => carillonref21_Bound.l2 n l (is.set x.1 true) (k : Int) (fol l k) (((pre ++ [x]).length : Nat) : Int)) (fun n => ?_) this
      simp only [carillonref21_Bound.j3, if_true]
      rw [_root_.if_pos (by omega), _root_.if_pos (by omega), hr, _root_.if_neg (by omega), _root_.if_pos (by omega), _root_.if_pos (by omega), wrap_small (by omega) (by omega)]
      simp
theorem ev_b_l1 {l : List S26} (hok : okAll l = true) (hle : l.length ≤ 4096) (R : Int × Int × Int) : ∀ (d k : Nat) (is : List Bool), d + k = l.length → is.length = l.length →
    ((scan l d k is).2 = 0 → Ev (fun n => carillonref21_Bound.l1 n l (scan l d k is).1 (l.length : Int)) R) → ((scan l d k is).2 ≠ 0 → R = (0, 0, (scan l d k is).2)) →
    Ev (fun n => carillonref21_Bound.l1 n l is (k : Int)) R
  | 0, k, is, hd, hl, h1, h2 => by
    have e : k = l.length := by omega
    subst e
    exact h1 rfl
  | d + 1, k, is, hd, hl, h1, h2 => by
    have hk : k < l.length := by omega
    have hfv := follows_val hok hle hk
    refine Ev.step (f := fun n => carillonref21_Bound.l2 n l is (k : Int) (fol l k) 0) (fun n => by simp only [carillonref21_Bound.l1]; rw [_root_.if_pos (by omega), hfv]; rfl) ?_
    have hgt := succs_gt (k := k) (ok_args2 hok k hk)
    rw [scan] at h1 h2
    by_cases hb : is.getD k false = true
    · rw [_root_.if_pos hb] at h1 h2
      have := ev_b_l2 hle hk R hgt (succs (rd_T26 l k) k) [] is rfl hl hb
      refine this ?_ ?_
      · intro he
        rw [_root_.if_pos he] at h1 h2
        refine ev_b_l1 hok hle R d (k + 1) _ (by omega) ?_ h1 h2
        rw [(scan1_ok (fun x hx => by rcases succs_err hx with e | e <;> rw [e] <;> decide) _ he).1, setAll_length]
        exact hl
      · intro he
        rw [_root_.if_neg he] at h2
        exact h2 he
    · rw [_root_.if_neg hb] at h1 h2
      have hnext := ev_b_l1 hok hle R d (k + 1) is (by omega) hl h1 h2
      refine Ev.step (f := fun n => carillonref21_Bound.j3 n l is (k : Int) (fol l k) 0 false) (fun n => ?_) (ev_b_j3f hk hle hnext)
      simp only [carillonref21_Bound.l2]
      by_cases hc : (0 : Int) < ((fol l k).length : Int)
      · rw [_root_.if_pos hc, _root_.if_pos (by omega), _root_.if_pos (by omega), rdOf_at]
        simp only [Bool.not_eq_true] at hb
        rw [hb]
      · rw [_root_.if_neg hc]

/-! ### how long -/
theorem mx_max (a b : Int) : mx a b = max a b := by unfold mx; rw [Int.max_def]; split <;> split <;> omega
theorem ev_b_j7f {l : List S26} {is : List Bool} {a b : List Int} {k : Nat} {xs : List Int} {j : Int} {R : Int × Int × Int} (hk : k < l.length) (hl : l.length ≤ 4096) (la : a.length = l.length) (lb : b.length = l.length)
    (h : Ev (fun n => carillonref21_Bound.l3 n l is (addAt a k (cyc (rd_T26 l k).f0)) (addAt b k (cyc (rd_T26 l k).f0)) ((k : Int) - 1)) R) : Ev (fun n => carillonref21_Bound.j7 n l is a b (k : Int) xs j false) R := by
  have hc := ev_rcycles (rd_T26 l (k : Int)).f0
  refine Ev.step (f := fun n => (carillonref18_Cycles.f n (rd_T26 l (k : Int)).f0).bind fun t315 => (if (k : Int) < (b.length : Int) then ((carillonref18_Cycles.f n ((rd_T26 l (k : Int)).f0)).bind fun t319 => (carillonref21_Bound.l3 n l is (a.set (k : Int).toNat (wrap64 ((rd a (k : Int)) + t315))) (b.set (k : Int).toNat (wrap64 ((rd b (k : Int)) + t319))) (wrap64 ((k : Int) - 1)))) else none)) (fun n => ?_) ?_
  · simp only [carillonref21_Bound.j7]
    rw [_root_.if_neg (by decide), _root_.if_pos (by omega), _root_.if_pos (by omega), _root_.if_pos (by omega)]
  · refine Ev.bind hc (Ev.if_pos (by omega) (Ev.bind hc ?_))
    rw [wrap_small (x := (k : Int) - 1) (by omega) (by omega), Int.toNat_natCast, rd_at, rd_at]
    exact h
theorem ev_b_l4 {l : List S26} (hle : l.length ≤ 4096) {k : Nat} (hk : k < l.length) {is : List Bool} (hl : is.length = l.length) (hb : is.getD k false = true) (R : Int × Int × Int) (hlt : ∀ x ∈ succs (rd_T26 l k) k, x.1 < l.length) :
    ∀ (rest pre : List (Nat × Int)) (a b : List Int), succs (rd_T26 l k) k = pre ++ rest → a.length = l.length → b.length = l.length →
    Ev (fun n => carillonref21_Bound.l3 n l is (addAt (rest.foldl (stepI k) (pre.isEmpty, a, b)).2.1 k (cyc (rd_T26 l k).f0)) (addAt (rest.foldl (stepI k) (pre.isEmpty, a, b)).2.2 k (cyc (rd_T26 l k).f0)) ((k : Int) - 1)) R →
    Ev (fun n => carillonref21_Bound.l4 n l is a b (k : Int) (fol l k) ((pre.length : Nat) : Int)) R := by
  intro rest
  induction rest with
  | nil =>
    intro pre a b hs la lb h
    have hf : (fol l k).length = pre.length := by rw [fol_len, hs]; simp
    exact Ev.step (f := fun n => carillonref21_Bound.j7 n l is a b (k : Int) (fol l k) ((pre.length : Nat) : Int) false) (fun n => by simp only [carillonref21_Bound.l4]; rw [_root_.if_neg (by omega)]) (ev_b_j7f hk hle la lb h)
  | cons x r ih =>
    intro pre a b hs la lb h
    have hf : (fol l k).length = pre.length + (r.length + 1) := by rw [fol_len, hs]; simp
    have hsl := succs_len (rd_T26 l k) k
    rw [← fol_len (l := l), hf] at hsl
    have hx := hlt x (by rw [hs]; simp)
    have hr := rd_fol hs
    rw [List.foldl_cons] at h
    have hne : (pre ++ [x]).isEmpty = false := by cases pre <;> rfl
    have hlen : (((pre ++ [x]).length : Nat) : Int) = (pre.length : Int) + 1 := by simp
    refine Ev.step (f := fun n => carillonref21_Bound.j7 n l is a b (k : Int) (fol l k) ((pre.length : Nat) : Int) true) (fun n => by simp only [carillonref21_Bound.l4]; rw [_root_.if_pos (by omega), _root_.if_pos (by omega), _root_.if_pos (by omega), rdOf_at, hb]) ?_
    have hset : (∀ n, carillonref21_Bound.j8 (n + 1) l is a b (k : Int) (fol l k) ((pre.length : Nat) : Int) true = carillonref21_Bound.l4 n l is (a.set k (a.getD x.1 0)) (b.set k (max (b.getD k 0) (b.getD x.1 0))) (k : Int) (fol l k) (((pre ++ [x]).length : Nat) : Int)) := by
      intro n
      simp only [carillonref21_Bound.j8, if_true]
      rw [_root_.if_pos (by omega), _root_.if_pos (by omega), hr, _root_.if_pos (by omega), _root_.if_pos (by omega), _root_.if_pos (by omega), _root_.if_pos (by omega), _root_.if_pos (by omega), _root_.if_pos (by omega), wrap_small (by omega) (by omega), rd_at, rd_at, rd_at, mx_max, Int.toNat_natCast, hlen]
    have hkeep : (∀ n, carillonref21_Bound.j8 (n + 1) l is a b (k : Int) (fol l k) ((pre.length : Nat) : Int) false = carillonref21_Bound.l4 n l is a (b.set k (max (b.getD k 0) (b.getD x.1 0))) (k : Int) (fol l k) (((pre ++ [x]).length : Nat) : Int)) := by
      intro n
      simp only [carillonref21_Bound.j8, Bool.false_eq_true, if_false]
      rw [_root_.if_pos (by omega), _root_.if_pos (by omega), _root_.if_pos (by omega), _root_.if_pos (by omega), hr, _root_.if_pos (by omega), _root_.if_pos (by omega), wrap_small (by omega) (by omega), rd_at, rd_at, mx_max, Int.toNat_natCast, hlen]
    by_cases hp : pre.length = 0
    · have hpe : pre.isEmpty = true := by cases pre; rfl; simp at hp
      have e : stepI k (pre.isEmpty, a, b) x = (false, a.set k (a.getD x.1 0), b.set k (max (b.getD k 0) (b.getD x.1 0))) := by unfold stepI; rw [hpe]; simp
      rw [e] at h
      refine Ev.step (f := fun n => carillonref21_Bound.j8 n l is a b (k : Int) (fol l k) ((pre.length : Nat) : Int) true) (fun n => by simp only [carillonref21_Bound.j7, if_true]; rw [_root_.if_pos (by omega)]) ?_
      refine Ev.step hset (ih (pre ++ [x]) _ _ (by rw [hs]; simp) (by simpa using la) (by simpa using lb) ?_)
      rw [hne]
      exact h
    · have hpe : pre.isEmpty = false := by cases pre; simp at hp; rfl
      refine Ev.step (f := fun n => carillonref21_Bound.j8 n l is a b (k : Int) (fol l k) ((pre.length : Nat) : Int) (decide (a.getD x.1 0 < a.getD k 0))) (fun n => by
        simp only [carillonref21_Bound.j7, if_true]
        rw [_root_.if_neg (by omega), _root_.if_pos (by omega), _root_.if_pos (by omega), hr, _root_.if_pos (by omega), _root_.if_pos (by omega), _root_.if_pos (by omega), _root_.if_pos (by omega), rd_at, rd_at]) ?_
      by_cases hd : a.getD x.1 0 < a.getD k 0
      · have e : stepI k (pre.isEmpty, a, b) x = (false, a.set k (a.getD x.1 0), b.set k (max (b.getD k 0) (b.getD x.1 0))) := by unfold stepI; rw [hpe]; simp only [Bool.false_eq_true, false_or]; rw [_root_.if_pos hd]
        rw [e] at h
        rw [decide_eq_true hd]
        refine Ev.step hset (ih (pre ++ [x]) _ _ (by rw [hs]; simp) (by simpa using la) (by simpa using lb) ?_)
        rw [hne]
        exact h
      · have e : stepI k (pre.isEmpty, a, b) x = (false, a, b.set k (max (b.getD k 0) (b.getD x.1 0))) := by unfold stepI; rw [hpe]; simp only [Bool.false_eq_true, false_or]; rw [_root_.if_neg hd]
        rw [e] at h
        rw [decide_eq_false hd]
        refine Ev.step hkeep (ih (pre ++ [x]) _ _ (by rw [hs]; simp) la (by simpa using lb) ?_)
        rw [hne]
        exact h
theorem ev_b_l3 {l : List S26} {is : List Bool} (F : Fine l is) (hl : is.length = l.length) : ∀ (m : Nat) (a b : List Int), m ≤ l.length → Done l is m a b → Ev (fun n => carillonref21_Bound.l3 n l is a b ((m : Int) - 1)) (lo l l.length 0, hi l l.length 0, 0)
  | 0, a, b, hm, D => by
    have v := D.val 0 (Nat.le_refl _) F.pos F.zero
    have h1 := D.la
    have h2 := D.lb
    have h3 := F.pos
    refine Ev.step (f := fun _ => some (lo l l.length 0, hi l l.length 0, 0)) (fun n => ?_) (Ev.now _)
    simp only [carillonref21_Bound.l3]
    rw [_root_.if_neg (by omega), _root_.if_pos (by omega), _root_.if_pos (by omega), ← v.1, ← v.2]
    rfl
  | m + 1, a, b, hm, D => by
    have hk : m < l.length := by omega
    have hfv := follows_val F.ok F.le hk
    have hmm : ((m + 1 : Nat) : Int) - 1 = (m : Int) := by omega
    rw [hmm]
    refine Ev.step (f := fun n => carillonref21_Bound.l4 n l is a b (m : Int) (fol l m) 0) (fun n => by simp only [carillonref21_Bound.l3]; rw [_root_.if_pos (by omega), hfv]; rfl) ?_
    by_cases hb : is.getD m false = true
    · have D2 := done_step F hk D
      unfold stepB at D2
      rw [_root_.if_pos hb] at D2
      exact ev_b_l4 F.le hk hl hb _ (fun x hx => (F.next m hk hb x hx).1) (succs (rd_T26 l m) m) [] a b rfl D.la D.lb (ev_b_l3 F hl m _ _ (by omega) D2)
    · have D2 : Done l is m (addAt a m (cyc (rd_T26 l m).f0)) (addAt b m (cyc (rd_T26 l m).f0)) := by
        refine ⟨by simp [addAt, D.la], by simp [addAt, D.lb], fun j hj => ?_, fun j h1 h2 h3 => ?_⟩
        · rw [addAt, addAt, getD_set_other (by omega), getD_set_other (by omega)]
          exact D.zero j (by omega)
        · have hne : m ≠ j := by rintro rfl; exact hb h3
          rw [addAt, addAt, getD_set_other hne, getD_set_other hne]
          exact D.val j (by omega) h2 h3
      refine Ev.step (f := fun n => carillonref21_Bound.j7 n l is a b (m : Int) (fol l m) 0 false) (fun n => ?_) (ev_b_j7f hk F.le D.la D.lb (ev_b_l3 F hl m _ _ (by omega) D2))
      simp only [carillonref21_Bound.l4]
      by_cases hc : (0 : Int) < ((fol l m).length : Int)
      · rw [_root_.if_pos hc, _root_.if_pos (by omega), _root_.if_pos (by omega), rdOf_at]
        simp only [Bool.not_eq_true] at hb
        rw [hb]
      · rw [_root_.if_neg hc]

/-! ### all -/
theorem ev_b_l0 {l : List S26} (hle : l.length ≤ 4096) (R : Int × Int × Int) : ∀ (d k : Nat), d + k = l.length → (okAll (l.drop k) = true → Ev (fun n => carillonref21_Bound.l0 n l (l.length : Int)) R) → (okAll (l.drop k) = false → R = (0, 0, 180)) →
    Ev (fun n => carillonref21_Bound.l0 n l (k : Int)) R
  | 0, k, hd, h1, h2 => by
    have e : k = l.length := by omega
    subst e
    exact h1 (by simp [okAll])
  | d + 1, k, hd, h1, h2 => by
    have hk : k < l.length := by omega
    rw [rd26_drop hk] at h1 h2
    simp only [okAll, List.all_cons] at h1 h2
    refine Ev.step (f := fun n => (carillonref18_May.f n ((rd_T26 l (k : Int)).f0) ((rd_T26 l (k : Int)).f1)).bind fun t274 => (if t274 = true then (carillonref21_Bound.l0 n l ((k + 1 : Nat) : Int)) else (some (0, 0, 180)))) (fun n => by
      simp only [carillonref21_Bound.l0]; rw [_root_.if_pos (by omega), _root_.if_pos (by omega), wrap_small (by omega) (by omega)]; rfl) ?_
    refine Ev.bind (ev_rmay _ _) ?_
    cases hm : mayB (rd_T26 l (k : Int)).f0 (rd_T26 l (k : Int)).f1 with
    | true =>
      rw [hm] at h1 h2
      simp only [Bool.true_and] at h1 h2
      exact Ev.if_pos rfl (ev_b_l0 hle R d (k + 1) (by omega) h1 h2)
    | false =>
      rw [hm] at h1 h2
      rw [h2 (by simp)]
      exact Ev.if_neg (by decide) (Ev.now _)
theorem ev_rbound (l : List S26) : Ev (fun n => carillonref21_Bound.f n l) (bound l) := by
  unfold carillonref21_Bound.f
  by_cases h : 4096 < l.length
  · refine Ev.if_pos (by omega) ?_
    unfold bound
    rw [_root_.if_pos h]
    exact Ev.now _
  refine Ev.if_neg (by omega) ?_
  refine ev_b_l0 (by omega) _ l.length 0 (by omega) (fun hok => ?_) (fun hok => ?_)
  · rw [List.drop_zero] at hok
    by_cases h0 : l.length = 0
    · unfold bound
      rw [_root_.if_neg h, _root_.if_pos hok, _root_.if_pos h0]
      refine Ev.step (f := fun _ => some (0, 0, 195)) (fun n => ?_) (Ev.now _)
      simp only [carillonref21_Bound.l0]
      rw [_root_.if_neg (by omega), _root_.if_pos (by omega)]
    · have hs : ((List.replicate l.length false).set 0 true : List Bool) = start21 l.length := rfl
      have hsl : (start21 l.length).length = l.length := by simp [start21]
      refine Ev.step (f := fun n => carillonref21_Bound.l1 n l (start21 l.length) 0) (fun n => ?_) ?_
      · simp only [carillonref21_Bound.l0]
        rw [_root_.if_neg (by omega), _root_.if_neg (by omega), _root_.if_pos (by omega), Int.toNat_natCast, _root_.if_pos (by omega), Option.bind_some, List.length_replicate, _root_.if_pos (by omega)]
        rfl
      · refine ev_b_l1 hok (by omega) _ l.length 0 (start21 l.length) (by omega) hsl (fun hz => ?_) (fun hz => ?_)
        · have hb : (bound l).2.2 = 0 := by
            unfold bound
            rw [_root_.if_neg h, _root_.if_pos hok, _root_.if_neg h0, _root_.if_pos hz]
          obtain ⟨_, h2, h1, hv, _⟩ := bound_val hb
          rw [hv]
          have e : scan l l.length 0 (start21 l.length) = ((scan l l.length 0 (start21 l.length)).1, 0) := by rw [← hz]
          have hlen : (scan l l.length 0 (start21 l.length)).1.length = l.length := scan_length _ _ _ hsl hz
          generalize (scan l l.length 0 (start21 l.length)).1 = is at e hlen ⊢
          have hz2 : is.getD 0 false = true := scan_true _ _ _ _ e 0 (by simp [start21, List.getD_eq_getElem?_getD, h2])
          have F : Fine l is := ⟨hok, h2, h1, hz2, fun k hk hb x hx => ⟨scan_in e hok hk hb x hx, succs_gt (ok_args2 hok k hk) x hx, scan_reach hok _ _ _ _ (by omega) hsl e k (Nat.zero_le _) hk hb x hx⟩⟩
          have := ev_b_l3 F hlen l.length (List.replicate l.length 0) (List.replicate l.length 0) (Nat.le_refl _) ⟨by simp, by simp, fun j hj => by simp [List.getD_eq_getElem?_getD, hj], fun j h5 h6 => by omega⟩
          refine Ev.step (f := fun n => carillonref21_Bound.l3 n l is (List.replicate l.length 0) (List.replicate l.length 0) ((l.length : Int) - 1)) (fun n => ?_) this
          simp only [carillonref21_Bound.l1]
          rw [_root_.if_neg (by omega), _root_.if_pos (by omega), Int.toNat_natCast, _root_.if_pos (by omega), wrap_small (by omega) (by omega)]
        · unfold bound
          rw [_root_.if_neg h, _root_.if_pos hok, _root_.if_neg h0, _root_.if_neg hz]
  · rw [List.drop_zero] at hok
    unfold bound
    rw [_root_.if_neg h, _root_.if_neg (by rw [hok]; decide)]
/-! ### a way -/
theorem headD_drop (ts : List Bool) (n : Nat) : (ts.drop n).headD false = ts.getD n false := by
  rw [List.headD_eq_head?_getD, List.head?_drop, List.getD_eq_getElem?_getD]
theorem ev_rp {l : List S26} {is : List Bool} (F : Fine l is) (ts : List Bool) : ∀ (d k n : Nat) (s : Int), k < l.length → is.getD k false = true → l.length ≤ k + d → n ≤ k →
    Ev (fun m => carillonref21_Path.l0 m l ts (n : Int) (k : Int) s) (pathGo l d k (ts.drop n) s, 0)
  | 0, k, n, s, hk, _, h1, _ => by omega
  | d + 1, k, n, s, hk, hb, h1, h2 => by
    have hn := F.next k hk hb
    have hfv := follows_val F.ok F.le hk
    have hle := F.le
    have hc := ev_rcycles (rd_T26 l (k : Int)).f0
    refine Ev.step (f := fun m => (carillonref18_Cycles.f m (rd_T26 l (k : Int)).f0).bind fun t => (if ((fol l k).length : Int) = 0 then (some (wrap64 (s + t), 0)) else (if 0 < ((fol l k).length : Int) then (if ((fol l k).length : Int) = 2 then (if (n : Int) < (ts.length : Int) then (if 0 ≤ (n : Int) then (if rdOf false ts (n : Int) = true then (if 1 < ((fol l k).length : Int) then (carillonref21_Path.l0 m l ts (wrap64 ((n : Int) + 1)) (rd (fol l k) 1) (wrap64 (s + t))) else (none)) else (carillonref21_Path.l0 m l ts (wrap64 ((n : Int) + 1)) (rd (fol l k) 0) (wrap64 (s + t)))) else (none)) else (carillonref21_Path.l0 m l ts (wrap64 ((n : Int) + 1)) (rd (fol l k) 0) (wrap64 (s + t)))) else (carillonref21_Path.l0 m l ts (n : Int) (rd (fol l k) 0) (wrap64 (s + t)))) else (none)))) (fun m => ?_) (Ev.bind hc ?_)
    · simp only [carillonref21_Path.l0]
      rw [_root_.if_pos (by omega), _root_.if_pos (by omega), hfv]
      rfl
    rw [pathGo, headD_drop, List.tail_drop, wrap_small (x := (n : Int) + 1) (by omega) (by omega), rdOf_at]
    unfold succs at hn
    by_cases e1 : (rd_T26 l (k : Int)).f0 = 23
    · have hf : fol l k = [] := by unfold fol succs; rw [_root_.if_pos e1]; rfl
      rw [hf, _root_.if_pos e1]
      exact Ev.if_pos rfl (Ev.now _)
    by_cases e2 : (rd_T26 l (k : Int)).f0 = 21
    · have hf : fol l k = [((k + (rd_T26 l (k : Int)).f1.toNat : Nat) : Int)] := by unfold fol succs; rw [_root_.if_neg e1, _root_.if_pos e2]; rfl
      rw [_root_.if_neg e1, _root_.if_pos e2] at hn
      obtain ⟨a, b, c⟩ := hn _ (List.mem_singleton.2 rfl)
      simp only at a b c
      rw [hf, _root_.if_neg e1, _root_.if_pos e2]
      exact Ev.if_neg (by simp) (Ev.if_pos (by simp) (Ev.if_neg (by simp) (ev_rp F ts d _ n _ a c (by omega) (by omega))))
    by_cases e3 : (rd_T26 l (k : Int)).f0 = 22
    · have hf : fol l k = [((k + 1 : Nat) : Int), ((k + (rd_T26 l (k : Int)).f1.toNat : Nat) : Int)] := by unfold fol succs; rw [_root_.if_neg e1, _root_.if_neg e2, _root_.if_pos e3]; rfl
      rw [_root_.if_neg e1, _root_.if_neg e2, _root_.if_pos e3] at hn
      obtain ⟨a, b, c⟩ := hn (k + 1, 195) (by simp)
      obtain ⟨a', b', c'⟩ := hn (k + (rd_T26 l k).f1.toNat, 190) (by simp)
      simp only at a b c a' b' c'
      rw [hf, _root_.if_neg e1, _root_.if_neg e2, _root_.if_pos e3]
      have i1 := ev_rp F ts d (k + 1) (n + 1) (wrap64 (s + cyc (rd_T26 l (k : Int)).f0)) a c (by omega) (by omega)
      have i2 := ev_rp F ts d (k + (rd_T26 l k).f1.toNat) (n + 1) (wrap64 (s + cyc (rd_T26 l (k : Int)).f0)) a' c' (by omega) (by omega)
      refine Ev.if_neg (by simp) (Ev.if_pos (by simp) (Ev.if_pos (by simp) ?_))
      by_cases hl : (n : Int) < (ts.length : Int)
      · refine Ev.if_pos hl (Ev.if_pos (by omega) ?_)
        by_cases ht : ts.getD n false = true
        · rw [_root_.if_pos ht]
          exact Ev.if_pos ht (Ev.if_pos (by simp) i2)
        · rw [_root_.if_neg ht]
          exact Ev.if_neg ht i1
      · have ht : ¬ ts.getD n false = true := by rw [List.getD_eq_getElem?_getD, List.getElem?_eq_none (by omega)]; decide
        rw [_root_.if_neg ht]
        exact Ev.if_neg hl i1
    · have hf : fol l k = [((k + 1 : Nat) : Int)] := by unfold fol succs; rw [_root_.if_neg e1, _root_.if_neg e2, _root_.if_neg e3]; rfl
      rw [_root_.if_neg e1, _root_.if_neg e2, _root_.if_neg e3] at hn
      obtain ⟨a, b, c⟩ := hn _ (List.mem_singleton.2 rfl)
      simp only at a b c
      rw [hf, _root_.if_neg e1, _root_.if_neg e2, _root_.if_neg e3]
      exact Ev.if_neg (by simp) (Ev.if_pos (by simp) (Ev.if_neg (by simp) (ev_rp F ts d _ n _ a c (by omega) (by omega))))
theorem ev_rpath (l : List S26) (ts : List Bool) : Ev (fun m => carillonref21_Path.f m l ts) (path l ts) := by
  unfold carillonref21_Path.f
  refine Ev.bind (ev_rbound l) ?_
  unfold path
  by_cases hb : (bound l).2.2 = 0
  · rw [_root_.if_pos hb]
    obtain ⟨_, h2, _, _, is, F⟩ := bound_val hb
    exact Ev.if_pos hb (ev_rp F ts l.length 0 0 0 h2 F.zero (by omega) (Nat.le_refl _))
  · rw [_root_.if_neg hb]
    exact Ev.if_neg hb (Ev.now _)
end Go.Proofs.Ytnaapecmooljaaa.H
