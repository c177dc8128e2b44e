/- Every way costs from the least to the most, and both are some way's cost: plain. The conditions: what each names. -/
import Derived.Test.YtnaapecmooljaaaCost21
import Derived.Test.YtnaapecmooljaaaNext21
import Derived.Test.YtnaapecmooljaaaBwalk21
set_option linter.unusedVariables false
set_option linter.unusedSimpArgs false
namespace Go.Proofs.Ytnaapecmooljaaa.H
open Go.RowKit Go.Proofs.YtnaapecmooljaaaW.PrintWords

theorem path_between {l : List S26} {is : List Bool} (F : Fine l is) : ∀ (d k : Nat) (ts : List Bool) (s : Int), k < l.length → is.getD k false = true → l.length ≤ k + d → 0 ≤ s → s + 8 * d ≤ 100000 →
    ∃ c, lo l d k ≤ c ∧ c ≤ hi l d k ∧ pathGo l d k ts s = s + c
  | 0, k, ts, s, hk, _, h1, _, _ => by omega
  | d + 1, k, ts, s, hk, hb, h1, h2, h3 => by
    have hn := F.next k hk hb
    have hc := cyc_range (rd_T26 l k).f0
    have hw : wrap64 (s + cyc (rd_T26 l k).f0) = s + cyc (rd_T26 l k).f0 := wrap_ok (by omega) (by omega)
    rw [lo, hi, pathGo, hw]
    unfold succs at hn ⊢
    by_cases e1 : (rd_T26 l k).f0 = 23
    · simp only [e1, if_true]
      exact ⟨_, Int.le_refl _, Int.le_refl _, by omega⟩
    by_cases e2 : (rd_T26 l k).f0 = 21
    · rw [if_neg e1, if_pos e2] at hn
      rw [if_neg e1, if_pos e2, if_neg e1, if_pos e2]
      obtain ⟨a, b, c⟩ := hn _ (List.mem_singleton.2 rfl)
      simp only at a b c ⊢
      obtain ⟨x, x1, x2, x3⟩ := path_between F d _ ts (s + cyc (rd_T26 l k).f0) a c (by omega) (by omega) (by omega)
      exact ⟨x + cyc (rd_T26 l k).f0, by omega, by omega, by rw [x3]; omega⟩
    by_cases e3 : (rd_T26 l k).f0 = 22
    · rw [if_neg e1, if_neg e2, if_pos e3] at hn
      rw [if_neg e1, if_neg e2, if_pos e3, if_neg e1, if_neg e2, if_pos e3]
      obtain ⟨a, b, c⟩ := hn (k + 1, 195) (by simp)
      obtain ⟨a', b', c'⟩ := hn (k + (rd_T26 l k).f1.toNat, 190) (by simp)
      simp only at a b c a' b' c' ⊢
      by_cases ht : ts.headD false = true
      · rw [if_pos ht]
        obtain ⟨x, x1, x2, x3⟩ := path_between F d _ ts.tail (s + cyc (rd_T26 l k).f0) a' c' (by omega) (by omega) (by omega)
        refine ⟨x + cyc (rd_T26 l k).f0, ?_, ?_, by rw [x3]; omega⟩
        · rw [Int.min_def]; split <;> omega
        · rw [Int.max_def]; split <;> omega
      · rw [if_neg ht]
        obtain ⟨x, x1, x2, x3⟩ := path_between F d _ ts.tail (s + cyc (rd_T26 l k).f0) a c (by omega) (by omega) (by omega)
        refine ⟨x + cyc (rd_T26 l k).f0, ?_, ?_, by rw [x3]; omega⟩
        · rw [Int.min_def]; split <;> omega
        · rw [Int.max_def]; split <;> omega
    · rw [if_neg e1, if_neg e2, if_neg e3] at hn
      rw [if_neg e1, if_neg e2, if_neg e3, if_neg e1, if_neg e2, if_neg e3]
      obtain ⟨a, b, c⟩ := hn _ (List.mem_singleton.2 rfl)
      simp only at a b c ⊢
      obtain ⟨x, x1, x2, x3⟩ := path_between F d _ ts (s + cyc (rd_T26 l k).f0) a c (by omega) (by omega) (by omega)
      exact ⟨x + cyc (rd_T26 l k).f0, by omega, by omega, by rw [x3]; omega⟩
/-- The forks from place k on. -/
def zf (l : List S26) (k : Nat) : Nat := (l.drop k).countP (fun i => decide (i.f0 = 22))
theorem zf_le {l : List S26} {j k : Nat} (h : k ≤ j) : zf l j ≤ zf l k := (List.drop_sublist_drop_left l h).countP_le
theorem zf_at {l : List S26} {k : Nat} (hk : k < l.length) : zf l k = zf l (k + 1) + if (rd_T26 l (k : Int)).f0 = 22 then 1 else 0 := by
  unfold zf
  rw [rd26_drop hk, List.countP_cons]
  by_cases h : (rd_T26 l (k : Int)).f0 = 22 <;> simp [h]
theorem path_least {l : List S26} {is : List Bool} (F : Fine l is) : ∀ (d k : Nat) (s : Int), k < l.length → is.getD k false = true → l.length ≤ k + d → 0 ≤ s → s + 8 * d ≤ 100000 →
    ∃ ts : List Bool, ts.length ≤ zf l k ∧ ∀ us, pathGo l d k (ts ++ us) s = s + lo l d k
  | 0, k, s, hk, _, h1, _, _ => by omega
  | d + 1, k, s, hk, hb, h1, h2, h3 => by
    have hn := F.next k hk hb
    have hc := cyc_range (rd_T26 l k).f0
    have hz := zf_at hk
    have hw : wrap64 (s + cyc (rd_T26 l k).f0) = s + cyc (rd_T26 l k).f0 := wrap_ok (by omega) (by omega)
    by_cases e1 : (rd_T26 l k).f0 = 23
    · refine ⟨[], Nat.zero_le _, fun us => ?_⟩
      rw [lo, pathGo, hw]
      unfold succs
      simp only [e1, if_true]
      omega
    by_cases e2 : (rd_T26 l k).f0 = 21
    · unfold succs at hn
      rw [if_neg e1, if_pos e2] at hn
      obtain ⟨a, b, c⟩ := hn _ (List.mem_singleton.2 rfl)
      simp only at a b c
      obtain ⟨ts, t1, t2⟩ := path_least F d (k + (rd_T26 l k).f1.toNat) (s + cyc (rd_T26 l k).f0) a c (by omega) (by omega) (by omega)
      refine ⟨ts, Nat.le_trans t1 (zf_le (by omega)), fun us => ?_⟩
      rw [lo, pathGo, hw]
      unfold succs
      rw [if_neg e1, if_pos e2, if_neg e1, if_pos e2, t2]
      simp only
      omega
    by_cases e3 : (rd_T26 l k).f0 = 22
    · unfold succs at hn
      rw [if_neg e1, if_neg e2, if_pos e3] at hn
      obtain ⟨a, b, c⟩ := hn (k + 1, 195) (by simp)
      obtain ⟨a', b', c'⟩ := hn (k + (rd_T26 l k).f1.toNat, 190) (by simp)
      simp only at a b c a' b' c'
      rw [if_pos e3] at hz
      by_cases hm : lo l d (k + 1) ≤ lo l d (k + (rd_T26 l k).f1.toNat)
      · obtain ⟨ts, t1, t2⟩ := path_least F d (k + 1) (s + cyc (rd_T26 l k).f0) a c (by omega) (by omega) (by omega)
        refine ⟨false :: ts, by simp; omega, fun us => ?_⟩
        rw [lo, pathGo, hw]
        unfold succs
        rw [if_neg e1, if_neg e2, if_pos e3, if_neg e1, if_neg e2, if_pos e3, if_neg (by simp), List.cons_append, List.tail_cons, t2]
        simp only
        rw [Int.min_def]
        split <;> omega
      · obtain ⟨ts, t1, t2⟩ := path_least F d (k + (rd_T26 l k).f1.toNat) (s + cyc (rd_T26 l k).f0) a' c' (by omega) (by omega) (by omega)
        have hz2 : zf l (k + (rd_T26 l k).f1.toNat) ≤ zf l (k + 1) := zf_le (by omega)
        refine ⟨true :: ts, by simp; omega, fun us => ?_⟩
        rw [lo, pathGo, hw]
        unfold succs
        rw [if_neg e1, if_neg e2, if_pos e3, if_neg e1, if_neg e2, if_pos e3, if_pos (by simp), List.cons_append, List.tail_cons, t2]
        simp only
        rw [Int.min_def]
        split <;> omega
    · unfold succs at hn
      rw [if_neg e1, if_neg e2, if_neg e3] at hn
      obtain ⟨a, b, c⟩ := hn _ (List.mem_singleton.2 rfl)
      simp only at a b c
      obtain ⟨ts, t1, t2⟩ := path_least F d (k + 1) (s + cyc (rd_T26 l k).f0) a c (by omega) (by omega) (by omega)
      refine ⟨ts, Nat.le_trans t1 (zf_le (by omega)), fun us => ?_⟩
      rw [lo, pathGo, hw]
      unfold succs
      rw [if_neg e1, if_neg e2, if_neg e3, if_neg e1, if_neg e2, if_neg e3, t2]
      simp only
      omega
theorem path_most {l : List S26} {is : List Bool} (F : Fine l is) : ∀ (d k : Nat) (s : Int), k < l.length → is.getD k false = true → l.length ≤ k + d → 0 ≤ s → s + 8 * d ≤ 100000 →
    ∃ ts : List Bool, ts.length ≤ zf l k ∧ ∀ us, pathGo l d k (ts ++ us) s = s + hi l d k
  | 0, k, s, hk, _, h1, _, _ => by omega
  | d + 1, k, s, hk, hb, h1, h2, h3 => by
    have hn := F.next k hk hb
    have hc := cyc_range (rd_T26 l k).f0
    have hz := zf_at hk
    have hw : wrap64 (s + cyc (rd_T26 l k).f0) = s + cyc (rd_T26 l k).f0 := wrap_ok (by omega) (by omega)
    by_cases e1 : (rd_T26 l k).f0 = 23
    · refine ⟨[], Nat.zero_le _, fun us => ?_⟩
      rw [hi, pathGo, hw]
      unfold succs
      simp only [e1, if_true]
      omega
    by_cases e2 : (rd_T26 l k).f0 = 21
    · unfold succs at hn
      rw [if_neg e1, if_pos e2] at hn
      obtain ⟨a, b, c⟩ := hn _ (List.mem_singleton.2 rfl)
      simp only at a b c
      obtain ⟨ts, t1, t2⟩ := path_most F d (k + (rd_T26 l k).f1.toNat) (s + cyc (rd_T26 l k).f0) a c (by omega) (by omega) (by omega)
      refine ⟨ts, Nat.le_trans t1 (zf_le (by omega)), fun us => ?_⟩
      rw [hi, pathGo, hw]
      unfold succs
      rw [if_neg e1, if_pos e2, if_neg e1, if_pos e2, t2]
      simp only
      omega
    by_cases e3 : (rd_T26 l k).f0 = 22
    · unfold succs at hn
      rw [if_neg e1, if_neg e2, if_pos e3] at hn
      obtain ⟨a, b, c⟩ := hn (k + 1, 195) (by simp)
      obtain ⟨a', b', c'⟩ := hn (k + (rd_T26 l k).f1.toNat, 190) (by simp)
      simp only at a b c a' b' c'
      rw [if_pos e3] at hz
      by_cases hm : hi l d (k + (rd_T26 l k).f1.toNat) ≤ hi l d (k + 1)
      · obtain ⟨ts, t1, t2⟩ := path_most F d (k + 1) (s + cyc (rd_T26 l k).f0) a c (by omega) (by omega) (by omega)
        refine ⟨false :: ts, by simp; omega, fun us => ?_⟩
        rw [hi, pathGo, hw]
        unfold succs
        rw [if_neg e1, if_neg e2, if_pos e3, if_neg e1, if_neg e2, if_pos e3, if_neg (by simp), List.cons_append, List.tail_cons, t2]
        simp only
        rw [Int.max_def]
        split <;> omega
      · obtain ⟨ts, t1, t2⟩ := path_most F d (k + (rd_T26 l k).f1.toNat) (s + cyc (rd_T26 l k).f0) a' c' (by omega) (by omega) (by omega)
        have hz2 : zf l (k + (rd_T26 l k).f1.toNat) ≤ zf l (k + 1) := zf_le (by omega)
        refine ⟨true :: ts, by simp; omega, fun us => ?_⟩
        rw [hi, pathGo, hw]
        unfold succs
        rw [if_neg e1, if_neg e2, if_pos e3, if_neg e1, if_neg e2, if_pos e3, if_pos (by simp), List.cons_append, List.tail_cons, t2]
        simp only
        rw [Int.max_def]
        split <;> omega
    · unfold succs at hn
      rw [if_neg e1, if_neg e2, if_neg e3] at hn
      obtain ⟨a, b, c⟩ := hn _ (List.mem_singleton.2 rfl)
      simp only at a b c
      obtain ⟨ts, t1, t2⟩ := path_most F d (k + 1) (s + cyc (rd_T26 l k).f0) a c (by omega) (by omega) (by omega)
      refine ⟨ts, Nat.le_trans t1 (zf_le (by omega)), fun us => ?_⟩
      rw [hi, pathGo, hw]
      unfold succs
      rw [if_neg e1, if_neg e2, if_neg e3, if_neg e1, if_neg e2, if_neg e3, t2]
      simp only
      omega
/-- The turns that a number tells. -/
def bitsL : Nat → Nat → List Bool
  | 0, _ => []
  | n + 1, m => (m % 2 == 1) :: bitsL n (m / 2)
theorem bitsL_all : ∀ ts : List Bool, ∃ m, m < 2 ^ ts.length ∧ bitsL ts.length m = ts
  | [] => ⟨0, by simp, rfl⟩
  | b :: r => by
    obtain ⟨m, h1, h2⟩ := bitsL_all r
    cases b with
    | true => exact ⟨2 * m + 1, by rw [List.length_cons, Nat.pow_succ]; omega, by rw [List.length_cons, bitsL, show (2 * m + 1) / 2 = m by omega, h2, show (2 * m + 1) % 2 = 1 by omega]; rfl⟩
    | false => exact ⟨2 * m, by rw [List.length_cons, Nat.pow_succ]; omega, by rw [List.length_cons, bitsL, show (2 * m) / 2 = m by omega, h2, show (2 * m) % 2 = 0 by omega]; rfl⟩
theorem bits_pad {n : Nat} {ts : List Bool} (h : ts.length ≤ n) : ∃ m us, m < 2 ^ n ∧ bitsL n m = ts ++ us := by
  obtain ⟨m, h1, h2⟩ := bitsL_all (ts ++ List.replicate (n - ts.length) false)
  have e : (ts ++ List.replicate (n - ts.length) false).length = n := by simp; omega
  rw [e] at h1 h2
  exact ⟨m, _, h1, h2⟩
theorem ways {l : List S26} (hb : (bound l).2.2 = 0) : (∀ ts, (bound l).1 ≤ (path l ts).1 ∧ (path l ts).1 ≤ (bound l).2.1 ∧ (path l ts).2 = 0) ∧
    (∃ m, m < 2 ^ zf l 0 ∧ (path l (bitsL (zf l 0) m)).1 = (bound l).1) ∧ (∃ m, m < 2 ^ zf l 0 ∧ (path l (bitsL (zf l 0) m)).1 = (bound l).2.1) ∧ 0 ≤ (bound l).1 ∧ (bound l).1 ≤ 100000 ∧ 0 ≤ (bound l).2.1 ∧ (bound l).2.1 ≤ 100000 := by
  obtain ⟨hok, hp, hle, hv, is, F⟩ := bound_val hb
  have hpath : ∀ ts, path l ts = (pathGo l l.length 0 ts 0, 0) := fun ts => by unfold path; rw [if_pos hb]
  have r1 := lo_range l l.length 0
  have r2 := hi_range l l.length 0
  rw [hv]
  refine ⟨fun ts => ?_, ?_, ?_, r1.1, by simp only; omega, r2.1, by simp only; omega⟩
  · obtain ⟨c, c1, c2, c3⟩ := path_between F l.length 0 ts 0 hp F.zero (by omega) (by omega) (by omega)
    rw [hpath, c3]
    exact ⟨by simp only; omega, by simp only; omega, rfl⟩
  · obtain ⟨ts, t1, t2⟩ := path_least F l.length 0 0 hp F.zero (by omega) (by omega) (by omega)
    obtain ⟨m, us, m1, m2⟩ := bits_pad t1
    refine ⟨m, m1, ?_⟩
    rw [m2, hpath, t2]
    simp
  · obtain ⟨ts, t1, t2⟩ := path_most F l.length 0 0 hp F.zero (by omega) (by omega) (by omega)
    obtain ⟨m, us, m1, m2⟩ := bits_pad t1
    refine ⟨m, m1, ?_⟩
    rw [m2, hpath, t2]
    simp
end Go.Proofs.Ytnaapecmooljaaa.H
