/- An instruction more behind the first one: plain. The conditions: what each names. -/
import Derived.Test.YtnaapecmooljaaaCost21
set_option linter.unusedVariables false
set_option linter.unusedSimpArgs false
namespace Go.Proofs.Ytnaapecmooljaaa.H
open Go.RowKit Go.Proofs.YtnaapecmooljaaaW.PrintWords

theorem succs_shift (i : S26) (k : Nat) : succs i (k + 1) = (succs i k).map (fun x => (x.1 + 1, x.2)) := by
  unfold succs
  split
  · rfl
  split
  · simp; omega
  split
  · simp; omega
  · rfl
theorem succs_ge {i : S26} {k : Nat} : ∀ x ∈ succs i k, k ≤ x.1 := by
  intro x hx
  unfold succs at hx
  split at hx
  · simp at hx
  split at hx
  · simp at hx; subst hx; simp
  split at hx
  · simp at hx; rcases hx with rfl | rfl <;> simp
  · simp at hx; subst hx; simp
theorem rd_shift (h i : S26) (r : List S26) (j : Nat) (hj : 1 ≤ j) : rd_T26 (h :: i :: r) ((j + 1 : Nat) : Int) = rd_T26 (h :: r) (j : Int) := by
  obtain ⟨m, rfl⟩ : ∃ m, j = m + 1 := ⟨j - 1, by omega⟩
  unfold rd_T26
  rw [Int.toNat_natCast, Int.toNat_natCast]
  simp [List.getD_eq_getElem?_getD]
theorem lo_shift (h i : S26) (r : List S26) : ∀ d j, 1 ≤ j → lo (h :: i :: r) d (j + 1) = lo (h :: r) d j
  | 0, j, _ => rfl
  | d + 1, j, hj => by
    rw [lo, lo, rd_shift h i r j hj, succs_shift]
    have hge := succs_ge (i := rd_T26 (h :: r) (j : Int)) (k := j)
    generalize succs (rd_T26 (h :: r) (j : Int)) j = xs at hge ⊢
    match xs with
    | [] => rfl
    | [x] => simp only [List.map]; rw [lo_shift h i r d x.1 (by have := hge x (by simp); omega)]
    | x :: y :: t => simp only [List.map]; rw [lo_shift h i r d x.1 (by have := hge x (by simp); omega), lo_shift h i r d y.1 (by have := hge y (by simp); omega)]
theorem hi_shift (h i : S26) (r : List S26) : ∀ d j, 1 ≤ j → hi (h :: i :: r) d (j + 1) = hi (h :: r) d j
  | 0, j, _ => rfl
  | d + 1, j, hj => by
    rw [hi, hi, rd_shift h i r j hj, succs_shift]
    have hge := succs_ge (i := rd_T26 (h :: r) (j : Int)) (k := j)
    generalize succs (rd_T26 (h :: r) (j : Int)) j = xs at hge ⊢
    match xs with
    | [] => rfl
    | [x] => simp only [List.map]; rw [hi_shift h i r d x.1 (by have := hge x (by simp); omega)]
    | x :: y :: t => simp only [List.map]; rw [hi_shift h i r d x.1 (by have := hge x (by simp); omega), hi_shift h i r d y.1 (by have := hge y (by simp); omega)]
theorem bound_more (h i : S26) (r : List S26) (hl : (h :: r).length ≤ 300) (h1 : h.f0 ≠ 21 ∧ h.f0 ≠ 22 ∧ h.f0 ≠ 23) (h2 : i.f0 ≠ 21 ∧ i.f0 ≠ 22 ∧ i.f0 ≠ 23) (hm : mayB i.f0 i.f1 = true) (hb : (bound (h :: r)).2.2 = 0) :
    bound (h :: i :: r) = ((bound (h :: r)).1 + cyc i.f0, (bound (h :: r)).2.1 + cyc i.f0, 0) := by
  obtain ⟨hok, hp, _, hv, is, F⟩ := bound_val hb
  have r0 : rd_T26 (h :: r) ((0 : Nat) : Int) = h := rfl
  have m0 : rd_T26 (h :: i :: r) ((0 : Nat) : Int) = h := rfl
  have m1 : rd_T26 (h :: i :: r) ((1 : Nat) : Int) = i := rfl
  have s0 : ∀ k, succs h k = [(k + 1, 195)] := fun k => by simp [succs, h1.1, h1.2.1, h1.2.2]
  have s1 : ∀ k, succs i k = [(k + 1, 195)] := fun k => by simp [succs, h2.1, h2.2.1, h2.2.2]
  have hok2 : okAll (h :: i :: r) = true := by
    simp only [okAll, List.all_cons, Bool.and_eq_true] at hok ⊢
    exact ⟨hok.1, hm, hok.2⟩
  have n0 := F.next 0 hp F.zero (1, 195) (by rw [r0, s0]; simp)
  have hlen : (h :: i :: r).length = (h :: r).length + 1 := by simp
  have hreach : ∀ k, Reach (h :: i :: r) k → k = 0 ∨ k = 1 ∨ ∃ j, k = j + 1 ∧ 1 ≤ j ∧ Reach (h :: r) j := by
    intro k hk
    induction hk with
    | zero => exact .inl rfl
    | next _ hkl hx hxl ih =>
      rename_i k x
      rcases ih with rfl | rfl | ⟨j, rfl, hj, hR⟩
      · rw [m0, s0] at hx; rw [List.mem_singleton.1 hx]; exact .inr (.inl rfl)
      · rw [m1, s1] at hx
        rw [List.mem_singleton.1 hx]
        exact .inr (.inr ⟨1, rfl, by omega, Reach.next (x := (1, 195)) Reach.zero hp (by rw [r0, s0]; simp) n0.1⟩)
      · rw [rd_shift h i r j hj, succs_shift] at hx
        obtain ⟨y, hy, rfl⟩ := List.mem_map.1 hx
        have hjl := (fine_reach F j hR).1
        exact .inr (.inr ⟨y.1, rfl, by have := succs_ge y hy; omega, Reach.next hR hjl hy (F.next j hjl (fine_reach F j hR).2 y hy).1⟩)
  have hb2 : (bound (h :: i :: r)).2.2 = 0 := by
    refine bound_ok hok2 (by simp) (by omega) (fun k hk hkl x hx => ?_)
    rcases hreach k hk with rfl | rfl | ⟨j, rfl, hj, hR⟩
    · rw [m0, s0] at hx; rw [List.mem_singleton.1 hx]; simp
    · rw [m1, s1] at hx; rw [List.mem_singleton.1 hx]; have := n0.1; omega
    · rw [rd_shift h i r j hj, succs_shift] at hx
      obtain ⟨y, hy, rfl⟩ := List.mem_map.1 hx
      have := (F.next j (fine_reach F j hR).1 (fine_reach F j hR).2 y hy).1
      simp only
      omega
  obtain ⟨_, _, _, hv2, _⟩ := bound_val hb2
  rw [hv2, hv, hlen]
  obtain ⟨d, hd⟩ : ∃ d, (h :: r).length = d + 1 := ⟨r.length, by simp⟩
  rw [hd]
  have e1 : lo (h :: i :: r) (d + 1 + 1) 0 = lo (h :: r) (d + 1) 0 + cyc i.f0 := by
    have a1 : lo (h :: i :: r) (d + 1 + 1) 0 = lo (h :: i :: r) (d + 1) 1 + cyc h.f0 := by rw [lo, m0, s0]
    have a2 : lo (h :: i :: r) (d + 1) 1 = lo (h :: i :: r) d 2 + cyc i.f0 := by rw [lo, m1, s1]
    have a3 : lo (h :: r) (d + 1) 0 = lo (h :: r) d 1 + cyc h.f0 := by rw [lo, r0, s0]
    have a4 := lo_shift h i r d 1 (by omega)
    rw [a1, a2, a3, a4]
    omega
  have e2 : hi (h :: i :: r) (d + 1 + 1) 0 = hi (h :: r) (d + 1) 0 + cyc i.f0 := by
    have a1 : hi (h :: i :: r) (d + 1 + 1) 0 = hi (h :: i :: r) (d + 1) 1 + cyc h.f0 := by rw [hi, m0, s0]
    have a2 : hi (h :: i :: r) (d + 1) 1 = hi (h :: i :: r) d 2 + cyc i.f0 := by rw [hi, m1, s1]
    have a3 : hi (h :: r) (d + 1) 0 = hi (h :: r) d 1 + cyc h.f0 := by rw [hi, r0, s0]
    have a4 := hi_shift h i r d 1 (by omega)
    rw [a1, a2, a3, a4]
    omega
  rw [e1, e2]
end Go.Proofs.Ytnaapecmooljaaa.H
