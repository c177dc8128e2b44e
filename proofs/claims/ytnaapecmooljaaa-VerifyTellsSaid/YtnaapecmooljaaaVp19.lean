/- What verifying says of code: plain. The conditions: what each names. -/
import Derived.Test.YtnaapecmooljaaaVer19
set_option linter.unusedVariables false
set_option linter.unusedSimpArgs false
namespace Go.Proofs.Ytnaapecmooljaaa.H
open Go.RowKit Go.Proofs.YtnaapecmooljaaaW.PrintWords

/-- The places that follow an instruction. -/
def tg19 (i : S26) (p : Nat) : List Nat := if i.f0 = 23 then [] else if i.f0 = 21 then [p + i.f1.toNat] else if i.f0 = 22 then [p + 1, p + i.f1.toNat] else [p + 1]
/-- One round: the instruction is right, and what follows is within. -/
theorem vgo_step {l : List S26} {c : Cf} {d k : Nat} {m : Nat → Option Vst} {most n : Int} (h : vgo l c (d + 1) k m most = (n, 0)) : ∃ s, m k = some s ∧ (chk s (rd_T26 l k) c).2 = 0 ∧
    (folP l.length (fun j => if j = k then some (chk s (rd_T26 l k) c).1 else m j) (chk s (rd_T26 l k) c).1 k (rd_T26 l k)).2 = 0 ∧
    vgo l c d (k + 1) (fun j => if j = k then none else (folP l.length (fun j => if j = k then some (chk s (rd_T26 l k) c).1 else m j) (chk s (rd_T26 l k) c).1 k (rd_T26 l k)).1 j) (max most (chk s (rd_T26 l k) c).1.h) = (n, 0) := by
  rw [vgo] at h
  split at h
  · simp at h
  · rename_i s hs
    split at h
    · rename_i h1
      split at h
      · rename_i h2
        exact ⟨s, hs, h1, h2, h⟩
      · rename_i h2
        simp only [Prod.mk.injEq] at h
        exact absurd h.2 h2
    · rename_i h1
      simp only [Prod.mk.injEq] at h
      exact absurd h.2 h1
theorem vgo_err {l : List S26} {c : Cf} : ∀ {d k : Nat} {m : Nat → Option Vst} {most : Int}, (vgo l c d k m most).2 ≠ 0 → (vgo l c d k m most).1 = 0
  | 0, k, m, most, h => absurd rfl h
  | d + 1, k, m, most, h => by
    rw [vgo] at h ⊢
    cases hm : m k with
    | none => rfl
    | some s =>
      rw [hm] at h
      simp only at h ⊢
      by_cases h1 : (chk s (rd_T26 l k) c).2 = 0
      · rw [if_pos h1] at h ⊢
        by_cases h2 : (folP l.length (fun j => if j = k then some (chk s (rd_T26 l k) c).1 else m j) (chk s (rd_T26 l k) c).1 k (rd_T26 l k)).2 = 0
        · rw [if_pos h2] at h ⊢
          exact vgo_err h
        · rw [if_neg h2]
      · rw [if_neg h1]
theorem vgo_most {l : List S26} {c : Cf} : ∀ {d k : Nat} {m : Nat → Option Vst} {most n : Int}, vgo l c d k m most = (n, 0) → most ≤ n
  | 0, k, m, most, n, h => by simp only [vgo, Prod.mk.injEq] at h; omega
  | d + 1, k, m, most, n, h => by
    obtain ⟨s, _, _, _, h4⟩ := vgo_step h
    have := vgo_most h4
    rw [Int.max_def] at this
    split at this <;> omega
theorem goesP_cut {n n2 : Nat} {m : Nat → Option Vst} {s : Vst} {tg : Nat} {be : Int} (hn : n ≤ n2) (hb : be ≠ 0) (h : (goesP n m s tg be).2 = 0) : goesP n2 m s tg be = goesP n m s tg be ∧ tg < n := by
  unfold goesP at h ⊢
  by_cases h1 : n ≤ tg
  · rw [if_pos h1] at h; exact absurd h hb
  · rw [if_neg h1, if_neg (by omega)]
    exact ⟨rfl, by omega⟩
theorem folP_cut {n n2 : Nat} {m : Nat → Option Vst} {s : Vst} {p : Nat} {i : S26} (hn : n ≤ n2) (h : (folP n m s p i).2 = 0) : folP n2 m s p i = folP n m s p i ∧ ∀ x ∈ tg19 i p, x < n := by
  unfold folP at h ⊢
  unfold tg19
  by_cases e1 : i.f0 = 23
  · simp [e1]
  rw [if_neg e1] at h ⊢
  rw [if_neg e1, if_neg e1]
  by_cases e2 : i.f0 = 21
  · rw [if_pos e2] at h ⊢
    rw [if_pos e2, if_pos e2]
    obtain ⟨a, b⟩ := goesP_cut hn (by decide) h
    exact ⟨a, fun x hx => by rw [List.mem_singleton.1 hx]; exact b⟩
  rw [if_neg e2] at h ⊢
  rw [if_neg e2, if_neg e2]
  by_cases e3 : i.f0 = 22
  · rw [if_pos e3] at h ⊢
    rw [if_pos e3, if_pos e3]
    by_cases e4 : (goesP n m s (p + 1) 195).2 = 0
    · obtain ⟨a, b⟩ := goesP_cut hn (by decide) e4
      rw [if_pos e4] at h ⊢
      obtain ⟨a', b'⟩ := goesP_cut hn (by decide) h
      rw [a, if_pos e4]
      refine ⟨a', fun x hx => ?_⟩
      simp at hx
      rcases hx with rfl | rfl
      · exact b
      · exact b'
    · rw [if_neg e4] at h; exact absurd h e4
  · rw [if_neg e3] at h ⊢
    rw [if_neg e3, if_neg e3]
    obtain ⟨a, b⟩ := goesP_cut hn (by decide) h
    exact ⟨a, fun x hx => by rw [List.mem_singleton.1 hx]; exact b⟩
theorem goesP_none {n : Nat} {m : Nat → Option Vst} {s : Vst} {tg : Nat} {be : Int} (hb : be ≠ 0) (h : (goesP n m s tg be).2 = 0) {j : Nat} (hj : n ≤ j) (hm : m j = none) : (goesP n m s tg be).1 j = none := by
  obtain ⟨_, b⟩ := goesP_cut (Nat.le_refl n) hb h
  rw [goesP_at (by omega)]
  exact hm
theorem folP_none {n : Nat} {m : Nat → Option Vst} {s : Vst} {p : Nat} {i : S26} (h : (folP n m s p i).2 = 0) {j : Nat} (hj : n ≤ j) (hm : m j = none) : (folP n m s p i).1 j = none := by
  unfold folP at h ⊢
  by_cases e1 : i.f0 = 23
  · rw [if_pos e1]; exact hm
  rw [if_neg e1] at h ⊢
  by_cases e2 : i.f0 = 21
  · rw [if_pos e2] at h ⊢; exact goesP_none (by decide) h hj hm
  rw [if_neg e2] at h ⊢
  by_cases e3 : i.f0 = 22
  · rw [if_pos e3] at h ⊢
    by_cases e4 : (goesP n m s (p + 1) 195).2 = 0
    · rw [if_pos e4] at h ⊢
      exact goesP_none (by decide) h hj (goesP_none (by decide) e4 hj hm)
    · rw [if_neg e4] at h; exact absurd h e4
  · rw [if_neg e3] at h ⊢; exact goesP_none (by decide) h hj hm
/-- Code that is verified: each instruction may be, and what follows is within. -/
theorem vgo_all {l : List S26} {c : Cf} : ∀ {d k : Nat} {m : Nat → Option Vst} {most n : Int}, d + k = l.length → vgo l c d k m most = (n, 0) → ∀ j, k ≤ j → j < l.length → mayB (rd_T26 l j).f0 (rd_T26 l j).f1 = true ∧ ∀ x ∈ tg19 (rd_T26 l j) j, x < l.length
  | 0, k, m, most, n, hd, h, j, h1, h2 => by omega
  | d + 1, k, m, most, n, hd, h, j, h1, h2 => by
    obtain ⟨s, _, a, b, h4⟩ := vgo_step h
    rcases Nat.eq_or_lt_of_le h1 with e | e
    · subst e
      exact ⟨chk_may a, (folP_cut (Nat.le_refl _) b).2⟩
    · exact vgo_all (by omega) h4 j e h2
theorem last_end {n : Nat} {m : Nat → Option Vst} {s : Vst} {p : Nat} {i : S26} (hi : (1 ≤ i.f1 ∧ i.f1 ≤ 4096) ∨ (i.f0 ≠ 21 ∧ i.f0 ≠ 22)) (hp : n ≤ p + 1) (h : (folP n m s p i).2 = 0) : i.f0 = 23 := by
  by_cases e1 : i.f0 = 23
  · exact e1
  have hx := (folP_cut (Nat.le_refl n) h).2
  unfold tg19 at hx
  rw [if_neg e1] at hx
  by_cases e2 : i.f0 = 21
  · rw [if_pos e2] at hx
    have := hx _ (List.mem_singleton.2 rfl)
    omega
  rw [if_neg e2] at hx
  by_cases e3 : i.f0 = 22
  · rw [if_pos e3] at hx
    have := hx (p + 1) (by simp)
    omega
  · rw [if_neg e3] at hx
    have := hx _ (List.mem_singleton.2 rfl)
    omega
theorem ver_ok {l : List S26} {c : Cf} (h : (ver l c).2 = 0) : mayC c.slots c.reads c.writes c.stack = true ∧ 0 < l.length ∧ l.length ≤ 4096 ∧ ver l c = vgo l c l.length 0 (fun j => if j = 0 then some st0 else none) 0 := by
  unfold ver at h ⊢
  split at h
  · simp at h
  rename_i h1
  split at h
  · simp at h
  rename_i h2
  split at h
  · simp at h
  rename_i h3
  rw [if_neg h1, if_neg h2, if_neg h3]
  exact ⟨by simpa using h1, by omega, by omega, rfl⟩
theorem ver_err {l : List S26} {c : Cf} (h : (ver l c).2 ≠ 0) : (ver l c).1 = 0 := by
  unfold ver at h ⊢
  by_cases h1 : mayC c.slots c.reads c.writes c.stack = false
  · rw [if_pos h1]
  rw [if_neg h1] at h ⊢
  by_cases h2 : 4096 < l.length
  · rw [if_pos h2]
  rw [if_neg h2] at h ⊢
  by_cases h3 : l.length = 0
  · rw [if_pos h3]
  rw [if_neg h3] at h ⊢
  exact vgo_err h
theorem ver_pair {l : List S26} {c : Cf} (h : (ver l c).2 = 0) : vgo l c l.length 0 (fun j => if j = 0 then some st0 else none) 0 = ((ver l c).1, 0) := by
  rw [← (ver_ok h).2.2.2, ← h]
theorem okAll_of {l : List S26} (h : ∀ j, j < l.length → mayB (rd_T26 l (j : Int)).f0 (rd_T26 l (j : Int)).f1 = true) : okAll l = true := by
  rw [okAll, List.all_eq_true]
  intro x hx
  obtain ⟨j, hj, rfl⟩ := List.getElem_of_mem hx
  have := h j hj
  simpa [rd_T26, List.getD_eq_getElem?_getD, List.getElem?_eq_getElem hj] using this
end Go.Proofs.Ytnaapecmooljaaa.H
