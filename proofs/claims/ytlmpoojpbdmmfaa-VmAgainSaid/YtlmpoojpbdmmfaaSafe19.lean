/- verify.Verify as a plain function. The conditions: what each lemma names. What verifying says of code: plain. The conditions: what each names. Code that is verified can't go wrong: the states at its instructions, plain. The conditions: what each names. -/
import Derived.Test.YtlmpoojpbdmmfaaFol19
import Derived.Test.YtlmpoojpbdmmfaaSverifyMay
set_option linter.unusedVariables false
set_option linter.unusedSimpArgs false
namespace Go.Proofs.Ytlmpoojpbdmmfaa.H
open Go.RowKit Go.Proofs.YtlmpoojpbdmmfaaW.PrintWords Go.Proofs.YtlmpoojpbdmmfaaW.PrintLast Go.Proofs.YtlmpoojpbdmmfaaW.PrintMore

/-- Verifying from place k on, d instructions. -/
def vgo (l : List S53) (c : Cf) : Nat → Nat → (Nat → Option Vst) → Int → Int × Int
  | 0, _, _, most => (most, 0)
  | d + 1, k, m, most => match m k with
    | none => (0, 194)
    | some s =>
      if (chk s (rd_T53 l k) c).2 = 0 then
        (if (folP l.length (fun j => if j = k then some (chk s (rd_T53 l k) c).1 else m j) (chk s (rd_T53 l k) c).1 k (rd_T53 l k)).2 = 0 then
          vgo l c d (k + 1) (fun j => if j = k then none else (folP l.length (fun j => if j = k then some (chk s (rd_T53 l k) c).1 else m j) (chk s (rd_T53 l k) c).1 k (rd_T53 l k)).1 j) (max most (chk s (rd_T53 l k) c).1.h)
        else (0, (folP l.length (fun j => if j = k then some (chk s (rd_T53 l k) c).1 else m j) (chk s (rd_T53 l k) c).1 k (rd_T53 l k)).2))
      else (0, (chk s (rd_T53 l k) c).2)
def ver (l : List S53) (c : Cf) : Int × Int :=
  if mayC c.slots c.reads c.writes c.stack = false then (0, 2) else if 4096 < l.length then (0, 4) else if l.length = 0 then (0, 195) else vgo l c l.length 0 (fun j => if j = 0 then some st0 else none) 0
/-- States as they may be. -/
def OKS (s : Vst) : Prop := s.has.length = 8 ∧ 0 ≤ s.h ∧ s.h ≤ 256
def OKM (m : Nat → Option Vst) : Prop := ∀ k x, m k = some x → OKS x
theorem chk2_ok {s : Vst} {i : S53} {c : Cf} (hs : OKS s) : OKS (chk2 s i c).1 := by
  unfold chk2 OKS at *
  repeat' split
  all_goals (first | exact hs | (simp only [List.length_set]; exact hs))
theorem chk_ok {s : Vst} {i : S53} {c : Cf} (hs : OKS s) (hc : c.stack ≤ 256) : OKS (chk s i c).1 := by
  unfold chk
  split
  · exact hs
  split
  · exact hs
  · rename_i h1 h2
    refine chk2_ok ⟨hs.1, ?_, ?_⟩
    · simp only
      have : 0 ≤ gvs i.f0 := by unfold gvs; repeat' split
                                all_goals decide
      omega
    · simp only; omega
theorem chk_may {s : Vst} {i : S53} {c : Cf} (h : (chk s i c).2 = 0) : mayB i.f0 i.f1 = true := by
  unfold chk at h
  split at h
  · simp at h
  · rename_i h1; simpa using h1
theorem may_arg {i : S53} (h : mayB i.f0 i.f1 = true) : (1 ≤ i.f1 ∧ i.f1 ≤ 4096) ∨ (i.f0 ≠ 21 ∧ i.f0 ≠ 22) := by
  by_cases hj : i.f0 = 21 ∨ i.f0 = 22
  · left
    unfold mayB at h
    rw [if_neg (by omega), if_neg (by omega), if_neg (by omega), if_pos hj] at h
    exact of_decide_eq_true h
  · right; omega
theorem meetS_ok {s t : Vst} (hs : OKS s) (ht : OKS t) : OKS (meetS s t).1 := by
  refine ⟨meetS_len hs.1 ht.1, ?_⟩
  unfold meetS
  repeat' split
  all_goals exact hs.2
theorem goesP_okm {n : Nat} {m : Nat → Option Vst} {s : Vst} {tg : Nat} {be : Int} (hm : OKM m) (hs : OKS s) : OKM (goesP n m s tg be).1 := by
  intro k x hx
  unfold goesP at hx
  split at hx
  · exact hm k x hx
  · split at hx
    · rename_i t ht
      by_cases e : k = tg
      · simp [e] at hx; subst hx; exact meetS_ok (hm _ _ ht) hs
      · simp [e] at hx; exact hm k x hx
    · by_cases e : k = tg
      · simp [e] at hx; subst hx; exact hs
      · simp [e] at hx; exact hm k x hx
theorem folP_okm {n : Nat} {m : Nat → Option Vst} {s : Vst} {p : Nat} {i : S53} (hm : OKM m) (hs : OKS s) : OKM (folP n m s p i).1 := by
  unfold folP
  split
  · exact hm
  split
  · exact goesP_okm hm hs
  split
  · split
    · exact goesP_okm (goesP_okm hm hs) hs
    · exact goesP_okm hm hs
  · exact goesP_okm hm hs
theorem put_okm {m : Nat → Option Vst} {s : Vst} {p : Nat} (hm : OKM m) (hs : OKS s) : OKM (fun j => if j = p then some s else m j) := by
  intro k x hx
  by_cases e : k = p
  · simp [e] at hx; subst hx; exact hs
  · simp [e] at hx; exact hm k x hx
theorem del_okm {m : Nat → Option Vst} {p : Nat} (hm : OKM m) : OKM (fun j => if j = p then none else m j) := by
  intro k x hx
  by_cases e : k = p
  · simp [e] at hx
  · simp [e] at hx; exact hm k x hx
theorem st0_ok : OKS st0 := ⟨rfl, by decide, by decide⟩
end Go.Proofs.Ytlmpoojpbdmmfaa.H
set_option linter.unusedVariables false
set_option linter.unusedSimpArgs false
namespace Go.Proofs.Ytlmpoojpbdmmfaa.H
open Go.RowKit Go.Proofs.YtlmpoojpbdmmfaaW.PrintWords

/-- The places that follow an instruction. -/
def tg19 (i : S53) (p : Nat) : List Nat := if i.f0 = 23 then [] else if i.f0 = 21 then [p + i.f1.toNat] else if i.f0 = 22 then [p + 1, p + i.f1.toNat] else [p + 1]
/-- One round: the instruction is right, and what follows is within. -/
theorem vgo_step {l : List S53} {c : Cf} {d k : Nat} {m : Nat → Option Vst} {most n : Int} (h : vgo l c (d + 1) k m most = (n, 0)) : ∃ s, m k = some s ∧ (chk s (rd_T53 l k) c).2 = 0 ∧
    (folP l.length (fun j => if j = k then some (chk s (rd_T53 l k) c).1 else m j) (chk s (rd_T53 l k) c).1 k (rd_T53 l k)).2 = 0 ∧
    vgo l c d (k + 1) (fun j => if j = k then none else (folP l.length (fun j => if j = k then some (chk s (rd_T53 l k) c).1 else m j) (chk s (rd_T53 l k) c).1 k (rd_T53 l k)).1 j) (max most (chk s (rd_T53 l k) c).1.h) = (n, 0) := by
  rw [vgo] at h
  split at h
  · simp at h
  · rename_i s hs
    split at h
    · rename_i h1
      split at h
      · rename_i h2
        exact ⟨s, hs, h1, h2, h⟩
      · rename_i h2
        simp only [Prod.mk.injEq] at h
        exact absurd h.2 h2
    · rename_i h1
      simp only [Prod.mk.injEq] at h
      exact absurd h.2 h1
theorem vgo_err {l : List S53} {c : Cf} : ∀ {d k : Nat} {m : Nat → Option Vst} {most : Int}, (vgo l c d k m most).2 ≠ 0 → (vgo l c d k m most).1 = 0
  | 0, k, m, most, h => absurd rfl h
  | d + 1, k, m, most, h => by
    rw [vgo] at h ⊢
    cases hm : m k with
    | none => rfl
    | some s =>
      rw [hm] at h
      simp only at h ⊢
      by_cases h1 : (chk s (rd_T53 l k) c).2 = 0
      · rw [if_pos h1] at h ⊢
        by_cases h2 : (folP l.length (fun j => if j = k then some (chk s (rd_T53 l k) c).1 else m j) (chk s (rd_T53 l k) c).1 k (rd_T53 l k)).2 = 0
        · rw [if_pos h2] at h ⊢
          exact vgo_err h
        · rw [if_neg h2]
      · rw [if_neg h1]
theorem vgo_most {l : List S53} {c : Cf} : ∀ {d k : Nat} {m : Nat → Option Vst} {most n : Int}, vgo l c d k m most = (n, 0) → most ≤ n
  | 0, k, m, most, n, h => by simp only [vgo, Prod.mk.injEq] at h; omega
  | d + 1, k, m, most, n, h => by
    obtain ⟨s, _, _, _, h4⟩ := vgo_step h
    have := vgo_most h4
    rw [Int.max_def] at this
    split at this <;> omega
theorem goesP_cut {n n2 : Nat} {m : Nat → Option Vst} {s : Vst} {tg : Nat} {be : Int} (hn : n ≤ n2) (hb : be ≠ 0) (h : (goesP n m s tg be).2 = 0) : goesP n2 m s tg be = goesP n m s tg be ∧ tg < n := by
  unfold goesP at h ⊢
  by_cases h1 : n ≤ tg
  · rw [if_pos h1] at h; exact absurd h hb
  · rw [if_neg h1, if_neg (by omega)]
    exact ⟨rfl, by omega⟩
theorem folP_cut {n n2 : Nat} {m : Nat → Option Vst} {s : Vst} {p : Nat} {i : S53} (hn : n ≤ n2) (h : (folP n m s p i).2 = 0) : folP n2 m s p i = folP n m s p i ∧ ∀ x ∈ tg19 i p, x < n := by
  unfold folP at h ⊢
  unfold tg19
  by_cases e1 : i.f0 = 23
  · simp [e1]
  rw [if_neg e1] at h ⊢
  rw [if_neg e1, if_neg e1]
  by_cases e2 : i.f0 = 21
  · rw [if_pos e2] at h ⊢
    rw [if_pos e2, if_pos e2]
    obtain ⟨a, b⟩ := goesP_cut hn (by decide) h
    exact ⟨a, fun x hx => by rw [List.mem_singleton.1 hx]; exact b⟩
  rw [if_neg e2] at h ⊢
  rw [if_neg e2, if_neg e2]
  by_cases e3 : i.f0 = 22
  · rw [if_pos e3] at h ⊢
    rw [if_pos e3, if_pos e3]
    by_cases e4 : (goesP n m s (p + 1) 195).2 = 0
    · obtain ⟨a, b⟩ := goesP_cut hn (by decide) e4
      rw [if_pos e4] at h ⊢
      obtain ⟨a', b'⟩ := goesP_cut hn (by decide) h
      rw [a, if_pos e4]
      refine ⟨a', fun x hx => ?_⟩
      simp at hx
      rcases hx with rfl | rfl
      · exact b
      · exact b'
    · rw [if_neg e4] at h; exact absurd h e4
  · rw [if_neg e3] at h ⊢
    rw [if_neg e3, if_neg e3]
    obtain ⟨a, b⟩ := goesP_cut hn (by decide) h
    exact ⟨a, fun x hx => by rw [List.mem_singleton.1 hx]; exact b⟩
theorem goesP_none {n : Nat} {m : Nat → Option Vst} {s : Vst} {tg : Nat} {be : Int} (hb : be ≠ 0) (h : (goesP n m s tg be).2 = 0) {j : Nat} (hj : n ≤ j) (hm : m j = none) : (goesP n m s tg be).1 j = none := by
  obtain ⟨_, b⟩ := goesP_cut (Nat.le_refl n) hb h
  rw [goesP_at (by omega)]
  exact hm
theorem folP_none {n : Nat} {m : Nat → Option Vst} {s : Vst} {p : Nat} {i : S53} (h : (folP n m s p i).2 = 0) {j : Nat} (hj : n ≤ j) (hm : m j = none) : (folP n m s p i).1 j = none := by
  unfold folP at h ⊢
  by_cases e1 : i.f0 = 23
  · rw [if_pos e1]; exact hm
  rw [if_neg e1] at h ⊢
  by_cases e2 : i.f0 = 21
  · rw [if_pos e2] at h ⊢; exact goesP_none (by decide) h hj hm
  rw [if_neg e2] at h ⊢
  by_cases e3 : i.f0 = 22
  · rw [if_pos e3] at h ⊢
    by_cases e4 : (goesP n m s (p + 1) 195).2 = 0
    · rw [if_pos e4] at h ⊢
      exact goesP_none (by decide) h hj (goesP_none (by decide) e4 hj hm)
    · rw [if_neg e4] at h; exact absurd h e4
  · rw [if_neg e3] at h ⊢; exact goesP_none (by decide) h hj hm
/-- Code that is verified: each instruction may be, and what follows is within. -/
theorem vgo_all {l : List S53} {c : Cf} : ∀ {d k : Nat} {m : Nat → Option Vst} {most n : Int}, d + k = l.length → vgo l c d k m most = (n, 0) → ∀ j, k ≤ j → j < l.length → mayB (rd_T53 l j).f0 (rd_T53 l j).f1 = true ∧ ∀ x ∈ tg19 (rd_T53 l j) j, x < l.length
  | 0, k, m, most, n, hd, h, j, h1, h2 => by omega
  | d + 1, k, m, most, n, hd, h, j, h1, h2 => by
    obtain ⟨s, _, a, b, h4⟩ := vgo_step h
    rcases Nat.eq_or_lt_of_le h1 with e | e
    · subst e
      exact ⟨chk_may a, (folP_cut (Nat.le_refl _) b).2⟩
    · exact vgo_all (by omega) h4 j e h2
theorem last_end {n : Nat} {m : Nat → Option Vst} {s : Vst} {p : Nat} {i : S53} (hi : (1 ≤ i.f1 ∧ i.f1 ≤ 4096) ∨ (i.f0 ≠ 21 ∧ i.f0 ≠ 22)) (hp : n ≤ p + 1) (h : (folP n m s p i).2 = 0) : i.f0 = 23 := by
  by_cases e1 : i.f0 = 23
  · exact e1
  have hx := (folP_cut (Nat.le_refl n) h).2
  unfold tg19 at hx
  rw [if_neg e1] at hx
  by_cases e2 : i.f0 = 21
  · rw [if_pos e2] at hx
    have := hx _ (List.mem_singleton.2 rfl)
    omega
  rw [if_neg e2] at hx
  by_cases e3 : i.f0 = 22
  · rw [if_pos e3] at hx
    have := hx (p + 1) (by simp)
    omega
  · rw [if_neg e3] at hx
    have := hx _ (List.mem_singleton.2 rfl)
    omega
theorem ver_ok {l : List S53} {c : Cf} (h : (ver l c).2 = 0) : mayC c.slots c.reads c.writes c.stack = true ∧ 0 < l.length ∧ l.length ≤ 4096 ∧ ver l c = vgo l c l.length 0 (fun j => if j = 0 then some st0 else none) 0 := by
  unfold ver at h ⊢
  split at h
  · simp at h
  rename_i h1
  split at h
  · simp at h
  rename_i h2
  split at h
  · simp at h
  rename_i h3
  rw [if_neg h1, if_neg h2, if_neg h3]
  exact ⟨by simpa using h1, by omega, by omega, rfl⟩
theorem ver_err {l : List S53} {c : Cf} (h : (ver l c).2 ≠ 0) : (ver l c).1 = 0 := by
  unfold ver at h ⊢
  by_cases h1 : mayC c.slots c.reads c.writes c.stack = false
  · rw [if_pos h1]
  rw [if_neg h1] at h ⊢
  by_cases h2 : 4096 < l.length
  · rw [if_pos h2]
  rw [if_neg h2] at h ⊢
  by_cases h3 : l.length = 0
  · rw [if_pos h3]
  rw [if_neg h3] at h ⊢
  exact vgo_err h
theorem ver_pair {l : List S53} {c : Cf} (h : (ver l c).2 = 0) : vgo l c l.length 0 (fun j => if j = 0 then some st0 else none) 0 = ((ver l c).1, 0) := by
  rw [← (ver_ok h).2.2.2, ← h]
theorem okAll_of {l : List S53} (h : ∀ j, j < l.length → mayB (rd_T53 l (j : Int)).f0 (rd_T53 l (j : Int)).f1 = true) : okAll l = true := by
  rw [okAll, List.all_eq_true]
  intro x hx
  obtain ⟨j, hj, rfl⟩ := List.getElem_of_mem hx
  have := h j hj
  simpa [rd_T53, List.getD_eq_getElem?_getD, List.getElem?_eq_getElem hj] using this
end Go.Proofs.Ytlmpoojpbdmmfaa.H
set_option linter.unusedVariables false
set_option linter.unusedSimpArgs false
namespace Go.Proofs.Ytlmpoojpbdmmfaa.H
open Go.RowKit Go.Proofs.YtlmpoojpbdmmfaaW.PrintWords

/-! ### bits -/
def bv (x : Int) : BitVec 64 := BitVec.ofInt 64 x
theorem wrap_nat (n : Nat) (h : n < 18446744073709551616) : IntKind.u64.wrap (n : Int) = (n : Int) := by rw [IntKind.wrap_u64]; omega
theorem bits_and_bv (x y : Int) : Go.bits .and .u64 x y = ((bv x &&& bv y).toNat : Int) := by
  unfold Go.bits bv
  exact wrap_nat _ (BitVec.isLt _)
theorem bits_or_bv (x y : Int) : Go.bits .or .u64 x y = ((bv x ||| bv y).toNat : Int) := by
  unfold Go.bits bv
  exact wrap_nat _ (BitVec.isLt _)
theorem bv_toNat (b : BitVec 64) : bv (b.toNat : Int) = b := by
  unfold bv
  rw [BitVec.ofInt_natCast, BitVec.ofNat_toNat]
  simp
theorem bv_and (x y : Int) : bv (Go.bits .and .u64 x y) = bv x &&& bv y := by rw [bits_and_bv, bv_toNat]
theorem bv_or (x y : Int) : bv (Go.bits .or .u64 x y) = bv x ||| bv y := by rw [bits_or_bv, bv_toNat]
theorem and_zero (x y : Int) : Go.bits .and .u64 x y = 0 ↔ bv x &&& bv y = 0#64 := by
  rw [bits_and_bv]
  constructor
  · intro h
    apply BitVec.eq_of_toNat_eq
    simp only [BitVec.toNat_ofNat, Nat.zero_mod]
    omega
  · intro h
    rw [h]
    rfl
/-- Whether a bit is set. -/
def bit (x : Int) (a : Int) : Prop := bv x &&& bv (shl .u64 1 a) ≠ 0#64
theorem bit_and {x y a : Int} (h : bit (Go.bits .and .u64 x y) a) : bit x a ∧ bit y a := by
  unfold bit at *
  rw [bv_and] at h
  constructor
  · intro e
    apply h
    rw [BitVec.and_assoc, BitVec.and_comm (bv y), ← BitVec.and_assoc, e]
    simp
  · intro e
    apply h
    rw [BitVec.and_assoc, e]
    simp
theorem ones : ∀ i j : Fin 64, (bv (shl .u64 1 (i.val : Int)) &&& bv (shl .u64 1 (j.val : Int)) = 0#64) ↔ i ≠ j := by decide +kernel
theorem one_bit {a b : Int} (ha : 0 ≤ a ∧ a < 64) (hb : 0 ≤ b ∧ b < 64) : bit (shl .u64 1 a) b ↔ a = b := by
  have h := ones ⟨a.toNat, by omega⟩ ⟨b.toNat, by omega⟩
  simp only [show ((a.toNat : Nat) : Int) = a by omega, show ((b.toNat : Nat) : Int) = b by omega, ne_eq, Fin.mk.injEq] at h
  unfold bit
  rw [ne_eq, h, Classical.not_not]
  omega
theorem bit_or {x y a : Int} : bit (Go.bits .or .u64 x y) a ↔ bit x a ∨ bit y a := by
  unfold bit
  rw [bv_or]
  constructor
  · intro h
    by_cases e1 : bv x &&& bv (shl .u64 1 a) = 0#64
    · right
      intro e2
      apply h
      have : (bv x ||| bv y) &&& bv (shl .u64 1 a) = (bv x &&& bv (shl .u64 1 a)) ||| (bv y &&& bv (shl .u64 1 a)) := by ext; simp; grind
      rw [this, e1, e2]
      simp
    · exact .inl e1
  · intro h e
    have : (bv x ||| bv y) &&& bv (shl .u64 1 a) = (bv x &&& bv (shl .u64 1 a)) ||| (bv y &&& bv (shl .u64 1 a)) := by ext; simp; grind
    rw [this] at e
    have e1 : bv x &&& bv (shl .u64 1 a) = 0#64 := by
      ext i hi
      have := congrArg (fun z => z[i]) e
      simp at this ⊢
      grind
    have e2 : bv y &&& bv (shl .u64 1 a) = 0#64 := by
      ext i hi
      have := congrArg (fun z => z[i]) e
      simp at this ⊢
      grind
    rcases h with h | h
    · exact h e1
    · exact h e2
theorem masks : ∀ (w : Fin 65) (j : Fin 64), (bv (IntKind.u64.wrap (shl .u64 1 (w.val : Int) - 1)) &&& bv (shl .u64 1 (j.val : Int)) = 0#64) ↔ w.val ≤ j.val := by decide +kernel
theorem mask_bit {w a : Int} (hw : 0 ≤ w ∧ w ≤ 64) (ha : 0 ≤ a ∧ a < 64) : bit (IntKind.u64.wrap (shl .u64 1 w - 1)) a ↔ a < w := by
  have h := masks ⟨w.toNat, by omega⟩ ⟨a.toNat, by omega⟩
  simp only [show ((w.toNat : Nat) : Int) = w by omega, show ((a.toNat : Nat) : Int) = a by omega] at h
  unfold bit
  rw [ne_eq, h]
  omega
theorem bit_zero (a : Int) : ¬ bit 0 a := by
  unfold bit bv
  simp

/-! ### states -/
def slotB (has : List Int) (a : Int) : Prop := bit (has.getD (a / 64).toNat 0) (a % 64)
/-- A state that says no more than another. -/
structure Le (t s : Vst) : Prop where
  h : t.h = s.h
  wr : t.wr = s.wr
  has : ∀ a : Int, 0 ≤ a → a < 512 → slotB t.has a → slotB s.has a
theorem Le.refl (s : Vst) : Le s s := ⟨rfl, rfl, fun _ _ _ h => h⟩
theorem Le.trans {r t s : Vst} (h : Le r t) (k : Le t s) : Le r s := ⟨h.h.trans k.h, h.wr.trans k.wr, fun a h0 h1 ha => k.has a h0 h1 (h.has a h0 h1 ha)⟩
theorem andL_getD {a b : List Int} {k : Nat} (ha : k < a.length) (hb : k < b.length) : (andL a b).getD k 0 = Go.bits .and .u64 (a.getD k 0) (b.getD k 0) := by
  simp [andL, List.getD_eq_getElem?_getD, List.getElem?_zipWith, ha, hb]
theorem meetS_le {s t : Vst} (hs : OKS s) (ht : OKS t) (h : (meetS s t).2 = 0) : Le (meetS s t).1 s ∧ Le (meetS s t).1 t := by
  unfold meetS at h ⊢
  by_cases e1 : s.h ≠ t.h
  · rw [if_pos e1] at h; exact absurd h (by simp)
  rw [if_neg e1] at h ⊢
  by_cases e2 : s.wr ≠ t.wr
  · rw [if_pos e2] at h; exact absurd h (by simp)
  rw [if_neg e2]
  simp only [ne_eq, Classical.not_not] at e1 e2
  refine ⟨⟨rfl, rfl, fun a h0 h1 ha => ?_⟩, ⟨e1, e2, fun a h0 h1 ha => ?_⟩⟩
  · unfold slotB at *
    rw [andL_getD (by rw [hs.1]; omega) (by rw [ht.1]; omega)] at ha
    exact (bit_and ha).1
  · unfold slotB at *
    rw [andL_getD (by rw [hs.1]; omega) (by rw [ht.1]; omega)] at ha
    exact (bit_and ha).2
theorem goesP_le {n : Nat} {m : Nat → Option Vst} {s : Vst} {tg : Nat} {be : Int} (hm : OKM m) (hs : OKS s) (hb : be ≠ 0) (h : (goesP n m s tg be).2 = 0) :
    (∃ t, (goesP n m s tg be).1 tg = some t ∧ Le t s) ∧ ∀ j t, m j = some t → ∃ t', (goesP n m s tg be).1 j = some t' ∧ Le t' t := by
  unfold goesP at h ⊢
  by_cases e1 : n ≤ tg
  · rw [if_pos e1] at h; exact absurd h hb
  rw [if_neg e1] at h ⊢
  cases ht : m tg with
  | some t =>
    rw [ht] at h
    simp only at h ⊢
    have hl := meetS_le (hm _ _ ht) hs h
    refine ⟨⟨_, by simp, hl.2⟩, fun j t' hj => ?_⟩
    by_cases e : j = tg
    · subst e
      rw [ht] at hj
      cases hj
      exact ⟨_, by simp, hl.1⟩
    · exact ⟨t', by simp [e, hj], Le.refl _⟩
  | none =>
    simp only
    refine ⟨⟨_, by simp, Le.refl _⟩, fun j t' hj => ?_⟩
    by_cases e : j = tg
    · subst e; rw [ht] at hj; cases hj
    · exact ⟨t', by simp [e, hj], Le.refl _⟩
theorem folP_le {n : Nat} {m : Nat → Option Vst} {s : Vst} {p : Nat} {i : S53} (hm : OKM m) (hs : OKS s) (h : (folP n m s p i).2 = 0) :
    (∀ q ∈ tg19 i p, ∃ t, (folP n m s p i).1 q = some t ∧ Le t s) ∧ ∀ j t, m j = some t → ∃ t', (folP n m s p i).1 j = some t' ∧ Le t' t := by
  unfold folP at h ⊢
  unfold tg19
  by_cases e1 : i.f0 = 23
  · rw [if_pos e1, if_pos e1]
    exact ⟨by simp, fun j t hj => ⟨t, hj, Le.refl _⟩⟩
  rw [if_neg e1] at h ⊢
  rw [if_neg e1]
  by_cases e2 : i.f0 = 21
  · rw [if_pos e2] at h ⊢
    rw [if_pos e2]
    obtain ⟨a, b⟩ := goesP_le hm hs (by decide) h
    exact ⟨fun q hq => by rw [List.mem_singleton.1 hq]; exact a, b⟩
  rw [if_neg e2] at h ⊢
  rw [if_neg e2]
  by_cases e3 : i.f0 = 22
  · rw [if_pos e3] at h ⊢
    rw [if_pos e3]
    by_cases e4 : (goesP n m s (p + 1) 195).2 = 0
    · rw [if_pos e4] at h ⊢
      obtain ⟨a, b⟩ := goesP_le hm hs (by decide) e4
      obtain ⟨a', b'⟩ := goesP_le (goesP_okm hm hs) hs (by decide) h
      refine ⟨fun q hq => ?_, fun j t hj => ?_⟩
      · simp at hq
        rcases hq with rfl | rfl
        · obtain ⟨t, t1, t2⟩ := a
          obtain ⟨t', t3, t4⟩ := b' _ _ t1
          exact ⟨t', t3, t4.trans t2⟩
        · exact a'
      · obtain ⟨t1, h1, h2⟩ := b j t hj
        obtain ⟨t2, h3, h4⟩ := b' _ _ h1
        exact ⟨t2, h3, h4.trans h2⟩
    · rw [if_neg e4] at h; exact absurd h e4
  · rw [if_neg e3] at h ⊢
    rw [if_neg e3]
    obtain ⟨a, b⟩ := goesP_le hm hs (by decide) h
    exact ⟨fun q hq => by rw [List.mem_singleton.1 hq]; exact a, b⟩
theorem tg19_gt {i : S53} {p : Nat} (hi : (1 ≤ i.f1 ∧ i.f1 ≤ 4096) ∨ (i.f0 ≠ 21 ∧ i.f0 ≠ 22)) : ∀ q ∈ tg19 i p, p < q := by
  intro q hq
  unfold tg19 at hq
  split at hq
  · simp at hq
  split at hq
  · simp at hq; omega
  split at hq
  · simp at hq; omega
  · simp at hq; omega
/-- The states at the instructions of code that is verified. -/
structure Good (l : List S53) (c : Cf) (n : Int) (A : Nat → Vst) (p : Nat) : Prop where
  ok : OKS (A p)
  chk : (chk (A p) (rd_T53 l (p : Int)) c).2 = 0
  top : (Go.Proofs.Ytlmpoojpbdmmfaa.H.chk (A p) (rd_T53 l (p : Int)) c).1.h ≤ n
  next : ∀ q ∈ tg19 (rd_T53 l (p : Int)) p, p < q ∧ q < l.length ∧ Le (A q) (Go.Proofs.Ytlmpoojpbdmmfaa.H.chk (A p) (rd_T53 l (p : Int)) c).1
theorem vgo_good {l : List S53} {c : Cf} (hc : c.stack ≤ 256) : ∀ {d k : Nat} {m : Nat → Option Vst} {most n : Int}, d + k = l.length → OKM m → vgo l c d k m most = (n, 0) →
    ∃ A : Nat → Vst, (∀ p, k ≤ p → p < l.length → Good l c n A p) ∧ ∀ j t, k ≤ j → j < l.length → m j = some t → Le (A j) t
  | 0, k, m, most, n, hd, hm, h => ⟨fun _ => st0, fun p h1 h2 => by omega, fun j t h1 h2 => by omega⟩
  | d + 1, k, m, most, n, hd, hm, h => by
    obtain ⟨s, a1, a2, a3, a4⟩ := vgo_step h
    have hs := hm k s a1
    have hs' : OKS (chk s (rd_T53 l (k : Int)) c).1 := chk_ok hs hc
    have hm1 := put_okm (p := k) hm hs'
    obtain ⟨A, g1, g2⟩ := vgo_good hc (by omega) (del_okm (p := k) (folP_okm hm1 hs')) a4
    obtain ⟨f1, f2⟩ := folP_le hm1 hs' a3
    have hin := (folP_cut (Nat.le_refl _) a3).2
    have hgt := tg19_gt (p := k) (may_arg (chk_may a2))
    have hmost := vgo_most a4
    refine ⟨fun p => if p = k then s else A p, fun p h1 h2 => ?_, fun j t h1 h2 hj => ?_⟩
    · by_cases e : p = k
      · subst e
        refine ⟨by simpa using hs, by simpa using a2, ?_, fun q hq => ?_⟩
        · simp only [if_true]
          rw [Int.max_def] at hmost
          split at hmost <;> omega
        · have q1 := hgt q hq
          have q2 := hin q hq
          refine ⟨q1, q2, ?_⟩
          obtain ⟨t, t1, t2⟩ := f1 q hq
          simp only [if_true]
          rw [if_neg (by omega)]
          exact (g2 q t (by omega) q2 (by rw [if_neg (by omega)]; exact t1)).trans t2
      · have g := g1 p (by omega) h2
        refine ⟨by simpa [e] using g.ok, by simpa [e] using g.chk, by simpa [e] using g.top, fun q hq => ?_⟩
        obtain ⟨q1, q2, q3⟩ := g.next q hq
        exact ⟨q1, q2, by simp only [e, if_false]; rw [if_neg (by omega)]; exact q3⟩
    · by_cases e : j = k
      · subst e
        simp only [if_true]
        rw [a1] at hj
        cases hj
        exact Le.refl _
      · simp only [e, if_false]
        obtain ⟨t', t1, t2⟩ := f2 j t (by rw [if_neg e]; exact hj)
        exact (g2 j t' (by omega) h2 (by rw [if_neg e]; exact t1)).trans t2
theorem ver_good {l : List S53} {c : Cf} (h : (ver l c).2 = 0) : ∃ A : Nat → Vst, (∀ p, p < l.length → Good l c (ver l c).1 A p) ∧ Le (A 0) st0 := by
  obtain ⟨hm, h0, h1, _⟩ := ver_ok h
  have hp := ver_pair h
  have hc : c.stack ≤ 256 := by simp [mayC] at hm; omega
  obtain ⟨A, g1, g2⟩ := vgo_good hc (by omega) (put_okm (p := 0) (m := fun _ => none) (fun _ _ h => by cases h) st0_ok) hp
  exact ⟨A, fun p hp => g1 p (Nat.zero_le _) hp, g2 0 st0 (Nat.le_refl _) h0 (by simp)⟩

/-! ### one step of a way -/
theorem rep_getD {α : Type} (n k : Nat) (x : α) : (List.replicate n x).getD k x = x := by
  rw [List.getD_eq_getElem?_getD, List.getElem?_replicate]
  split <;> rfl
theorem set_getD {α : Type} {l : List α} {k : Nat} (h : k < l.length) (v d : α) : (l.set k v).getD k d = v := by simp [List.getD_eq_getElem?_getD, h]
theorem slotB_set {has : List Int} (hl : has.length = 8) {a b : Int} (ha : 0 ≤ a ∧ a < 512) (hb : 0 ≤ b ∧ b < 512) :
    slotB (has.set (a / 64).toNat (Go.bits .or .u64 (has.getD (a / 64).toNat 0) (shl .u64 1 (a % 64)))) b ↔ slotB has b ∨ b = a := by
  unfold slotB
  by_cases e : (a / 64).toNat = (b / 64).toNat
  · have h1 : (has.set (a / 64).toNat (Go.bits .or .u64 (has.getD (a / 64).toNat 0) (shl .u64 1 (a % 64)))).getD (b / 64).toNat 0 = Go.bits .or .u64 (has.getD (b / 64).toNat 0) (shl .u64 1 (a % 64)) := by
      rw [← e]
      simp [List.getD_eq_getElem?_getD, List.getElem?_set, show (a / 64).toNat < has.length by omega]
    rw [h1, bit_or, one_bit (by omega) (by omega)]
    constructor
    · rintro (h | h)
      · exact .inl h
      · right; omega
    · rintro (h | h)
      · exact .inl h
      · right; omega
  · have h1 : (has.set (a / 64).toNat (Go.bits .or .u64 (has.getD (a / 64).toNat 0) (shl .u64 1 (a % 64)))).getD (b / 64).toNat 0 = has.getD (b / 64).toNat 0 := by
      simp [List.getD_eq_getElem?_getD, List.getElem?_set, e]
    rw [h1]
    constructor
    · exact .inl
    · rintro (h | h)
      · exact h
      · exact absurd (by rw [h]) e
theorem chk_good {s : Vst} {i : S53} {c : Cf} (h : (chk s i c).2 = 0) : mayB i.f0 i.f1 = true ∧ tks i.f0 ≤ s.h ∧ s.h - tks i.f0 + gvs i.f0 ≤ c.stack ∧ chk s i c = chk2 { s with h := s.h + (gvs i.f0 - tks i.f0) } i c := by
  unfold chk at h ⊢
  by_cases e1 : mayB i.f0 i.f1 = false
  · rw [if_pos e1] at h; exact absurd h (by simp)
  rw [if_neg e1] at h ⊢
  by_cases e2 : s.h < tks i.f0 ∨ c.stack < s.h - tks i.f0 + gvs i.f0
  · rw [if_pos e2] at h; exact absurd h (by simp)
  rw [if_neg e2]
  exact ⟨by simpa using e1, by omega, by omega, rfl⟩
/-- What the run has stored and written at a state. -/
structure Runs (s : Vst) (H : List Bool) (Wr : List Int) : Prop where
  hl : H.length = 512
  wl : Wr.length = 64
  hs : ∀ a : Int, 0 ≤ a → a < 512 → slotB s.has a → H.getD a.toNat false = true
  ws : ∀ a : Int, 0 ≤ a → a < 64 → (bit s.wr a → Wr.getD a.toNat 0 = 1) ∧ (¬ bit s.wr a → Wr.getD a.toNat 0 = 0)
theorem Runs.le {s t : Vst} {H : List Bool} {Wr : List Int} (h : Runs s H Wr) (k : Le t s) : Runs t H Wr :=
  ⟨h.hl, h.wl, fun a h0 h1 ha => h.hs a h0 h1 (k.has a h0 h1 ha), fun a h0 h1 => by rw [k.wr]; exact h.ws a h0 h1⟩
theorem runs_start : Runs st0 (List.replicate 512 false) (List.replicate 64 0) := by
  refine ⟨List.length_replicate, List.length_replicate, fun a h0 h1 ha => ?_, fun a h0 h1 => ⟨fun h => absurd h (bit_zero a), fun _ => rep_getD _ _ _⟩⟩
  exfalso
  unfold slotB st0 at ha
  simp only at ha
  have : (List.replicate 8 (0 : Int)).getD (a / 64).toNat 0 = 0 := rep_getD _ _ _
  rw [this] at ha
  exact bit_zero _ ha
section
variable {s : Vst} {i : S53} {c : Cf} {H : List Bool} {Wr : List Int}
theorem chk_h (h : (chk s i c).2 = 0) : (chk s i c).1.h = s.h - tks i.f0 + gvs i.f0 := by
  rw [(chk_good h).2.2.2]
  have : ∀ t : Vst, (chk2 t i c).1.h = t.h := by
    intro t
    unfold chk2
    repeat' split
    all_goals rfl
  rw [this]
  simp only
  omega
theorem run_load (hok : OKS s) (h : (chk s i c).2 = 0) (e : i.f0 = 2) (R : Runs s H Wr) : (0 ≤ i.f1 ∧ i.f1 < 512) ∧ i.f1 < c.slots ∧ H.getD i.f1.toNat false = true ∧ Runs (chk s i c).1 H Wr := by
  obtain ⟨hm, _, _, hc⟩ := chk_good h
  have ha : 0 ≤ i.f1 ∧ i.f1 < 512 := by
    rw [e] at hm
    simpa [mayB] using hm
  rw [hc] at h ⊢
  unfold chk2 at h ⊢
  rw [if_pos (.inl e)] at h ⊢
  by_cases e1 : c.slots ≤ i.f1
  · rw [if_pos e1] at h; exact absurd h (by simp)
  rw [if_neg e1] at h ⊢
  simp only at h ⊢
  by_cases e2 : i.f0 = 2 ∧ Go.bits .and .u64 (s.has.getD (i.f1 / 64).toNat 0) (shl .u64 1 (i.f1 % 64)) = 0
  · rw [if_pos e2] at h; exact absurd h (by simp)
  rw [if_neg e2]
  have hsl : slotB s.has i.f1 := fun e3 => e2 ⟨e, (and_zero _ _).2 e3⟩
  refine ⟨ha, by omega, R.hs _ ha.1 ha.2 hsl, ⟨R.hl, R.wl, fun b h0 h1 hb => ?_, R.ws⟩⟩
  rcases (slotB_set hok.1 ha ⟨h0, h1⟩).1 hb with hb | hb
  · exact R.hs b h0 h1 hb
  · rw [hb]; exact R.hs _ ha.1 ha.2 hsl
theorem run_store (hok : OKS s) (h : (chk s i c).2 = 0) (e : i.f0 = 3) (R : Runs s H Wr) : (0 ≤ i.f1 ∧ i.f1 < 512) ∧ Runs (chk s i c).1 (H.set i.f1.toNat true) Wr := by
  obtain ⟨hm, _, _, hc⟩ := chk_good h
  have ha : 0 ≤ i.f1 ∧ i.f1 < 512 := by
    rw [e] at hm
    simpa [mayB] using hm
  rw [hc] at h ⊢
  unfold chk2 at h ⊢
  rw [if_pos (.inr e)] at h ⊢
  by_cases e1 : c.slots ≤ i.f1
  · rw [if_pos e1] at h; exact absurd h (by simp)
  rw [if_neg e1] at h ⊢
  rw [if_neg (by omega)]
  refine ⟨ha, ⟨by simpa using R.hl, R.wl, fun b h0 h1 hb => ?_, R.ws⟩⟩
  rcases (slotB_set hok.1 ha ⟨h0, h1⟩).1 hb with hb | hb
  · have := R.hs b h0 h1 hb
    by_cases e2 : i.f1.toNat = b.toNat
    · rw [e2]; exact set_getD (by rw [R.hl]; omega) _ _
    · rw [List.getD_eq_getElem?_getD] at this ⊢
      rw [List.getElem?_set, if_neg e2]
      exact this
  · rw [hb]; exact set_getD (by rw [R.hl]; omega) _ _
theorem run_read (h : (chk s i c).2 = 0) (e : i.f0 = 4) (R : Runs s H Wr) : i.f1 < c.reads ∧ Runs (chk s i c).1 H Wr := by
  obtain ⟨hm, _, _, hc⟩ := chk_good h
  rw [hc] at h ⊢
  unfold chk2 at h ⊢
  rw [if_neg (by omega), if_pos e] at h ⊢
  by_cases e1 : c.reads ≤ i.f1
  · rw [if_pos e1] at h; exact absurd h (by simp)
  · exact ⟨by omega, ⟨R.hl, R.wl, R.hs, R.ws⟩⟩
theorem run_write (h : (chk s i c).2 = 0) (e : i.f0 = 5) (R : Runs s H Wr) : (0 ≤ i.f1 ∧ i.f1 < 64) ∧ Wr.getD i.f1.toNat 0 = 0 ∧ Runs (chk s i c).1 H (Wr.set i.f1.toNat 1) := by
  obtain ⟨hm, _, _, hc⟩ := chk_good h
  have ha : 0 ≤ i.f1 ∧ i.f1 < 64 := by
    rw [e] at hm
    simpa [mayB] using hm
  rw [hc] at h ⊢
  unfold chk2 at h ⊢
  rw [if_neg (by omega), if_neg (by omega), if_pos e] at h ⊢
  by_cases e1 : c.writes ≤ i.f1
  · rw [if_pos e1] at h; exact absurd h (by simp)
  rw [if_neg e1] at h ⊢
  simp only at h ⊢
  by_cases e2 : Go.bits .and .u64 s.wr (shl .u64 1 i.f1) = 0
  · rw [if_pos e2]
    have hz : ¬ bit s.wr i.f1 := fun hb => hb ((and_zero _ _).1 e2)
    refine ⟨ha, (R.ws _ ha.1 ha.2).2 hz, ⟨R.hl, by simpa using R.wl, R.hs, fun b h0 h1 => ?_⟩⟩
    simp only
    rw [bit_or, one_bit ha ⟨h0, h1⟩]
    by_cases e3 : i.f1 = b
    · subst e3
      refine ⟨fun _ => set_getD (by rw [R.wl]; omega) _ _, fun hn => absurd (.inr rfl) hn⟩
    · have e4 : i.f1.toNat ≠ b.toNat := by omega
      have e5 : (Wr.set i.f1.toNat 1).getD b.toNat 0 = Wr.getD b.toNat 0 := by simp [List.getD_eq_getElem?_getD, List.getElem?_set, e4]
      rw [e5]
      exact ⟨fun hb => (R.ws b h0 h1).1 (hb.resolve_right e3), fun hn => (R.ws b h0 h1).2 (fun hb => hn (.inl hb))⟩
  · rw [if_neg e2] at h; exact absurd h (by simp)
theorem run_end (hok : OKS s) (h : (chk s i c).2 = 0) (e : i.f0 = 23) (hw : 0 ≤ c.writes ∧ c.writes ≤ 64) (R : Runs s H Wr) : s.h = 0 ∧ ∀ a : Nat, a < 64 → Wr.getD a 0 = if (a : Int) < c.writes then 1 else 0 := by
  obtain ⟨hm, _, _, hc⟩ := chk_good h
  have t0 : tks i.f0 = 0 := by rw [e]; rfl
  have g0 : gvs i.f0 = 0 := by rw [e]; rfl
  have h0 := hok.2.1
  rw [hc] at h
  unfold chk2 at h
  rw [if_neg (by omega), if_neg (by omega), if_neg (by omega), if_pos e] at h
  simp only [t0, g0] at h
  by_cases e1 : 0 < s.h + (0 - 0)
  · rw [if_pos e1] at h; exact absurd h (by simp)
  rw [if_neg e1] at h
  by_cases e2 : s.wr = IntKind.u64.wrap (shl .u64 1 c.writes - 1)
  · refine ⟨by omega, fun a ha => ?_⟩
    have hb := mask_bit (a := (a : Int)) hw ⟨by omega, by omega⟩
    have hws := R.ws (a : Int) (by omega) (by omega)
    rw [e2, hb, Int.toNat_natCast] at hws
    split
    · exact hws.1 (by assumption)
    · exact hws.2 (by assumption)
  · rw [if_neg e2] at h; exact absurd h (by simp)
theorem run_other (h : (chk s i c).2 = 0) (e : i.f0 ≠ 2 ∧ i.f0 ≠ 3 ∧ i.f0 ≠ 4 ∧ i.f0 ≠ 5 ∧ i.f0 ≠ 23) (R : Runs s H Wr) : Runs (chk s i c).1 H Wr := by
  obtain ⟨hm, _, _, hc⟩ := chk_good h
  rw [hc]
  unfold chk2
  rw [if_neg (by omega), if_neg (by omega), if_neg (by omega), if_neg (by omega)]
  exact ⟨R.hl, R.wl, R.hs, R.ws⟩
end

theorem wrapS {x : Int} (h0 : -9223372036854775808 ≤ x) (h1 : x ≤ 9223372036854775807) : wrap64 x = x := by unfold wrap64; omega
theorem wrap_arg {x : Int} (h0 : 0 ≤ x) (h1 : x < 10000) : wrap64 x = x := wrapS (by omega) (by omega)
theorem vs_wraps {p steps turn : Nat} {high tk gv : Int} (hp : p < 5000) (hs : steps ≤ p) (ht : turn ≤ p) (hh : 0 ≤ high ∧ high ≤ 256) (htk : 0 ≤ tk ∧ tk ≤ 2) (hgv : 0 ≤ gv ∧ gv ≤ 1) :
    wrap64 ((p : Int) + 1) = (p : Int) + 1 ∧ wrap64 ((steps : Int) + 1) = (steps : Int) + 1 ∧ wrap64 ((turn : Int) + 1) = (turn : Int) + 1 ∧ wrap64 (p : Int) = (p : Int) ∧ wrap64 (high - tk) = high - tk ∧ wrap64 (high - tk + gv) = high - tk + gv := by
  refine ⟨wrapS ?_ ?_, wrapS ?_ ?_, wrapS ?_ ?_, wrapS ?_ ?_, wrapS ?_ ?_, wrapS ?_ ?_⟩ <;> omega
theorem tg_range (op : Int) : (0 ≤ tks op ∧ tks op ≤ 2) ∧ (0 ≤ gvs op ∧ gvs op ≤ 1) := by
  unfold tks gvs
  refine ⟨?_, ?_⟩
  · split <;> (try split) <;> omega
  · split <;> (try split) <;> omega
theorem us_of {us : List Value} {N : Nat} (h : us.length = N) : us = (List.range N).map (fun j => us.getD j undef) := by
  apply List.ext_getElem
  · simp [h]
  · intro i h1 h2
    simp [List.getD_eq_getElem?_getD, List.getElem?_eq_getElem h1]
end Go.Proofs.Ytlmpoojpbdmmfaa.H
