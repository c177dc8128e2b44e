/- Part 7 of the proof of the law L. The conditions: none. (Its parts: SverifyMay Safe19 Run22.) -/
import Derived.Test.YtlmpoojpbdmmfaaKL02
import Derived.Test.YtlmpoojpbdmmfaaKL06
section
set_option linter.unusedVariables false
set_option linter.unusedSimpArgs false
namespace Go.Proofs.Ytlmpoojpbdmmfaa.H
open Go.RowKit Go.Proofs.YtlmpoojpbdmmfaaW.PrintWords Go.Proofs.YtlmpoojpbdmmfaaW.PrintLast Go.Proofs.YtlmpoojpbdmmfaaW.PrintMore
def mayC (a b c d : Int) : Bool := decide (0 ≤ a ∧ a ≤ 512) && decide (0 ≤ b ∧ b ≤ 64) && decide (0 ≤ c ∧ c ≤ 64) && decide (1 ≤ d ∧ d ≤ 256)
def verify_May.f (a0_0 : Int) (a0_1 : Int) (a0_2 : Int) (a0_3 : Int) : Option (Bool) := some (mayC a0_0 a0_1 a0_2 a0_3)
set_option maxHeartbeats 4000000 in
theorem verify_May.calls (a0_0 : Int) (a0_1 : Int) (a0_2 : Int) (a0_3 : Int) (r : Bool) (w : World) (h : verify_May.f a0_0 a0_1 a0_2 a0_3 = some r) :
    Calls Try.prog 47 #[.agg #[.int .i64 a0_0, .int .i64 a0_1, .int .i64 a0_2, .int .i64 a0_3]] w fun e w' => e = .returned (.bool r) ∧ Below w.heap.size w w' := by
  simp only [verify_May.f, Option.some.injEq] at h
  subst h
  go_enter Try.func47, Try.ntmps47
  go_wp2
  all_goals (
    go_ret
    refine ⟨?_, (Below.refl _ _).alloc (Nat.le_refl _) _⟩
    simp only [mayC, Ending.returned.injEq, Value.bool.injEq]
    simp [*]
    try first | omega | (intros; omega) | (rw [Bool.eq_iff_iff]; simp; omega))
end Go.Proofs.Ytlmpoojpbdmmfaa.H
end
section
set_option linter.unusedVariables false
set_option linter.unusedSimpArgs false
namespace Go.Proofs.Ytlmpoojpbdmmfaa.H
open Go.RowKit Go.Proofs.YtlmpoojpbdmmfaaW.PrintWords Go.Proofs.YtlmpoojpbdmmfaaW.PrintLast Go.Proofs.YtlmpoojpbdmmfaaW.PrintMore
def vgo (l : List S53) (c : Cf) : Nat → Nat → (Nat → Option Vst) → Int → Int × Int
  | 0, _, _, most => (most, 0)
  | d + 1, k, m, most => match m k with
    | none => (0, 194)
    | some s =>
      if (chk s (rd_T53 l k) c).2 = 0 then
        (if (folP l.length (fun j => if j = k then some (chk s (rd_T53 l k) c).1 else m j) (chk s (rd_T53 l k) c).1 k (rd_T53 l k)).2 = 0 then
          vgo l c d (k + 1) (fun j => if j = k then none else (folP l.length (fun j => if j = k then some (chk s (rd_T53 l k) c).1 else m j) (chk s (rd_T53 l k) c).1 k (rd_T53 l k)).1 j) (max most (chk s (rd_T53 l k) c).1.h)
        else (0, (folP l.length (fun j => if j = k then some (chk s (rd_T53 l k) c).1 else m j) (chk s (rd_T53 l k) c).1 k (rd_T53 l k)).2))
      else (0, (chk s (rd_T53 l k) c).2)
def ver (l : List S53) (c : Cf) : Int × Int :=
  if mayC c.slots c.reads c.writes c.stack = false then (0, 2) else if 4096 < l.length then (0, 4) else if l.length = 0 then (0, 195) else vgo l c l.length 0 (fun j => if j = 0 then some st0 else none) 0
def OKS (s : Vst) : Prop := s.has.length = 8 ∧ 0 ≤ s.h ∧ s.h ≤ 256
def OKM (m : Nat → Option Vst) : Prop := ∀ k x, m k = some x → OKS x
theorem chk2_ok {s : Vst} {i : S53} {c : Cf} (hs : OKS s) : OKS (chk2 s i c).1 := by
  unfold chk2 OKS at *
  repeat' split
  all_goals (first | exact hs | (simp only [List.length_set]; exact hs))
theorem chk_ok {s : Vst} {i : S53} {c : Cf} (hs : OKS s) (hc : c.stack ≤ 256) : OKS (chk s i c).1 := by
  unfold chk
  split
  · exact hs
  split
  · exact hs
  · rename_i h1 h2
    refine chk2_ok ⟨hs.1, ?_, ?_⟩
    · simp only
      have : 0 ≤ gvs i.f0 := by unfold gvs; repeat' split
                                all_goals decide
      omega
    · simp only; omega
theorem chk_may {s : Vst} {i : S53} {c : Cf} (h : (chk s i c).2 = 0) : mayB i.f0 i.f1 = true := by
  unfold chk at h
  split at h
  · simp at h
  · rename_i h1; simpa using h1
theorem may_arg {i : S53} (h : mayB i.f0 i.f1 = true) : (1 ≤ i.f1 ∧ i.f1 ≤ 4096) ∨ (i.f0 ≠ 21 ∧ i.f0 ≠ 22) := by
  by_cases hj : i.f0 = 21 ∨ i.f0 = 22
  · left
    unfold mayB at h
    rw [if_neg (by omega), if_neg (by omega), if_neg (by omega), if_pos hj] at h
    exact of_decide_eq_true h
  · right; omega
theorem meetS_ok {s t : Vst} (hs : OKS s) (ht : OKS t) : OKS (meetS s t).1 := by
  refine ⟨meetS_len hs.1 ht.1, ?_⟩
  unfold meetS
  repeat' split
  all_goals exact hs.2
theorem goesP_okm {n : Nat} {m : Nat → Option Vst} {s : Vst} {tg : Nat} {be : Int} (hm : OKM m) (hs : OKS s) : OKM (goesP n m s tg be).1 := by
  intro k x hx
  unfold goesP at hx
  split at hx
  · exact hm k x hx
  · split at hx
    · rename_i t ht
      by_cases e : k = tg
      · simp [e] at hx; subst hx; exact meetS_ok (hm _ _ ht) hs
      · simp [e] at hx; exact hm k x hx
    · by_cases e : k = tg
      · simp [e] at hx; subst hx; exact hs
      · simp [e] at hx; exact hm k x hx
theorem folP_okm {n : Nat} {m : Nat → Option Vst} {s : Vst} {p : Nat} {i : S53} (hm : OKM m) (hs : OKS s) : OKM (folP n m s p i).1 := by
  unfold folP
  split
  · exact hm
  split
  · exact goesP_okm hm hs
  split
  · split
    · exact goesP_okm (goesP_okm hm hs) hs
    · exact goesP_okm hm hs
  · exact goesP_okm hm hs
theorem put_okm {m : Nat → Option Vst} {s : Vst} {p : Nat} (hm : OKM m) (hs : OKS s) : OKM (fun j => if j = p then some s else m j) := by
  intro k x hx
  by_cases e : k = p
  · simp [e] at hx; subst hx; exact hs
  · simp [e] at hx; exact hm k x hx
theorem del_okm {m : Nat → Option Vst} {p : Nat} (hm : OKM m) : OKM (fun j => if j = p then none else m j) := by
  intro k x hx
  by_cases e : k = p
  · simp [e] at hx
  · simp [e] at hx; exact hm k x hx
theorem st0_ok : OKS st0 := ⟨rfl, by decide, by decide⟩
end Go.Proofs.Ytlmpoojpbdmmfaa.H
set_option linter.unusedVariables false
set_option linter.unusedSimpArgs false
namespace Go.Proofs.Ytlmpoojpbdmmfaa.H
open Go.RowKit Go.Proofs.YtlmpoojpbdmmfaaW.PrintWords
def tg19 (i : S53) (p : Nat) : List Nat := if i.f0 = 23 then [] else if i.f0 = 21 then [p + i.f1.toNat] else if i.f0 = 22 then [p + 1, p + i.f1.toNat] else [p + 1]
theorem vgo_step {l : List S53} {c : Cf} {d k : Nat} {m : Nat → Option Vst} {most n : Int} (h : vgo l c (d + 1) k m most = (n, 0)) : ∃ s, m k = some s ∧ (chk s (rd_T53 l k) c).2 = 0 ∧
    (folP l.length (fun j => if j = k then some (chk s (rd_T53 l k) c).1 else m j) (chk s (rd_T53 l k) c).1 k (rd_T53 l k)).2 = 0 ∧
    vgo l c d (k + 1) (fun j => if j = k then none else (folP l.length (fun j => if j = k then some (chk s (rd_T53 l k) c).1 else m j) (chk s (rd_T53 l k) c).1 k (rd_T53 l k)).1 j) (max most (chk s (rd_T53 l k) c).1.h) = (n, 0) := by
  rw [vgo] at h
  split at h
  · simp at h
  · rename_i s hs
    split at h
    · rename_i h1
      split at h
      · rename_i h2
        exact ⟨s, hs, h1, h2, h⟩
      · rename_i h2
        simp only [Prod.mk.injEq] at h
        exact absurd h.2 h2
    · rename_i h1
      simp only [Prod.mk.injEq] at h
      exact absurd h.2 h1
theorem vgo_most {l : List S53} {c : Cf} : ∀ {d k : Nat} {m : Nat → Option Vst} {most n : Int}, vgo l c d k m most = (n, 0) → most ≤ n
  | 0, k, m, most, n, h => by simp only [vgo, Prod.mk.injEq] at h; omega
  | d + 1, k, m, most, n, h => by
    obtain ⟨s, _, _, _, h4⟩ := vgo_step h
    have := vgo_most h4
    rw [Int.max_def] at this
    split at this <;> omega
theorem goesP_cut {n n2 : Nat} {m : Nat → Option Vst} {s : Vst} {tg : Nat} {be : Int} (hn : n ≤ n2) (hb : be ≠ 0) (h : (goesP n m s tg be).2 = 0) : goesP n2 m s tg be = goesP n m s tg be ∧ tg < n := by
  unfold goesP at h ⊢
  by_cases h1 : n ≤ tg
  · rw [if_pos h1] at h; exact absurd h hb
  · rw [if_neg h1, if_neg (by omega)]
    exact ⟨rfl, by omega⟩
theorem folP_cut {n n2 : Nat} {m : Nat → Option Vst} {s : Vst} {p : Nat} {i : S53} (hn : n ≤ n2) (h : (folP n m s p i).2 = 0) : folP n2 m s p i = folP n m s p i ∧ ∀ x ∈ tg19 i p, x < n := by
  unfold folP at h ⊢
  unfold tg19
  by_cases e1 : i.f0 = 23
  · simp [e1]
  rw [if_neg e1] at h ⊢
  rw [if_neg e1, if_neg e1]
  by_cases e2 : i.f0 = 21
  · rw [if_pos e2] at h ⊢
    rw [if_pos e2, if_pos e2]
    obtain ⟨a, b⟩ := goesP_cut hn (by decide) h
    exact ⟨a, fun x hx => by rw [List.mem_singleton.1 hx]; exact b⟩
  rw [if_neg e2] at h ⊢
  rw [if_neg e2, if_neg e2]
  by_cases e3 : i.f0 = 22
  · rw [if_pos e3] at h ⊢
    rw [if_pos e3, if_pos e3]
    by_cases e4 : (goesP n m s (p + 1) 195).2 = 0
    · obtain ⟨a, b⟩ := goesP_cut hn (by decide) e4
      rw [if_pos e4] at h ⊢
      obtain ⟨a', b'⟩ := goesP_cut hn (by decide) h
      rw [a, if_pos e4]
      refine ⟨a', fun x hx => ?_⟩
      simp at hx
      rcases hx with rfl | rfl
      · exact b
      · exact b'
    · rw [if_neg e4] at h; exact absurd h e4
  · rw [if_neg e3] at h ⊢
    rw [if_neg e3, if_neg e3]
    obtain ⟨a, b⟩ := goesP_cut hn (by decide) h
    exact ⟨a, fun x hx => by rw [List.mem_singleton.1 hx]; exact b⟩
theorem ver_ok {l : List S53} {c : Cf} (h : (ver l c).2 = 0) : mayC c.slots c.reads c.writes c.stack = true ∧ 0 < l.length ∧ l.length ≤ 4096 ∧ ver l c = vgo l c l.length 0 (fun j => if j = 0 then some st0 else none) 0 := by
  unfold ver at h ⊢
  split at h
  · simp at h
  rename_i h1
  split at h
  · simp at h
  rename_i h2
  split at h
  · simp at h
  rename_i h3
  rw [if_neg h1, if_neg h2, if_neg h3]
  exact ⟨by simpa using h1, by omega, by omega, rfl⟩
theorem ver_pair {l : List S53} {c : Cf} (h : (ver l c).2 = 0) : vgo l c l.length 0 (fun j => if j = 0 then some st0 else none) 0 = ((ver l c).1, 0) := by
  rw [← (ver_ok h).2.2.2, ← h]
end Go.Proofs.Ytlmpoojpbdmmfaa.H
set_option linter.unusedVariables false
set_option linter.unusedSimpArgs false
namespace Go.Proofs.Ytlmpoojpbdmmfaa.H
open Go.RowKit Go.Proofs.YtlmpoojpbdmmfaaW.PrintWords
def bv (x : Int) : BitVec 64 := BitVec.ofInt 64 x
theorem wrap_nat (n : Nat) (h : n < 18446744073709551616) : IntKind.u64.wrap (n : Int) = (n : Int) := by rw [IntKind.wrap_u64]; omega
theorem bits_and_bv (x y : Int) : Go.bits .and .u64 x y = ((bv x &&& bv y).toNat : Int) := by
  unfold Go.bits bv
  exact wrap_nat _ (BitVec.isLt _)
theorem bits_or_bv (x y : Int) : Go.bits .or .u64 x y = ((bv x ||| bv y).toNat : Int) := by
  unfold Go.bits bv
  exact wrap_nat _ (BitVec.isLt _)
theorem bv_toNat (b : BitVec 64) : bv (b.toNat : Int) = b := by
  unfold bv
  rw [BitVec.ofInt_natCast, BitVec.ofNat_toNat]
  simp
theorem bv_and (x y : Int) : bv (Go.bits .and .u64 x y) = bv x &&& bv y := by rw [bits_and_bv, bv_toNat]
theorem bv_or (x y : Int) : bv (Go.bits .or .u64 x y) = bv x ||| bv y := by rw [bits_or_bv, bv_toNat]
theorem and_zero (x y : Int) : Go.bits .and .u64 x y = 0 ↔ bv x &&& bv y = 0#64 := by
  rw [bits_and_bv]
  constructor
  · intro h
    apply BitVec.eq_of_toNat_eq
    simp only [BitVec.toNat_ofNat, Nat.zero_mod]
    omega
  · intro h
    rw [h]
    rfl
def bit (x : Int) (a : Int) : Prop := bv x &&& bv (shl .u64 1 a) ≠ 0#64
theorem bit_and {x y a : Int} (h : bit (Go.bits .and .u64 x y) a) : bit x a ∧ bit y a := by
  unfold bit at *
  rw [bv_and] at h
  constructor
  · intro e
    apply h
    rw [BitVec.and_assoc, BitVec.and_comm (bv y), ← BitVec.and_assoc, e]
    simp
  · intro e
    apply h
    rw [BitVec.and_assoc, e]
    simp
theorem ones : ∀ i j : Fin 64, (bv (shl .u64 1 (i.val : Int)) &&& bv (shl .u64 1 (j.val : Int)) = 0#64) ↔ i ≠ j := by decide +kernel
theorem one_bit {a b : Int} (ha : 0 ≤ a ∧ a < 64) (hb : 0 ≤ b ∧ b < 64) : bit (shl .u64 1 a) b ↔ a = b := by
  have h := ones ⟨a.toNat, by omega⟩ ⟨b.toNat, by omega⟩
  simp only [show ((a.toNat : Nat) : Int) = a by omega, show ((b.toNat : Nat) : Int) = b by omega, ne_eq, Fin.mk.injEq] at h
  unfold bit
  rw [ne_eq, h, Classical.not_not]
  omega
theorem bit_or {x y a : Int} : bit (Go.bits .or .u64 x y) a ↔ bit x a ∨ bit y a := by
  unfold bit
  rw [bv_or]
  constructor
  · intro h
    by_cases e1 : bv x &&& bv (shl .u64 1 a) = 0#64
    · right
      intro e2
      apply h
      have : (bv x ||| bv y) &&& bv (shl .u64 1 a) = (bv x &&& bv (shl .u64 1 a)) ||| (bv y &&& bv (shl .u64 1 a)) := by ext; simp; grind
      rw [this, e1, e2]
      simp
    · exact .inl e1
  · intro h e
    have : (bv x ||| bv y) &&& bv (shl .u64 1 a) = (bv x &&& bv (shl .u64 1 a)) ||| (bv y &&& bv (shl .u64 1 a)) := by ext; simp; grind
    rw [this] at e
    have e1 : bv x &&& bv (shl .u64 1 a) = 0#64 := by
      ext i hi
      have := congrArg (fun z => z[i]) e
      simp at this ⊢
      grind
    have e2 : bv y &&& bv (shl .u64 1 a) = 0#64 := by
      ext i hi
      have := congrArg (fun z => z[i]) e
      simp at this ⊢
      grind
    rcases h with h | h
    · exact h e1
    · exact h e2
theorem masks : ∀ (w : Fin 65) (j : Fin 64), (bv (IntKind.u64.wrap (shl .u64 1 (w.val : Int) - 1)) &&& bv (shl .u64 1 (j.val : Int)) = 0#64) ↔ w.val ≤ j.val := by decide +kernel
theorem mask_bit {w a : Int} (hw : 0 ≤ w ∧ w ≤ 64) (ha : 0 ≤ a ∧ a < 64) : bit (IntKind.u64.wrap (shl .u64 1 w - 1)) a ↔ a < w := by
  have h := masks ⟨w.toNat, by omega⟩ ⟨a.toNat, by omega⟩
  simp only [show ((w.toNat : Nat) : Int) = w by omega, show ((a.toNat : Nat) : Int) = a by omega] at h
  unfold bit
  rw [ne_eq, h]
  omega
theorem bit_zero (a : Int) : ¬ bit 0 a := by
  unfold bit bv
  simp
def slotB (has : List Int) (a : Int) : Prop := bit (has.getD (a / 64).toNat 0) (a % 64)
structure Le (t s : Vst) : Prop where
  h : t.h = s.h
  wr : t.wr = s.wr
  has : ∀ a : Int, 0 ≤ a → a < 512 → slotB t.has a → slotB s.has a
theorem Le.refl (s : Vst) : Le s s := ⟨rfl, rfl, fun _ _ _ h => h⟩
theorem Le.trans {r t s : Vst} (h : Le r t) (k : Le t s) : Le r s := ⟨h.h.trans k.h, h.wr.trans k.wr, fun a h0 h1 ha => k.has a h0 h1 (h.has a h0 h1 ha)⟩
theorem andL_getD {a b : List Int} {k : Nat} (ha : k < a.length) (hb : k < b.length) : (andL a b).getD k 0 = Go.bits .and .u64 (a.getD k 0) (b.getD k 0) := by
  simp [andL, List.getD_eq_getElem?_getD, List.getElem?_zipWith, ha, hb]
theorem meetS_le {s t : Vst} (hs : OKS s) (ht : OKS t) (h : (meetS s t).2 = 0) : Le (meetS s t).1 s ∧ Le (meetS s t).1 t := by
  unfold meetS at h ⊢
  by_cases e1 : s.h ≠ t.h
  · rw [if_pos e1] at h; exact absurd h (by simp)
  rw [if_neg e1] at h ⊢
  by_cases e2 : s.wr ≠ t.wr
  · rw [if_pos e2] at h; exact absurd h (by simp)
  rw [if_neg e2]
  simp only [ne_eq, Classical.not_not] at e1 e2
  refine ⟨⟨rfl, rfl, fun a h0 h1 ha => ?_⟩, ⟨e1, e2, fun a h0 h1 ha => ?_⟩⟩
  · unfold slotB at *
    rw [andL_getD (by rw [hs.1]; omega) (by rw [ht.1]; omega)] at ha
    exact (bit_and ha).1
  · unfold slotB at *
    rw [andL_getD (by rw [hs.1]; omega) (by rw [ht.1]; omega)] at ha
    exact (bit_and ha).2
theorem goesP_le {n : Nat} {m : Nat → Option Vst} {s : Vst} {tg : Nat} {be : Int} (hm : OKM m) (hs : OKS s) (hb : be ≠ 0) (h : (goesP n m s tg be).2 = 0) :
    (∃ t, (goesP n m s tg be).1 tg = some t ∧ Le t s) ∧ ∀ j t, m j = some t → ∃ t', (goesP n m s tg be).1 j = some t' ∧ Le t' t := by
  unfold goesP at h ⊢
  by_cases e1 : n ≤ tg
  · rw [if_pos e1] at h; exact absurd h hb
  rw [if_neg e1] at h ⊢
  cases ht : m tg with
  | some t =>
    rw [ht] at h
    simp only at h ⊢
    have hl := meetS_le (hm _ _ ht) hs h
    refine ⟨⟨_, by simp, hl.2⟩, fun j t' hj => ?_⟩
    by_cases e : j = tg
    · subst e
      rw [ht] at hj
      cases hj
      exact ⟨_, by simp, hl.1⟩
    · exact ⟨t', by simp [e, hj], Le.refl _⟩
  | none =>
    simp only
    refine ⟨⟨_, by simp, Le.refl _⟩, fun j t' hj => ?_⟩
    by_cases e : j = tg
    · subst e; rw [ht] at hj; cases hj
    · exact ⟨t', by simp [e, hj], Le.refl _⟩
theorem folP_le {n : Nat} {m : Nat → Option Vst} {s : Vst} {p : Nat} {i : S53} (hm : OKM m) (hs : OKS s) (h : (folP n m s p i).2 = 0) :
    (∀ q ∈ tg19 i p, ∃ t, (folP n m s p i).1 q = some t ∧ Le t s) ∧ ∀ j t, m j = some t → ∃ t', (folP n m s p i).1 j = some t' ∧ Le t' t := by
  unfold folP at h ⊢
  unfold tg19
  by_cases e1 : i.f0 = 23
  · rw [if_pos e1, if_pos e1]
    exact ⟨by simp, fun j t hj => ⟨t, hj, Le.refl _⟩⟩
  rw [if_neg e1] at h ⊢
  rw [if_neg e1]
  by_cases e2 : i.f0 = 21
  · rw [if_pos e2] at h ⊢
    rw [if_pos e2]
    obtain ⟨a, b⟩ := goesP_le hm hs (by decide) h
    exact ⟨fun q hq => by rw [List.mem_singleton.1 hq]; exact a, b⟩
  rw [if_neg e2] at h ⊢
  rw [if_neg e2]
  by_cases e3 : i.f0 = 22
  · rw [if_pos e3] at h ⊢
    rw [if_pos e3]
    by_cases e4 : (goesP n m s (p + 1) 195).2 = 0
    · rw [if_pos e4] at h ⊢
      obtain ⟨a, b⟩ := goesP_le hm hs (by decide) e4
      obtain ⟨a', b'⟩ := goesP_le (goesP_okm hm hs) hs (by decide) h
      refine ⟨fun q hq => ?_, fun j t hj => ?_⟩
      · simp at hq
        rcases hq with rfl | rfl
        · obtain ⟨t, t1, t2⟩ := a
          obtain ⟨t', t3, t4⟩ := b' _ _ t1
          exact ⟨t', t3, t4.trans t2⟩
        · exact a'
      · obtain ⟨t1, h1, h2⟩ := b j t hj
        obtain ⟨t2, h3, h4⟩ := b' _ _ h1
        exact ⟨t2, h3, h4.trans h2⟩
    · rw [if_neg e4] at h; exact absurd h e4
  · rw [if_neg e3] at h ⊢
    rw [if_neg e3]
    obtain ⟨a, b⟩ := goesP_le hm hs (by decide) h
    exact ⟨fun q hq => by rw [List.mem_singleton.1 hq]; exact a, b⟩
theorem tg19_gt {i : S53} {p : Nat} (hi : (1 ≤ i.f1 ∧ i.f1 ≤ 4096) ∨ (i.f0 ≠ 21 ∧ i.f0 ≠ 22)) : ∀ q ∈ tg19 i p, p < q := by
  intro q hq
  unfold tg19 at hq
  split at hq
  · simp at hq
  split at hq
  · simp at hq; omega
  split at hq
  · simp at hq; omega
  · simp at hq; omega
structure Good (l : List S53) (c : Cf) (n : Int) (A : Nat → Vst) (p : Nat) : Prop where
  ok : OKS (A p)
  chk : (chk (A p) (rd_T53 l (p : Int)) c).2 = 0
  top : (Go.Proofs.Ytlmpoojpbdmmfaa.H.chk (A p) (rd_T53 l (p : Int)) c).1.h ≤ n
  next : ∀ q ∈ tg19 (rd_T53 l (p : Int)) p, p < q ∧ q < l.length ∧ Le (A q) (Go.Proofs.Ytlmpoojpbdmmfaa.H.chk (A p) (rd_T53 l (p : Int)) c).1
theorem vgo_good {l : List S53} {c : Cf} (hc : c.stack ≤ 256) : ∀ {d k : Nat} {m : Nat → Option Vst} {most n : Int}, d + k = l.length → OKM m → vgo l c d k m most = (n, 0) →
    ∃ A : Nat → Vst, (∀ p, k ≤ p → p < l.length → Good l c n A p) ∧ ∀ j t, k ≤ j → j < l.length → m j = some t → Le (A j) t
  | 0, k, m, most, n, hd, hm, h => ⟨fun _ => st0, fun p h1 h2 => by omega, fun j t h1 h2 => by omega⟩
  | d + 1, k, m, most, n, hd, hm, h => by
    obtain ⟨s, a1, a2, a3, a4⟩ := vgo_step h
    have hs := hm k s a1
    have hs' : OKS (chk s (rd_T53 l (k : Int)) c).1 := chk_ok hs hc
    have hm1 := put_okm (p := k) hm hs'
    obtain ⟨A, g1, g2⟩ := vgo_good hc (by omega) (del_okm (p := k) (folP_okm hm1 hs')) a4
    obtain ⟨f1, f2⟩ := folP_le hm1 hs' a3
    have hin := (folP_cut (Nat.le_refl _) a3).2
    have hgt := tg19_gt (p := k) (may_arg (chk_may a2))
    have hmost := vgo_most a4
    refine ⟨fun p => if p = k then s else A p, fun p h1 h2 => ?_, fun j t h1 h2 hj => ?_⟩
    · by_cases e : p = k
      · subst e
        refine ⟨by simpa using hs, by simpa using a2, ?_, fun q hq => ?_⟩
        · simp only [if_true]
          rw [Int.max_def] at hmost
          split at hmost <;> omega
        · have q1 := hgt q hq
          have q2 := hin q hq
          refine ⟨q1, q2, ?_⟩
          obtain ⟨t, t1, t2⟩ := f1 q hq
          simp only [if_true]
          rw [if_neg (by omega)]
          exact (g2 q t (by omega) q2 (by rw [if_neg (by omega)]; exact t1)).trans t2
      · have g := g1 p (by omega) h2
        refine ⟨by simpa [e] using g.ok, by simpa [e] using g.chk, by simpa [e] using g.top, fun q hq => ?_⟩
        obtain ⟨q1, q2, q3⟩ := g.next q hq
        exact ⟨q1, q2, by simp only [e, if_false]; rw [if_neg (by omega)]; exact q3⟩
    · by_cases e : j = k
      · subst e
        simp only [if_true]
        rw [a1] at hj
        cases hj
        exact Le.refl _
      · simp only [e, if_false]
        obtain ⟨t', t1, t2⟩ := f2 j t (by rw [if_neg e]; exact hj)
        exact (g2 j t' (by omega) h2 (by rw [if_neg e]; exact t1)).trans t2
theorem ver_good {l : List S53} {c : Cf} (h : (ver l c).2 = 0) : ∃ A : Nat → Vst, (∀ p, p < l.length → Good l c (ver l c).1 A p) ∧ Le (A 0) st0 := by
  obtain ⟨hm, h0, h1, _⟩ := ver_ok h
  have hp := ver_pair h
  have hc : c.stack ≤ 256 := by simp [mayC] at hm; omega
  obtain ⟨A, g1, g2⟩ := vgo_good hc (by omega) (put_okm (p := 0) (m := fun _ => none) (fun _ _ h => by cases h) st0_ok) hp
  exact ⟨A, fun p hp => g1 p (Nat.zero_le _) hp, g2 0 st0 (Nat.le_refl _) h0 (by simp)⟩
theorem rep_getD {α : Type} (n k : Nat) (x : α) : (List.replicate n x).getD k x = x := by
  rw [List.getD_eq_getElem?_getD, List.getElem?_replicate]
  split <;> rfl
theorem set_getD {α : Type} {l : List α} {k : Nat} (h : k < l.length) (v d : α) : (l.set k v).getD k d = v := by simp [List.getD_eq_getElem?_getD, h]
theorem slotB_set {has : List Int} (hl : has.length = 8) {a b : Int} (ha : 0 ≤ a ∧ a < 512) (hb : 0 ≤ b ∧ b < 512) :
    slotB (has.set (a / 64).toNat (Go.bits .or .u64 (has.getD (a / 64).toNat 0) (shl .u64 1 (a % 64)))) b ↔ slotB has b ∨ b = a := by
  unfold slotB
  by_cases e : (a / 64).toNat = (b / 64).toNat
  · have h1 : (has.set (a / 64).toNat (Go.bits .or .u64 (has.getD (a / 64).toNat 0) (shl .u64 1 (a % 64)))).getD (b / 64).toNat 0 = Go.bits .or .u64 (has.getD (b / 64).toNat 0) (shl .u64 1 (a % 64)) := by
      rw [← e]
      simp [List.getD_eq_getElem?_getD, List.getElem?_set, show (a / 64).toNat < has.length by omega]
    rw [h1, bit_or, one_bit (by omega) (by omega)]
    constructor
    · rintro (h | h)
      · exact .inl h
      · right; omega
    · rintro (h | h)
      · exact .inl h
      · right; omega
  · have h1 : (has.set (a / 64).toNat (Go.bits .or .u64 (has.getD (a / 64).toNat 0) (shl .u64 1 (a % 64)))).getD (b / 64).toNat 0 = has.getD (b / 64).toNat 0 := by
      simp [List.getD_eq_getElem?_getD, List.getElem?_set, e]
    rw [h1]
    constructor
    · exact .inl
    · rintro (h | h)
      · exact h
      · exact absurd (by rw [h]) e
theorem chk_good {s : Vst} {i : S53} {c : Cf} (h : (chk s i c).2 = 0) : mayB i.f0 i.f1 = true ∧ tks i.f0 ≤ s.h ∧ s.h - tks i.f0 + gvs i.f0 ≤ c.stack ∧ chk s i c = chk2 { s with h := s.h + (gvs i.f0 - tks i.f0) } i c := by
  unfold chk at h ⊢
  by_cases e1 : mayB i.f0 i.f1 = false
  · rw [if_pos e1] at h; exact absurd h (by simp)
  rw [if_neg e1] at h ⊢
  by_cases e2 : s.h < tks i.f0 ∨ c.stack < s.h - tks i.f0 + gvs i.f0
  · rw [if_pos e2] at h; exact absurd h (by simp)
  rw [if_neg e2]
  exact ⟨by simpa using e1, by omega, by omega, rfl⟩
structure Runs (s : Vst) (H : List Bool) (Wr : List Int) : Prop where
  hl : H.length = 512
  wl : Wr.length = 64
  hs : ∀ a : Int, 0 ≤ a → a < 512 → slotB s.has a → H.getD a.toNat false = true
  ws : ∀ a : Int, 0 ≤ a → a < 64 → (bit s.wr a → Wr.getD a.toNat 0 = 1) ∧ (¬ bit s.wr a → Wr.getD a.toNat 0 = 0)
theorem Runs.le {s t : Vst} {H : List Bool} {Wr : List Int} (h : Runs s H Wr) (k : Le t s) : Runs t H Wr :=
  ⟨h.hl, h.wl, fun a h0 h1 ha => h.hs a h0 h1 (k.has a h0 h1 ha), fun a h0 h1 => by rw [k.wr]; exact h.ws a h0 h1⟩
section
variable {s : Vst} {i : S53} {c : Cf} {H : List Bool} {Wr : List Int}
theorem chk_h (h : (chk s i c).2 = 0) : (chk s i c).1.h = s.h - tks i.f0 + gvs i.f0 := by
  rw [(chk_good h).2.2.2]
  have : ∀ t : Vst, (chk2 t i c).1.h = t.h := by
    intro t
    unfold chk2
    repeat' split
    all_goals rfl
  rw [this]
  simp only
  omega
end
theorem tg_range (op : Int) : (0 ≤ tks op ∧ tks op ≤ 2) ∧ (0 ≤ gvs op ∧ gvs op ≤ 1) := by
  unfold tks gvs
  refine ⟨?_, ?_⟩
  · split <;> (try split) <;> omega
  · split <;> (try split) <;> omega
theorem us_of {us : List Value} {N : Nat} (h : us.length = N) : us = (List.range N).map (fun j => us.getD j undef) := by
  apply List.ext_getElem
  · simp [h]
  · intro i h1 h2
    simp [List.getD_eq_getElem?_getD, List.getElem?_eq_getElem h1]
end Go.Proofs.Ytlmpoojpbdmmfaa.H
end
section
set_option linter.unusedVariables false
set_option linter.unusedSimpArgs false
namespace Go.Proofs.Ytlmpoojpbdmmfaa.H
open Go.RowKit Go.Proofs.YtlmpoojpbdmmfaaW.PrintWords
structure Wfx (l : List S53) (c : Cf) (m : Int) (A : Nat → Vst) (x : Ctx) : Prop where
  good : ∀ p, p < l.length → Good l c m A p
  lt : x.at_ < l.length
  st : (x.stack.length : Int) = (A x.at_).h
  sl : (x.slots.length : Int) = c.slots
  inn : (x.ins.length : Int) = c.reads
  ou : (x.outs.length : Int) = c.writes
  en : x.ended = true → (rd_T53 l (x.at_ : Int)).f0 = 23
theorem chk_slot {s : Vst} {i : S53} {c : Cf} (h : (chk s i c).2 = 0) (e : i.f0 = 2 ∨ i.f0 = 3) : i.f1 < c.slots := by
  obtain ⟨_, _, _, h4⟩ := chk_good h
  rw [h4] at h
  unfold chk2 at h
  rw [if_pos e] at h
  by_cases h5 : c.slots ≤ i.f1
  · rw [if_pos h5] at h; simp at h
  · omega
theorem chk_read {s : Vst} {i : S53} {c : Cf} (h : (chk s i c).2 = 0) (e : i.f0 = 4) : i.f1 < c.reads := by
  obtain ⟨_, _, _, h4⟩ := chk_good h
  rw [h4] at h
  unfold chk2 at h
  rw [if_neg (by omega), if_pos e] at h
  by_cases h5 : c.reads ≤ i.f1
  · simp [h5] at h
  · omega
theorem chk_write {s : Vst} {i : S53} {c : Cf} (h : (chk s i c).2 = 0) (e : i.f0 = 5) : i.f1 < c.writes := by
  obtain ⟨_, _, _, h4⟩ := chk_good h
  rw [h4] at h
  unfold chk2 at h
  rw [if_neg (by omega), if_neg (by omega), if_pos e] at h
  by_cases h5 : c.writes ≤ i.f1
  · rw [if_pos h5] at h; simp at h
  · omega
section
variable {l : List S53} {c : Cf} {m : Int} {A : Nat → Vst} {x : Ctx}
theorem Wfx.pre (h : Wfx l c m A x) : PreOne (rd_T53 l (x.at_ : Int)) x := by
  have g := h.good x.at_ h.lt
  obtain ⟨h1, h2, h3, _⟩ := chk_good g.chk
  have hk := g.ok
  refine ⟨h1, by rw [h.st]; exact h2, ?_, fun e => ?_, fun e => ?_, fun e => ?_⟩
  · have := hk.2.2; have := h.st; omega
  · rw [h.sl]; exact chk_slot g.chk e
  · rw [h.inn]; exact chk_read g.chk e
  · rw [h.ou]; exact chk_write g.chk e
theorem one_len {i : S53} (hm : mayB i.f0 i.f1 = true) (ht : tks i.f0 ≤ (x.stack.length : Int)) : ((one i x).1.stack.length : Int) = x.stack.length - tks i.f0 + gvs i.f0 ∧ (one i x).1.slots.length = x.slots.length ∧ (one i x).1.ins.length = x.ins.length ∧ (one i x).1.outs.length = x.outs.length := by
  have hop : 1 ≤ i.f0 ∧ i.f0 ≤ 23 := by simpa [isOp] using may_op hm
  have hpl := pop_len x
  have hpl2 := pop_len x.pop
  have push_len : ∀ (y : Ctx) (t : Int), (y.push t).stack.length = y.stack.length + 1 := fun y t => by simp [Ctx.push]
  unfold one
  by_cases h1 : i.f0 = 1
  · rw [if_pos h1]; simp only [push_len, tks, gvs, h1] at ht ⊢; refine ⟨by simp, by first | rfl | trivial, by first | rfl | trivial, by first | rfl | trivial⟩
  rw [if_neg h1]
  by_cases h2 : i.f0 = 2
  · rw [if_pos h2]; simp only [push_len, tks, gvs, h2] at ht ⊢; refine ⟨by simp, by first | rfl | trivial, by first | rfl | trivial, by first | rfl | trivial⟩
  rw [if_neg h2]
  by_cases h3 : i.f0 = 3
  · rw [if_pos h3]; simp only [tks, gvs, h3] at ht ⊢; refine ⟨?_, by simp, rfl, rfl⟩; simp at ht ⊢; omega
  rw [if_neg h3]
  by_cases h4 : i.f0 = 4
  · rw [if_pos h4]; simp only [push_len, tks, gvs, h4] at ht ⊢; refine ⟨by simp, by first | rfl | trivial, by first | rfl | trivial, by first | rfl | trivial⟩
  rw [if_neg h4]
  by_cases h5 : i.f0 = 5
  · rw [if_pos h5]; simp only [tks, gvs, h5] at ht ⊢; refine ⟨?_, rfl, rfl, by simp⟩; simp at ht ⊢; omega
  rw [if_neg h5]
  by_cases h6 : i.f0 = 6
  · rw [if_pos h6]; simp only [push_len, tks, gvs, h6] at ht ⊢; refine ⟨?_, rfl, rfl, rfl⟩; simp at ht ⊢; omega
  rw [if_neg h6]
  by_cases h7 : i.f0 = 7
  · rw [if_pos h7]; simp only [push_len, tks, gvs, h7] at ht ⊢; refine ⟨?_, rfl, rfl, rfl⟩; simp at ht ⊢; omega
  rw [if_neg h7]
  by_cases h22 : i.f0 = 22
  · rw [if_pos h22]; simp only [tks, gvs, h22] at ht ⊢; refine ⟨?_, rfl, rfl, rfl⟩; simp at ht ⊢; omega
  rw [if_neg h22]
  by_cases h21 : i.f0 = 21
  · rw [if_pos h21]; simp only [tks, gvs, h21] at ht ⊢; refine ⟨by simp, by first | rfl | trivial, by first | rfl | trivial, by first | rfl | trivial⟩
  rw [if_neg h21]
  by_cases h23 : i.f0 = 23
  · rw [if_pos h23]; simp only [tks, gvs, h23] at ht ⊢; refine ⟨by simp, by first | rfl | trivial, by first | rfl | trivial, by first | rfl | trivial⟩
  rw [if_neg h23]
  have e1 : tks i.f0 = 2 := by unfold tks; rw [if_pos (by omega)]
  have e2 : gvs i.f0 = 1 := by unfold gvs; rw [if_pos (by omega)]
  rw [e1] at ht
  rw [e1, e2]
  simp only [push_len]
  refine ⟨?_, rfl, rfl, rfl⟩
  omega
theorem one_next {i : S53} {p : Nat} (hm : mayB i.f0 i.f1 = true) (h23 : i.f0 ≠ 23) : ((p : Int) + (one i x).2).toNat ∈ tg19 i p ∧ (one i x).1.ended = x.ended := by
  unfold one tg19
  rw [if_neg h23]
  by_cases h21 : i.f0 = 21
  · have hb : 1 ≤ i.f1 ∧ i.f1 ≤ 4096 := by simpa [mayB, h21] using hm
    simp only [h21]
    refine ⟨?_, rfl⟩
    simp
    omega
  rw [if_neg h21]
  by_cases h22 : i.f0 = 22
  · have hb : 1 ≤ i.f1 ∧ i.f1 ≤ 4096 := by simpa [mayB, h22] using hm
    simp only [h22]
    refine ⟨?_, rfl⟩
    by_cases ht : x.top = 0
    · simp [ht]; omega
    · simp [ht]
  rw [if_neg h22, if_neg h22, if_neg h21, if_neg h23]
  have e1 : ((p : Int) + 1).toNat = p + 1 := by omega
  by_cases h1 : i.f0 = 1
  · rw [if_pos h1]; exact ⟨by simp, rfl⟩
  rw [if_neg h1]
  by_cases h2 : i.f0 = 2
  · rw [if_pos h2]; exact ⟨by simp, rfl⟩
  rw [if_neg h2]
  by_cases h3 : i.f0 = 3
  · rw [if_pos h3]; exact ⟨by simp, rfl⟩
  rw [if_neg h3]
  by_cases h4 : i.f0 = 4
  · rw [if_pos h4]; exact ⟨by simp, rfl⟩
  rw [if_neg h4]
  by_cases h5 : i.f0 = 5
  · rw [if_pos h5]; exact ⟨by simp, rfl⟩
  rw [if_neg h5]
  by_cases h6 : i.f0 = 6
  · rw [if_pos h6]; exact ⟨by simp, rfl⟩
  rw [if_neg h6]
  by_cases h7 : i.f0 = 7
  · rw [if_pos h7]; exact ⟨by simp, rfl⟩
  rw [if_neg h7]
  exact ⟨by simp, rfl⟩
theorem one_end {i : S53} (h23 : i.f0 = 23) : one i x = ({ x with ended := true }, 0) := by simp [one, h23]
theorem Wfx.stp (h : Wfx l c m A x) (he : x.ended = false) : Wfx l c m A (stp l x) ∧ ((stp l x).ended = true ∨ ((stp l x).ended = false ∧ x.at_ < (Go.Proofs.Ytlmpoojpbdmmfaa.H.stp l x).at_)) := by
  have g := h.good x.at_ h.lt
  have hp := h.pre
  obtain ⟨hl1, hl2, hl3, hl4⟩ := one_len hp.may hp.tk
  by_cases h23 : (rd_T53 l (x.at_ : Int)).f0 = 23
  · have e := one_end (x := x) h23
    have hat : (Go.Proofs.Ytlmpoojpbdmmfaa.H.stp l x).at_ = x.at_ := by simp [Go.Proofs.Ytlmpoojpbdmmfaa.H.stp, e]
    have hen : (Go.Proofs.Ytlmpoojpbdmmfaa.H.stp l x).ended = true := by simp [Go.Proofs.Ytlmpoojpbdmmfaa.H.stp, e]
    refine ⟨⟨h.good, by rw [hat]; exact h.lt, ?_, ?_, ?_, ?_, fun _ => by rw [hat]; exact h23⟩, .inl hen⟩
    · rw [hat]
      have : (Go.Proofs.Ytlmpoojpbdmmfaa.H.stp l x).stack = x.stack := by simp [Go.Proofs.Ytlmpoojpbdmmfaa.H.stp, e]
      rw [this]; exact h.st
    · have : (Go.Proofs.Ytlmpoojpbdmmfaa.H.stp l x).slots = x.slots := by simp [Go.Proofs.Ytlmpoojpbdmmfaa.H.stp, e]
      rw [this]; exact h.sl
    · have : (Go.Proofs.Ytlmpoojpbdmmfaa.H.stp l x).ins = x.ins := by simp [Go.Proofs.Ytlmpoojpbdmmfaa.H.stp, e]
      rw [this]; exact h.inn
    · have : (Go.Proofs.Ytlmpoojpbdmmfaa.H.stp l x).outs = x.outs := by simp [Go.Proofs.Ytlmpoojpbdmmfaa.H.stp, e]
      rw [this]; exact h.ou
  · obtain ⟨hn1, hn2⟩ := one_next (x := x) (p := x.at_) hp.may h23
    obtain ⟨q1, q2, q3⟩ := g.next _ hn1
    have hen : (Go.Proofs.Ytlmpoojpbdmmfaa.H.stp l x).ended = false := by simp only [Go.Proofs.Ytlmpoojpbdmmfaa.H.stp]; rw [hn2]; exact he
    have hat : (Go.Proofs.Ytlmpoojpbdmmfaa.H.stp l x).at_ = ((x.at_ : Int) + (one (rd_T53 l (x.at_ : Int)) x).2).toNat := rfl
    refine ⟨⟨h.good, by rw [hat]; exact q2, ?_, ?_, ?_, ?_, fun e => by rw [hen] at e; cases e⟩, .inr ⟨hen, by rw [hat]; exact q1⟩⟩
    · rw [hat, q3.h, chk_h g.chk, ← h.st]
      exact hl1
    · show (((one (rd_T53 l (x.at_ : Int)) x).1.slots.length : Nat) : Int) = c.slots
      rw [hl2]; exact h.sl
    · show (((one (rd_T53 l (x.at_ : Int)) x).1.ins.length : Nat) : Int) = c.reads
      rw [hl3]; exact h.inn
    · show (((one (rd_T53 l (x.at_ : Int)) x).1.outs.length : Nat) : Int) = c.writes
      rw [hl4]; exact h.ou
theorem stp_spent (l : List S53) (x : Ctx) : (Go.Proofs.Ytlmpoojpbdmmfaa.H.stp l x).spent = x.spent + cyc (rd_T53 l (x.at_ : Int)).f0 := by
  simp only [Go.Proofs.Ytlmpoojpbdmmfaa.H.stp, (one_at _ x).2]
end
def Spo (l : List S53) (x : Ctx) : Prop := 0 ≤ x.spent ∧ x.spent + 8 * ((l.length : Int) - x.at_ + 1) ≤ 2199023255552
theorem Spo.stp {l : List S53} {c : Cf} {m : Int} {A : Nat → Vst} {x : Ctx} (h : Spo l x) (hw : Wfx l c m A x) (he : x.ended = false) : 0 ≤ (stp l x).spent ∧ (stp l x).spent ≤ 2199023255552 ∧ ((Go.Proofs.Ytlmpoojpbdmmfaa.H.stp l x).ended = false → Spo l (Go.Proofs.Ytlmpoojpbdmmfaa.H.stp l x)) := by
  obtain ⟨h0, h1⟩ := h
  obtain ⟨c0, c1⟩ := cyc_range (rd_T53 l (x.at_ : Int)).f0
  have hlt := hw.lt
  have hs := stp_spent l x
  refine ⟨by omega, by omega, fun hn => ⟨by omega, ?_⟩⟩
  rcases (hw.stp he).2 with e | ⟨_, e⟩
  · rw [hn] at e; cases e
  · omega
end Go.Proofs.Ytlmpoojpbdmmfaa.H
set_option linter.unusedVariables false
set_option linter.unusedSimpArgs false
namespace Go.Proofs.Ytlmpoojpbdmmfaa.H
open Go.RowKit Go.Proofs.YtlmpoojpbdmmfaaW.PrintWords Go.Proofs.YtlmpoojpbdmmfaaW.PrintLast Go.Proofs.YtlmpoojpbdmmfaaW.PrintMore Go.Maps
set_option maxHeartbeats 4000000 in
theorem run_ended {W : World} {P : Nat → Prop} {b : Nat} {c : Cf} {l : List S53} {x : Ctx} (h : VMem W P b c l x) (he : x.ended = true) (cy : Int) : Calls Try.prog 18 #[.pointer (some ⟨b, 0, none⟩), .int .i64 cy] W fun e W' => e = .returned (.tuple #[.int .i64 0, .bool false, .int .i64 3]) ∧ Below W.heap.size W W' := by
  obtain ⟨M, cv, sv, tv, iv, ov, h⟩ := h
  have c11 : W.cell? ⟨b, 11, none⟩ = some (.bool true) := by rw [← he]; exact h.cell rfl
  clear h he
  go_enter Try.func18, Try.ntmps18
  go_wp2
  go_ret3
  exact ⟨rfl, Below.refl _ _⟩
set_option maxHeartbeats 4000000 in
theorem run_arg {W : World} {P : Nat → Prop} {b : Nat} {c : Cf} {l : List S53} {x : Ctx} (h : VMem W P b c l x) (he : x.ended = false) {cy : Int} (hc : cy < 0) : Calls Try.prog 18 #[.pointer (some ⟨b, 0, none⟩), .int .i64 cy] W fun e W' => e = .returned (.tuple #[.int .i64 0, .bool false, .int .i64 2]) ∧ Below W.heap.size W W' := by
  obtain ⟨M, cv, sv, tv, iv, ov, h⟩ := h
  have c11 : W.cell? ⟨b, 11, none⟩ = some (.bool false) := by rw [← he]; exact h.cell rfl
  have hd : decide (cy < 0) = true := decide_eq_true hc
  clear h he
  go_enter Try.func18, Try.ntmps18
  go_wp2
  go_ret3
  exact ⟨rfl, Below.refl _ _⟩
theorem vm_ended {W : World} {P : Nat → Prop} {b : Nat} {c : Cf} {l : List S53} {x : Ctx} (h : VMem W P b c l x) : W.cell? ⟨b, 11, none⟩ = some (.bool x.ended) := by
  obtain ⟨M, cv, sv, tv, iv, ov, h⟩ := h
  exact h.cell rfl
theorem VMem.zn {W W1 W2 : World} {P : Nat → Prop} {b : Nat} {c : Cf} {l : List S53} {x : Ctx} (h : VMem W2 (Zn (Zn P W W1) W1 W2) b c l x) (h1 : W.heap.size ≤ W1.heap.size) (h2 : W1.heap.size ≤ W2.heap.size) : VMem W2 (Zn P W W2) b c l x := h.mono (fun k hk => (Zn.trans h1 h2 k).1 hk)
theorem Zn.lt {W W1 : World} {P : Nat → Prop} (hP : ∀ k, P k → k < W.heap.size) (hs : W.heap.size ≤ W1.heap.size) (k : Nat) (hk : Zn P W W1 k) : k < W1.heap.size := hk.elim (fun h => Nat.lt_of_lt_of_le (hP k h) hs) (fun h => h.2)
theorem runN_stop (l : List S53) (cy : Int) (n : Nat) (sum : Int) (x : Ctx) (h : ¬ (sum < cy ∧ x.ended = false)) : runN l cy n sum x = (sum, x) := by
  cases n with
  | zero => rfl
  | succ n => rw [runN, if_neg h]
set_option maxHeartbeats 8000000 in
set_option maxRecDepth 100000 in
theorem run_calls {W : World} {P : Nat → Prop} {b : Nat} {c : Cf} {l : List S53} {x : Ctx} {m : Int} {A : Nat → Vst} (h : VMem W P b c l x) (hP : ∀ k, P k → k < W.heap.size) (hw : Wfx l c m A x) (hl : l.length ≤ 4096) (he : x.ended = false) (hs : Spo l x) {cy : Int} (hc : 0 ≤ cy) :
    Calls Try.prog 18 #[.pointer (some ⟨b, 0, none⟩), .int .i64 cy] W fun e W' => e = .returned (.tuple #[.int .i64 (runN l cy (l.length + 1) 0 x).1, .bool (runN l cy (l.length + 1) 0 x).2.ended, .int .i64 0]) ∧ VMem W' (Zn P W W') b c l (runN l cy (l.length + 1) 0 x).2 ∧ Kept2 W W' P := by
  have c11 : W.cell? ⟨b, 11, none⟩ = some (.bool false) := by rw [← he]; exact vm_ended h
  have hd : decide (cy < 0) = false := decide_eq_false (by omega)
  have H := Aside0.mk (h.mono (P' := Zn P W W) (fun k hk => .inl hk))
  have HP := Aside0.mk hP
  have HW := Aside0.mk hw
  have HL := Aside0.mk hl
  have HE := Aside0.mk he
  have HS := Aside0.mk hs
  obtain ⟨res, hres⟩ : ∃ r, runN l cy (l.length + 1) 0 x = r := ⟨_, rfl⟩
  rw [hres]
  have HR := Aside0.mk hres
  clear h hP hw he hs hres hc
  go_enter Try.func18, Try.ntmps18
  go_wp2_with fail
  go_loopg [7] (l.length + 1) (fun kq v7 wr => ∃ (sum : Int) (y : Ctx), v7 = .int .i64 sum ∧ Aside0 (runN l cy kq sum y = res) ∧ Aside0 (VMem wr (Zn P W wr) b c l y) ∧ Aside0 (Kept2 W wr P) ∧ Aside0 (Wfx l c m A y) ∧ Aside0 (y.ended = false → l.length + 1 ≤ kq + y.at_ ∧ Spo l y) ∧ Aside0 (0 ≤ sum ∧ sum + 8 * (kq : Int) ≤ 8 * 5000))
  case atStart =>
    exact ⟨0, x, rfl, HR, H, ⟨Kept2.refl _ _⟩, HW, ⟨fun _ => ⟨by omega, HS.out⟩⟩, ⟨by omega, by have := HL.out; omega⟩⟩
  case round =>
    obtain ⟨sum, y, rfl, HR2, H2, HK2, HW2, HN2, HB2⟩ := hrel
    have d11 : wr.cell? ⟨b, 11, none⟩ = some (.bool y.ended) := vm_ended H2.out
    obtain ⟨en, hen⟩ : ∃ en, y.ended = en := ⟨_, rfl⟩
    rw [hen] at d11
    have HEN := Aside0.mk hen
    clear hen c11
    by_cases h1 : sum < cy
    · have dl : decide (sum < cy) = true := decide_eq_true h1
      cases en with
      | true =>
        have hr : res = (sum, y) := by rw [← HR2.out]; exact runN_stop _ _ _ _ _ (by rw [HEN.out]; simp)
        have HRR := Aside0.mk hr
        clear hr
        go_wp2_with fail
        go_quiet (fail)
        go_wp2
        go_ret3
        rw [HRR.out]
        refine ⟨by rw [HEN.out]; rfl, ?_, ?_⟩
        · exact H2.out.move (fun k _ _ => rfl)
        · exact HK2.out.trans ⟨rfl, rfl, rfl, Nat.le_refl _, fun _ _ _ => rfl⟩
      | false =>
        obtain ⟨go, rfl⟩ : ∃ go, gk = go + 1 := ⟨gk - 1, by have := (HN2.out HEN.out).1; have := HW2.out.lt; omega⟩
        have hr := HR2.out
        rw [runN, if_pos ⟨h1, HEN.out⟩] at hr
        have hsp := HN2.out HEN.out
        have hst := HW2.out.stp HEN.out
        have hss := hsp.2.stp HW2.out HEN.out
        have HR3 := Aside0.mk hr
        have HST := Aside0.mk hst
        have HSS := Aside0.mk hss
        have HSP := Aside0.mk hsp
        clear hr hst hss hsp
        go_wp2_with fail
        refine (step_calls H2.out (Zn.lt HP.out HK2.out.size) HW2.out.lt HL.out HEN.out HW2.out.pre ⟨HSP.out.2.1, by have := HSP.out.2; have := this.2; have := HW2.out.lt; omega⟩).mono ?_
        rintro e W5 ⟨rfl, hv, hk⟩
        obtain ⟨hcy0, hcy1⟩ := cyc_range (rd_T53 l (y.at_ : Int)).f0
        have K5 := Aside0.mk (HK2.out.trans hk)
        have V5 := Aside0.mk (hv.zn HK2.out.size hk.size)
        obtain ⟨cyv, hcyv⟩ : ∃ v, cyc (rd_T53 l (y.at_ : Int)).f0 = v := ⟨_, rfl⟩
        rw [hcyv] at HR3 hcy0 hcy1 ⊢
        have hb0 : 0 ≤ sum := HB2.out.1
        have hb1 : sum < 40000 := by have := HB2.out.2; omega
        clear hv hk hcyv d11
        go_wp2
        go_roundg go
        case measure => omega
        case rel =>
          refine ⟨sum + cyv, _, rfl, HR3, V5, K5, ⟨HST.out.1⟩, ⟨fun hn => ⟨?_, HSS.out.2.2 hn⟩⟩, ⟨by omega, by have := HB2.out.2; omega⟩⟩
          rcases HST.out.2 with h | ⟨_, h⟩
          · rw [hn] at h; cases h
          · have := HSP.out.1; omega
    · have dl : decide (sum < cy) = false := decide_eq_false h1
      have hr : res = (sum, y) := by rw [← HR2.out]; exact runN_stop _ _ _ _ _ (by intro e; exact h1 e.1)
      have HRR := Aside0.mk hr
      clear hr
      go_wp2_with fail
      go_quiet (fail)
      go_wp2
      go_ret3
      rw [HRR.out]
      refine ⟨by rw [HEN.out]; rfl, ?_, ?_⟩
      · exact H2.out.move (fun k _ _ => rfl)
      · exact HK2.out.trans ⟨rfl, rfl, rfl, Nat.le_refl _, fun _ _ _ => rfl⟩
end Go.Proofs.Ytlmpoojpbdmmfaa.H
end
