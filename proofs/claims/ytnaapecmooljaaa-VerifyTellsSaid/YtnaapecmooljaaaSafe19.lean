/- Code that is verified can't go wrong: the states at its instructions, plain. The conditions: what each names. -/
import Derived.Test.YtnaapecmooljaaaVp19
set_option linter.unusedVariables false
set_option linter.unusedSimpArgs false
namespace Go.Proofs.Ytnaapecmooljaaa.H
open Go.RowKit Go.Proofs.YtnaapecmooljaaaW.PrintWords

/-! ### bits -/
def bv (x : Int) : BitVec 64 := BitVec.ofInt 64 x
theorem wrap_nat (n : Nat) (h : n < 18446744073709551616) : IntKind.u64.wrap (n : Int) = (n : Int) := by rw [IntKind.wrap_u64]; omega
theorem bits_and_bv (x y : Int) : Go.bits .and .u64 x y = ((bv x &&& bv y).toNat : Int) := by
  unfold Go.bits bv
  exact wrap_nat _ (BitVec.isLt _)
theorem bits_or_bv (x y : Int) : Go.bits .or .u64 x y = ((bv x ||| bv y).toNat : Int) := by
  unfold Go.bits bv
  exact wrap_nat _ (BitVec.isLt _)
theorem bv_toNat (b : BitVec 64) : bv (b.toNat : Int) = b := by
  unfold bv
  rw [BitVec.ofInt_natCast, BitVec.ofNat_toNat]
  simp
theorem bv_and (x y : Int) : bv (Go.bits .and .u64 x y) = bv x &&& bv y := by rw [bits_and_bv, bv_toNat]
theorem bv_or (x y : Int) : bv (Go.bits .or .u64 x y) = bv x ||| bv y := by rw [bits_or_bv, bv_toNat]
theorem and_zero (x y : Int) : Go.bits .and .u64 x y = 0 ↔ bv x &&& bv y = 0#64 := by
  rw [bits_and_bv]
  constructor
  · intro h
    apply BitVec.eq_of_toNat_eq
    simp only [BitVec.toNat_ofNat, Nat.zero_mod]
    omega
  · intro h
    rw [h]
    rfl
/-- Whether a bit is set. -/
def bit (x : Int) (a : Int) : Prop := bv x &&& bv (shl .u64 1 a) ≠ 0#64
theorem bit_and {x y a : Int} (h : bit (Go.bits .and .u64 x y) a) : bit x a ∧ bit y a := by
  unfold bit at *
  rw [bv_and] at h
  constructor
  · intro e
    apply h
    rw [BitVec.and_assoc, BitVec.and_comm (bv y), ← BitVec.and_assoc, e]
    simp
  · intro e
    apply h
    rw [BitVec.and_assoc, e]
    simp
theorem ones : ∀ i j : Fin 64, (bv (shl .u64 1 (i.val : Int)) &&& bv (shl .u64 1 (j.val : Int)) = 0#64) ↔ i ≠ j := by decide +kernel
theorem one_bit {a b : Int} (ha : 0 ≤ a ∧ a < 64) (hb : 0 ≤ b ∧ b < 64) : bit (shl .u64 1 a) b ↔ a = b := by
  have h := ones ⟨a.toNat, by omega⟩ ⟨b.toNat, by omega⟩
  simp only [show ((a.toNat : Nat) : Int) = a by omega, show ((b.toNat : Nat) : Int) = b by omega, ne_eq, Fin.mk.injEq] at h
  unfold bit
  rw [ne_eq, h, Classical.not_not]
  omega
theorem bit_or {x y a : Int} : bit (Go.bits .or .u64 x y) a ↔ bit x a ∨ bit y a := by
  unfold bit
  rw [bv_or]
  constructor
  · intro h
    by_cases e1 : bv x &&& bv (shl .u64 1 a) = 0#64
    · right
      intro e2
      apply h
      have : (bv x ||| bv y) &&& bv (shl .u64 1 a) = (bv x &&& bv (shl .u64 1 a)) ||| (bv y &&& bv (shl .u64 1 a)) := by ext; simp; grind
      rw [this, e1, e2]
      simp
    · exact .inl e1
  · intro h e
    have : (bv x ||| bv y) &&& bv (shl .u64 1 a) = (bv x &&& bv (shl .u64 1 a)) ||| (bv y &&& bv (shl .u64 1 a)) := by ext; simp; grind
    rw [this] at e
    have e1 : bv x &&& bv (shl .u64 1 a) = 0#64 := by
      ext i hi
      have := congrArg (fun z => z[i]) e
      simp at this ⊢
      grind
    have e2 : bv y &&& bv (shl .u64 1 a) = 0#64 := by
      ext i hi
      have := congrArg (fun z => z[i]) e
      simp at this ⊢
      grind
    rcases h with h | h
    · exact h e1
    · exact h e2
theorem masks : ∀ (w : Fin 65) (j : Fin 64), (bv (IntKind.u64.wrap (shl .u64 1 (w.val : Int) - 1)) &&& bv (shl .u64 1 (j.val : Int)) = 0#64) ↔ w.val ≤ j.val := by decide +kernel
theorem mask_bit {w a : Int} (hw : 0 ≤ w ∧ w ≤ 64) (ha : 0 ≤ a ∧ a < 64) : bit (IntKind.u64.wrap (shl .u64 1 w - 1)) a ↔ a < w := by
  have h := masks ⟨w.toNat, by omega⟩ ⟨a.toNat, by omega⟩
  simp only [show ((w.toNat : Nat) : Int) = w by omega, show ((a.toNat : Nat) : Int) = a by omega] at h
  unfold bit
  rw [ne_eq, h]
  omega
theorem bit_zero (a : Int) : ¬ bit 0 a := by
  unfold bit bv
  simp

/-! ### states -/
def slotB (has : List Int) (a : Int) : Prop := bit (has.getD (a / 64).toNat 0) (a % 64)
/-- A state that says no more than another. -/
structure Le (t s : Vst) : Prop where
  h : t.h = s.h
  wr : t.wr = s.wr
  has : ∀ a : Int, 0 ≤ a → a < 512 → slotB t.has a → slotB s.has a
theorem Le.refl (s : Vst) : Le s s := ⟨rfl, rfl, fun _ _ _ h => h⟩
theorem Le.trans {r t s : Vst} (h : Le r t) (k : Le t s) : Le r s := ⟨h.h.trans k.h, h.wr.trans k.wr, fun a h0 h1 ha => k.has a h0 h1 (h.has a h0 h1 ha)⟩
theorem andL_getD {a b : List Int} {k : Nat} (ha : k < a.length) (hb : k < b.length) : (andL a b).getD k 0 = Go.bits .and .u64 (a.getD k 0) (b.getD k 0) := by
  simp [andL, List.getD_eq_getElem?_getD, List.getElem?_zipWith, ha, hb]
theorem meetS_le {s t : Vst} (hs : OKS s) (ht : OKS t) (h : (meetS s t).2 = 0) : Le (meetS s t).1 s ∧ Le (meetS s t).1 t := by
  unfold meetS at h ⊢
  by_cases e1 : s.h ≠ t.h
  · rw [if_pos e1] at h; exact absurd h (by simp)
  rw [if_neg e1] at h ⊢
  by_cases e2 : s.wr ≠ t.wr
  · rw [if_pos e2] at h; exact absurd h (by simp)
  rw [if_neg e2]
  simp only [ne_eq, Classical.not_not] at e1 e2
  refine ⟨⟨rfl, rfl, fun a h0 h1 ha => ?_⟩, ⟨e1, e2, fun a h0 h1 ha => ?_⟩⟩
  · unfold slotB at *
    rw [andL_getD (by rw [hs.1]; omega) (by rw [ht.1]; omega)] at ha
    exact (bit_and ha).1
  · unfold slotB at *
    rw [andL_getD (by rw [hs.1]; omega) (by rw [ht.1]; omega)] at ha
    exact (bit_and ha).2
theorem goesP_le {n : Nat} {m : Nat → Option Vst} {s : Vst} {tg : Nat} {be : Int} (hm : OKM m) (hs : OKS s) (hb : be ≠ 0) (h : (goesP n m s tg be).2 = 0) :
    (∃ t, (goesP n m s tg be).1 tg = some t ∧ Le t s) ∧ ∀ j t, m j = some t → ∃ t', (goesP n m s tg be).1 j = some t' ∧ Le t' t := by
  unfold goesP at h ⊢
  by_cases e1 : n ≤ tg
  · rw [if_pos e1] at h; exact absurd h hb
  rw [if_neg e1] at h ⊢
  cases ht : m tg with
  | some t =>
    rw [ht] at h
    simp only at h ⊢
    have hl := meetS_le (hm _ _ ht) hs h
    refine ⟨⟨_, by simp, hl.2⟩, fun j t' hj => ?_⟩
    by_cases e : j = tg
    · subst e
      rw [ht] at hj
      cases hj
      exact ⟨_, by simp, hl.1⟩
    · exact ⟨t', by simp [e, hj], Le.refl _⟩
  | none =>
    simp only
    refine ⟨⟨_, by simp, Le.refl _⟩, fun j t' hj => ?_⟩
    by_cases e : j = tg
    · subst e; rw [ht] at hj; cases hj
    · exact ⟨t', by simp [e, hj], Le.refl _⟩
theorem folP_le {n : Nat} {m : Nat → Option Vst} {s : Vst} {p : Nat} {i : S26} (hm : OKM m) (hs : OKS s) (h : (folP n m s p i).2 = 0) :
    (∀ q ∈ tg19 i p, ∃ t, (folP n m s p i).1 q = some t ∧ Le t s) ∧ ∀ j t, m j = some t → ∃ t', (folP n m s p i).1 j = some t' ∧ Le t' t := by
  unfold folP at h ⊢
  unfold tg19
  by_cases e1 : i.f0 = 23
  · rw [if_pos e1, if_pos e1]
    exact ⟨by simp, fun j t hj => ⟨t, hj, Le.refl _⟩⟩
  rw [if_neg e1] at h ⊢
  rw [if_neg e1]
  by_cases e2 : i.f0 = 21
  · rw [if_pos e2] at h ⊢
    rw [if_pos e2]
    obtain ⟨a, b⟩ := goesP_le hm hs (by decide) h
    exact ⟨fun q hq => by rw [List.mem_singleton.1 hq]; exact a, b⟩
  rw [if_neg e2] at h ⊢
  rw [if_neg e2]
  by_cases e3 : i.f0 = 22
  · rw [if_pos e3] at h ⊢
    rw [if_pos e3]
    by_cases e4 : (goesP n m s (p + 1) 195).2 = 0
    · rw [if_pos e4] at h ⊢
      obtain ⟨a, b⟩ := goesP_le hm hs (by decide) e4
      obtain ⟨a', b'⟩ := goesP_le (goesP_okm hm hs) hs (by decide) h
      refine ⟨fun q hq => ?_, fun j t hj => ?_⟩
      · simp at hq
        rcases hq with rfl | rfl
        · obtain ⟨t, t1, t2⟩ := a
          obtain ⟨t', t3, t4⟩ := b' _ _ t1
          exact ⟨t', t3, t4.trans t2⟩
        · exact a'
      · obtain ⟨t1, h1, h2⟩ := b j t hj
        obtain ⟨t2, h3, h4⟩ := b' _ _ h1
        exact ⟨t2, h3, h4.trans h2⟩
    · rw [if_neg e4] at h; exact absurd h e4
  · rw [if_neg e3] at h ⊢
    rw [if_neg e3]
    obtain ⟨a, b⟩ := goesP_le hm hs (by decide) h
    exact ⟨fun q hq => by rw [List.mem_singleton.1 hq]; exact a, b⟩
theorem tg19_gt {i : S26} {p : Nat} (hi : (1 ≤ i.f1 ∧ i.f1 ≤ 4096) ∨ (i.f0 ≠ 21 ∧ i.f0 ≠ 22)) : ∀ q ∈ tg19 i p, p < q := by
  intro q hq
  unfold tg19 at hq
  split at hq
  · simp at hq
  split at hq
  · simp at hq; omega
  split at hq
  · simp at hq; omega
  · simp at hq; omega
/-- The states at the instructions of code that is verified. -/
structure Good (l : List S26) (c : Cf) (n : Int) (A : Nat → Vst) (p : Nat) : Prop where
  ok : OKS (A p)
  chk : (chk (A p) (rd_T26 l (p : Int)) c).2 = 0
  top : (Go.Proofs.Ytnaapecmooljaaa.H.chk (A p) (rd_T26 l (p : Int)) c).1.h ≤ n
  next : ∀ q ∈ tg19 (rd_T26 l (p : Int)) p, p < q ∧ q < l.length ∧ Le (A q) (Go.Proofs.Ytnaapecmooljaaa.H.chk (A p) (rd_T26 l (p : Int)) c).1
theorem vgo_good {l : List S26} {c : Cf} (hc : c.stack ≤ 256) : ∀ {d k : Nat} {m : Nat → Option Vst} {most n : Int}, d + k = l.length → OKM m → vgo l c d k m most = (n, 0) →
    ∃ A : Nat → Vst, (∀ p, k ≤ p → p < l.length → Good l c n A p) ∧ ∀ j t, k ≤ j → j < l.length → m j = some t → Le (A j) t
  | 0, k, m, most, n, hd, hm, h => ⟨fun _ => st0, fun p h1 h2 => by omega, fun j t h1 h2 => by omega⟩
  | d + 1, k, m, most, n, hd, hm, h => by
    obtain ⟨s, a1, a2, a3, a4⟩ := vgo_step h
    have hs := hm k s a1
    have hs' : OKS (chk s (rd_T26 l (k : Int)) c).1 := chk_ok hs hc
    have hm1 := put_okm (p := k) hm hs'
    obtain ⟨A, g1, g2⟩ := vgo_good hc (by omega) (del_okm (p := k) (folP_okm hm1 hs')) a4
    obtain ⟨f1, f2⟩ := folP_le hm1 hs' a3
    have hin := (folP_cut (Nat.le_refl _) a3).2
    have hgt := tg19_gt (p := k) (may_arg (chk_may a2))
    have hmost := vgo_most a4
    refine ⟨fun p => if p = k then s else A p, fun p h1 h2 => ?_, fun j t h1 h2 hj => ?_⟩
    · by_cases e : p = k
      · subst e
        refine ⟨by simpa using hs, by simpa using a2, ?_, fun q hq => ?_⟩
        · simp only [if_true]
          rw [Int.max_def] at hmost
          split at hmost <;> omega
        · have q1 := hgt q hq
          have q2 := hin q hq
          refine ⟨q1, q2, ?_⟩
          obtain ⟨t, t1, t2⟩ := f1 q hq
          simp only [if_true]
          rw [if_neg (by omega)]
          exact (g2 q t (by omega) q2 (by rw [if_neg (by omega)]; exact t1)).trans t2
      · have g := g1 p (by omega) h2
        refine ⟨by simpa [e] using g.ok, by simpa [e] using g.chk, by simpa [e] using g.top, fun q hq => ?_⟩
        obtain ⟨q1, q2, q3⟩ := g.next q hq
        exact ⟨q1, q2, by simp only [e, if_false]; rw [if_neg (by omega)]; exact q3⟩
    · by_cases e : j = k
      · subst e
        simp only [if_true]
        rw [a1] at hj
        cases hj
        exact Le.refl _
      · simp only [e, if_false]
        obtain ⟨t', t1, t2⟩ := f2 j t (by rw [if_neg e]; exact hj)
        exact (g2 j t' (by omega) h2 (by rw [if_neg e]; exact t1)).trans t2
theorem ver_good {l : List S26} {c : Cf} (h : (ver l c).2 = 0) : ∃ A : Nat → Vst, (∀ p, p < l.length → Good l c (ver l c).1 A p) ∧ Le (A 0) st0 := by
  obtain ⟨hm, h0, h1, _⟩ := ver_ok h
  have hp := ver_pair h
  have hc : c.stack ≤ 256 := by simp [mayC] at hm; omega
  obtain ⟨A, g1, g2⟩ := vgo_good hc (by omega) (put_okm (p := 0) (m := fun _ => none) (fun _ _ h => by cases h) st0_ok) hp
  exact ⟨A, fun p hp => g1 p (Nat.zero_le _) hp, g2 0 st0 (Nat.le_refl _) h0 (by simp)⟩

/-! ### one step of a way -/
theorem rep_getD {α : Type} (n k : Nat) (x : α) : (List.replicate n x).getD k x = x := by
  rw [List.getD_eq_getElem?_getD, List.getElem?_replicate]
  split <;> rfl
theorem set_getD {α : Type} {l : List α} {k : Nat} (h : k < l.length) (v d : α) : (l.set k v).getD k d = v := by simp [List.getD_eq_getElem?_getD, h]
theorem slotB_set {has : List Int} (hl : has.length = 8) {a b : Int} (ha : 0 ≤ a ∧ a < 512) (hb : 0 ≤ b ∧ b < 512) :
    slotB (has.set (a / 64).toNat (Go.bits .or .u64 (has.getD (a / 64).toNat 0) (shl .u64 1 (a % 64)))) b ↔ slotB has b ∨ b = a := by
  unfold slotB
  by_cases e : (a / 64).toNat = (b / 64).toNat
  · have h1 : (has.set (a / 64).toNat (Go.bits .or .u64 (has.getD (a / 64).toNat 0) (shl .u64 1 (a % 64)))).getD (b / 64).toNat 0 = Go.bits .or .u64 (has.getD (b / 64).toNat 0) (shl .u64 1 (a % 64)) := by
      rw [← e]
      simp [List.getD_eq_getElem?_getD, List.getElem?_set, show (a / 64).toNat < has.length by omega]
    rw [h1, bit_or, one_bit (by omega) (by omega)]
    constructor
    · rintro (h | h)
      · exact .inl h
      · right; omega
    · rintro (h | h)
      · exact .inl h
      · right; omega
  · have h1 : (has.set (a / 64).toNat (Go.bits .or .u64 (has.getD (a / 64).toNat 0) (shl .u64 1 (a % 64)))).getD (b / 64).toNat 0 = has.getD (b / 64).toNat 0 := by
      simp [List.getD_eq_getElem?_getD, List.getElem?_set, e]
    rw [h1]
    constructor
    · exact .inl
    · rintro (h | h)
      · exact h
      · exact absurd (by rw [h]) e
theorem chk_good {s : Vst} {i : S26} {c : Cf} (h : (chk s i c).2 = 0) : mayB i.f0 i.f1 = true ∧ tks i.f0 ≤ s.h ∧ s.h - tks i.f0 + gvs i.f0 ≤ c.stack ∧ chk s i c = chk2 { s with h := s.h + (gvs i.f0 - tks i.f0) } i c := by
  unfold chk at h ⊢
  by_cases e1 : mayB i.f0 i.f1 = false
  · rw [if_pos e1] at h; exact absurd h (by simp)
  rw [if_neg e1] at h ⊢
  by_cases e2 : s.h < tks i.f0 ∨ c.stack < s.h - tks i.f0 + gvs i.f0
  · rw [if_pos e2] at h; exact absurd h (by simp)
  rw [if_neg e2]
  exact ⟨by simpa using e1, by omega, by omega, rfl⟩
/-- What the run has stored and written at a state. -/
structure Runs (s : Vst) (H : List Bool) (Wr : List Int) : Prop where
  hl : H.length = 512
  wl : Wr.length = 64
  hs : ∀ a : Int, 0 ≤ a → a < 512 → slotB s.has a → H.getD a.toNat false = true
  ws : ∀ a : Int, 0 ≤ a → a < 64 → (bit s.wr a → Wr.getD a.toNat 0 = 1) ∧ (¬ bit s.wr a → Wr.getD a.toNat 0 = 0)
theorem Runs.le {s t : Vst} {H : List Bool} {Wr : List Int} (h : Runs s H Wr) (k : Le t s) : Runs t H Wr :=
  ⟨h.hl, h.wl, fun a h0 h1 ha => h.hs a h0 h1 (k.has a h0 h1 ha), fun a h0 h1 => by rw [k.wr]; exact h.ws a h0 h1⟩
theorem runs_start : Runs st0 (List.replicate 512 false) (List.replicate 64 0) := by
  refine ⟨List.length_replicate, List.length_replicate, fun a h0 h1 ha => ?_, fun a h0 h1 => ⟨fun h => absurd h (bit_zero a), fun _ => rep_getD _ _ _⟩⟩
  exfalso
  unfold slotB st0 at ha
  simp only at ha
  have : (List.replicate 8 (0 : Int)).getD (a / 64).toNat 0 = 0 := rep_getD _ _ _
  rw [this] at ha
  exact bit_zero _ ha
section
variable {s : Vst} {i : S26} {c : Cf} {H : List Bool} {Wr : List Int}
theorem chk_h (h : (chk s i c).2 = 0) : (chk s i c).1.h = s.h - tks i.f0 + gvs i.f0 := by
  rw [(chk_good h).2.2.2]
  have : ∀ t : Vst, (chk2 t i c).1.h = t.h := by
    intro t
    unfold chk2
    repeat' split
    all_goals rfl
  rw [this]
  simp only
  omega
theorem run_load (hok : OKS s) (h : (chk s i c).2 = 0) (e : i.f0 = 2) (R : Runs s H Wr) : (0 ≤ i.f1 ∧ i.f1 < 512) ∧ i.f1 < c.slots ∧ H.getD i.f1.toNat false = true ∧ Runs (chk s i c).1 H Wr := by
  obtain ⟨hm, _, _, hc⟩ := chk_good h
  have ha : 0 ≤ i.f1 ∧ i.f1 < 512 := by
    rw [e] at hm
    simpa [mayB] using hm
  rw [hc] at h ⊢
  unfold chk2 at h ⊢
  rw [if_pos (.inl e)] at h ⊢
  by_cases e1 : c.slots ≤ i.f1
  · rw [if_pos e1] at h; exact absurd h (by simp)
  rw [if_neg e1] at h ⊢
  simp only at h ⊢
  by_cases e2 : i.f0 = 2 ∧ Go.bits .and .u64 (s.has.getD (i.f1 / 64).toNat 0) (shl .u64 1 (i.f1 % 64)) = 0
  · rw [if_pos e2] at h; exact absurd h (by simp)
  rw [if_neg e2]
  have hsl : slotB s.has i.f1 := fun e3 => e2 ⟨e, (and_zero _ _).2 e3⟩
  refine ⟨ha, by omega, R.hs _ ha.1 ha.2 hsl, ⟨R.hl, R.wl, fun b h0 h1 hb => ?_, R.ws⟩⟩
  rcases (slotB_set hok.1 ha ⟨h0, h1⟩).1 hb with hb | hb
  · exact R.hs b h0 h1 hb
  · rw [hb]; exact R.hs _ ha.1 ha.2 hsl
theorem run_store (hok : OKS s) (h : (chk s i c).2 = 0) (e : i.f0 = 3) (R : Runs s H Wr) : (0 ≤ i.f1 ∧ i.f1 < 512) ∧ Runs (chk s i c).1 (H.set i.f1.toNat true) Wr := by
  obtain ⟨hm, _, _, hc⟩ := chk_good h
  have ha : 0 ≤ i.f1 ∧ i.f1 < 512 := by
    rw [e] at hm
    simpa [mayB] using hm
  rw [hc] at h ⊢
  unfold chk2 at h ⊢
  rw [if_pos (.inr e)] at h ⊢
  by_cases e1 : c.slots ≤ i.f1
  · rw [if_pos e1] at h; exact absurd h (by simp)
  rw [if_neg e1] at h ⊢
  rw [if_neg (by omega)]
  refine ⟨ha, ⟨by simpa using R.hl, R.wl, fun b h0 h1 hb => ?_, R.ws⟩⟩
  rcases (slotB_set hok.1 ha ⟨h0, h1⟩).1 hb with hb | hb
  · have := R.hs b h0 h1 hb
    by_cases e2 : i.f1.toNat = b.toNat
    · rw [e2]; exact set_getD (by rw [R.hl]; omega) _ _
    · rw [List.getD_eq_getElem?_getD] at this ⊢
      rw [List.getElem?_set, if_neg e2]
      exact this
  · rw [hb]; exact set_getD (by rw [R.hl]; omega) _ _
theorem run_read (h : (chk s i c).2 = 0) (e : i.f0 = 4) (R : Runs s H Wr) : i.f1 < c.reads ∧ Runs (chk s i c).1 H Wr := by
  obtain ⟨hm, _, _, hc⟩ := chk_good h
  rw [hc] at h ⊢
  unfold chk2 at h ⊢
  rw [if_neg (by omega), if_pos e] at h ⊢
  by_cases e1 : c.reads ≤ i.f1
  · rw [if_pos e1] at h; exact absurd h (by simp)
  · exact ⟨by omega, ⟨R.hl, R.wl, R.hs, R.ws⟩⟩
theorem run_write (h : (chk s i c).2 = 0) (e : i.f0 = 5) (R : Runs s H Wr) : (0 ≤ i.f1 ∧ i.f1 < 64) ∧ Wr.getD i.f1.toNat 0 = 0 ∧ Runs (chk s i c).1 H (Wr.set i.f1.toNat 1) := by
  obtain ⟨hm, _, _, hc⟩ := chk_good h
  have ha : 0 ≤ i.f1 ∧ i.f1 < 64 := by
    rw [e] at hm
    simpa [mayB] using hm
  rw [hc] at h ⊢
  unfold chk2 at h ⊢
  rw [if_neg (by omega), if_neg (by omega), if_pos e] at h ⊢
  by_cases e1 : c.writes ≤ i.f1
  · rw [if_pos e1] at h; exact absurd h (by simp)
  rw [if_neg e1] at h ⊢
  simp only at h ⊢
  by_cases e2 : Go.bits .and .u64 s.wr (shl .u64 1 i.f1) = 0
  · rw [if_pos e2]
    have hz : ¬ bit s.wr i.f1 := fun hb => hb ((and_zero _ _).1 e2)
    refine ⟨ha, (R.ws _ ha.1 ha.2).2 hz, ⟨R.hl, by simpa using R.wl, R.hs, fun b h0 h1 => ?_⟩⟩
    simp only
    rw [bit_or, one_bit ha ⟨h0, h1⟩]
    by_cases e3 : i.f1 = b
    · subst e3
      refine ⟨fun _ => set_getD (by rw [R.wl]; omega) _ _, fun hn => absurd (.inr rfl) hn⟩
    · have e4 : i.f1.toNat ≠ b.toNat := by omega
      have e5 : (Wr.set i.f1.toNat 1).getD b.toNat 0 = Wr.getD b.toNat 0 := by simp [List.getD_eq_getElem?_getD, List.getElem?_set, e4]
      rw [e5]
      exact ⟨fun hb => (R.ws b h0 h1).1 (hb.resolve_right e3), fun hn => (R.ws b h0 h1).2 (fun hb => hn (.inl hb))⟩
  · rw [if_neg e2] at h; exact absurd h (by simp)
theorem run_end (hok : OKS s) (h : (chk s i c).2 = 0) (e : i.f0 = 23) (hw : 0 ≤ c.writes ∧ c.writes ≤ 64) (R : Runs s H Wr) : s.h = 0 ∧ ∀ a : Nat, a < 64 → Wr.getD a 0 = if (a : Int) < c.writes then 1 else 0 := by
  obtain ⟨hm, _, _, hc⟩ := chk_good h
  have t0 : tks i.f0 = 0 := by rw [e]; rfl
  have g0 : gvs i.f0 = 0 := by rw [e]; rfl
  have h0 := hok.2.1
  rw [hc] at h
  unfold chk2 at h
  rw [if_neg (by omega), if_neg (by omega), if_neg (by omega), if_pos e] at h
  simp only [t0, g0] at h
  by_cases e1 : 0 < s.h + (0 - 0)
  · rw [if_pos e1] at h; exact absurd h (by simp)
  rw [if_neg e1] at h
  by_cases e2 : s.wr = IntKind.u64.wrap (shl .u64 1 c.writes - 1)
  · refine ⟨by omega, fun a ha => ?_⟩
    have hb := mask_bit (a := (a : Int)) hw ⟨by omega, by omega⟩
    have hws := R.ws (a : Int) (by omega) (by omega)
    rw [e2, hb, Int.toNat_natCast] at hws
    split
    · exact hws.1 (by assumption)
    · exact hws.2 (by assumption)
  · rw [if_neg e2] at h; exact absurd h (by simp)
theorem run_other (h : (chk s i c).2 = 0) (e : i.f0 ≠ 2 ∧ i.f0 ≠ 3 ∧ i.f0 ≠ 4 ∧ i.f0 ≠ 5 ∧ i.f0 ≠ 23) (R : Runs s H Wr) : Runs (chk s i c).1 H Wr := by
  obtain ⟨hm, _, _, hc⟩ := chk_good h
  rw [hc]
  unfold chk2
  rw [if_neg (by omega), if_neg (by omega), if_neg (by omega), if_neg (by omega)]
  exact ⟨R.hl, R.wl, R.hs, R.ws⟩
end

theorem wrapS {x : Int} (h0 : -9223372036854775808 ≤ x) (h1 : x ≤ 9223372036854775807) : wrap64 x = x := by unfold wrap64; omega
theorem wrap_arg {x : Int} (h0 : 0 ≤ x) (h1 : x < 10000) : wrap64 x = x := wrapS (by omega) (by omega)
theorem vs_wraps {p steps turn : Nat} {high tk gv : Int} (hp : p < 5000) (hs : steps ≤ p) (ht : turn ≤ p) (hh : 0 ≤ high ∧ high ≤ 256) (htk : 0 ≤ tk ∧ tk ≤ 2) (hgv : 0 ≤ gv ∧ gv ≤ 1) :
    wrap64 ((p : Int) + 1) = (p : Int) + 1 ∧ wrap64 ((steps : Int) + 1) = (steps : Int) + 1 ∧ wrap64 ((turn : Int) + 1) = (turn : Int) + 1 ∧ wrap64 (p : Int) = (p : Int) ∧ wrap64 (high - tk) = high - tk ∧ wrap64 (high - tk + gv) = high - tk + gv := by
  refine ⟨wrapS ?_ ?_, wrapS ?_ ?_, wrapS ?_ ?_, wrapS ?_ ?_, wrapS ?_ ?_, wrapS ?_ ?_⟩ <;> omega
theorem tg_range (op : Int) : (0 ≤ tks op ∧ tks op ≤ 2) ∧ (0 ≤ gvs op ∧ gvs op ≤ 1) := by
  unfold tks gvs
  refine ⟨?_, ?_⟩
  · split <;> (try split) <;> omega
  · split <;> (try split) <;> omega
/-- What the walk holds at a place of the code. -/
structure VsS (l : List S26) (c : Cf) (A : Nat → Vst) (w : World) (gb hb wb n p turn steps : Nat) (high : Int) (H : List Bool) (Wr : List Int) (W : World) : Prop where
  lt : p < l.length
  num : n + p = l.length
  st : steps ≤ p
  tu : turn ≤ p
  hi : high = (A p).h
  run : Runs (A p) H Wr
  cb : W.heap[gb]? = some (.cells #[.int .i64 c.slots, .int .i64 c.reads, .int .i64 c.writes, .int .i64 c.stack] 48 (0, 0))
  hbk : W.heap[hb]? = some (.cells (H.map Value.bool).toArray 58 (0, 0))
  wbk : W.heap[wb]? = some (.cells (Wr.map (Value.int .i64)).toArray 59 (0, 0))
  lo : w.heap.size ≤ hb ∧ w.heap.size ≤ wb
  bel : Below w.heap.size w W
/-- A frame: its first slots, and the rest as a list. -/
def VsI (pre : Nat → Int → Nat → Nat → (Nat → Value) → List Value) (N : Nat) (l : List S26) (c : Cf) (A : Nat → Vst) (w : World) (gb hb wb : Nat) (n : Nat) (a : Act) (W : World) : Prop :=
  ∃ (p turn steps : Nat) (high : Int) (H : List Bool) (Wr : List Int) (v : Nat → Value) (us : List Value), us.length = N ∧ a.tmps = (pre p high turn steps v ++ us).toArray ∧ a.defers = [] ∧ Aside0 (VsS l c A w gb hb wb n p turn steps high H Wr W)
theorem VsI.intro {pre : Nat → Int → Nat → Nat → (Nat → Value) → List Value} {N : Nat} {l : List S26} {c : Cf} {A : Nat → Vst} {w : World} {gb hb wb n : Nat} {a : Act} {W : World} (p turn steps : Nat) (high : Int) (H : List Bool) (Wr : List Int) (us : List Value)
    (h0 : us.length = N) (h1 : a.tmps = (pre p high turn steps (fun j => a.tmps.getD j undef) ++ us).toArray) (h2 : a.defers = []) (h3 : VsS l c A w gb hb wb n p turn steps high H Wr W) : VsI pre N l c A w gb hb wb n a W := ⟨p, turn, steps, high, H, Wr, _, us, h0, h1, h2, ⟨h3⟩⟩
/-- The frame of the last loop. -/
def VsJ (pre : Nat → (Nat → Value) → List Value) (N : Nat) (c : Cf) (Wr : List Int) (w : World) (gb wb : Nat) (n : Nat) (a : Act) (W : World) : Prop :=
  ∃ (k : Nat) (v : Nat → Value) (us : List Value), us.length = N ∧ a.tmps = (pre k v ++ us).toArray ∧ a.defers = [] ∧ Aside0 (n + k = 64 ∧ W.heap[gb]? = some (.cells #[.int .i64 c.slots, .int .i64 c.reads, .int .i64 c.writes, .int .i64 c.stack] 48 (0, 0)) ∧
    W.heap[wb]? = some (.cells (Wr.map (Value.int .i64)).toArray 59 (0, 0)) ∧ Below w.heap.size w W)
theorem VsJ.intro {pre : Nat → (Nat → Value) → List Value} {N : Nat} {c : Cf} {Wr : List Int} {w : World} {gb wb n : Nat} {a : Act} {W : World} (k : Nat) (us : List Value) (h0 : us.length = N) (h1 : a.tmps = (pre k (fun j => a.tmps.getD j undef) ++ us).toArray) (h2 : a.defers = [])
    (h3 : n + k = 64 ∧ W.heap[gb]? = some (.cells #[.int .i64 c.slots, .int .i64 c.reads, .int .i64 c.writes, .int .i64 c.stack] 48 (0, 0)) ∧ W.heap[wb]? = some (.cells (Wr.map (Value.int .i64)).toArray 59 (0, 0)) ∧ Below w.heap.size w W) : VsJ pre N c Wr w gb wb n a W := ⟨k, _, us, h0, h1, h2, ⟨h3⟩⟩
theorem us_of {us : List Value} {N : Nat} (h : us.length = N) : us = (List.range N).map (fun j => us.getD j undef) := by
  apply List.ext_getElem
  · simp [h]
  · intro i h1 h2
    simp [List.getD_eq_getElem?_getD, List.getElem?_eq_getElem h1]
set_option maxRecDepth 100000 in
theorem range164 (g : Nat → Value) : (List.range 164).map g = [g 0, g 1, g 2, g 3, g 4, g 5, g 6, g 7, g 8, g 9, g 10, g 11, g 12, g 13, g 14, g 15, g 16, g 17, g 18, g 19, g 20, g 21, g 22, g 23, g 24, g 25, g 26, g 27, g 28, g 29, g 30, g 31, g 32, g 33, g 34, g 35, g 36, g 37, g 38, g 39, g 40, g 41, g 42, g 43, g 44, g 45, g 46, g 47, g 48, g 49, g 50, g 51, g 52, g 53, g 54, g 55, g 56, g 57, g 58, g 59, g 60, g 61, g 62, g 63, g 64, g 65, g 66, g 67, g 68, g 69, g 70, g 71, g 72, g 73, g 74, g 75, g 76, g 77, g 78, g 79, g 80, g 81, g 82, g 83, g 84, g 85, g 86, g 87, g 88, g 89, g 90, g 91, g 92, g 93, g 94, g 95, g 96, g 97, g 98, g 99, g 100, g 101, g 102, g 103, g 104, g 105, g 106, g 107, g 108, g 109, g 110, g 111, g 112, g 113, g 114, g 115, g 116, g 117, g 118, g 119, g 120, g 121, g 122, g 123, g 124, g 125, g 126, g 127, g 128, g 129, g 130, g 131, g 132, g 133, g 134, g 135, g 136, g 137, g 138, g 139, g 140, g 141, g 142, g 143, g 144, g 145, g 146, g 147, g 148, g 149, g 150, g 151, g 152, g 153, g 154, g 155, g 156, g 157, g 158, g 159, g 160, g 161, g 162, g 163] := rfl
set_option maxRecDepth 100000 in
theorem range160 (g : Nat → Value) : (List.range 160).map g = [g 0, g 1, g 2, g 3, g 4, g 5, g 6, g 7, g 8, g 9, g 10, g 11, g 12, g 13, g 14, g 15, g 16, g 17, g 18, g 19, g 20, g 21, g 22, g 23, g 24, g 25, g 26, g 27, g 28, g 29, g 30, g 31, g 32, g 33, g 34, g 35, g 36, g 37, g 38, g 39, g 40, g 41, g 42, g 43, g 44, g 45, g 46, g 47, g 48, g 49, g 50, g 51, g 52, g 53, g 54, g 55, g 56, g 57, g 58, g 59, g 60, g 61, g 62, g 63, g 64, g 65, g 66, g 67, g 68, g 69, g 70, g 71, g 72, g 73, g 74, g 75, g 76, g 77, g 78, g 79, g 80, g 81, g 82, g 83, g 84, g 85, g 86, g 87, g 88, g 89, g 90, g 91, g 92, g 93, g 94, g 95, g 96, g 97, g 98, g 99, g 100, g 101, g 102, g 103, g 104, g 105, g 106, g 107, g 108, g 109, g 110, g 111, g 112, g 113, g 114, g 115, g 116, g 117, g 118, g 119, g 120, g 121, g 122, g 123, g 124, g 125, g 126, g 127, g 128, g 129, g 130, g 131, g 132, g 133, g 134, g 135, g 136, g 137, g 138, g 139, g 140, g 141, g 142, g 143, g 144, g 145, g 146, g 147, g 148, g 149, g 150, g 151, g 152, g 153, g 154, g 155, g 156, g 157, g 158, g 159] := rfl
section
variable {l : List S26} {c : Cf} {A : Nat → Vst} {w W W' : World} {gb hb wb n p turn steps q : Nat} {high : Int} {H H' : List Bool} {Wr Wr' : List Int} {m : Int}
/-- Of another world in which all lies as it lay. -/
theorem VsS.moved (h : VsS l c A w gb hb wb n p turn steps high H Wr W) (hB : Below W.heap.size W W') : VsS l c A w gb hb wb n p turn steps high H Wr W' :=
  ⟨h.lt, h.num, h.st, h.tu, h.hi, h.run, (hB.block _ (Array.getElem?_eq_some_iff.1 h.cb).1).trans h.cb, (hB.block _ (Array.getElem?_eq_some_iff.1 h.hbk).1).trans h.hbk, (hB.block _ (Array.getElem?_eq_some_iff.1 h.wbk).1).trans h.wbk, h.lo, h.bel.trans (hB.mono h.bel.size)⟩
theorem VsS.apart (h : VsS l c A w gb hb wb n p turn steps high H Wr W) : gb ≠ hb ∧ gb ≠ wb ∧ hb ≠ wb := by
  refine ⟨?_, ?_, ?_⟩
  · rintro rfl
    have := h.cb.symm.trans h.hbk
    injection this with this
    injection this with _ this
    cases this
  · rintro rfl
    have := h.cb.symm.trans h.wbk
    injection this with this
    injection this with _ this
    cases this
  · rintro rfl
    have := h.hbk.symm.trans h.wbk
    injection this with this
    injection this with _ this
    cases this
theorem VsS.setH (h : VsS l c A w gb hb wb n p turn steps high H Wr W) (k : Nat) : (W.setCell ⟨hb, k, none⟩ (.bool true)).heap[gb]? = some (.cells #[.int .i64 c.slots, .int .i64 c.reads, .int .i64 c.writes, .int .i64 c.stack] 48 (0, 0)) ∧
    (W.setCell ⟨hb, k, none⟩ (.bool true)).heap[hb]? = some (.cells ((H.set k true).map Value.bool).toArray 58 (0, 0)) ∧ (W.setCell ⟨hb, k, none⟩ (.bool true)).heap[wb]? = some (.cells (Wr.map (Value.int .i64)).toArray 59 (0, 0)) ∧ Below w.heap.size w (W.setCell ⟨hb, k, none⟩ (.bool true)) := by
  obtain ⟨a1, a2, a3⟩ := h.apart
  refine ⟨set_far h.cb a1 _, ?_, set_far h.wbk (fun e => a3 e.symm) _, h.bel.setCell (p := ⟨hb, k, none⟩) h.lo.1 _⟩
  simp [World.setCell, Array.getElem?_modify, h.hbk, List.map_set]
theorem VsS.setW (h : VsS l c A w gb hb wb n p turn steps high H Wr W) (k : Nat) (x : Int) : (W.setCell ⟨wb, k, none⟩ (.int .i64 x)).heap[gb]? = some (.cells #[.int .i64 c.slots, .int .i64 c.reads, .int .i64 c.writes, .int .i64 c.stack] 48 (0, 0)) ∧
    (W.setCell ⟨wb, k, none⟩ (.int .i64 x)).heap[hb]? = some (.cells (H.map Value.bool).toArray 58 (0, 0)) ∧ (W.setCell ⟨wb, k, none⟩ (.int .i64 x)).heap[wb]? = some (.cells ((Wr.set k x).map (Value.int .i64)).toArray 59 (0, 0)) ∧ Below w.heap.size w (W.setCell ⟨wb, k, none⟩ (.int .i64 x)) := by
  obtain ⟨a1, a2, a3⟩ := h.apart
  refine ⟨set_far h.cb a2 _, set_far h.hbk a3 _, ?_, h.bel.setCell (p := ⟨wb, k, none⟩) h.lo.2 _⟩
  simp [World.setCell, Array.getElem?_modify, h.wbk, List.map_set]
/-- The next place. -/
theorem VsS.next (h : VsS l c A w gb hb wb n p turn steps high H Wr W) (G : Good l c m A p) (hq : q ∈ tg19 (rd_T26 l (p : Int)) p) (R : Runs (Go.Proofs.Ytnaapecmooljaaa.H.chk (A p) (rd_T26 l (p : Int)) c).1 H' Wr') (t : Nat) (ht : t ≤ turn + 1)
    (cb : W'.heap[gb]? = some (.cells #[.int .i64 c.slots, .int .i64 c.reads, .int .i64 c.writes, .int .i64 c.stack] 48 (0, 0))) (hbk : W'.heap[hb]? = some (.cells (H'.map Value.bool).toArray 58 (0, 0)))
    (wbk : W'.heap[wb]? = some (.cells (Wr'.map (Value.int .i64)).toArray 59 (0, 0))) (bel : Below w.heap.size w W') : ∃ n', n' < n ∧ VsS l c A w gb hb wb n' q t (steps + 1) (Go.Proofs.Ytnaapecmooljaaa.H.chk (A p) (rd_T26 l (p : Int)) c).1.h H' Wr' W' := by
  obtain ⟨q1, q2, q3⟩ := G.next q hq
  have h1 := h.num
  have h2 := h.st
  have h3 := h.tu
  exact ⟨l.length - q, by omega, ⟨q2, by omega, by omega, by omega, q3.h.symm, R.le q3, cb, hbk, wbk, h.lo, bel⟩⟩
end
end Go.Proofs.Ytnaapecmooljaaa.H
