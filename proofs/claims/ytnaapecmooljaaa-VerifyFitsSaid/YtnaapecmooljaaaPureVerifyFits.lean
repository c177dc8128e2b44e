/- The pure statement of VerifyFits: a conf with more of all takes the same code, but for its outputs, and one with a lower stack than was told does not. The conditions: the arguments' own sizes. -/
import Derived.Test.YtnaapecmooljaaaFits
import Derived.Test.YtnaapecmooljaaaVp19
import Derived.Test.YtnaapecmooljaaaHx18
import Derived.Test.YtnaapecmooljaaaHx20
import Derived.KernelRfl
set_option linter.unusedVariables false
set_option linter.unusedSimpArgs false
namespace Go.Proofs.Ytnaapecmooljaaa.H.Pure
open Go.RowKit Go.Proofs.YtnaapecmooljaaaW.PrintWords Go.Proofs.YtnaapecmooljaaaW.PrintLast Go.Proofs.YtnaapecmooljaaaW.PrintMore

theorem Ev.yes {α : Type} {c : Prop} [Decidable c] {g f : Nat → Option α} {r : α} (h : c) (k : Ev g r) : Ev (fun n => if c then g n else f n) r := Ev.congr (fun n => _root_.if_pos h) k
theorem Ev.no {α : Type} {c : Prop} [Decidable c] {g f : Nat → Option α} {r : α} (h : ¬ c) (k : Ev f r) : Ev (fun n => if c then g n else f n) r := Ev.congr (fun n => _root_.if_neg h) k
theorem fits_works : carillonlaw19_works.f = some true := by kernel_rfl
theorem chk2_h {s : St} {i : S26} {c : Cf} : (chk2 s i c).1.h = s.h := by
  unfold chk2
  repeat' split
  all_goals rfl
theorem chk2_more {s : St} {i : S26} {c c' : Cf} (h : (chk2 s i c).2 = 0) (h1 : c.slots ≤ c'.slots) (h2 : c.reads ≤ c'.reads) (h3 : c'.writes = c.writes) : chk2 s i c' = chk2 s i c := by
  unfold chk2 at h ⊢
  by_cases e1 : i.f0 = 2 ∨ i.f0 = 3
  · rw [if_pos e1] at h ⊢
    rw [if_pos e1]
    by_cases e2 : c.slots ≤ i.f1
    · rw [if_pos e2] at h; exact absurd h (by simp)
    · by_cases e3 : c'.slots ≤ i.f1
      · rw [if_neg e2] at h ⊢
        omega
      · rw [if_neg e2, if_neg e3]
  rw [if_neg e1] at h ⊢
  rw [if_neg e1]
  by_cases e4 : i.f0 = 4
  · rw [if_pos e4] at h ⊢
    rw [if_pos e4]
    by_cases e2 : c.reads ≤ i.f1
    · rw [if_pos e2] at h; exact absurd h (by simp)
    · by_cases e3 : c'.reads ≤ i.f1
      · omega
      · rw [if_neg e2, if_neg e3]
  rw [if_neg e4] at h ⊢
  rw [if_neg e4, h3]
theorem chk_more {s : St} {i : S26} {c c' : Cf} (h : (chk s i c).2 = 0) (h1 : c.slots ≤ c'.slots) (h2 : c.reads ≤ c'.reads) (h3 : c'.writes = c.writes) (h4 : (chk s i c).1.h ≤ c'.stack) : chk s i c' = chk s i c := by
  unfold chk at h h4 ⊢
  by_cases e1 : mayB i.f0 i.f1 = false
  · rw [if_pos e1] at h; exact absurd h (by simp)
  rw [if_neg e1] at h h4 ⊢
  rw [if_neg e1]
  by_cases e2 : s.h < tks i.f0 ∨ c.stack < s.h - tks i.f0 + gvs i.f0
  · rw [if_pos e2] at h; exact absurd h (by simp)
  rw [if_neg e2] at h h4 ⊢
  rw [chk2_h] at h4
  simp only at h4
  rw [if_neg (by omega)]
  exact chk2_more h h1 h2 h3
theorem chk_low {s : St} {i : S26} {c c' : Cf} (h : (chk s i c).2 = 0) (h4 : c'.stack < (chk s i c).1.h) : (chk s i c').2 = 191 := by
  unfold chk at h h4 ⊢
  by_cases e1 : mayB i.f0 i.f1 = false
  · rw [if_pos e1] at h; exact absurd h (by simp)
  rw [if_neg e1] at h h4 ⊢
  by_cases e2 : s.h < tks i.f0 ∨ c.stack < s.h - tks i.f0 + gvs i.f0
  · rw [if_pos e2] at h; exact absurd h (by simp)
  rw [if_neg e2] at h h4
  rw [chk2_h] at h4
  simp only at h4
  rw [if_pos (by omega)]
theorem chk_le {s : St} {i : S26} {c : Cf} (h : (chk s i c).2 = 0) : (chk s i c).1.h ≤ c.stack := by
  unfold chk at h ⊢
  by_cases e1 : mayB i.f0 i.f1 = false
  · rw [if_pos e1] at h; exact absurd h (by simp)
  rw [if_neg e1] at h ⊢
  by_cases e2 : s.h < tks i.f0 ∨ c.stack < s.h - tks i.f0 + gvs i.f0
  · rw [if_pos e2] at h; exact absurd h (by simp)
  rw [if_neg e2, chk2_h]
  simp only
  omega
theorem mask_ne : ∀ w : Fin 64, IntKind.u64.wrap (shl .u64 1 (w.val : Int) - 1) ≠ IntKind.u64.wrap (shl .u64 1 ((w.val : Int) + 1) - 1) := by decide +kernel
theorem mask_ne' {w : Int} (h0 : 0 ≤ w) (h1 : w < 64) : IntKind.u64.wrap (shl .u64 1 w - 1) ≠ IntKind.u64.wrap (shl .u64 1 (w + 1) - 1) := by
  have := mask_ne ⟨w.toNat, by omega⟩
  simp only at this
  rw [show ((w.toNat : Nat) : Int) = w by omega] at this
  exact this
theorem chk_write {s : St} {i : S26} {c c' : Cf} (h : (chk s i c).2 = 0) (h1 : c'.slots = c.slots) (h2 : c'.reads = c.reads) (h3 : c'.writes = c.writes + 1) (h4 : c'.stack = c.stack) (h5 : 0 ≤ c.writes) (h6 : c.writes < 64) :
    (i.f0 = 23 → (chk s i c').2 = 193) ∧ (i.f0 ≠ 23 → chk s i c' = chk s i c) := by
  unfold chk at h ⊢
  by_cases e1 : mayB i.f0 i.f1 = false
  · rw [if_pos e1] at h; exact absurd h (by simp)
  rw [if_neg e1] at h ⊢
  rw [if_neg e1, h4]
  by_cases e2 : s.h < tks i.f0 ∨ c.stack < s.h - tks i.f0 + gvs i.f0
  · rw [if_pos e2] at h; exact absurd h (by simp)
  rw [if_neg e2] at h ⊢
  rw [if_neg e2]
  unfold chk2 at h ⊢
  rw [h1, h2, h3]
  constructor
  · intro e
    rw [if_neg (by omega), if_neg (by omega), if_neg (by omega), if_pos e] at h ⊢
    by_cases a1 : 0 < ({ s with h := s.h + (gvs i.f0 - tks i.f0) } : St).h
    · simp only at a1 h
      rw [if_pos a1] at h
      exact absurd h (by simp)
    · simp only at a1 h ⊢
      rw [if_neg a1] at h ⊢
      by_cases a2 : s.wr = IntKind.u64.wrap (shl .u64 1 c.writes - 1)
      · rw [if_neg]
        rw [a2]
        exact mask_ne' h5 h6
      · rw [if_neg a2] at h
        exact absurd h (by simp)
  · intro e
    by_cases g1 : i.f0 = 2 ∨ i.f0 = 3
    · rw [if_pos g1, if_pos g1]
    rw [if_neg g1] at h ⊢
    rw [if_neg g1]
    by_cases g2 : i.f0 = 4
    · rw [if_pos g2, if_pos g2]
    rw [if_neg g2] at h ⊢
    rw [if_neg g2]
    by_cases g3 : i.f0 = 5
    · rw [if_pos g3] at h ⊢
      rw [if_pos g3]
      by_cases a : c.writes ≤ i.f1
      · rw [if_pos a] at h; exact absurd h (by simp)
      · rw [if_neg a, if_neg (by omega)]
    rw [if_neg g3] at h ⊢
    rw [if_neg g3, if_neg e, if_neg e]
theorem vgo_more {l : List S26} {c c' : Cf} (h1 : c.slots ≤ c'.slots) (h2 : c.reads ≤ c'.reads) (h3 : c'.writes = c.writes) : ∀ {d k : Nat} {m : Nat → Option St} {most n : Int}, n ≤ c'.stack → vgo l c d k m most = (n, 0) → vgo l c' d k m most = (n, 0)
  | 0, k, m, most, n, hn, h => h
  | d + 1, k, m, most, n, hn, h => by
    obtain ⟨s, a1, a2, a3, a4⟩ := vgo_step h
    have hm := vgo_most a4
    have e := chk_more a2 h1 h2 h3 (c' := c') (by rw [Int.max_def] at hm; split at hm <;> omega)
    rw [vgo, a1]
    simp only
    rw [e, if_pos a2, if_pos a3]
    exact vgo_more h1 h2 h3 hn a4
theorem vgo_low {l : List S26} {c c' : Cf} (h1 : c.slots ≤ c'.slots) (h2 : c.reads ≤ c'.reads) (h3 : c'.writes = c.writes) : ∀ {d k : Nat} {m : Nat → Option St} {most n : Int}, c'.stack = n - 1 → most < n → vgo l c d k m most = (n, 0) → vgo l c' d k m most = (0, 191)
  | 0, k, m, most, n, hn, hl, h => by simp only [vgo, Prod.mk.injEq] at h; omega
  | d + 1, k, m, most, n, hn, hl, h => by
    obtain ⟨s, a1, a2, a3, a4⟩ := vgo_step h
    rw [vgo, a1]
    simp only
    by_cases e : (chk s (rd_T26 l k) c).1.h ≤ n - 1
    · have e2 := chk_more a2 h1 h2 h3 (c' := c') (by omega)
      rw [e2, if_pos a2, if_pos a3]
      exact vgo_low h1 h2 h3 hn (by rw [Int.max_def]; split <;> omega) a4
    · have e2 := chk_low a2 (c' := c') (by omega)
      rw [e2, if_neg (by decide)]
theorem vgo_write {l : List S26} {c c' : Cf} (h1 : c'.slots = c.slots) (h2 : c'.reads = c.reads) (h3 : c'.writes = c.writes + 1) (h4 : c'.stack = c.stack) (h5 : 0 ≤ c.writes) (h6 : c.writes < 64) : ∀ {d k : Nat} {m : Nat → Option St} {most n : Int}, d + 1 + k = l.length → vgo l c (d + 1) k m most = (n, 0) → vgo l c' (d + 1) k m most = (0, 193)
  | d, k, m, most, n, hd, h => by
    obtain ⟨s, a1, a2, a3, a4⟩ := vgo_step h
    obtain ⟨w1, w2⟩ := chk_write a2 h1 h2 h3 h4 h5 h6
    rw [vgo, a1]
    simp only
    by_cases e : (rd_T26 l (k : Int)).f0 = 23
    · rw [w1 e, if_neg (by decide)]
    · rw [w2 e, if_pos a2, if_pos a3]
      match d, hd, a4 with
      | 0, hd, a4 => exact absurd (last_end (may_arg (chk_may a2)) (by omega) a3) e
      | d + 1, hd, a4 => exact vgo_write h1 h2 h3 h4 h5 h6 (by omega) a4
theorem vgo_le {l : List S26} {c : Cf} : ∀ {d k : Nat} {m : Nat → Option St} {most n : Int}, most ≤ c.stack → vgo l c d k m most = (n, 0) → n ≤ c.stack
  | 0, k, m, most, n, hm, h => by simp only [vgo, Prod.mk.injEq] at h; omega
  | d + 1, k, m, most, n, hm, h => by
    obtain ⟨s, a1, a2, a3, a4⟩ := vgo_step h
    have := chk_le a2
    exact vgo_le (by rw [Int.max_def]; split <;> omega) a4
theorem mayC_iff {a b c d : Int} : mayC a b c d = true ↔ (0 ≤ a ∧ a ≤ 512) ∧ (0 ≤ b ∧ b ≤ 64) ∧ (0 ≤ c ∧ c ≤ 64) ∧ (1 ≤ d ∧ d ≤ 256) := by simp [mayC, and_assoc]
theorem ver_of {l : List S26} {c : Cf} {r : Int × Int} (h1 : mayC c.slots c.reads c.writes c.stack = true) (h2 : 0 < l.length) (h3 : l.length ≤ 4096) (h : vgo l c l.length 0 (fun j => if j = 0 then some st0 else none) 0 = r) : ver l c = r := by
  unfold ver
  rw [if_neg (by rw [h1]; decide), if_neg (by omega), if_neg (by omega)]
  exact h
theorem fits_j0t (l : List S26) (x a b c d : Int) : Ev (fun k => carillonlaw19_VerifyFits.j0 k l x true a b c d) true :=
  Ev.step (f := fun _ => (carillonlaw19_works.f).bind fun t => some t) (fun k => by simp only [carillonlaw19_VerifyFits.j0, if_true]) (by rw [fits_works]; exact Ev.now _)
theorem fits_j3 (l : List S26) (a b c d n : Int) (hl : l.length ≤ 300) (h : ver l ⟨a, b, c, d⟩ = (n, 0)) : Ev (fun k => carillonlaw19_VerifyFits.j3 k l a b c d) true := by
  obtain ⟨hm, h0, h1, _⟩ := ver_ok (l := l) (c := ⟨a, b, c, d⟩) (by rw [h])
  have hp := ver_pair (l := l) (c := ⟨a, b, c, d⟩) (by rw [h])
  rw [h] at hp
  have hr := mayC_iff.1 hm
  simp only at hr
  refine Ev.step (f := fun _ => if c < 64 then (if ([] : List S26).length + l.length < 8796093022208 then ((verify_Verify.f (([] : List S26) ++ l) a b (wrap64 (c + 1)) d).bind fun bt484 => (if bt484.1 = 0 then (if bt484.2 = 193 then ((carillonlaw19_works.f).bind fun t486 => (some t486)) else (some false)) else (some false))) else (none)) else ((carillonlaw19_works.f).bind fun t487 => (some t487))) (fun k => by simp only [carillonlaw19_VerifyFits.j3]) ?_
  by_cases hc : c < 64
  · refine Ev.yes hc (Ev.yes (by simp only [List.length_nil]; omega) ?_)
    have hw : wrap64 (c + 1) = c + 1 := by unfold wrap64; omega
    rw [List.nil_append, hw]
    have hv : verify_Verify.f l a b (c + 1) d = some (0, 193) := by
      show some (ver l ⟨a, b, c + 1, d⟩) = _
      obtain ⟨e, he⟩ : ∃ e, l.length = e + 1 := ⟨l.length - 1, by omega⟩
      refine congrArg some (ver_of (mayC_iff.2 ⟨hr.1, hr.2.1, by simp only; omega, hr.2.2.2⟩) h0 h1 ?_)
      rw [he] at hp ⊢
      exact vgo_write (c := ⟨a, b, c, d⟩) (c' := ⟨a, b, c + 1, d⟩) rfl rfl rfl rfl hr.2.2.1.1 hc (by omega) hp
    rw [hv, fits_works]
    exact Ev.now _
  · refine Ev.no hc ?_
    rw [fits_works]
    exact Ev.now _
theorem fits_all (l : List S26) (a b c d x : Int) (hx : 0 ≤ x ∧ x < 256) : Ev (fun k => carillonlaw19_VerifyFits.f k l a b c d x) true := by
  unfold carillonlaw19_VerifyFits.f
  by_cases hl : (l.length : Int) > 300
  · exact Ev.yes hl (fits_j0t _ _ _ _ _ _)
  refine Ev.no hl ?_
  show Ev (fun k => carillonlaw19_VerifyFits.j0 k l x (!(mayC a b c d)) a b c d) true
  cases hm : mayC a b c d with
  | false => exact fits_j0t _ _ _ _ _ _
  | true =>
    have hr := mayC_iff.1 hm
    have hx1 : wrap64 x = x := by unfold wrap64; omega
    have m1 : mn (wrap64 (a + wrap64 x)) 512 = min (a + x) 512 := by rw [hx1]; unfold mn wrap64; rw [Int.min_def]; split <;> split <;> omega
    have m2 : mn (wrap64 (b + wrap64 x)) 64 = min (b + x) 64 := by rw [hx1]; unfold mn wrap64; rw [Int.min_def]; split <;> split <;> omega
    have m3 : mn (wrap64 (d + wrap64 x)) 256 = min (d + x) 256 := by rw [hx1]; unfold mn wrap64; rw [Int.min_def]; split <;> split <;> omega
    obtain ⟨a', ha'⟩ : ∃ a', min (a + x) 512 = a' := ⟨_, rfl⟩
    obtain ⟨b', hb'⟩ : ∃ b', min (b + x) 64 = b' := ⟨_, rfl⟩
    obtain ⟨d', hd'⟩ : ∃ d', min (d + x) 256 = d' := ⟨_, rfl⟩
    have ra : a ≤ a' ∧ a' ≤ 512 := by rw [← ha', Int.min_def]; split <;> omega
    have rb : b ≤ b' ∧ b' ≤ 64 := by rw [← hb', Int.min_def]; split <;> omega
    have rd' : d ≤ d' ∧ d' ≤ 256 := by rw [← hd', Int.min_def]; split <;> omega
    refine Ev.step (f := fun k => if ([] : List S26).length + l.length < 8796093022208 then ((verify_Verify.f (([] : List S26) ++ l) a b c d).bind fun bt462 => (if bt462.2 = 0 then ((verify_Verify.f (([] : List S26) ++ l) a' b' c d').bind fun bt469 => (if bt469.1 = bt462.1 then (carillonlaw19_VerifyFits.j1 k l bt462.1 (bt469.2 != 0) a b c d a' b' c d') else (carillonlaw19_VerifyFits.j1 k l bt462.1 true a b c d a' b' c d'))) else (if bt462.1 = 0 then ((carillonlaw19_works.f).bind fun t464 => (some t464)) else (some false)))) else (none)) (fun k => ?_) (Ev.yes (by simp only [List.length_nil]; omega) ?_)
    · simp only [carillonlaw19_VerifyFits.j0, Bool.not_true, Bool.false_eq_true, if_false, m1, m2, m3, ha', hb', hd']
    rw [List.nil_append]
    have e1 : ∀ p q r s, verify_Verify.f l p q r s = some (ver l ⟨p, q, r, s⟩) := fun _ _ _ _ => rfl
    simp only [e1, Option.bind_some]
    by_cases hv : (ver l ⟨a, b, c, d⟩).2 = 0
    · refine Ev.yes hv ?_
      obtain ⟨_, h0, h1, _⟩ := ver_ok hv
      have hp := ver_pair hv
      obtain ⟨n, hn⟩ : ∃ n, (ver l ⟨a, b, c, d⟩).1 = n := ⟨_, rfl⟩
      have hvv : ver l ⟨a, b, c, d⟩ = (n, 0) := by rw [← hn, ← hv]
      rw [hn] at hp
      rw [hvv]
      have hn0 := vgo_most hp
      have hn1 := vgo_le (c := ⟨a, b, c, d⟩) (by simp only; omega) hp
      simp only at hn1
      have v1 : ver l ⟨a', b', c, d'⟩ = (n, 0) := ver_of (mayC_iff.2 ⟨by simp only; omega, by simp only; omega, hr.2.2.1, by simp only; omega⟩) h0 h1 (vgo_more (c := ⟨a, b, c, d⟩) (c' := ⟨a', b', c, d'⟩) ra.1 rb.1 rfl (by simp only; omega) hp)
      rw [v1]
      refine Ev.yes rfl ?_
      have hmx : mx n 1 = max n 1 := by unfold mx; rw [Int.max_def]; split <;> split <;> omega
      have v2 : ver l ⟨a', b', c, mx n 1⟩ = (n, 0) := by
        refine ver_of (mayC_iff.2 ⟨by simp only; omega, by simp only; omega, hr.2.2.1, ?_⟩) h0 h1 (vgo_more (c := ⟨a, b, c, d⟩) (c' := ⟨a', b', c, mx n 1⟩) ra.1 rb.1 rfl ?_ hp)
        · simp only; rw [hmx, Int.max_def]; split <;> omega
        · simp only; rw [hmx, Int.max_def]; split <;> omega
      refine Ev.step (f := fun k => carillonlaw19_VerifyFits.j2 k l n false a b c d a' b' c (mx n 1)) (fun k => ?_) ?_
      · simp only [carillonlaw19_VerifyFits.j1, bne_self_eq_false, Bool.false_eq_true, if_false]
        rw [if_pos (by simp only [List.length_nil]; omega), List.nil_append, e1, v2, Option.bind_some, if_pos rfl]
        rfl
      · refine Ev.step (f := fun k => if n > 1 then (if ([] : List S26).length + l.length < 8796093022208 then ((verify_Verify.f (([] : List S26) ++ l) a' b' c (wrap64 (n - 1))).bind fun bt479 => (if bt479.1 = 0 then (if bt479.2 = 191 then (carillonlaw19_VerifyFits.j3 k l a b c d) else (some false)) else (some false))) else (none)) else (carillonlaw19_VerifyFits.j3 k l a b c d)) (fun k => by simp only [carillonlaw19_VerifyFits.j2, Bool.false_eq_true, if_false]) ?_
        by_cases hn2 : n > 1
        · refine Ev.yes hn2 (Ev.yes (by simp only [List.length_nil]; omega) ?_)
          have hw : wrap64 (n - 1) = n - 1 := by unfold wrap64; omega
          have v3 : ver l ⟨a', b', c, n - 1⟩ = (0, 191) := ver_of (mayC_iff.2 ⟨by simp only; omega, by simp only; omega, hr.2.2.1, by simp only; omega⟩) h0 h1 (vgo_low (c := ⟨a, b, c, d⟩) (c' := ⟨a', b', c, n - 1⟩) ra.1 rb.1 rfl rfl (by omega) hp)
          rw [List.nil_append, hw, e1, v3]
          simp only [Option.bind_some]
          exact Ev.yes trivial (Ev.yes trivial (fits_j3 l a b c d n (by omega) hvv))
        · exact Ev.no hn2 (fits_j3 l a b c d n (by omega) hvv)
    · refine Ev.no hv (Ev.yes (ver_err hv) ?_)
      rw [fits_works]
      exact Ev.now _
theorem VerifyFits : ∀ (y0 : List (S26)) (y1 : S48) (y2 : Int), (fun l : List (S26) => l.length ≤ 9223372036854775807 ∧ l.length * 16 ≤ 140737488351232 ∧ ∀ x ∈ l, G26 x) y0 → G48 y1 → (fun x : Int => (Lit.int .u8 x).wf = true) y2 → ∃ k, carillonlaw19_VerifyFits.f k y0 y1.f0 y1.f1 y1.f2 y1.f3 y2 = some true := by
  intro l c x _ _ hx
  refine Ev.rounds (fits_all l c.f0 c.f1 c.f2 c.f3 x ?_)
  simp [Lit.wf, IntKind.min, IntKind.max, IntKind.bits, IntKind.signed] at hx
  omega
end Go.Proofs.Ytnaapecmooljaaa.H.Pure
