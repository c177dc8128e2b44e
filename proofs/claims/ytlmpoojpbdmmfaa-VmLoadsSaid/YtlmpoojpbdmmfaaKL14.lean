/- Part 14 of the proof of the law L. The conditions: none. (Its parts: Load22.) -/
import Derived.Test.YtlmpoojpbdmmfaaKL11
import Derived.Test.YtlmpoojpbdmmfaaKL12
import Derived.Test.YtlmpoojpbdmmfaaKL13
section
set_option linter.unusedVariables false
set_option linter.unusedSimpArgs false
namespace Go.Proofs.Ytlmpoojpbdmmfaa.H
open Go.RowKit Go.Proofs.YtlmpoojpbdmmfaaW.PrintWords Go.Proofs.YtlmpoojpbdmmfaaW.PrintLast Go.Proofs.YtlmpoojpbdmmfaaW.PrintMore Go.Maps
theorem goesP_from {n : Nat} {m : Nat → Option Vst} {s : Vst} {tg : Nat} {be : Int} {j : Nat} (h : (goesP n m s tg be).1 j ≠ none) : m j ≠ none ∨ j = tg := by
  by_cases e : j = tg
  · exact .inr e
  · rw [goesP_at e] at h; exact .inl h
theorem folP_from {n : Nat} {m : Nat → Option Vst} {s : Vst} {p : Nat} {i : S53} {j : Nat} (h : (folP n m s p i).1 j ≠ none) : m j ≠ none ∨ j ∈ tg19 i p := by
  unfold folP at h
  unfold tg19
  by_cases e1 : i.f0 = 23
  · rw [if_pos e1] at h; exact .inl h
  rw [if_neg e1] at h ⊢
  by_cases e2 : i.f0 = 21
  · rw [if_pos e2] at h ⊢
    exact (goesP_from h).imp id (fun e => by simp [e])
  rw [if_neg e2] at h ⊢
  by_cases e3 : i.f0 = 22
  · rw [if_pos e3] at h ⊢
    by_cases e4 : (goesP n m s (p + 1) 195).2 = 0
    · rw [if_pos e4] at h
      rcases goesP_from h with h | h
      · exact (goesP_from h).imp id (fun e => by simp [e])
      · exact .inr (by simp [h])
    · rw [if_neg e4] at h
      exact (goesP_from h).imp id (fun e => by simp [e])
  · rw [if_neg e3] at h ⊢
    exact (goesP_from h).imp id (fun e => by simp [e])
theorem vgo_pred {l : List S53} {c : Cf} : ∀ {d k : Nat} {m : Nat → Option Vst} {most n : Int}, d + k = l.length → vgo l c d k m most = (n, 0) → (∀ j, m j ≠ none → j = 0 ∨ ∃ q, q < k ∧ j ∈ tg19 (rd_T53 l (q : Int)) q) →
    ∀ p, k ≤ p → p < l.length → p = 0 ∨ ∃ q, q < p ∧ p ∈ tg19 (rd_T53 l (q : Int)) q
  | 0, k, m, most, n, hd, h, hm, p, h1, h2 => by omega
  | d + 1, k, m, most, n, hd, h, hm, p, h1, h2 => by
    obtain ⟨s, a1, _, _, a4⟩ := vgo_step h
    rcases Nat.eq_or_lt_of_le h1 with e | e
    · subst e
      exact hm k (by rw [a1]; simp)
    · refine vgo_pred (by omega) a4 (fun j hj => ?_) p e h2
      by_cases ej : j = k
      · rw [if_pos ej] at hj; exact absurd rfl hj
      · rw [if_neg ej] at hj
        rcases folP_from hj with hj | hj
        · rw [if_neg ej] at hj
          rcases hm j hj with h | ⟨q, q1, q2⟩
          · exact .inl h
          · exact .inr ⟨q, by omega, q2⟩
        · exact .inr ⟨k, by omega, hj⟩
theorem ver_pred {l : List S53} {c : Cf} (h : (ver l c).2 = 0) : ∀ p, p < l.length → p = 0 ∨ ∃ q, q < p ∧ p ∈ tg19 (rd_T53 l (q : Int)) q := fun p hp =>
  vgo_pred (by omega) (ver_pair h) (fun j hj => by
    by_cases e : j = 0
    · exact .inl e
    · rw [if_neg e] at hj; exact absurd rfl hj) p (Nat.zero_le _) hp
def intR : Value → Option (DataW Unit × List MemPlace)
  | .int .i64 x => some (.lit (.int .i64 x), [])
  | _ => none
theorem intR_inv {v : Value} {x : Int} {ps : List MemPlace} (h : intR v = some (.lit (.int .i64 x), ps)) : v = .int .i64 x := by
  unfold intR at h
  split at h
  · simp at h
    rw [h.1]
  · simp at h
theorem under110 : Try.prog.underlying 110 = some (.map 3 3) := by kernel_rfl
theorem zero3 (w : World) : (zeroValue 3).run Try.prog w = .ok (.int .i64 0) w := by kernel_rfl
def HM (W : World) (M n : Nat) (f : Nat → Int) : Prop := ∃ D : DataW Unit, W.ownsMap Try.prog 3 intR M n D ∧ ∀ k, k ≤ 100000 → D.atKey (keyI k) (.lit (.int .i64 0)) = .lit (.int .i64 (f k))
theorem HM.made (w : World) : HM (w.alloc (.map #[] 0)) w.heap.size 0 (fun _ => 0) := ⟨_, World.ownsMap_made w Try.prog 3 intR, fun k hk => (by rfl)⟩
theorem HM.lt {W : World} {M n : Nat} {f : Nat → Int} (h : HM W M n f) : M < W.heap.size := by
  obtain ⟨D, hD, _⟩ := h
  exact hD.lt
theorem HM.below {W W' : World} {M n : Nat} {f : Nat → Int} (h : HM W M n f) (hb : Below W.heap.size W W') : HM W' M n f := by
  have hlt := h.lt
  obtain ⟨D, ⟨es, c, hh, r⟩, hD⟩ := h
  exact ⟨D, ⟨es, c, (hb.block M hlt).trans hh, r⟩, hD⟩
theorem HM.look {W : World} {M n : Nat} {f : Nat → Int} (h : HM W M n f) {k : Nat} (hk : k ≤ 100000) : (Instr.lookup 110 (.map (some M)) (.int .i64 (k : Int)) false).run Try.prog W = .ok (.int .i64 (f k)) W := by
  obtain ⟨D, hD, hat⟩ := h
  obtain ⟨v, ps, hrun, hv⟩ := hD.lookup key3 under110 (zero3 W) (zd := .lit (.int .i64 0)) (zp := []) rfl (key_of k hk)
  rw [hat k hk] at hv
  rw [hrun, intR_inv hv]
theorem HM.put {W : World} {M n : Nat} {f : Nat → Int} (h : HM W M n f) (hn : n < 100000) {k : Nat} (hk : k ≤ 100000) (v : Int) :
    ∃ W', (Instr.mapUpdate 110 (.map (some M)) (.int .i64 (k : Int)) (.int .i64 v)).run Try.prog W = .ok () W' ∧ HM W' M (n + 1) (fun j => if j = k then v else f j) ∧ W.grownBy W' (some M) := by
  obtain ⟨D, hD, hat⟩ := h
  obtain ⟨W', r, hD', hg⟩ := hD.update key3 under110 (by unfold maxLen; omega) (key_of k hk) (rfl : intR (.int .i64 v) = some (.lit (.int .i64 v), []))
  refine ⟨W', r, ⟨_, hD', fun j hj => ?_⟩, hg⟩
  by_cases e : j = k
  · subst e
    rw [atKey_put_same hD.isMap (key3.key (key_of j hj))]
    simp only [if_true]
  · rw [atKey_put_other (keyI_ne e)]
    simp only [e, if_false]
    exact hat j hj
theorem HM.apart {W : World} {M n k : Nat} {f : Nat → Int} {cs : Array Value} {t : TypeId} {fr : Nat × Nat} (h : HM W M n f) (hk : W.heap[k]? = some (.cells cs t fr)) : k ≠ M := by
  rintro rfl
  obtain ⟨D, ⟨es, c, hb, _⟩, _⟩ := h
  rw [hb] at hk
  cases hk
theorem grown_below {B M : Nat} {w W W' : World} (hb : Below B w W) (hg : W.grownBy W' (some M)) (hM : B ≤ M) (hB : B ≤ w.heap.size) : Below B w W' :=
  ⟨hg.os.trans hb.os, hg.tape.trans hb.tape, hg.output.trans hb.output, Nat.le_trans hb.size hg.size, fun k hk => (hg.block k (Nat.lt_of_lt_of_le (Nat.lt_of_lt_of_le hk hB) hb.size) (fun e => by injection e with e; omega)).trans (hb.block k hk)⟩
def Hts (l : List S53) (Av : Nat → Vst) (k : Nat) (f : Nat → Int) : Prop := f 0 = (Av 0).h ∧ ∀ q, q < k → ∀ j, j ∈ tg19 (rd_T53 l (q : Int)) q → f j = (Av j).h
theorem Hts.put {l : List S53} {Av : Nat → Vst} {k : Nat} {f : Nat → Int} (H : Hts l Av k f) {t : Nat} {v : Int} (hv : v = (Av t).h) : Hts l Av k (fun j => if j = t then v else f j) := by
  refine ⟨?_, fun q hq j hj => ?_⟩
  · by_cases e : 0 = t
    · subst e; simpa using hv
    · simp only [e, if_false]; exact H.1
  · by_cases e : j = t
    · subst e; simpa using hv
    · simp only [e, if_false]; exact H.2 q hq j hj
theorem Hts.next {l : List S53} {Av : Nat → Vst} {k : Nat} {f : Nat → Int} (H : Hts l Av k f) (h : ∀ j, j ∈ tg19 (rd_T53 l (k : Int)) k → f j = (Av j).h) : Hts l Av (k + 1) f := by
  refine ⟨H.1, fun q hq j hj => ?_⟩
  by_cases e : q = k
  · subst e; exact h j hj
  · exact H.2 q (by omega) j hj
set_option maxHeartbeats 8000000 in
set_option maxRecDepth 100000 in
theorem high_calls {W : World} {A : Option Addr} {cap : Nat} {l : List S53} {c : Cf} {m : Int} {Av : Nat → Vst} (hC : Kd.C k53 W A l.length l) (hcap : l.length ≤ cap) (hg : ∀ p, p < l.length → Good l c m Av p) (h0 : (Av 0).h = 0)
    (hp : ∀ p, p < l.length → p = 0 ∨ ∃ q, q < p ∧ p ∈ tg19 (rd_T53 l (q : Int)) q) {at_ : Nat} (hat : at_ < l.length) (hl : l.length ≤ 4096) :
    Calls Try.prog 43 #[.slice A l.length cap, .int .i64 (at_ : Int)] W fun e W' => e = .returned (.int .i64 (Av at_).h) ∧ Below W.heap.size W W' := by
  obtain ⟨ad, rfl, _⟩ := at_T53 hC (at_ : Int) (by omega) (by omega)
  have hmm := @run_makeMap Try.prog
  have HM0 := HM.made W
  have B0 := (Below.refl W.heap.size W).alloc (Nat.le_refl _) (.map #[] 0)
  obtain ⟨W1, r1, HM1, g1⟩ := HM0.put (by decide) (k := 0) (by decide) 0
  have r1' : (Instr.mapUpdate 110 (.map (some W.heap.size)) (.int .i64 0) (.int .i64 0)).run Try.prog (W.alloc (.map #[] 0)) = .ok () W1 := r1
  have B1 := Aside0.mk (grown_below B0 g1 (Nat.le_refl _) (Nat.le_refl _))
  have HF1 : Aside0 (HM W1 W.heap.size 1 (fun _ => 0) ∧ Hts l Av 0 (fun _ => 0)) := ⟨by
    have e : (fun j : Nat => if j = 0 then (0 : Int) else (fun _ => 0) j) = fun _ => 0 := by funext j; simp
    rw [e] at HM1
    exact ⟨HM1, h0.symm, fun q hq => by omega⟩⟩
  have HC := Aside0.mk hC
  have HG := Aside0.mk hg
  have HP := Aside0.mk hp
  have HL := Aside0.mk (And.intro hat (And.intro hl hcap))
  have s1 : at_ ≤ cap := by omega
  have s2 : (at_ : Int) ≤ (cap : Int) := by omega
  generalize hM : W.heap.size = M at B1 HF1 r1' hmm ⊢
  have HMM := Aside0.mk hM
  clear hC hg h0 hp hat hl hcap HM0 B0 r1 HM1 g1
  go_enter Try.func43, Try.ntmps43
  go_wp2_with fail
  go_loopg [17] (at_) (fun kq v17 wr => ∃ (k n : Nat) (f : Nat → Int), v17 = .int .i64 (k : Int) ∧ kq + k = at_ ∧ n ≤ 2 * k + 1 ∧ Aside0 (HM wr M n f ∧ Hts l Av k f) ∧ Aside0 (Below M W wr))
  case atStart => exact ⟨0, 1, _, rfl, by omega, by omega, HF1, B1⟩
  case round =>
    obtain ⟨k, n, f, rfl, hik, hn, HF, HB⟩ := hrel
    clear r1' hmm
    by_cases hlt : k < at_
    · obtain ⟨go, rfl⟩ : ∃ go, gk = go + 1 := ⟨gk - 1, by omega⟩
      have hk : k < l.length := by have := HL.out; omega
      have hk4 : k < 4096 := by have := HL.out; omega
      obtain ⟨ad', e, hc1, hc2⟩ := at_T53 (Kd.C_below HC.out (by rw [HMM.out]; exact HB.out)) (k : Int) (by omega) (by omega)
      injection e with e
      subst e
      simp only [Int.toNat_natCast] at hc1 hc2
      have hgood := HG.out k hk
      have hfk : f k = (Av k).h := by
        rcases HP.out k hk with h | ⟨q, hq, hm⟩
        · subst h; exact HF.out.2.1
        · exact HF.out.2.2 q hq k hm
      obtain ⟨hm, ht, _, _⟩ := chk_good hgood.chk
      have hnx : ∀ j, j ∈ tg19 (rd_T53 l (k : Int)) k → (Av j).h = (Av k).h - tks (rd_T53 l (k : Int)).f0 + gvs (rd_T53 l (k : Int)).f0 := fun j hj => by
        have := (hgood.next j hj).2.2.h
        rw [this, chk_h hgood.chk]
      have hh := hgood.ok.2
      have harg := may_arg hm
      obtain ⟨i, hi⟩ : ∃ i, rd_T53 l (k : Int) = i := ⟨_, rfl⟩
      have HII := Aside0.mk hi
      rw [hi] at hc1 hc2 hm ht hnx harg
      obtain ⟨op, ar⟩ := i
      simp only at hc1 hc2 hm ht hnx harg
      have htg := tg_range op
      obtain ⟨h, hhe⟩ : ∃ h, (Av k).h = h := ⟨_, rfl⟩
      rw [hhe] at hh hfk hnx ht
      obtain ⟨tk, htk⟩ : ∃ t, tks op = t := ⟨_, rfl⟩
      obtain ⟨gv, hgv⟩ : ∃ t, gvs op = t := ⟨_, rfl⟩
      have hE : Aside0 (verify_Effect.f op = some (tk, gv)) := ⟨by rw [← htk, ← hgv]; rfl⟩
      rw [htk, hgv] at hnx htg
      rw [htk] at ht
      have HNX := Aside0.mk hnx
      have HFK := Aside0.mk hfk
      have e1 : decide ((k : Int) < (at_ : Int)) = true := decide_eq_true (by omega)
      have e2 : decide (k < at_) = true := decide_eq_true hlt
      obtain ⟨t1, t2⟩ := htg
      obtain ⟨hh1, hh2⟩ := hh
      have HOP := Aside0.mk (And.intro hm harg)
      clear hi hhe htk hgv hnx hfk hgood hm
      go_wp2_with fail
      have X5 := Aside0.mk (heap_alloc_new wr (.cells #[.int .u8 op, .int .i64 ar] (53 : Nat)))
      have B5 := Aside0.mk ((Below.refl wr.heap.size wr).alloc (Nat.le_refl _) (.cells #[.int .u8 op, .int .i64 ar] (53 : Nat)))
      have Z5 : Aside0 (wr.heap.size < (wr.alloc (.cells #[.int .u8 op, .int .i64 ar] (53 : Nat))).heap.size) := ⟨by simp⟩
      generalize wr.alloc (.cells #[.int .u8 op, .int .i64 ar] (53 : Nat)) = W5 at X5 B5 Z5 ⊢
      refine (verify_Effect.calls op tk gv _ hE.out).mono ?_
      rintro e W6 ⟨rfl, hd⟩
      have hb6 := hd.below
      have X6 := Aside0.mk ((hb6.block _ Z5.out).trans X5.out)
      have B6 := Aside0.mk (B5.out.trans (hb6.mono B5.out.size))
      have HM6 := HF.out.1.below B6.out
      have HX6 := HF.out.2
      have BW6 : Aside0 (Below M W W6) := ⟨HB.out.trans (B6.out.mono (by rw [← HMM.out]; exact HB.out.size))⟩
      have HMw : M ≤ W.heap.size := by rw [HMM.out]; exact Nat.le_refl _
      have HMW := Aside0.mk HMw
      generalize hib : wr.heap.size = ib at X6
      have rL := HM6.look (k := k) (by omega)
      rw [HFK.out] at rL
      have y0 : W6.cell? ⟨ib, 0, none⟩ = some (.int .u8 op) := by simp [World.cell?, X6.out]
      have y1 : W6.cell? ⟨ib, 1, none⟩ = some (.int .i64 ar) := by simp [World.cell?, X6.out]
      have NEQ := Aside0.mk (HM6.apart X6.out)
      have HM6' := Aside0.mk HM6
      have HX6' := Aside0.mk HX6
      clear hd hb6 X5 B5 Z5 HF HB HM6 HX6 B6 hib e1 e2 hlt HMw HFK hc1 hc2
      have kar : op = 21 ∨ op = 22 → Aside0 (((k + ar.toNat : Nat) : Int) = (k : Int) + ar ∧ k + ar.toNat ≤ 100000 ∧ 1 ≤ ar ∧ ar ≤ 4096) := fun hh => by
        have := HOP.out.2
        refine ⟨?_⟩
        rcases this with h | h
        · omega
        · rcases hh with hh | hh <;> simp [hh] at h
      by_cases h22 : op = 22
      · have KAR := kar (.inr h22)
        subst h22
        obtain ⟨W7, p1, HM7, g7⟩ := HM6'.out.put (by omega) (k := k + 1) (by omega) (h - tk + gv)
        obtain ⟨W8, p2, HM8, g8⟩ := HM7.put (by omega) (k := k + ar.toNat) KAR.out.2.1 (h - tk + gv)
        rw [KAR.out.1] at p2
        rw [show ((k + 1 : Nat) : Int) = (k : Int) + 1 by omega] at p1
        have X7 := (g7.block ib (Array.getElem?_eq_some_iff.1 X6.out).1 (fun e => NEQ.out (by injection e))).trans X6.out
        have z1 : W7.cell? ⟨ib, 1, none⟩ = some (.int .i64 ar) := by simp [World.cell?, X7]
        have HN7 := Aside0.mk (And.intro HM8 (And.intro g7 g8))
        have ha1 := KAR.out.2.2.1
        have ha2 := KAR.out.2.2.2
        clear HM7 HM8 g7 g8 X7 kar
        go_wp2
        go_roundg go
        case measure => omega
        case rel =>
          refine ⟨k + 1, n + 1 + 1, _, by go_num, by omega, by omega, ⟨HN7.out.1, ?_⟩, ⟨grown_below (grown_below BW6.out HN7.out.2.1 (Nat.le_refl _) HMW.out) HN7.out.2.2 (Nat.le_refl _) HMW.out⟩⟩
          have hm1 : k + 1 ∈ tg19 ⟨22, ar⟩ k := by simp [tg19]
          have hm2 : k + ar.toNat ∈ tg19 ⟨22, ar⟩ k := by simp [tg19]
          refine ((HX6'.out.put (HNX.out _ hm1).symm).put (HNX.out _ hm2).symm).next (fun j hj => ?_)
          rw [HII.out] at hj
          rw [HNX.out j hj]
          simp [tg19] at hj
          rcases hj with rfl | rfl
          · simp
          · simp
      by_cases h21 : op = 21
      · have KAR := kar (.inl h21)
        subst h21
        obtain ⟨W7, p1, HM7, g7⟩ := HM6'.out.put (by omega) (k := k + ar.toNat) KAR.out.2.1 (h - tk + gv)
        rw [KAR.out.1] at p1
        have HN7 := Aside0.mk (And.intro HM7 g7)
        have ha1 := KAR.out.2.2.1
        have ha2 := KAR.out.2.2.2
        clear HM7 g7 kar h22
        go_wp2
        go_roundg go
        case measure => omega
        case rel =>
          refine ⟨k + 1, n + 1, _, by go_num, by omega, by omega, ⟨HN7.out.1, ?_⟩, ⟨grown_below BW6.out HN7.out.2 (Nat.le_refl _) HMW.out⟩⟩
          have hm2 : k + ar.toNat ∈ tg19 ⟨21, ar⟩ k := by simp [tg19]
          refine (HX6'.out.put (HNX.out _ hm2).symm).next (fun j hj => ?_)
          rw [HII.out] at hj
          rw [HNX.out j hj]
          simp [tg19] at hj
          subst hj
          simp
      by_cases h23 : op = 23
      · subst h23
        clear kar h22 h21
        go_wp2
        go_roundg go
        case measure => omega
        case rel =>
          refine ⟨k + 1, n, _, by go_num, by omega, by omega, ⟨HM6'.out, ?_⟩, BW6⟩
          refine HX6'.out.next (fun j hj => ?_)
          rw [HII.out] at hj
          simp [tg19] at hj
      · obtain ⟨W7, p1, HM7, g7⟩ := HM6'.out.put (by omega) (k := k + 1) (by omega) (h - tk + gv)
        rw [show ((k + 1 : Nat) : Int) = (k : Int) + 1 by omega] at p1
        have HN7 := Aside0.mk (And.intro HM7 g7)
        have q22 : (op == 22) = false := beq_eq_false_iff_ne.mpr h22
        have q21 : (op == 21) = false := beq_eq_false_iff_ne.mpr h21
        have q23 : (op == 23) = false := beq_eq_false_iff_ne.mpr h23
        have HQ := Aside0.mk (And.intro h22 (And.intro h21 h23))
        clear HM7 g7 kar h22 h21 h23
        go_wp2
        go_roundg go
        case measure => omega
        case rel =>
          refine ⟨k + 1, n + 1, _, by go_num, by omega, by omega, ⟨HN7.out.1, ?_⟩, ⟨grown_below BW6.out HN7.out.2 (Nat.le_refl _) HMW.out⟩⟩
          obtain ⟨a22, a21, a23⟩ := HQ.out
          have hm1 : k + 1 ∈ tg19 ⟨op, ar⟩ k := by simp [tg19, a22, a21, a23]
          refine (HX6'.out.put (HNX.out _ hm1).symm).next (fun j hj => ?_)
          rw [HII.out] at hj
          rw [HNX.out j hj]
          simp [tg19, a22, a21, a23] at hj
          subst hj
          simp
    · have e1 : decide ((k : Int) < (at_ : Int)) = false := decide_eq_false (by omega)
      have e2 : decide (k < at_) = false := decide_eq_false hlt
      have hka : k = at_ := by omega
      subst hka
      have hfk : f k = (Av k).h := by
        rcases HP.out k HL.out.1 with h | ⟨q, hq, hm⟩
        · subst h; exact HF.out.2.1
        · exact HF.out.2.2 q hq k hm
      have rL := HF.out.1.look (k := k) (by have := HL.out; omega)
      rw [hfk] at rL
      clear hfk hlt hik hn
      go_wp2
      go_ret
      exact ⟨rfl, HB.out⟩
end Go.Proofs.Ytlmpoojpbdmmfaa.H
set_option linter.unusedVariables false
set_option linter.unusedSimpArgs false
namespace Go.Proofs.Ytlmpoojpbdmmfaa.H
open Go.RowKit Go.Proofs.YtlmpoojpbdmmfaaW.PrintWords Go.Proofs.YtlmpoojpbdmmfaaW.PrintLast Go.Proofs.YtlmpoojpbdmmfaaW.PrintMore Go.Maps
def cxI (at_ : Int) (sv tv iv ov : Value) (sp : Int) (en : Bool) : Array Value := #[.int .i64 at_, sv, tv, iv, ov, .int .i64 sp, .bool en]
structure Four (W : World) (lo : Nat) (a b c d : List Int) (sv tv iv ov : Value) : Prop where
  st : IR W sv a
  sl : IR W tv b
  inn : IR W iv c
  ou : IR W ov d
  d1 : ∀ k, sv.ownBlock = some k → tv.ownBlock ≠ some k ∧ iv.ownBlock ≠ some k ∧ ov.ownBlock ≠ some k
  d2 : ∀ k, tv.ownBlock = some k → iv.ownBlock ≠ some k ∧ ov.ownBlock ≠ some k
  d3 : ∀ k, iv.ownBlock = some k → ov.ownBlock ≠ some k
  lo : ∀ k, (sv.ownBlock = some k ∨ tv.ownBlock = some k ∨ iv.ownBlock = some k ∨ ov.ownBlock = some k) → lo ≤ k ∧ k < W.heap.size
theorem Four.move {W W1 : World} {lo : Nat} {a b c d : List Int} {sv tv iv ov : Value} (h : Four W lo a b c d sv tv iv ov) (hs : W.heap.size ≤ W1.heap.size) (hm : ∀ k, (sv.ownBlock = some k ∨ tv.ownBlock = some k ∨ iv.ownBlock = some k ∨ ov.ownBlock = some k) → W1.heap[k]? = W.heap[k]?) : Four W1 lo a b c d sv tv iv ov :=
  ⟨h.st.move (fun k hk => hm k (.inl hk)), h.sl.move (fun k hk => hm k (.inr (.inl hk))), h.inn.move (fun k hk => hm k (.inr (.inr (.inl hk)))), h.ou.move (fun k hk => hm k (.inr (.inr (.inr hk)))), h.d1, h.d2, h.d3, fun k hk => ⟨(h.lo k hk).1, Nat.lt_of_lt_of_le (h.lo k hk).2 hs⟩⟩
theorem Four.below {W W1 : World} {lo : Nat} {a b c d : List Int} {sv tv iv ov : Value} (h : Four W lo a b c d sv tv iv ov) (hb : Below W.heap.size W W1) : Four W1 lo a b c d sv tv iv ov :=
  h.move hb.size (fun k hk => hb.block k (h.lo k hk).2)
theorem requal_l0 (xs : List Int) (hx : xs.length ≤ 1000000) : ∀ (d i k : Nat), d + i = xs.length → d + 1 ≤ k → carillonref22_equal.l0 k xs xs (i : Int) = some true
  | 0, i, k, h, hk => by
    obtain ⟨j, rfl⟩ : ∃ j, k = j + 1 := ⟨k - 1, by omega⟩
    rw [carillonref22_equal.l0, if_neg (by omega)]
  | d + 1, i, k, h, hk => by
    obtain ⟨j, rfl⟩ : ∃ j, k = j + 1 := ⟨k - 1, by omega⟩
    rw [carillonref22_equal.l0, if_pos (by omega), if_pos (by omega), if_pos (by omega), if_pos rfl]
    have e : wrap64 ((i : Int) + 1) = ((i + 1 : Nat) : Int) := by unfold wrap64; omega
    rw [e]
    exact requal_l0 xs hx d (i + 1) j (by omega) (by omega)
theorem requal_f (xs : List Int) (hx : xs.length ≤ 1000000) (k : Nat) (hk : 1000001 ≤ k) : carillonref22_equal.f k xs xs = some true := by
  unfold carillonref22_equal.f
  rw [if_pos rfl]
  exact requal_l0 xs hx xs.length 0 k (by omega) (by omega)
theorem same_true {W : World} {at_ sp : Int} {en : Bool} {a b c d : List Int} {sv tv iv ov sv' tv' iv' ov' : Value} (h1 : IR W sv a) (h2 : IR W tv b) (h3 : IR W iv c) (h4 : IR W ov d) (k1 : IR W sv' a) (k2 : IR W tv' b) (k3 : IR W iv' c) (k4 : IR W ov' d)
    (l1 : a.length ≤ 1000000) (l2 : b.length ≤ 1000000) (l3 : c.length ≤ 1000000) (l4 : d.length ≤ 1000000) :
    Calls Try.prog 14 #[.agg (cxI at_ sv tv iv ov sp en), .agg (cxI at_ sv' tv' iv' ov' sp en)] W fun e W' => e = .returned (.bool true) ∧ Below W.heap.size W W' := by
  obtain ⟨A1, c1, rfl, hc1, _, hC1⟩ := h1.C
  obtain ⟨A2, c2, rfl, hc2, _, hC2⟩ := h2.C
  obtain ⟨A3, c3, rfl, hc3, _, hC3⟩ := h3.C
  obtain ⟨A4, c4, rfl, hc4, _, hC4⟩ := h4.C
  obtain ⟨B1, e1, rfl, he1, _, hE1⟩ := k1.C
  obtain ⟨B2, e2, rfl, he2, _, hE2⟩ := k2.C
  obtain ⟨B3, e3, rfl, he3, _, hE3⟩ := k3.C
  obtain ⟨B4, e4, rfl, he4, _, hE4⟩ := k4.C
  refine carillonref22_Same.calls 1000001 at_ A1 c1 a A2 c2 b A3 c3 c A4 c4 d sp en at_ B1 e1 a B2 e2 b B3 e3 c B4 e4 d sp en true W hC1 hc1 hC2 hc2 hC3 hc3 hC4 hc4 hE1 he1 hE2 he2 hE3 he3 hE4 he4 ?_
  unfold carillonref22_Same.f
  rw [if_pos rfl, requal_f a l1 _ (Nat.le_refl _), requal_f b l2 _ (Nat.le_refl _), requal_f c l3 _ (Nat.le_refl _), requal_f d l4 _ (Nat.le_refl _)]
  simp
theorem rcopied_f {xs : List Int} (h : xs.length ≤ 1000000) : carillonref22_copied.f xs = some xs := by
  unfold carillonref22_copied.f
  rw [if_pos (by simp; omega)]
  simp
theorem copy_made {W : World} {at_ sp : Int} {en : Bool} {a b c d : List Int} {A1 A2 A3 A4 : Option Addr} {q1 q2 q3 q4 : Nat} (h1 : Kd.C (Kd.int .i64) W A1 a.length a) (g1 : a.length ≤ q1) (h2 : Kd.C (Kd.int .i64) W A2 b.length b) (g2 : b.length ≤ q2) (h3 : Kd.C (Kd.int .i64) W A3 c.length c) (g3 : c.length ≤ q3) (h4 : Kd.C (Kd.int .i64) W A4 d.length d) (g4 : d.length ≤ q4)
    (l1 : a.length ≤ 1000000) (l2 : b.length ≤ 1000000) (l3 : c.length ≤ 1000000) (l4 : d.length ≤ 1000000) :
    Calls Try.prog 24 #[.agg (cxI at_ (.slice A1 a.length q1) (.slice A2 b.length q2) (.slice A3 c.length q3) (.slice A4 d.length q4) sp en)] W fun e W' => (∃ sv' tv' iv' ov', e = .returned (.agg (cxI at_ sv' tv' iv' ov' sp en)) ∧ Four W' W.heap.size a b c d sv' tv' iv' ov') ∧ Below W.heap.size W W' := by
  refine (carillonref22_Copy.calls at_ A1 q1 a A2 q2 b A3 q3 c A4 q4 d sp en at_ a b c d sp en W h1 g1 h2 g2 h3 g3 h4 g4 ?_).mono ?_
  · unfold carillonref22_Copy.f
    rw [rcopied_f l1, rcopied_f l2, rcopied_f l3, rcopied_f l4]
    rfl
  · rintro e W' ⟨v1, v2, v3, v4, rfl, r1, r2, r3, r4, hb⟩
    have i1 := IR_of_R r1
    have i2 := IR_of_R r2
    have i3 := IR_of_R r3
    have i4 := IR_of_R r4
    refine ⟨⟨v1, v2, v3, v4, rfl, ⟨i1.1, i2.1, i3.1, i4.1, fun k hk => ?_, fun k hk => ?_, fun k hk => ?_, fun k hk => ?_⟩⟩, hb⟩
    · have := r1.1 k hk
      exact ⟨fun e => this.1 e.symm, fun e => this.2.1 e.symm, fun e => this.2.2 e.symm⟩
    · have := r2.1 k hk
      exact ⟨fun e => this.2.1 e.symm, fun e => this.2.2 e.symm⟩
    · have := r3.1 k hk
      exact fun e => this.2.2 e.symm
    · rcases hk with hk | hk | hk | hk
      · exact i1.2 k hk
      · exact i2.2 k hk
      · exact i3.2 k hk
      · exact i4.2 k hk
end Go.Proofs.Ytlmpoojpbdmmfaa.H
set_option linter.unusedVariables false
set_option linter.unusedSimpArgs false
namespace Go.Proofs.Ytlmpoojpbdmmfaa.H
open Go.RowKit Go.Proofs.YtlmpoojpbdmmfaaW.PrintWords Go.Proofs.YtlmpoojpbdmmfaaW.PrintLast Go.Proofs.YtlmpoojpbdmmfaaW.PrintMore Go.Maps
def LdOk (l : List S53) (c : Cf) (Av : Nat → Vst) (at_ : Int) (ns nsl nin nou : Nat) (sp : Int) (en : Bool) : Prop :=
  0 ≤ at_ ∧ at_ < l.length ∧ (nsl : Int) = c.slots ∧ (nin : Int) = c.reads ∧ (nou : Int) = c.writes ∧ 0 ≤ sp ∧ sp ≤ 1099511627776 ∧ (en = true → (rd_T53 l at_).f0 = 23) ∧ (ns : Int) = (Av at_.toNat).h
def LdPost (ok : Prop) (W : World) (l : List S53) (c : Cf) (x : Ctx) (e : Ending) (W' : World) : Prop :=
  (ok → ∃ b, e = .returned (.tuple #[.pointer (some ⟨b, 0, none⟩), .int .i64 0]) ∧ VMem W' (fun k => W.heap.size ≤ k ∧ k < W'.heap.size) b c l x) ∧ (¬ ok → e = .returned (.tuple #[.pointer none, .int .i64 2])) ∧ Below W.heap.size W W'
theorem LdPost.bad {ok : Prop} {W W' : World} {l : List S53} {c : Cf} {x : Ctx} (h : ¬ ok) (hb : Below W.heap.size W W') : LdPost ok W l c x (.returned (.tuple #[.pointer none, .int .i64 2])) W' := ⟨fun k => absurd k h, fun _ => rfl, hb⟩
structure Bx (W : World) (B : Nat) (cs cr cw ck : Int) (cx : Array Value) : Prop where
  cf : W.heap[B]? = some (.cells #[.int .i64 cs, .int .i64 cr, .int .i64 cw, .int .i64 ck] (24 : Nat) (0, 0))
  cx : W.heap[B + 1]? = some (.cells cx (37 : Nat) (0, 0))
theorem Bx.below {W W' : World} {B : Nat} {cs cr cw ck : Int} {cx : Array Value} (h : Bx W B cs cr cw ck cx) (hb : Below W.heap.size W W') : Bx W' B cs cr cw ck cx :=
  ⟨(hb.block _ (Array.getElem?_eq_some_iff.1 h.cf).1).trans h.cf, (hb.block _ (Array.getElem?_eq_some_iff.1 h.cx).1).trans h.cx⟩
theorem Bx.cell {W : World} {B : Nat} {cs cr cw ck : Int} {cx : Array Value} (h : Bx W B cs cr cw ck cx) {j : Nat} {v : Value} (hv : cx[j]? = some v) : W.cell? ⟨B + 1, j, none⟩ = some v := by simp [World.cell?, h.cx, hv]
theorem Bx.cells {W : World} {B : Nat} {cs cr cw ck : Int} {cx : Array Value} (h : Bx W B cs cr cw ck cx) : W.cell? ⟨B, 0, none⟩ = some (.int .i64 cs) ∧ W.cell? ⟨B, 1, none⟩ = some (.int .i64 cr) ∧ W.cell? ⟨B, 2, none⟩ = some (.int .i64 cw) ∧ W.cell? ⟨B, 3, none⟩ = some (.int .i64 ck) := by simp [World.cell?, h.cf]
set_option maxHeartbeats 8000000 in
set_option maxRecDepth 100000 in
theorem load_err {w : World} {A : Option Addr} {cap : Nat} {l : List S53} (hC : Kd.C k53 w A l.length l) (hcap : l.length ≤ cap) {cs cr cw ck : Int} {x0 x1 x2 x3 x4 x5 x6 : Value} (he : (ver l ⟨cs, cr, cw, ck⟩).2 ≠ 0) :
    Calls Try.prog 23 #[.slice A l.length cap, .agg #[.int .i64 cs, .int .i64 cr, .int .i64 cw, .int .i64 ck], .agg #[x0, x1, x2, x3, x4, x5, x6]] w fun e W' => e = .returned (.tuple #[.pointer none, .int .i64 (ver l ⟨cs, cr, cw, ck⟩).2]) ∧ Below w.heap.size w W' := by
  obtain ⟨r2, hr2⟩ : ∃ r, (ver l ⟨cs, cr, cw, ck⟩).2 = r := ⟨_, rfl⟩
  obtain ⟨r1, hr1⟩ : ∃ r, (ver l ⟨cs, cr, cw, ck⟩).1 = r := ⟨_, rfl⟩
  have HV : Aside0 (verify_Verify.f l cs cr cw ck = some (r1, r2)) := ⟨by unfold verify_Verify.f; rw [← hr1, ← hr2]⟩
  rw [hr2] at he ⊢
  have q : (r2 != 0) = true := by simpa using he
  have HC := Aside0.mk (And.intro hC hcap)
  have B := Aside0.mk (((Below.refl w.heap.size w).alloc (Nat.le_refl _) (.cells #[.int .i64 cs, .int .i64 cr, .int .i64 cw, .int .i64 ck] (24 : Nat))).alloc (by simp) (.cells #[x0, x1, x2, x3, x4, x5, x6] (37 : Nat)))
  clear hr1 hr2 he hC hcap
  have hu24 := Try.underlying24
  have hu37 := Try.underlying37
  go_enter Try.func23, Try.ntmps23
  go_wp2_with fail
  generalize (w.alloc (.cells #[.int .i64 cs, .int .i64 cr, .int .i64 cw, .int .i64 ck] (24 : Nat))).alloc (.cells #[x0, x1, x2, x3, x4, x5, x6] (37 : Nat)) = W1 at B ⊢
  refine (verify_Verify.calls A cap l cs cr cw ck r1 r2 _ (Kd.C_below HC.out.1 B.out) HC.out.2 HV.out).mono ?_
  rintro e W2 ⟨rfl, hb⟩
  have B2 := Aside0.mk (B.out.trans (hb.mono B.out.size))
  clear hb B
  go_wp2
  go_ret2
  exact ⟨rfl, B2.out⟩
set_option maxHeartbeats 16000000 in
set_option maxRecDepth 100000 in
theorem load_calls {w : World} {A : Option Addr} {cap : Nat} {l : List S53} (hC : Kd.C k53 w A l.length l) (hcap : l.length ≤ cap) (hA : A = none → cap = 0) {cs cr cw ck : Int} {m : Int} {Av : Nat → Vst} (hv : (ver l ⟨cs, cr, cw, ck⟩).2 = 0) (hg : ∀ p, p < l.length → Good l ⟨cs, cr, cw, ck⟩ m Av p) (h0 : (Av 0).h = 0)
    {at_ sp : Int} {en : Bool} {st sl inn ou : List Int} {sv tv iv ov : Value} (h1 : IR w sv st) (h2 : IR w tv sl) (h3 : IR w iv inn) (h4 : IR w ov ou) (hlen : st.length ≤ 500000 ∧ sl.length ≤ 500000 ∧ inn.length ≤ 500000 ∧ ou.length ≤ 500000) :
    Calls Try.prog 23 #[.slice A l.length cap, .agg #[.int .i64 cs, .int .i64 cr, .int .i64 cw, .int .i64 ck], .agg (cxI at_ sv tv iv ov sp en)] w (LdPost (LdOk l ⟨cs, cr, cw, ck⟩ Av at_ st.length sl.length inn.length ou.length sp en) w l ⟨cs, cr, cw, ck⟩ ⟨at_.toNat, st, sl, inn, ou, sp, en⟩) := by
  obtain ⟨A1, q1, rfl, _⟩ := h1.slice
  obtain ⟨A2, q2, rfl, _⟩ := h2.slice
  obtain ⟨A3, q3, rfl, _⟩ := h3.slice
  obtain ⟨A4, q4, rfl, _⟩ := h4.slice
  have hlv := (ver_ok hv).2
  have hpred := ver_pred hv
  obtain ⟨r1, hr1⟩ : ∃ r, (ver l ⟨cs, cr, cw, ck⟩).1 = r := ⟨_, rfl⟩
  have HV : Aside0 (verify_Verify.f l cs cr cw ck = some (r1, 0)) := ⟨by unfold verify_Verify.f; rw [← hr1, ← hv]⟩
  have HC := Aside0.mk (And.intro hC (And.intro hcap hA))
  have HI := Aside0.mk (And.intro h1 (And.intro h2 (And.intro h3 h4)))
  have HG := Aside0.mk (And.intro hg (And.intro h0 hpred))
  have HL := Aside0.mk (And.intro hlen (And.intro hlv.1 hlv.2.1))
  obtain ⟨post, hpost⟩ : ∃ p, LdPost (LdOk l ⟨cs, cr, cw, ck⟩ Av at_ st.length sl.length inn.length ou.length sp en) w l ⟨cs, cr, cw, ck⟩ ⟨at_.toNat, st, sl, inn, ou, sp, en⟩ = p := ⟨_, rfl⟩
  rw [hpost]
  have HPO := Aside0.mk hpost
  simp only [cxI]
  have X : Aside0 (Bx ((w.alloc (.cells #[.int .i64 cs, .int .i64 cr, .int .i64 cw, .int .i64 ck] (24 : Nat))).alloc (.cells #[.int .i64 at_, .slice A1 st.length q1, .slice A2 sl.length q2, .slice A3 inn.length q3, .slice A4 ou.length q4, .int .i64 sp, .bool en] (37 : Nat))) w.heap.size cs cr cw ck #[.int .i64 at_, .slice A1 st.length q1, .slice A2 sl.length q2, .slice A3 inn.length q3, .slice A4 ou.length q4, .int .i64 sp, .bool en]) := ⟨⟨(heap_alloc_old _ _ (by simp)).trans (heap_alloc_new _ _), by
    have := heap_alloc_new (w.alloc (.cells #[.int .i64 cs, .int .i64 cr, .int .i64 cw, .int .i64 ck] (24 : Nat))) (.cells #[.int .i64 at_, .slice A1 st.length q1, .slice A2 sl.length q2, .slice A3 inn.length q3, .slice A4 ou.length q4, .int .i64 sp, .bool en] (37 : Nat))
    simpa using this⟩⟩
  have B := Aside0.mk (((Below.refl w.heap.size w).alloc (Nat.le_refl _) (.cells #[.int .i64 cs, .int .i64 cr, .int .i64 cw, .int .i64 ck] (24 : Nat))).alloc (by simp) (.cells #[.int .i64 at_, .slice A1 st.length q1, .slice A2 sl.length q2, .slice A3 inn.length q3, .slice A4 ou.length q4, .int .i64 sp, .bool en] (37 : Nat)))
  have Z : Aside0 (w.heap.size + 1 < ((w.alloc (.cells #[.int .i64 cs, .int .i64 cr, .int .i64 cw, .int .i64 ck] (24 : Nat))).alloc (.cells #[.int .i64 at_, .slice A1 st.length q1, .slice A2 sl.length q2, .slice A3 inn.length q3, .slice A4 ou.length q4, .int .i64 sp, .bool en] (37 : Nat))).heap.size) := ⟨by simp⟩
  clear hr1 hv hC hcap hA h1 h2 h3 h4 hg h0 hlen hlv hpred hpost
  have hu24 := Try.underlying24
  have hu37 := Try.underlying37
  go_enter Try.func23, Try.ntmps23
  go_wp2_with fail
  generalize (w.alloc (.cells #[.int .i64 cs, .int .i64 cr, .int .i64 cw, .int .i64 ck] (24 : Nat))).alloc (.cells #[.int .i64 at_, .slice A1 st.length q1, .slice A2 sl.length q2, .slice A3 inn.length q3, .slice A4 ou.length q4, .int .i64 sp, .bool en] (37 : Nat)) = W1 at X B Z ⊢
  refine (verify_Verify.calls A cap l cs cr cw ck r1 0 _ (Kd.C_below HC.out.1 B.out) HC.out.2.1 HV.out).mono ?_
  rintro e W2 ⟨rfl, hb⟩
  have X2 := Aside0.mk (X.out.below hb)
  have B2 := Aside0.mk (B.out.trans (hb.mono B.out.size))
  have Z2 : Aside0 (w.heap.size + 1 < W2.heap.size) := ⟨Nat.lt_of_lt_of_le Z.out hb.size⟩
  clear hb B X Z
  have k0 : W2.cell? ⟨w.heap.size + 1, 0, none⟩ = some (.int .i64 at_) := X2.out.cell rfl
  have k1 : W2.cell? ⟨w.heap.size + 1, 1, none⟩ = some (.slice A1 st.length q1) := X2.out.cell rfl
  have k2 : W2.cell? ⟨w.heap.size + 1, 2, none⟩ = some (.slice A2 sl.length q2) := X2.out.cell rfl
  have k3 : W2.cell? ⟨w.heap.size + 1, 3, none⟩ = some (.slice A3 inn.length q3) := X2.out.cell rfl
  have k4 : W2.cell? ⟨w.heap.size + 1, 4, none⟩ = some (.slice A4 ou.length q4) := X2.out.cell rfl
  have k5 : W2.cell? ⟨w.heap.size + 1, 5, none⟩ = some (.int .i64 sp) := X2.out.cell rfl
  have k6 : W2.cell? ⟨w.heap.size + 1, 6, none⟩ = some (.bool en) := X2.out.cell rfl
  obtain ⟨k7, k8, k9, _⟩ := X2.out.cells
  by_cases c1 : at_ < 0
  · have HN : Aside0 (¬ LdOk l ⟨cs, cr, cw, ck⟩ Av at_ st.length sl.length inn.length ou.length sp en) := ⟨fun hok => by have := hok.1; omega⟩
    have d1 : decide (at_ < 0) = true := decide_eq_true c1
    clear c1
    go_wp2
    show post (.returned (.tuple #[.pointer none, .int .i64 2])) W2
    rw [← HPO.out]
    exact LdPost.bad (fun hok => HN.out hok) B2.out
  have d1 : decide (at_ < 0) = false := decide_eq_false c1
  obtain ⟨p, rfl⟩ : ∃ p : Nat, at_ = (p : Int) := ⟨at_.toNat, by omega⟩
  clear c1
  by_cases c2 : (l.length : Int) ≤ (p : Int)
  · have HN : Aside0 (¬ LdOk l ⟨cs, cr, cw, ck⟩ Av (p : Int) st.length sl.length inn.length ou.length sp en) := ⟨fun hok => by have := hok.2.1; omega⟩
    have d2 : decide ((l.length : Int) ≤ (p : Int)) = true := decide_eq_true c2
    have d2' : decide (l.length ≤ p) = true := decide_eq_true (by omega)
    clear c2
    go_wp2
    show post (.returned (.tuple #[.pointer none, .int .i64 2])) W2
    rw [← HPO.out]
    exact LdPost.bad (fun hok => HN.out hok) B2.out
  have d2 : decide ((l.length : Int) ≤ (p : Int)) = false := decide_eq_false c2
  have d2' : decide (l.length ≤ p) = false := decide_eq_false (by omega)
  by_cases c3 : (sl.length : Int) ≠ cs
  · have HN : Aside0 (¬ LdOk l ⟨cs, cr, cw, ck⟩ Av (p : Int) st.length sl.length inn.length ou.length sp en) := ⟨fun hok => by have := hok.2.2.1; exact c3 this⟩
    have d3 : ((sl.length : Int) != cs) = true := by simpa using c3
    clear c3
    go_wp2
    show post (.returned (.tuple #[.pointer none, .int .i64 2])) W2
    rw [← HPO.out]
    exact LdPost.bad (fun hok => HN.out hok) B2.out
  have d3 : ((sl.length : Int) != cs) = false := by simpa using c3
  by_cases c4 : (inn.length : Int) ≠ cr
  · have HN : Aside0 (¬ LdOk l ⟨cs, cr, cw, ck⟩ Av (p : Int) st.length sl.length inn.length ou.length sp en) := ⟨fun hok => by have := hok.2.2.2.1; exact c4 this⟩
    have d4 : ((inn.length : Int) != cr) = true := by simpa using c4
    clear c4
    go_wp2
    show post (.returned (.tuple #[.pointer none, .int .i64 2])) W2
    rw [← HPO.out]
    exact LdPost.bad (fun hok => HN.out hok) B2.out
  have d4 : ((inn.length : Int) != cr) = false := by simpa using c4
  by_cases c5 : (ou.length : Int) ≠ cw
  · have HN : Aside0 (¬ LdOk l ⟨cs, cr, cw, ck⟩ Av (p : Int) st.length sl.length inn.length ou.length sp en) := ⟨fun hok => by have := hok.2.2.2.2.1; exact c5 this⟩
    have d5 : ((ou.length : Int) != cw) = true := by simpa using c5
    clear c5
    go_wp2
    show post (.returned (.tuple #[.pointer none, .int .i64 2])) W2
    rw [← HPO.out]
    exact LdPost.bad (fun hok => HN.out hok) B2.out
  have d5 : ((ou.length : Int) != cw) = false := by simpa using c5
  by_cases c6 : sp < 0
  · have HN : Aside0 (¬ LdOk l ⟨cs, cr, cw, ck⟩ Av (p : Int) st.length sl.length inn.length ou.length sp en) := ⟨fun hok => by have := hok.2.2.2.2.2.1; omega⟩
    have d6 : decide (sp < 0) = true := decide_eq_true c6
    clear c6
    go_wp2
    show post (.returned (.tuple #[.pointer none, .int .i64 2])) W2
    rw [← HPO.out]
    exact LdPost.bad (fun hok => HN.out hok) B2.out
  have d6 : decide (sp < 0) = false := decide_eq_false c6
  by_cases c7 : 1099511627776 < sp
  · have HN : Aside0 (¬ LdOk l ⟨cs, cr, cw, ck⟩ Av (p : Int) st.length sl.length inn.length ou.length sp en) := ⟨fun hok => by have := hok.2.2.2.2.2.2.1; omega⟩
    have d7 : decide (1099511627776 < sp) = true := decide_eq_true c7
    clear c7
    go_wp2
    show post (.returned (.tuple #[.pointer none, .int .i64 2])) W2
    rw [← HPO.out]
    exact LdPost.bad (fun hok => HN.out hok) B2.out
  have d7 : decide (1099511627776 < sp) = false := decide_eq_false c7
  have hpl : p < l.length := by omega
  have hpl' : (p : Int) < (l.length : Int) := by omega
  obtain ⟨ad, rfl, hc1, _⟩ := at_T53 (Kd.C_below HC.out.1 B2.out) (p : Int) (by omega) (by omega)
  simp only [Int.toNat_natCast] at hc1
  obtain ⟨op, hop⟩ : ∃ o, (rd_T53 l (p : Int)).f0 = o := ⟨_, rfl⟩
  rw [hop] at hc1
  have C345 := Aside0.mk (And.intro (Classical.not_not.1 c3) (And.intro (Classical.not_not.1 c4) (Classical.not_not.1 c5)))
  have HPL := Aside0.mk (And.intro hpl (And.intro c6 c7))
  have HOP := Aside0.mk hop
  clear hop c2 c3 c4 c5 c6 c7
  by_cases c8 : en = true ∧ op ≠ 23
  · have HN : Aside0 (¬ LdOk l ⟨cs, cr, cw, ck⟩ Av (p : Int) st.length sl.length inn.length ou.length sp en) := ⟨fun hok => by have := hok.2.2.2.2.2.2.2.1 c8.1; rw [HOP.out] at this; exact c8.2 this⟩
    obtain ⟨ce, co⟩ := c8
    subst ce
    have d8 : (op != 23) = true := by simpa using co
    clear co
    go_wp2
    show post (.returned (.tuple #[.pointer none, .int .i64 2])) W2
    rw [← HPO.out]
    exact LdPost.bad (fun hok => HN.out hok) B2.out
  obtain ⟨hh, hhe⟩ : ∃ h, (Av p).h = h := ⟨_, rfl⟩
  have HHE := Aside0.mk hhe
  clear hhe
  cases en with
  | true =>
    have ho : op = 23 := Decidable.byContradiction fun h => c8 ⟨rfl, h⟩
    subst ho
    clear c8
    by_cases c9 : (st.length : Int) = hh
    · have d9 : ((st.length : Int) != hh) = false := by simpa using c9
      have HOK : Aside0 (LdOk l ⟨cs, cr, cw, ck⟩ Av (p : Int) st.length sl.length inn.length ou.length sp true) := ⟨by omega, by have := HPL.out.1; omega, C345.out.1, C345.out.2.1, C345.out.2.2, by have := HPL.out.2.1; omega, by have := HPL.out.2.2; omega, fun _ => HOP.out, by rw [Int.toNat_natCast, HHE.out]; exact c9⟩
      clear c9
      go_wp2_with fail
      have X3 : Aside0 (Bx W2.drew w.heap.size cs cr cw ck #[.int .i64 (p : Int), .slice A1 st.length q1, .slice A2 sl.length q2, .slice A3 inn.length q3, .slice A4 ou.length q4, .int .i64 sp, .bool true]) := ⟨⟨X2.out.cf, X2.out.cx⟩⟩
      have B3 : Aside0 (Below w.heap.size w W2.drew) := ⟨below_drew1 B2.out⟩
      have Z3 : Aside0 (w.heap.size + 1 < W2.drew.heap.size) := ⟨Z2.out⟩
      refine start_ (n := 9) (S := fun w' => Bx w' w.heap.size cs cr cw ck #[.int .i64 (p : Int), .slice A1 st.length q1, .slice A2 sl.length q2, .slice A3 inn.length q3, .slice A4 ou.length q4, .int .i64 sp, .bool true]) (ds := []) #[false, false, false, false, false, false, false, false, false] (by kernel_rfl) rfl rfl X3.out (fun hHeld => ?_)
      clear k0 k1 k2 k3 k4 k5 k6 k7 k8 k9 hc1
      generalize W2.drew = W3 at X3 B3 Z3 hHeld ⊢
      refine pure_ (i := 0) (N := some 63) (v := ?_) (a' := ?_) #[true, false, false, false, false, false, false, false, false] rfl rfl (by kernel_rfl) (fun _ _ _ h => h) (Or.inl ⟨by rfl, ?_⟩) ?_ ?_
      rotate_left
      · intro w'
        go_simp
        with_reducible rfl
      rotate_left
      · simp only [Act.put, List.setIfInBounds_toArray, List.set_cons_zero, List.set_cons_succ, i64_w, i32_w]
        rfl
      refine take_ (i := 1) (N := some 64) (v := ?_) (a' := ?_) #[true, true, false, false, false, false, false, false, false] rfl rfl (by kernel_rfl) (fun _ _ _ h => h) (Or.inl ⟨by rfl, ?_⟩) hHeld ?_ ?_
      rotate_left
      · rintro w' s0
        have y0 := s0.cell (j := 1) rfl
        clear s0
        go_simp
        with_reducible rfl
      rotate_left
      · simp only [Act.put, List.setIfInBounds_toArray, List.set_cons_zero, List.set_cons_succ, i64_w, i32_w]
        rfl
      refine pure_ (i := 2) (N := some 65) (v := ?_) (a' := ?_) #[true, true, true, false, false, false, false, false, false] rfl rfl (by kernel_rfl) (fun _ _ _ h => h) (Or.inl ⟨by rfl, ?_⟩) ?_ ?_
      rotate_left
      · intro w'
        go_simp
        with_reducible rfl
      rotate_left
      · simp only [Act.put, List.setIfInBounds_toArray, List.set_cons_zero, List.set_cons_succ, i64_w, i32_w]
        rfl
      refine pure_ (i := 3) (N := some 66) (v := ?_) (a' := ?_) #[true, true, true, true, false, false, false, false, false] rfl rfl (by kernel_rfl) (fun _ _ _ h => h) (Or.inl ⟨by rfl, ?_⟩) ?_ ?_
      rotate_left
      · intro w'
        go_simp
        with_reducible rfl
      rotate_left
      · simp only [Act.put, List.setIfInBounds_toArray, List.set_cons_zero, List.set_cons_succ, i64_w, i32_w]
        rfl
      refine pure_ (i := 4) (N := some 67) (v := ?_) (a' := ?_) #[true, true, true, true, true, false, false, false, false] rfl rfl (by kernel_rfl) (fun _ _ _ h => h) (Or.inl ⟨by rfl, ?_⟩) ?_ ?_
      rotate_left
      · intro w'
        go_simp
        with_reducible rfl
      rotate_left
      · simp only [Act.put, List.setIfInBounds_toArray, List.set_cons_zero, List.set_cons_succ, i64_w, i32_w]
        rfl
      refine take_ (i := 5) (N := some 68) (v := ?_) (a' := ?_) #[true, true, true, true, true, true, false, false, false] rfl rfl (by kernel_rfl) (fun _ _ _ h => h) (Or.inl ⟨by rfl, ?_⟩) hHeld ?_ ?_
      rotate_left
      · rintro w' s0
        have y0 := s0.cell (j := 0) rfl
        clear s0
        go_simp
        with_reducible rfl
      rotate_left
      · simp only [Act.put, List.setIfInBounds_toArray, List.set_cons_zero, List.set_cons_succ, i64_w, i32_w]
        rfl
      refine one_ (i := 6) (N := some 69) #[true, true, true, true, true, true, true, false, false] rfl rfl (by kernel_rfl) (by decide) (fun K hK => ?_)
      refine goes_ Try.func43 (by kernel_rfl) rfl #[.slice (some ad) l.length cap, .int .i64 (p : Int)] (by rfl) rfl rfl (by simp only [List.map_toArray, List.map_cons, List.map_nil]; rfl) ?_
      refine (high_calls (Kd.C_below HC.out.1 B3.out) HC.out.2.1 HG.out.1 HG.out.2.1 HG.out.2.2 (at_ := p) HPL.out.1 HL.out.2.2).mono ?_
      rintro e W4 ⟨rfl, hb⟩
      rw [HHE.out]
      have X4 := Aside0.mk (X3.out.below hb)
      have B4 : Aside0 (Below w.heap.size w W4) := ⟨B3.out.trans (hb.mono B3.out.size)⟩
      have Z4 : Aside0 (w.heap.size + 1 < W4.heap.size) := ⟨Nat.lt_of_lt_of_le Z3.out hb.size⟩
      refine ⟨_, rfl, hK.out _ _ X4.out (fun _ => ?_)⟩
      clear hK K hb hHeld X3 B3 Z3 X2 B2 Z2
      refine pure_ (i := 7) (N := some 70) (v := ?_) (a' := ?_) #[true, true, true, true, true, true, true, true, false] rfl rfl (by kernel_rfl) (fun _ _ _ h => h) (Or.inl ⟨by rfl, ?_⟩) ?_ ?_
      rotate_left
      · intro w'
        go_simp
        with_reducible rfl
      rotate_left
      · simp only [Act.put, List.setIfInBounds_toArray, List.set_cons_zero, List.set_cons_succ, i64_w, i32_w]
        rfl
      refine pure_ (i := 8) (N := some 19) (v := ?_) (a' := ?_) #[true, true, true, true, true, true, true, true, true] rfl rfl (by kernel_rfl) (fun _ _ _ h => h) (Or.inl ⟨by rfl, ?_⟩) ?_ ?_
      rotate_left
      · intro w'
        go_simp
        with_reducible rfl
      rotate_left
      · simp only [Act.put, List.setIfInBounds_toArray, List.set_cons_zero, List.set_cons_succ, i64_w, i32_w]
        rfl
      refine done_ (by kernel_rfl) ?_
      go_wp2_with fail
      have X5 : Aside0 (Bx W4.drew w.heap.size cs cr cw ck #[.int .i64 (p : Int), .slice A1 st.length q1, .slice A2 sl.length q2, .slice A3 inn.length q3, .slice A4 ou.length q4, .int .i64 sp, .bool true]) := ⟨⟨X4.out.cf, X4.out.cx⟩⟩
      have B5 : Aside0 (Below w.heap.size w W4.drew) := ⟨below_drew1 B4.out⟩
      have Z5 : Aside0 (w.heap.size + 1 < W4.drew.heap.size) := ⟨Z4.out⟩
      refine start_ (n := 10) (S := fun w' => Bx w' w.heap.size cs cr cw ck #[.int .i64 (p : Int), .slice A1 st.length q1, .slice A2 sl.length q2, .slice A3 inn.length q3, .slice A4 ou.length q4, .int .i64 sp, .bool true]) (ds := []) #[false, false, false, false, false, false, false, false, false, false] (by kernel_rfl) rfl rfl X5.out (fun hHeld => ?_)
      generalize W4.drew = W5 at X5 B5 Z5 hHeld ⊢
      clear X4 B4 Z4
      refine pure_ (i := 0) (N := some 71) (v := ?_) (a' := ?_) #[true, false, false, false, false, false, false, false, false, false] rfl rfl (by kernel_rfl) (fun _ _ _ h => h) (Or.inl ⟨by rfl, ?_⟩) ?_ ?_
      rotate_left
      · intro w'
        go_simp
        with_reducible rfl
      rotate_left
      · simp only [Act.put, List.setIfInBounds_toArray, List.set_cons_zero, List.set_cons_succ, i64_w, i32_w]
        rfl
      refine take_ (i := 2) (N := some 73) (v := ?_) (a' := ?_) #[true, false, true, false, false, false, false, false, false, false] rfl rfl (by kernel_rfl) (fun _ _ _ h => h) (Or.inl ⟨by rfl, ?_⟩) hHeld ?_ ?_
      rotate_left
      · rintro w' s0
        have y0 := s0.cf
        clear s0
        show (do let r ← Instr.loadAt 24 (.pointer (some ⟨w.heap.size, 0, none⟩)); pure (Next.value r) : Sem Next).run Try.prog w' = _
        rw [Sem.run_bind, cf_load y0]
        rfl
      rotate_left
      · simp only [Act.put, List.setIfInBounds_toArray, List.set_cons_zero, List.set_cons_succ, i64_w, i32_w]
        rfl
      refine take_ (i := 3) (N := some 74) (v := ?_) (a' := ?_) #[true, false, true, true, false, false, false, false, false, false] rfl rfl (by kernel_rfl) (fun _ _ _ h => h) (Or.inl ⟨by rfl, ?_⟩) hHeld ?_ ?_
      rotate_left
      · rintro w' s0
        have y0 := s0.cell (j := 0) rfl
        have y1 := s0.cell (j := 1) rfl
        have y2 := s0.cell (j := 2) rfl
        have y3 := s0.cell (j := 3) rfl
        have y4 := s0.cell (j := 4) rfl
        have y5 := s0.cell (j := 5) rfl
        have y6 := s0.cell (j := 6) rfl
        clear s0
        go_simp
        with_reducible rfl
      rotate_left
      · simp only [Act.put, List.setIfInBounds_toArray, List.set_cons_zero, List.set_cons_succ, i64_w, i32_w]
        rfl
      refine one_ (i := 1) (N := some 72) #[true, true, true, true, false, false, false, false, false, false] rfl rfl (by kernel_rfl) (by decide) (fun K hK => ?_)
      refine goes_ Try.func29 (by kernel_rfl) rfl #[.slice (some ad) l.length cap] (by rfl) rfl rfl (by simp only [List.map_toArray, List.map_cons, List.map_nil]; rfl) ?_
      refine (clone_code (Kd.C_below HC.out.1 B5.out) HC.out.2.2 (Nat.le_trans HL.out.2.2 (by decide))).mono ?_
      rintro e W6 ⟨cv, rfl, hcv, bcv⟩
      obtain ⟨cad, cp, rfl⟩ := Kd.R_slice1 hcv HL.out.2.1
      have CV := Aside0.mk hcv
      have X6 := Aside0.mk (X5.out.below bcv)
      have S6 : Aside0 (Below w.heap.size w W6 ∧ w.heap.size ≤ W5.heap.size ∧ W5.heap.size ≤ W6.heap.size) := ⟨B5.out.trans (bcv.mono B5.out.size), B5.out.size, bcv.size⟩
      refine ⟨_, rfl, hK.out _ _ X6.out (fun _ => ?_)⟩
      clear hK K hcv bcv hHeld X5 B5 Z5
      refine norm_ (a' := ?_) ?_ ?_
      rotate_left
      · simp only [Act.put, List.setIfInBounds_toArray, List.set_cons_zero, List.set_cons_succ]
        rfl
      refine one_ (i := 4) (N := some 75) #[true, true, true, true, true, false, false, false, false, false] rfl rfl (by kernel_rfl) (by decide) (fun K hK => ?_)
      refine goes_ Try.func31 (by kernel_rfl) rfl #[.agg #[.int .i64 (p : Int), .slice A1 st.length q1, .slice A2 sl.length q2, .slice A3 inn.length q3, .slice A4 ou.length q4, .int .i64 sp, .bool true]] (by rfl) rfl rfl (by simp only [List.map_toArray, List.map_cons, List.map_nil]; rfl) ?_
      refine (copied_calls (x := (⟨p, st, sl, inn, ou, sp, true⟩ : Ctx)) (HI.out.1.below S6.out.1) (HI.out.2.1.below S6.out.1) (HI.out.2.2.1.below S6.out.1) (HI.out.2.2.2.below S6.out.1) HL.out.1.1 HL.out.1.2.1 HL.out.1.2.2.1 HL.out.1.2.2.2).mono ?_
      rintro e W7 ⟨⟨sv', tv', iv', ov', rfl, hc⟩, hb⟩
      obtain ⟨A5, q5, hs1, _⟩ := hc.st.slice
      obtain ⟨A6, q6, hs2, _⟩ := hc.sl.slice
      obtain ⟨A7, q7, hs3, _⟩ := hc.inn.slice
      obtain ⟨A8, q8, hs4, _⟩ := hc.ou.slice
      subst hs1 hs2 hs3 hs4
      have C7 := Aside0.mk hc
      have CV7 := Aside0.mk (Kd.R_below CV.out hb)
      have X7 := Aside0.mk (X6.out.below hb)
      have S7 : Aside0 (Below w.heap.size w W7 ∧ W6.heap.size ≤ W7.heap.size) := ⟨S6.out.1.trans (hb.mono S6.out.1.size), hb.size⟩
      refine ⟨_, rfl, hK.out _ _ X7.out (fun _ => ?_)⟩
      clear hK K hc hb X6 CV
      refine norm_ (a' := ?_) ?_ ?_
      rotate_left
      · simp only [Act.put, List.setIfInBounds_toArray, List.set_cons_zero, List.set_cons_succ, cxA]
        rfl
      refine one_ (i := 5) (N := some 76) #[true, true, true, true, true, true, false, false, false, false] rfl rfl (by kernel_rfl) (by decide) (fun K hK => ?_)
      refine goes_ Try.func30 (by kernel_rfl) rfl #[] (by rfl) rfl rfl (by simp only [List.map_toArray, List.map_nil]) ?_
      refine (pairs_calls _).mono ?_
      rintro e W8 ⟨M, rfl, hM, hMl, bM⟩
      have MM := Aside0.mk (And.intro hM hMl)
      have C8 := Aside0.mk (C7.out.move (fun k _ hk => bM.block k hk))
      have CV8 := Aside0.mk (Kd.R_below CV7.out bM)
      have X8 := Aside0.mk (X7.out.below bM)
      have S8 : Aside0 (Below w.heap.size w W8 ∧ W7.heap.size ≤ W8.heap.size) := ⟨S7.out.1.trans (bM.mono S7.out.1.size), bM.size⟩
      refine ⟨_, rfl, hK.out _ _ X8.out (fun _ => ?_)⟩
      clear hK K hM hMl bM X7 C7 CV7
      refine norm_ (a' := ?_) ?_ ?_
      rotate_left
      · simp only [Act.put, List.setIfInBounds_toArray, List.set_cons_zero, List.set_cons_succ]
        rfl
      refine pure_ (i := 6) (N := some 77) (v := ?_) (a' := ?_) #[true, true, true, true, true, true, true, false, false, false] rfl rfl (by kernel_rfl) (fun _ _ _ h => h) (Or.inl ⟨by rfl, ?_⟩) ?_ ?_
      rotate_left
      · intro w'
        go_simp
        with_reducible rfl
      rotate_left
      · simp only [Act.put, List.setIfInBounds_toArray, List.set_cons_zero, List.set_cons_succ, i64_w, i32_w]
        rfl
      refine one_ (i := 7) (N := some 78) #[true, true, true, true, true, true, true, true, false, false] rfl rfl (by kernel_rfl) (by decide) (fun K hK => ?_)
      refine value_ (v := .pointer (some ⟨W8.heap.size, 0, none⟩)) (w1 := W8.alloc (.cells #[.slice (some cad) l.length cp, .int .i64 cs, .int .i64 cr, .int .i64 cw, .int .i64 ck, .int .i64 (p : Int), .slice A5 st.length q5, .slice A6 sl.length q6, .slice A7 inn.length q7, .slice A8 ou.length q8, .int .i64 sp, .bool true, .map (some M)] (70 : Nat))) (by rfl) rfl ?_ ?_
      · have hu70 := Try.underlying70
        go_simp
        all_goals rfl
      have B9 := Aside0.mk ((Below.refl _ _).alloc (w := W8) (Nat.le_refl _) (.cells #[.slice (some cad) l.length cp, .int .i64 cs, .int .i64 cr, .int .i64 cw, .int .i64 ck, .int .i64 (p : Int), .slice A5 st.length q5, .slice A6 sl.length q6, .slice A7 inn.length q7, .slice A8 ou.length q8, .int .i64 sp, .bool true, .map (some M)] (70 : Nat)))
      have X9 := Aside0.mk (heap_alloc_new W8 (.cells #[.slice (some cad) l.length cp, .int .i64 cs, .int .i64 cr, .int .i64 cw, .int .i64 ck, .int .i64 (p : Int), .slice A5 st.length q5, .slice A6 sl.length q6, .slice A7 inn.length q7, .slice A8 ou.length q8, .int .i64 sp, .bool true, .map (some M)] (70 : Nat)))
      have Z9 : Aside0 ((W8.alloc (.cells #[.slice (some cad) l.length cp, .int .i64 cs, .int .i64 cr, .int .i64 cw, .int .i64 ck, .int .i64 (p : Int), .slice A5 st.length q5, .slice A6 sl.length q6, .slice A7 inn.length q7, .slice A8 ou.length q8, .int .i64 sp, .bool true, .map (some M)] (70 : Nat))).heap.size = W8.heap.size + 1) := ⟨by simp⟩
      refine hK.out _ _ (X8.out.below B9.out) (fun _ => ?_)
      clear hK K X8
      generalize W8.alloc (.cells #[.slice (some cad) l.length cp, .int .i64 cs, .int .i64 cr, .int .i64 cw, .int .i64 ck, .int .i64 (p : Int), .slice A5 st.length q5, .slice A6 sl.length q6, .slice A7 inn.length q7, .slice A8 ou.length q8, .int .i64 sp, .bool true, .map (some M)] (70 : Nat)) = W9 at B9 X9 Z9 ⊢
      refine norm_ (a' := ?_) ?_ ?_
      rotate_left
      · simp only [Act.put, List.setIfInBounds_toArray, List.set_cons_zero, List.set_cons_succ]
        rfl
      refine pure_ (i := 8) (N := some 6) (v := ?_) (a' := ?_) #[true, true, true, true, true, true, true, true, true, false] rfl rfl (by kernel_rfl) (fun _ _ _ h => h) (Or.inl ⟨by rfl, ?_⟩) ?_ ?_
      rotate_left
      · intro w'
        go_simp
        with_reducible rfl
      rotate_left
      · simp only [Act.put, List.setIfInBounds_toArray, List.set_cons_zero, List.set_cons_succ, i64_w, i32_w]
        rfl
      refine pure_ (i := 9) (N := some 7) (v := ?_) (a' := ?_) #[true, true, true, true, true, true, true, true, true, true] rfl rfl (by kernel_rfl) (fun _ _ _ h => h) (Or.inl ⟨by rfl, ?_⟩) ?_ ?_
      rotate_left
      · intro w'
        go_simp
        with_reducible rfl
      rotate_left
      · simp only [Act.put, List.setIfInBounds_toArray, List.set_cons_zero, List.set_cons_succ, i64_w, i32_w]
        rfl
      refine done_ (by kernel_rfl) ?_
      go_wp2
      show post (.returned (.tuple #[.pointer (some ⟨W8.heap.size, 0, none⟩), .int .i64 0])) W9
      rw [← HPO.out]
      refine ⟨fun _ => ⟨_, rfl, M, .slice (some cad) l.length cp, .slice A5 st.length q5, .slice A6 sl.length q6, .slice A7 inn.length q7, .slice A8 ou.length q8, ?_⟩, fun hn => absurd HOK.out hn, S8.out.1.trans (B9.out.mono S8.out.1.size)⟩
      have hz := Z9.out
      have z1 := S6.out.2
      have z2 := S7.out.2
      have z3 := S8.out.2
      have C9 := C8.out.move (fun k _ hk => B9.out.block k hk)
      refine { vb := X9.out, code := ?_, st := C9.st, sl := C9.sl, inn := C9.inn, ou := C9.ou, mp := MM.out.1.move (B9.out.block M MM.out.1.lt), d1 := C9.d1, d2 := C9.d2, d3 := C9.d3, zb := (by constructor <;> omega), zM := (by have h1 := MM.out.2; have h2 := MM.out.1.lt; constructor <;> omega), zs := ?_ }
      · refine Kd.R_mono (Kd.R_lower (Kd.R_move (Kd.R_bound CV8.out) (fun k hk => ?_)) (Nat.zero_le _)) (fun k hk => ?_)
        · obtain ⟨_, _, _, q, hq, cs', hc⟩ := hk
          exact B9.out.block k (Array.getElem?_eq_some_iff.1 hc).1
        · obtain ⟨h1, _, _, q, hq, cs', hc⟩ := hk
          have := (Array.getElem?_eq_some_iff.1 hc).1
          exact ⟨by omega, by omega⟩
      · intro k hk
        have h1 := C9.lo k hk
        refine ⟨by omega, ?_⟩
        rcases hk with h | h | h | h
        · exact C9.st.lt h
        · exact C9.sl.lt h
        · exact C9.inn.lt h
        · exact C9.ou.lt h
    · have d9 : ((st.length : Int) != hh) = true := by simpa using c9
      have HN : Aside0 (¬ LdOk l ⟨cs, cr, cw, ck⟩ Av (p : Int) st.length sl.length inn.length ou.length sp true) := ⟨fun hok => c9 (by have := hok.2.2.2.2.2.2.2.2; rw [Int.toNat_natCast, HHE.out] at this; exact this)⟩
      clear c9
      go_wp2_with fail
      have X3 : Aside0 (Bx W2.drew w.heap.size cs cr cw ck #[.int .i64 (p : Int), .slice A1 st.length q1, .slice A2 sl.length q2, .slice A3 inn.length q3, .slice A4 ou.length q4, .int .i64 sp, .bool true]) := ⟨⟨X2.out.cf, X2.out.cx⟩⟩
      have B3 : Aside0 (Below w.heap.size w W2.drew) := ⟨below_drew1 B2.out⟩
      have Z3 : Aside0 (w.heap.size + 1 < W2.drew.heap.size) := ⟨Z2.out⟩
      refine start_ (n := 9) (S := fun w' => Bx w' w.heap.size cs cr cw ck #[.int .i64 (p : Int), .slice A1 st.length q1, .slice A2 sl.length q2, .slice A3 inn.length q3, .slice A4 ou.length q4, .int .i64 sp, .bool true]) (ds := []) #[false, false, false, false, false, false, false, false, false] (by kernel_rfl) rfl rfl X3.out (fun hHeld => ?_)
      clear k0 k1 k2 k3 k4 k5 k6 k7 k8 k9 hc1
      generalize W2.drew = W3 at X3 B3 Z3 hHeld ⊢
      refine pure_ (i := 0) (N := some 63) (v := ?_) (a' := ?_) #[true, false, false, false, false, false, false, false, false] rfl rfl (by kernel_rfl) (fun _ _ _ h => h) (Or.inl ⟨by rfl, ?_⟩) ?_ ?_
      rotate_left
      · intro w'
        go_simp
        with_reducible rfl
      rotate_left
      · simp only [Act.put, List.setIfInBounds_toArray, List.set_cons_zero, List.set_cons_succ, i64_w, i32_w]
        rfl
      refine take_ (i := 1) (N := some 64) (v := ?_) (a' := ?_) #[true, true, false, false, false, false, false, false, false] rfl rfl (by kernel_rfl) (fun _ _ _ h => h) (Or.inl ⟨by rfl, ?_⟩) hHeld ?_ ?_
      rotate_left
      · rintro w' s0
        have y0 := s0.cell (j := 1) rfl
        clear s0
        go_simp
        with_reducible rfl
      rotate_left
      · simp only [Act.put, List.setIfInBounds_toArray, List.set_cons_zero, List.set_cons_succ, i64_w, i32_w]
        rfl
      refine pure_ (i := 2) (N := some 65) (v := ?_) (a' := ?_) #[true, true, true, false, false, false, false, false, false] rfl rfl (by kernel_rfl) (fun _ _ _ h => h) (Or.inl ⟨by rfl, ?_⟩) ?_ ?_
      rotate_left
      · intro w'
        go_simp
        with_reducible rfl
      rotate_left
      · simp only [Act.put, List.setIfInBounds_toArray, List.set_cons_zero, List.set_cons_succ, i64_w, i32_w]
        rfl
      refine pure_ (i := 3) (N := some 66) (v := ?_) (a' := ?_) #[true, true, true, true, false, false, false, false, false] rfl rfl (by kernel_rfl) (fun _ _ _ h => h) (Or.inl ⟨by rfl, ?_⟩) ?_ ?_
      rotate_left
      · intro w'
        go_simp
        with_reducible rfl
      rotate_left
      · simp only [Act.put, List.setIfInBounds_toArray, List.set_cons_zero, List.set_cons_succ, i64_w, i32_w]
        rfl
      refine pure_ (i := 4) (N := some 67) (v := ?_) (a' := ?_) #[true, true, true, true, true, false, false, false, false] rfl rfl (by kernel_rfl) (fun _ _ _ h => h) (Or.inl ⟨by rfl, ?_⟩) ?_ ?_
      rotate_left
      · intro w'
        go_simp
        with_reducible rfl
      rotate_left
      · simp only [Act.put, List.setIfInBounds_toArray, List.set_cons_zero, List.set_cons_succ, i64_w, i32_w]
        rfl
      refine take_ (i := 5) (N := some 68) (v := ?_) (a' := ?_) #[true, true, true, true, true, true, false, false, false] rfl rfl (by kernel_rfl) (fun _ _ _ h => h) (Or.inl ⟨by rfl, ?_⟩) hHeld ?_ ?_
      rotate_left
      · rintro w' s0
        have y0 := s0.cell (j := 0) rfl
        clear s0
        go_simp
        with_reducible rfl
      rotate_left
      · simp only [Act.put, List.setIfInBounds_toArray, List.set_cons_zero, List.set_cons_succ, i64_w, i32_w]
        rfl
      refine one_ (i := 6) (N := some 69) #[true, true, true, true, true, true, true, false, false] rfl rfl (by kernel_rfl) (by decide) (fun K hK => ?_)
      refine goes_ Try.func43 (by kernel_rfl) rfl #[.slice (some ad) l.length cap, .int .i64 (p : Int)] (by rfl) rfl rfl (by simp only [List.map_toArray, List.map_cons, List.map_nil]; rfl) ?_
      refine (high_calls (Kd.C_below HC.out.1 B3.out) HC.out.2.1 HG.out.1 HG.out.2.1 HG.out.2.2 (at_ := p) HPL.out.1 HL.out.2.2).mono ?_
      rintro e W4 ⟨rfl, hb⟩
      rw [HHE.out]
      have X4 := Aside0.mk (X3.out.below hb)
      have B4 : Aside0 (Below w.heap.size w W4) := ⟨B3.out.trans (hb.mono B3.out.size)⟩
      have Z4 : Aside0 (w.heap.size + 1 < W4.heap.size) := ⟨Nat.lt_of_lt_of_le Z3.out hb.size⟩
      refine ⟨_, rfl, hK.out _ _ X4.out (fun _ => ?_)⟩
      clear hK K hb hHeld X3 B3 Z3 X2 B2 Z2
      refine pure_ (i := 7) (N := some 70) (v := ?_) (a' := ?_) #[true, true, true, true, true, true, true, true, false] rfl rfl (by kernel_rfl) (fun _ _ _ h => h) (Or.inl ⟨by rfl, ?_⟩) ?_ ?_
      rotate_left
      · intro w'
        go_simp
        with_reducible rfl
      rotate_left
      · simp only [Act.put, List.setIfInBounds_toArray, List.set_cons_zero, List.set_cons_succ, i64_w, i32_w]
        rfl
      refine pure_ (i := 8) (N := some 19) (v := ?_) (a' := ?_) #[true, true, true, true, true, true, true, true, true] rfl rfl (by kernel_rfl) (fun _ _ _ h => h) (Or.inl ⟨by rfl, ?_⟩) ?_ ?_
      rotate_left
      · intro w'
        go_simp
        with_reducible rfl
      rotate_left
      · simp only [Act.put, List.setIfInBounds_toArray, List.set_cons_zero, List.set_cons_succ, i64_w, i32_w]
        rfl
      refine done_ (by kernel_rfl) ?_
      go_wp2
      show post (.returned (.tuple #[.pointer none, .int .i64 2])) W4
      rw [← HPO.out]
      exact LdPost.bad (fun hok => HN.out hok) B4.out
  | false =>
    clear c8
    by_cases c9 : (st.length : Int) = hh
    · have d9 : ((st.length : Int) != hh) = false := by simpa using c9
      have HOK : Aside0 (LdOk l ⟨cs, cr, cw, ck⟩ Av (p : Int) st.length sl.length inn.length ou.length sp false) := ⟨by omega, by have := HPL.out.1; omega, C345.out.1, C345.out.2.1, C345.out.2.2, by have := HPL.out.2.1; omega, by have := HPL.out.2.2; omega, fun h => (by cases h), by rw [Int.toNat_natCast, HHE.out]; exact c9⟩
      clear c9
      go_wp2_with fail
      have X3 : Aside0 (Bx W2.drew w.heap.size cs cr cw ck #[.int .i64 (p : Int), .slice A1 st.length q1, .slice A2 sl.length q2, .slice A3 inn.length q3, .slice A4 ou.length q4, .int .i64 sp, .bool false]) := ⟨⟨X2.out.cf, X2.out.cx⟩⟩
      have B3 : Aside0 (Below w.heap.size w W2.drew) := ⟨below_drew1 B2.out⟩
      have Z3 : Aside0 (w.heap.size + 1 < W2.drew.heap.size) := ⟨Z2.out⟩
      refine start_ (n := 9) (S := fun w' => Bx w' w.heap.size cs cr cw ck #[.int .i64 (p : Int), .slice A1 st.length q1, .slice A2 sl.length q2, .slice A3 inn.length q3, .slice A4 ou.length q4, .int .i64 sp, .bool false]) (ds := []) #[false, false, false, false, false, false, false, false, false] (by kernel_rfl) rfl rfl X3.out (fun hHeld => ?_)
      clear k0 k1 k2 k3 k4 k5 k6 k7 k8 k9 hc1
      generalize W2.drew = W3 at X3 B3 Z3 hHeld ⊢
      refine pure_ (i := 0) (N := some 63) (v := ?_) (a' := ?_) #[true, false, false, false, false, false, false, false, false] rfl rfl (by kernel_rfl) (fun _ _ _ h => h) (Or.inl ⟨by rfl, ?_⟩) ?_ ?_
      rotate_left
      · intro w'
        go_simp
        with_reducible rfl
      rotate_left
      · simp only [Act.put, List.setIfInBounds_toArray, List.set_cons_zero, List.set_cons_succ, i64_w, i32_w]
        rfl
      refine take_ (i := 1) (N := some 64) (v := ?_) (a' := ?_) #[true, true, false, false, false, false, false, false, false] rfl rfl (by kernel_rfl) (fun _ _ _ h => h) (Or.inl ⟨by rfl, ?_⟩) hHeld ?_ ?_
      rotate_left
      · rintro w' s0
        have y0 := s0.cell (j := 1) rfl
        clear s0
        go_simp
        with_reducible rfl
      rotate_left
      · simp only [Act.put, List.setIfInBounds_toArray, List.set_cons_zero, List.set_cons_succ, i64_w, i32_w]
        rfl
      refine pure_ (i := 2) (N := some 65) (v := ?_) (a' := ?_) #[true, true, true, false, false, false, false, false, false] rfl rfl (by kernel_rfl) (fun _ _ _ h => h) (Or.inl ⟨by rfl, ?_⟩) ?_ ?_
      rotate_left
      · intro w'
        go_simp
        with_reducible rfl
      rotate_left
      · simp only [Act.put, List.setIfInBounds_toArray, List.set_cons_zero, List.set_cons_succ, i64_w, i32_w]
        rfl
      refine pure_ (i := 3) (N := some 66) (v := ?_) (a' := ?_) #[true, true, true, true, false, false, false, false, false] rfl rfl (by kernel_rfl) (fun _ _ _ h => h) (Or.inl ⟨by rfl, ?_⟩) ?_ ?_
      rotate_left
      · intro w'
        go_simp
        with_reducible rfl
      rotate_left
      · simp only [Act.put, List.setIfInBounds_toArray, List.set_cons_zero, List.set_cons_succ, i64_w, i32_w]
        rfl
      refine pure_ (i := 4) (N := some 67) (v := ?_) (a' := ?_) #[true, true, true, true, true, false, false, false, false] rfl rfl (by kernel_rfl) (fun _ _ _ h => h) (Or.inl ⟨by rfl, ?_⟩) ?_ ?_
      rotate_left
      · intro w'
        go_simp
        with_reducible rfl
      rotate_left
      · simp only [Act.put, List.setIfInBounds_toArray, List.set_cons_zero, List.set_cons_succ, i64_w, i32_w]
        rfl
      refine take_ (i := 5) (N := some 68) (v := ?_) (a' := ?_) #[true, true, true, true, true, true, false, false, false] rfl rfl (by kernel_rfl) (fun _ _ _ h => h) (Or.inl ⟨by rfl, ?_⟩) hHeld ?_ ?_
      rotate_left
      · rintro w' s0
        have y0 := s0.cell (j := 0) rfl
        clear s0
        go_simp
        with_reducible rfl
      rotate_left
      · simp only [Act.put, List.setIfInBounds_toArray, List.set_cons_zero, List.set_cons_succ, i64_w, i32_w]
        rfl
      refine one_ (i := 6) (N := some 69) #[true, true, true, true, true, true, true, false, false] rfl rfl (by kernel_rfl) (by decide) (fun K hK => ?_)
      refine goes_ Try.func43 (by kernel_rfl) rfl #[.slice (some ad) l.length cap, .int .i64 (p : Int)] (by rfl) rfl rfl (by simp only [List.map_toArray, List.map_cons, List.map_nil]; rfl) ?_
      refine (high_calls (Kd.C_below HC.out.1 B3.out) HC.out.2.1 HG.out.1 HG.out.2.1 HG.out.2.2 (at_ := p) HPL.out.1 HL.out.2.2).mono ?_
      rintro e W4 ⟨rfl, hb⟩
      rw [HHE.out]
      have X4 := Aside0.mk (X3.out.below hb)
      have B4 : Aside0 (Below w.heap.size w W4) := ⟨B3.out.trans (hb.mono B3.out.size)⟩
      have Z4 : Aside0 (w.heap.size + 1 < W4.heap.size) := ⟨Nat.lt_of_lt_of_le Z3.out hb.size⟩
      refine ⟨_, rfl, hK.out _ _ X4.out (fun _ => ?_)⟩
      clear hK K hb hHeld X3 B3 Z3 X2 B2 Z2
      refine pure_ (i := 7) (N := some 70) (v := ?_) (a' := ?_) #[true, true, true, true, true, true, true, true, false] rfl rfl (by kernel_rfl) (fun _ _ _ h => h) (Or.inl ⟨by rfl, ?_⟩) ?_ ?_
      rotate_left
      · intro w'
        go_simp
        with_reducible rfl
      rotate_left
      · simp only [Act.put, List.setIfInBounds_toArray, List.set_cons_zero, List.set_cons_succ, i64_w, i32_w]
        rfl
      refine pure_ (i := 8) (N := some 19) (v := ?_) (a' := ?_) #[true, true, true, true, true, true, true, true, true] rfl rfl (by kernel_rfl) (fun _ _ _ h => h) (Or.inl ⟨by rfl, ?_⟩) ?_ ?_
      rotate_left
      · intro w'
        go_simp
        with_reducible rfl
      rotate_left
      · simp only [Act.put, List.setIfInBounds_toArray, List.set_cons_zero, List.set_cons_succ, i64_w, i32_w]
        rfl
      refine done_ (by kernel_rfl) ?_
      go_wp2_with fail
      have X5 : Aside0 (Bx W4.drew w.heap.size cs cr cw ck #[.int .i64 (p : Int), .slice A1 st.length q1, .slice A2 sl.length q2, .slice A3 inn.length q3, .slice A4 ou.length q4, .int .i64 sp, .bool false]) := ⟨⟨X4.out.cf, X4.out.cx⟩⟩
      have B5 : Aside0 (Below w.heap.size w W4.drew) := ⟨below_drew1 B4.out⟩
      have Z5 : Aside0 (w.heap.size + 1 < W4.drew.heap.size) := ⟨Z4.out⟩
      refine start_ (n := 10) (S := fun w' => Bx w' w.heap.size cs cr cw ck #[.int .i64 (p : Int), .slice A1 st.length q1, .slice A2 sl.length q2, .slice A3 inn.length q3, .slice A4 ou.length q4, .int .i64 sp, .bool false]) (ds := []) #[false, false, false, false, false, false, false, false, false, false] (by kernel_rfl) rfl rfl X5.out (fun hHeld => ?_)
      generalize W4.drew = W5 at X5 B5 Z5 hHeld ⊢
      clear X4 B4 Z4
      refine pure_ (i := 0) (N := some 71) (v := ?_) (a' := ?_) #[true, false, false, false, false, false, false, false, false, false] rfl rfl (by kernel_rfl) (fun _ _ _ h => h) (Or.inl ⟨by rfl, ?_⟩) ?_ ?_
      rotate_left
      · intro w'
        go_simp
        with_reducible rfl
      rotate_left
      · simp only [Act.put, List.setIfInBounds_toArray, List.set_cons_zero, List.set_cons_succ, i64_w, i32_w]
        rfl
      refine take_ (i := 2) (N := some 73) (v := ?_) (a' := ?_) #[true, false, true, false, false, false, false, false, false, false] rfl rfl (by kernel_rfl) (fun _ _ _ h => h) (Or.inl ⟨by rfl, ?_⟩) hHeld ?_ ?_
      rotate_left
      · rintro w' s0
        have y0 := s0.cf
        clear s0
        show (do let r ← Instr.loadAt 24 (.pointer (some ⟨w.heap.size, 0, none⟩)); pure (Next.value r) : Sem Next).run Try.prog w' = _
        rw [Sem.run_bind, cf_load y0]
        rfl
      rotate_left
      · simp only [Act.put, List.setIfInBounds_toArray, List.set_cons_zero, List.set_cons_succ, i64_w, i32_w]
        rfl
      refine take_ (i := 3) (N := some 74) (v := ?_) (a' := ?_) #[true, false, true, true, false, false, false, false, false, false] rfl rfl (by kernel_rfl) (fun _ _ _ h => h) (Or.inl ⟨by rfl, ?_⟩) hHeld ?_ ?_
      rotate_left
      · rintro w' s0
        have y0 := s0.cell (j := 0) rfl
        have y1 := s0.cell (j := 1) rfl
        have y2 := s0.cell (j := 2) rfl
        have y3 := s0.cell (j := 3) rfl
        have y4 := s0.cell (j := 4) rfl
        have y5 := s0.cell (j := 5) rfl
        have y6 := s0.cell (j := 6) rfl
        clear s0
        go_simp
        with_reducible rfl
      rotate_left
      · simp only [Act.put, List.setIfInBounds_toArray, List.set_cons_zero, List.set_cons_succ, i64_w, i32_w]
        rfl
      refine one_ (i := 1) (N := some 72) #[true, true, true, true, false, false, false, false, false, false] rfl rfl (by kernel_rfl) (by decide) (fun K hK => ?_)
      refine goes_ Try.func29 (by kernel_rfl) rfl #[.slice (some ad) l.length cap] (by rfl) rfl rfl (by simp only [List.map_toArray, List.map_cons, List.map_nil]; rfl) ?_
      refine (clone_code (Kd.C_below HC.out.1 B5.out) HC.out.2.2 (Nat.le_trans HL.out.2.2 (by decide))).mono ?_
      rintro e W6 ⟨cv, rfl, hcv, bcv⟩
      obtain ⟨cad, cp, rfl⟩ := Kd.R_slice1 hcv HL.out.2.1
      have CV := Aside0.mk hcv
      have X6 := Aside0.mk (X5.out.below bcv)
      have S6 : Aside0 (Below w.heap.size w W6 ∧ w.heap.size ≤ W5.heap.size ∧ W5.heap.size ≤ W6.heap.size) := ⟨B5.out.trans (bcv.mono B5.out.size), B5.out.size, bcv.size⟩
      refine ⟨_, rfl, hK.out _ _ X6.out (fun _ => ?_)⟩
      clear hK K hcv bcv hHeld X5 B5 Z5
      refine norm_ (a' := ?_) ?_ ?_
      rotate_left
      · simp only [Act.put, List.setIfInBounds_toArray, List.set_cons_zero, List.set_cons_succ]
        rfl
      refine one_ (i := 4) (N := some 75) #[true, true, true, true, true, false, false, false, false, false] rfl rfl (by kernel_rfl) (by decide) (fun K hK => ?_)
      refine goes_ Try.func31 (by kernel_rfl) rfl #[.agg #[.int .i64 (p : Int), .slice A1 st.length q1, .slice A2 sl.length q2, .slice A3 inn.length q3, .slice A4 ou.length q4, .int .i64 sp, .bool false]] (by rfl) rfl rfl (by simp only [List.map_toArray, List.map_cons, List.map_nil]; rfl) ?_
      refine (copied_calls (x := (⟨p, st, sl, inn, ou, sp, false⟩ : Ctx)) (HI.out.1.below S6.out.1) (HI.out.2.1.below S6.out.1) (HI.out.2.2.1.below S6.out.1) (HI.out.2.2.2.below S6.out.1) HL.out.1.1 HL.out.1.2.1 HL.out.1.2.2.1 HL.out.1.2.2.2).mono ?_
      rintro e W7 ⟨⟨sv', tv', iv', ov', rfl, hc⟩, hb⟩
      obtain ⟨A5, q5, hs1, _⟩ := hc.st.slice
      obtain ⟨A6, q6, hs2, _⟩ := hc.sl.slice
      obtain ⟨A7, q7, hs3, _⟩ := hc.inn.slice
      obtain ⟨A8, q8, hs4, _⟩ := hc.ou.slice
      subst hs1 hs2 hs3 hs4
      have C7 := Aside0.mk hc
      have CV7 := Aside0.mk (Kd.R_below CV.out hb)
      have X7 := Aside0.mk (X6.out.below hb)
      have S7 : Aside0 (Below w.heap.size w W7 ∧ W6.heap.size ≤ W7.heap.size) := ⟨S6.out.1.trans (hb.mono S6.out.1.size), hb.size⟩
      refine ⟨_, rfl, hK.out _ _ X7.out (fun _ => ?_)⟩
      clear hK K hc hb X6 CV
      refine norm_ (a' := ?_) ?_ ?_
      rotate_left
      · simp only [Act.put, List.setIfInBounds_toArray, List.set_cons_zero, List.set_cons_succ, cxA]
        rfl
      refine one_ (i := 5) (N := some 76) #[true, true, true, true, true, true, false, false, false, false] rfl rfl (by kernel_rfl) (by decide) (fun K hK => ?_)
      refine goes_ Try.func30 (by kernel_rfl) rfl #[] (by rfl) rfl rfl (by simp only [List.map_toArray, List.map_nil]) ?_
      refine (pairs_calls _).mono ?_
      rintro e W8 ⟨M, rfl, hM, hMl, bM⟩
      have MM := Aside0.mk (And.intro hM hMl)
      have C8 := Aside0.mk (C7.out.move (fun k _ hk => bM.block k hk))
      have CV8 := Aside0.mk (Kd.R_below CV7.out bM)
      have X8 := Aside0.mk (X7.out.below bM)
      have S8 : Aside0 (Below w.heap.size w W8 ∧ W7.heap.size ≤ W8.heap.size) := ⟨S7.out.1.trans (bM.mono S7.out.1.size), bM.size⟩
      refine ⟨_, rfl, hK.out _ _ X8.out (fun _ => ?_)⟩
      clear hK K hM hMl bM X7 C7 CV7
      refine norm_ (a' := ?_) ?_ ?_
      rotate_left
      · simp only [Act.put, List.setIfInBounds_toArray, List.set_cons_zero, List.set_cons_succ]
        rfl
      refine pure_ (i := 6) (N := some 77) (v := ?_) (a' := ?_) #[true, true, true, true, true, true, true, false, false, false] rfl rfl (by kernel_rfl) (fun _ _ _ h => h) (Or.inl ⟨by rfl, ?_⟩) ?_ ?_
      rotate_left
      · intro w'
        go_simp
        with_reducible rfl
      rotate_left
      · simp only [Act.put, List.setIfInBounds_toArray, List.set_cons_zero, List.set_cons_succ, i64_w, i32_w]
        rfl
      refine one_ (i := 7) (N := some 78) #[true, true, true, true, true, true, true, true, false, false] rfl rfl (by kernel_rfl) (by decide) (fun K hK => ?_)
      refine value_ (v := .pointer (some ⟨W8.heap.size, 0, none⟩)) (w1 := W8.alloc (.cells #[.slice (some cad) l.length cp, .int .i64 cs, .int .i64 cr, .int .i64 cw, .int .i64 ck, .int .i64 (p : Int), .slice A5 st.length q5, .slice A6 sl.length q6, .slice A7 inn.length q7, .slice A8 ou.length q8, .int .i64 sp, .bool false, .map (some M)] (70 : Nat))) (by rfl) rfl ?_ ?_
      · have hu70 := Try.underlying70
        go_simp
        all_goals rfl
      have B9 := Aside0.mk ((Below.refl _ _).alloc (w := W8) (Nat.le_refl _) (.cells #[.slice (some cad) l.length cp, .int .i64 cs, .int .i64 cr, .int .i64 cw, .int .i64 ck, .int .i64 (p : Int), .slice A5 st.length q5, .slice A6 sl.length q6, .slice A7 inn.length q7, .slice A8 ou.length q8, .int .i64 sp, .bool false, .map (some M)] (70 : Nat)))
      have X9 := Aside0.mk (heap_alloc_new W8 (.cells #[.slice (some cad) l.length cp, .int .i64 cs, .int .i64 cr, .int .i64 cw, .int .i64 ck, .int .i64 (p : Int), .slice A5 st.length q5, .slice A6 sl.length q6, .slice A7 inn.length q7, .slice A8 ou.length q8, .int .i64 sp, .bool false, .map (some M)] (70 : Nat)))
      have Z9 : Aside0 ((W8.alloc (.cells #[.slice (some cad) l.length cp, .int .i64 cs, .int .i64 cr, .int .i64 cw, .int .i64 ck, .int .i64 (p : Int), .slice A5 st.length q5, .slice A6 sl.length q6, .slice A7 inn.length q7, .slice A8 ou.length q8, .int .i64 sp, .bool false, .map (some M)] (70 : Nat))).heap.size = W8.heap.size + 1) := ⟨by simp⟩
      refine hK.out _ _ (X8.out.below B9.out) (fun _ => ?_)
      clear hK K X8
      generalize W8.alloc (.cells #[.slice (some cad) l.length cp, .int .i64 cs, .int .i64 cr, .int .i64 cw, .int .i64 ck, .int .i64 (p : Int), .slice A5 st.length q5, .slice A6 sl.length q6, .slice A7 inn.length q7, .slice A8 ou.length q8, .int .i64 sp, .bool false, .map (some M)] (70 : Nat)) = W9 at B9 X9 Z9 ⊢
      refine norm_ (a' := ?_) ?_ ?_
      rotate_left
      · simp only [Act.put, List.setIfInBounds_toArray, List.set_cons_zero, List.set_cons_succ]
        rfl
      refine pure_ (i := 8) (N := some 6) (v := ?_) (a' := ?_) #[true, true, true, true, true, true, true, true, true, false] rfl rfl (by kernel_rfl) (fun _ _ _ h => h) (Or.inl ⟨by rfl, ?_⟩) ?_ ?_
      rotate_left
      · intro w'
        go_simp
        with_reducible rfl
      rotate_left
      · simp only [Act.put, List.setIfInBounds_toArray, List.set_cons_zero, List.set_cons_succ, i64_w, i32_w]
        rfl
      refine pure_ (i := 9) (N := some 7) (v := ?_) (a' := ?_) #[true, true, true, true, true, true, true, true, true, true] rfl rfl (by kernel_rfl) (fun _ _ _ h => h) (Or.inl ⟨by rfl, ?_⟩) ?_ ?_
      rotate_left
      · intro w'
        go_simp
        with_reducible rfl
      rotate_left
      · simp only [Act.put, List.setIfInBounds_toArray, List.set_cons_zero, List.set_cons_succ, i64_w, i32_w]
        rfl
      refine done_ (by kernel_rfl) ?_
      go_wp2
      show post (.returned (.tuple #[.pointer (some ⟨W8.heap.size, 0, none⟩), .int .i64 0])) W9
      rw [← HPO.out]
      refine ⟨fun _ => ⟨_, rfl, M, .slice (some cad) l.length cp, .slice A5 st.length q5, .slice A6 sl.length q6, .slice A7 inn.length q7, .slice A8 ou.length q8, ?_⟩, fun hn => absurd HOK.out hn, S8.out.1.trans (B9.out.mono S8.out.1.size)⟩
      have hz := Z9.out
      have z1 := S6.out.2
      have z2 := S7.out.2
      have z3 := S8.out.2
      have C9 := C8.out.move (fun k _ hk => B9.out.block k hk)
      refine { vb := X9.out, code := ?_, st := C9.st, sl := C9.sl, inn := C9.inn, ou := C9.ou, mp := MM.out.1.move (B9.out.block M MM.out.1.lt), d1 := C9.d1, d2 := C9.d2, d3 := C9.d3, zb := (by constructor <;> omega), zM := (by have h1 := MM.out.2; have h2 := MM.out.1.lt; constructor <;> omega), zs := ?_ }
      · refine Kd.R_mono (Kd.R_lower (Kd.R_move (Kd.R_bound CV8.out) (fun k hk => ?_)) (Nat.zero_le _)) (fun k hk => ?_)
        · obtain ⟨_, _, _, q, hq, cs', hc⟩ := hk
          exact B9.out.block k (Array.getElem?_eq_some_iff.1 hc).1
        · obtain ⟨h1, _, _, q, hq, cs', hc⟩ := hk
          have := (Array.getElem?_eq_some_iff.1 hc).1
          exact ⟨by omega, by omega⟩
      · intro k hk
        have h1 := C9.lo k hk
        refine ⟨by omega, ?_⟩
        rcases hk with h | h | h | h
        · exact C9.st.lt h
        · exact C9.sl.lt h
        · exact C9.inn.lt h
        · exact C9.ou.lt h
    · have d9 : ((st.length : Int) != hh) = true := by simpa using c9
      have HN : Aside0 (¬ LdOk l ⟨cs, cr, cw, ck⟩ Av (p : Int) st.length sl.length inn.length ou.length sp false) := ⟨fun hok => c9 (by have := hok.2.2.2.2.2.2.2.2; rw [Int.toNat_natCast, HHE.out] at this; exact this)⟩
      clear c9
      go_wp2_with fail
      have X3 : Aside0 (Bx W2.drew w.heap.size cs cr cw ck #[.int .i64 (p : Int), .slice A1 st.length q1, .slice A2 sl.length q2, .slice A3 inn.length q3, .slice A4 ou.length q4, .int .i64 sp, .bool false]) := ⟨⟨X2.out.cf, X2.out.cx⟩⟩
      have B3 : Aside0 (Below w.heap.size w W2.drew) := ⟨below_drew1 B2.out⟩
      have Z3 : Aside0 (w.heap.size + 1 < W2.drew.heap.size) := ⟨Z2.out⟩
      refine start_ (n := 9) (S := fun w' => Bx w' w.heap.size cs cr cw ck #[.int .i64 (p : Int), .slice A1 st.length q1, .slice A2 sl.length q2, .slice A3 inn.length q3, .slice A4 ou.length q4, .int .i64 sp, .bool false]) (ds := []) #[false, false, false, false, false, false, false, false, false] (by kernel_rfl) rfl rfl X3.out (fun hHeld => ?_)
      clear k0 k1 k2 k3 k4 k5 k6 k7 k8 k9 hc1
      generalize W2.drew = W3 at X3 B3 Z3 hHeld ⊢
      refine pure_ (i := 0) (N := some 63) (v := ?_) (a' := ?_) #[true, false, false, false, false, false, false, false, false] rfl rfl (by kernel_rfl) (fun _ _ _ h => h) (Or.inl ⟨by rfl, ?_⟩) ?_ ?_
      rotate_left
      · intro w'
        go_simp
        with_reducible rfl
      rotate_left
      · simp only [Act.put, List.setIfInBounds_toArray, List.set_cons_zero, List.set_cons_succ, i64_w, i32_w]
        rfl
      refine take_ (i := 1) (N := some 64) (v := ?_) (a' := ?_) #[true, true, false, false, false, false, false, false, false] rfl rfl (by kernel_rfl) (fun _ _ _ h => h) (Or.inl ⟨by rfl, ?_⟩) hHeld ?_ ?_
      rotate_left
      · rintro w' s0
        have y0 := s0.cell (j := 1) rfl
        clear s0
        go_simp
        with_reducible rfl
      rotate_left
      · simp only [Act.put, List.setIfInBounds_toArray, List.set_cons_zero, List.set_cons_succ, i64_w, i32_w]
        rfl
      refine pure_ (i := 2) (N := some 65) (v := ?_) (a' := ?_) #[true, true, true, false, false, false, false, false, false] rfl rfl (by kernel_rfl) (fun _ _ _ h => h) (Or.inl ⟨by rfl, ?_⟩) ?_ ?_
      rotate_left
      · intro w'
        go_simp
        with_reducible rfl
      rotate_left
      · simp only [Act.put, List.setIfInBounds_toArray, List.set_cons_zero, List.set_cons_succ, i64_w, i32_w]
        rfl
      refine pure_ (i := 3) (N := some 66) (v := ?_) (a' := ?_) #[true, true, true, true, false, false, false, false, false] rfl rfl (by kernel_rfl) (fun _ _ _ h => h) (Or.inl ⟨by rfl, ?_⟩) ?_ ?_
      rotate_left
      · intro w'
        go_simp
        with_reducible rfl
      rotate_left
      · simp only [Act.put, List.setIfInBounds_toArray, List.set_cons_zero, List.set_cons_succ, i64_w, i32_w]
        rfl
      refine pure_ (i := 4) (N := some 67) (v := ?_) (a' := ?_) #[true, true, true, true, true, false, false, false, false] rfl rfl (by kernel_rfl) (fun _ _ _ h => h) (Or.inl ⟨by rfl, ?_⟩) ?_ ?_
      rotate_left
      · intro w'
        go_simp
        with_reducible rfl
      rotate_left
      · simp only [Act.put, List.setIfInBounds_toArray, List.set_cons_zero, List.set_cons_succ, i64_w, i32_w]
        rfl
      refine take_ (i := 5) (N := some 68) (v := ?_) (a' := ?_) #[true, true, true, true, true, true, false, false, false] rfl rfl (by kernel_rfl) (fun _ _ _ h => h) (Or.inl ⟨by rfl, ?_⟩) hHeld ?_ ?_
      rotate_left
      · rintro w' s0
        have y0 := s0.cell (j := 0) rfl
        clear s0
        go_simp
        with_reducible rfl
      rotate_left
      · simp only [Act.put, List.setIfInBounds_toArray, List.set_cons_zero, List.set_cons_succ, i64_w, i32_w]
        rfl
      refine one_ (i := 6) (N := some 69) #[true, true, true, true, true, true, true, false, false] rfl rfl (by kernel_rfl) (by decide) (fun K hK => ?_)
      refine goes_ Try.func43 (by kernel_rfl) rfl #[.slice (some ad) l.length cap, .int .i64 (p : Int)] (by rfl) rfl rfl (by simp only [List.map_toArray, List.map_cons, List.map_nil]; rfl) ?_
      refine (high_calls (Kd.C_below HC.out.1 B3.out) HC.out.2.1 HG.out.1 HG.out.2.1 HG.out.2.2 (at_ := p) HPL.out.1 HL.out.2.2).mono ?_
      rintro e W4 ⟨rfl, hb⟩
      rw [HHE.out]
      have X4 := Aside0.mk (X3.out.below hb)
      have B4 : Aside0 (Below w.heap.size w W4) := ⟨B3.out.trans (hb.mono B3.out.size)⟩
      have Z4 : Aside0 (w.heap.size + 1 < W4.heap.size) := ⟨Nat.lt_of_lt_of_le Z3.out hb.size⟩
      refine ⟨_, rfl, hK.out _ _ X4.out (fun _ => ?_)⟩
      clear hK K hb hHeld X3 B3 Z3 X2 B2 Z2
      refine pure_ (i := 7) (N := some 70) (v := ?_) (a' := ?_) #[true, true, true, true, true, true, true, true, false] rfl rfl (by kernel_rfl) (fun _ _ _ h => h) (Or.inl ⟨by rfl, ?_⟩) ?_ ?_
      rotate_left
      · intro w'
        go_simp
        with_reducible rfl
      rotate_left
      · simp only [Act.put, List.setIfInBounds_toArray, List.set_cons_zero, List.set_cons_succ, i64_w, i32_w]
        rfl
      refine pure_ (i := 8) (N := some 19) (v := ?_) (a' := ?_) #[true, true, true, true, true, true, true, true, true] rfl rfl (by kernel_rfl) (fun _ _ _ h => h) (Or.inl ⟨by rfl, ?_⟩) ?_ ?_
      rotate_left
      · intro w'
        go_simp
        with_reducible rfl
      rotate_left
      · simp only [Act.put, List.setIfInBounds_toArray, List.set_cons_zero, List.set_cons_succ, i64_w, i32_w]
        rfl
      refine done_ (by kernel_rfl) ?_
      go_wp2
      show post (.returned (.tuple #[.pointer none, .int .i64 2])) W4
      rw [← HPO.out]
      exact LdPost.bad (fun hok => HN.out hok) B4.out
end Go.Proofs.Ytlmpoojpbdmmfaa.H
end
