/- Part 21 of the proof of the law L. The conditions: none. (Its parts: May22 Big22.) -/
import Derived.Laws.BitsLemmas
import Derived.KernelRfl
import Derived.Deep.MidRow
import Derived.Test.YtlmpoojpbdmmfaaKL04
import Derived.Test.YtlmpoojpbdmmfaaKL14
import Derived.Test.YtlmpoojpbdmmfaaKL16
import Derived.Test.YtlmpoojpbdmmfaaKL20
section
set_option linter.unusedVariables false
set_option linter.unusedSimpArgs false
namespace Go.Proofs.Ytlmpoojpbdmmfaa.H
open Go.RowKit Go.Proofs.YtlmpoojpbdmmfaaW.PrintWords Go.Proofs.YtlmpoojpbdmmfaaW.PrintLast Go.Proofs.YtlmpoojpbdmmfaaW.PrintMore Go.Maps
theorem rput_spec {l : List S53} {k : Nat} {s : Rst} (hs : s.kn = true) : ∀ (f : List Int) (n : Nat) (all : List Rst), (∀ x ∈ f, 0 ≤ x) → all.length = l.length → (rput l k s f n all).1 = 0 →
    (rput l k s f n all).2.length = l.length ∧
    (∀ x ∈ f, x < l.length ∧ ((rput l k s f n all).2.getD x.toNat rst0).kn = true ∧ ((rput l k s f n all).2.getD x.toNat rst0).h = s.h) ∧
    (∀ j, (all.getD j rst0).kn = true → ((rput l k s f n all).2.getD j rst0).kn = true ∧ ((rput l k s f n all).2.getD j rst0).h = (all.getD j rst0).h) ∧
    (∀ j : Nat, (j : Int) ∉ f → (rput l k s f n all).2.getD j rst0 = all.getD j rst0)
  | [], n, all, _, hl, _ => ⟨hl, fun x hx => (by cases hx), fun j h => ⟨h, rfl⟩, fun j _ => rfl⟩
  | x :: r, n, all, hx, hl, h => by
    rw [rput] at h ⊢
    have hx0 := hx x (by simp)
    by_cases h1 : (l.length : Int) ≤ x
    · rw [if_pos h1] at h
      split at h <;> simp at h
    rw [if_neg h1] at h ⊢
    have hxl : x.toNat < all.length := by omega
    have step : ∀ (t : Rst), t.kn = true → t.h = s.h → ((all.getD x.toNat rst0).kn = true → t.h = (all.getD x.toNat rst0).h) → (rput l k s r (n + 1) (all.set x.toNat t)).1 = 0 →
        (rput l k s r (n + 1) (all.set x.toNat t)).2.length = l.length ∧
        (∀ y ∈ x :: r, y < l.length ∧ ((rput l k s r (n + 1) (all.set x.toNat t)).2.getD y.toNat rst0).kn = true ∧ ((rput l k s r (n + 1) (all.set x.toNat t)).2.getD y.toNat rst0).h = s.h) ∧
        (∀ j, (all.getD j rst0).kn = true → ((rput l k s r (n + 1) (all.set x.toNat t)).2.getD j rst0).kn = true ∧ ((rput l k s r (n + 1) (all.set x.toNat t)).2.getD j rst0).h = (all.getD j rst0).h) ∧
        (∀ j : Nat, (j : Int) ∉ x :: r → (rput l k s r (n + 1) (all.set x.toNat t)).2.getD j rst0 = all.getD j rst0) := by
      intro t tk th tt h
      obtain ⟨i1, i2, i3, i4⟩ := rput_spec hs r (n + 1) (all.set x.toNat t) (fun y hy => hx y (by simp [hy])) (by rw [List.length_set]; exact hl) h
      have hself : (all.set x.toNat t).getD x.toNat rst0 = t := by simp [List.getD_eq_getElem?_getD, hxl]
      have hoth : ∀ j, j ≠ x.toNat → (all.set x.toNat t).getD j rst0 = all.getD j rst0 := fun j hj => by simp [List.getD_eq_getElem?_getD, List.getElem?_set, Ne.symm hj]
      refine ⟨i1, fun y hy => ?_, fun j hj => ?_, fun j hj => ?_⟩
      · rcases List.mem_cons.1 hy with rfl | hy
        · have := i3 y.toNat (by rw [hself]; exact tk)
          rw [hself] at this
          exact ⟨by omega, this.1, this.2.trans th⟩
        · exact i2 y hy
      · by_cases e : j = x.toNat
        · subst e
          have := i3 x.toNat (by rw [hself]; exact tk)
          rw [hself] at this
          exact ⟨this.1, this.2.trans (tt hj)⟩
        · have := i3 j (by rw [hoth j e]; exact hj)
          rw [hoth j e] at this
          exact this
      · have hjx : j ≠ x.toNat := fun e => hj (by rw [e, Int.toNat_of_nonneg hx0]; simp)
        rw [i4 j (fun hm => hj (by simp [hm])), hoth j hjx]
    by_cases h2 : (all.getD x.toNat rst0).kn = false
    · rw [if_pos h2] at h ⊢
      exact step s hs rfl (fun h3 => by rw [h2] at h3; cases h3) h
    rw [if_neg h2] at h ⊢
    by_cases h3 : (all.getD x.toNat rst0).h ≠ s.h
    · rw [if_pos h3] at h; simp at h
    rw [if_neg h3] at h ⊢
    by_cases h4 : (all.getD x.toNat rst0).wr ≠ s.wr
    · rw [if_pos h4] at h; simp at h
    rw [if_neg h4] at h ⊢
    exact step (meetR (all.getD x.toNat rst0) s) (by simpa [meetR] using h2) (by simpa [meetR] using h3) (fun _ => rfl) h
theorem rstep_next {s : Rst} {i : S53} {c : Cf} (h : (rstep s i c).2 = 0) : (rstep s i c).1.h = s.h - tks i.f0 + gvs i.f0 ∧ (rstep s i c).1.kn = s.kn := by
  unfold rstep at h ⊢
  by_cases h1 : mayB i.f0 i.f1 = false
  · rw [if_pos h1] at h; simp at h
  rw [if_neg h1] at h ⊢
  by_cases h2 : s.h < tks i.f0 ∨ c.stack < s.h - tks i.f0 + gvs i.f0
  · rw [if_pos h2] at h; simp at h
  rw [if_neg h2]
  unfold rstep2
  repeat' split
  all_goals exact ⟨rfl, rfl⟩
theorem tg_folI {l : List S53} {k j : Nat} (hm : mayB (rd_T53 l k).f0 (rd_T53 l k).f1 = true) (h : j ∈ tg19 (rd_T53 l (k : Int)) k) : (j : Int) ∈ folI l k := by
  unfold tg19 at h
  unfold folI
  by_cases h23 : (rd_T53 l k).f0 = 23
  · simp [h23] at h
  by_cases h21 : (rd_T53 l k).f0 = 21
  · have hb : 1 ≤ (rd_T53 l k).f1 ∧ (rd_T53 l k).f1 ≤ 4096 := by simpa [mayB, h21] using hm
    simp [h21] at h ⊢
    omega
  by_cases h22 : (rd_T53 l k).f0 = 22
  · have hb : 1 ≤ (rd_T53 l k).f1 ∧ (rd_T53 l k).f1 ≤ 4096 := by simpa [mayB, h22] using hm
    simp [h22] at h ⊢
    omega
  simp [h21, h22, h23] at h ⊢
  omega
theorem sgoL_spec {l : List S53} {c : Cf} : ∀ (d k : Nat) (all : List Rst) (high : Int), d + k = l.length → all.length = l.length → (sgo l c d k all high).2 = 0 →
    (∀ j, j < k → (sgoL l c d k all).getD j rst0 = all.getD j rst0) ∧
    (∀ j, (all.getD j rst0).kn = true → ((sgoL l c d k all).getD j rst0).h = (all.getD j rst0).h) ∧
    (∀ q, k ≤ q → q < l.length → ∀ j ∈ tg19 (rd_T53 l (q : Int)) q, ((sgoL l c d k all).getD j rst0).h = ((sgoL l c d k all).getD q rst0).h - tks (rd_T53 l (q : Int)).f0 + gvs (rd_T53 l (q : Int)).f0)
  | 0, k, all, high, hd, hl, h => ⟨fun j _ => rfl, fun j _ => rfl, fun q h1 h2 => by omega⟩
  | d + 1, k, all, high, hd, hl, h => by
    rw [sgo] at h
    by_cases h1 : (all.getD k rst0).kn = false
    · rw [if_pos h1] at h; simp at h
    rw [if_neg h1] at h
    by_cases h2 : (rstep (all.getD k rst0) (rd_T53 l k) c).2 ≠ 0
    · rw [if_pos h2] at h; exact absurd h h2
    rw [if_neg h2] at h
    by_cases h3 : (rput l k (rstep (all.getD k rst0) (rd_T53 l k) c).1 (folI l k) 0 all).1 ≠ 0
    · rw [if_pos h3] at h; exact absurd h h3
    rw [if_neg h3] at h
    rw [sgoL]
    have h2' := Classical.not_not.1 h2
    have hm := rstep_may h2'
    obtain ⟨e1, e2⟩ := rstep_next h2'
    have hk1 : (all.getD k rst0).kn = true := by simpa using h1
    have hf : ∀ x ∈ folI l k, (k : Int) + 1 ≤ x ∧ x ≤ k + 4096 := fun x hx => folI_pos hm hx
    obtain ⟨p1, p2, p3, p4⟩ := rput_spec (l := l) (k := k) (by rw [e2]; exact hk1) (folI l k) 0 all (fun x hx => by have := hf x hx; omega) hl (Classical.not_not.1 h3)
    obtain ⟨i1, i2, i3⟩ := sgoL_spec d (k + 1) _ _ (by omega) p1 h
    refine ⟨fun j hj => ?_, fun j hj => ?_, fun q hq hql j hj => ?_⟩
    · rw [i1 j (by omega), p4 j (fun hm2 => by have := hf _ hm2; omega)]
    · rw [i2 j (p3 j hj).1, (p3 j hj).2]
    · by_cases e : q = k
      · subst e
        have hjf := tg_folI hm hj
        have hjj := (p2 _ hjf).2
        rw [Int.toNat_natCast] at hjj
        rw [i2 j hjj.1, hjj.2, e1, i1 q (by omega), p4 q (fun hm2 => by have := hf _ hm2; omega)]
      · exact i3 q (by omega) hql j hj
theorem srefL_h {l : List S53} {c : Cf} {m : Int} {Av : Nat → Vst} (hv : (ver l c).2 = 0) (hg : ∀ p, p < l.length → Good l c m Av p) (h0 : (Av 0).h = 0) : ∀ p, p < l.length → ((srefL l c).getD p rst0).h = (Av p).h := by
  have hpred := ver_pred hv
  have hvs := hv
  rw [ver_sref] at hvs
  have h4 := (ver_ok hv).2
  have hsg : (sgo l c l.length 0 (all0 l.length) 0).2 = 0 := by
    unfold sref at hvs
    split at hvs
    · simp at hvs
    split at hvs
    · simp at hvs
    split at hvs
    · simp at hvs
    exact hvs
  obtain ⟨_, i2, i3⟩ := sgoL_spec l.length 0 (all0 l.length) 0 (by omega) (by simp [all0]) hsg
  intro p
  induction p using Nat.strongRecOn with
  | ind p ih =>
    intro hp
    rcases hpred p hp with rfl | ⟨q, hq, hm⟩
    · have hz : (all0 l.length).getD 0 rst0 = { rst0 with kn := true } := by simp [all0, List.getD_eq_getElem?_getD, hp]
      rw [srefL, i2 0 (by rw [hz]), hz, h0]
      rfl
    · have hgq := hg q (by omega)
      have e := i3 q (Nat.zero_le _) (by omega) p hm
      rw [srefL, e, (hgq.next p hm).2.2.h, chk_h hgq.chk]
      have := ih q hq (by omega)
      rw [srefL] at this
      rw [this]
def MayPost (ok : Prop) (w : World) (e : Ending) (w' : World) : Prop := (ok → e = .returned (.bool true)) ∧ (¬ ok → e = .returned (.bool false)) ∧ Below w.heap.size w w'
theorem MayPost.no {ok : Prop} {w w' : World} (h : ¬ ok) (hb : Below w.heap.size w w') : MayPost ok w (.returned (.bool false)) w' := ⟨fun k => absurd k h, fun _ => rfl, hb⟩
theorem MayPost.yes {ok : Prop} {w w' : World} (h : ok) (hb : Below w.heap.size w w') : MayPost ok w (.returned (.bool true)) w' := ⟨fun _ => rfl, fun k => absurd h k, hb⟩
theorem RowsAt.cellH {W : World} {ab : Nat} {all : List Rst} (H : RowsAt W ab all) {k : Nat} (hk : k < all.length) : W.cell? ⟨ab, k * 578 + 1, none⟩ = some (.int .i64 (all.getD k rst0).h) :=
  H.r k (all.getD k rst0) (by rw [List.getD_eq_getElem?_getD, List.getElem?_eq_getElem hk]; rfl) 1 (.int .i64 (all.getD k rst0).h) rfl
set_option maxHeartbeats 16000000 in
set_option maxRecDepth 100000 in
theorem may_calls {w : World} {A : Option Addr} {cap : Nat} {l : List S53} (hC : Kd.C k53 w A l.length l) (hcap : l.length ≤ cap) {cs cr cw ck : Int} {m : Int} {Av : Nat → Vst} (hv : (ver l ⟨cs, cr, cw, ck⟩).2 = 0) (hg : ∀ p, p < l.length → Good l ⟨cs, cr, cw, ck⟩ m Av p) (h0 : (Av 0).h = 0)
    {at_ sp : Int} {en : Bool} {st sl inn ou : List Int} {A1 A2 A3 A4 : Option Addr} {q1 q2 q3 q4 : Nat} :
    Calls Try.prog 25 #[.slice A l.length cap, .agg #[.int .i64 cs, .int .i64 cr, .int .i64 cw, .int .i64 ck], .agg (cxI at_ (.slice A1 st.length q1) (.slice A2 sl.length q2) (.slice A3 inn.length q3) (.slice A4 ou.length q4) sp en)] w (MayPost (LdOk l ⟨cs, cr, cw, ck⟩ Av at_ st.length sl.length inn.length ou.length sp en) w) := by
  have hlv := (ver_ok hv).2
  have hsr := hv
  rw [ver_sref] at hsr
  have hh := srefL_h hv hg h0
  have HH := Aside0.mk hh
  have HS := Aside0.mk hsr
  have HC := Aside0.mk (And.intro hC hcap)
  have HL := Aside0.mk (And.intro hlv.1 hlv.2.1)
  obtain ⟨post, hpost⟩ : ∃ p, MayPost (LdOk l ⟨cs, cr, cw, ck⟩ Av at_ st.length sl.length inn.length ou.length sp en) w = p := ⟨_, rfl⟩
  rw [hpost]
  have HPO := Aside0.mk hpost
  simp only [cxI]
  have X : Aside0 (Bx ((w.alloc (.cells #[.int .i64 cs, .int .i64 cr, .int .i64 cw, .int .i64 ck] (24 : Nat))).alloc (.cells #[.int .i64 at_, .slice A1 st.length q1, .slice A2 sl.length q2, .slice A3 inn.length q3, .slice A4 ou.length q4, .int .i64 sp, .bool en] (37 : Nat))) w.heap.size cs cr cw ck #[.int .i64 at_, .slice A1 st.length q1, .slice A2 sl.length q2, .slice A3 inn.length q3, .slice A4 ou.length q4, .int .i64 sp, .bool en]) := ⟨⟨(heap_alloc_old _ _ (by simp)).trans (heap_alloc_new _ _), by
    have := heap_alloc_new (w.alloc (.cells #[.int .i64 cs, .int .i64 cr, .int .i64 cw, .int .i64 ck] (24 : Nat))) (.cells #[.int .i64 at_, .slice A1 st.length q1, .slice A2 sl.length q2, .slice A3 inn.length q3, .slice A4 ou.length q4, .int .i64 sp, .bool en] (37 : Nat))
    simpa using this⟩⟩
  have B := Aside0.mk (((Below.refl w.heap.size w).alloc (Nat.le_refl _) (.cells #[.int .i64 cs, .int .i64 cr, .int .i64 cw, .int .i64 ck] (24 : Nat))).alloc (by simp) (.cells #[.int .i64 at_, .slice A1 st.length q1, .slice A2 sl.length q2, .slice A3 inn.length q3, .slice A4 ou.length q4, .int .i64 sp, .bool en] (37 : Nat)))
  have Z : Aside0 (w.heap.size + 1 < ((w.alloc (.cells #[.int .i64 cs, .int .i64 cr, .int .i64 cw, .int .i64 ck] (24 : Nat))).alloc (.cells #[.int .i64 at_, .slice A1 st.length q1, .slice A2 sl.length q2, .slice A3 inn.length q3, .slice A4 ou.length q4, .int .i64 sp, .bool en] (37 : Nat))).heap.size) := ⟨by simp⟩
  clear hv hC hcap hg h0 hlv hsr hh hpost
  have hu24 := Try.underlying24
  have hu37 := Try.underlying37
  go_enter Try.func25, Try.ntmps25
  go_wp2_with fail
  generalize (w.alloc (.cells #[.int .i64 cs, .int .i64 cr, .int .i64 cw, .int .i64 ck] (24 : Nat))).alloc (.cells #[.int .i64 at_, .slice A1 st.length q1, .slice A2 sl.length q2, .slice A3 inn.length q3, .slice A4 ou.length q4, .int .i64 sp, .bool en] (37 : Nat)) = W1 at X B Z ⊢
  refine (rstates_calls A cap l ⟨cs, cr, cw, ck⟩ _ (Kd.C_below HC.out.1 B.out) HC.out.2).mono ?_
  rintro e W2 ⟨⟨v, rfl, hall⟩, hb⟩
  obtain ⟨ab, rfl, hrows, hlen⟩ := hall HS.out
  have HR := Aside0.mk (And.intro hrows hlen)
  have X2 := Aside0.mk (X.out.below hb)
  have B2 := Aside0.mk (B.out.trans (hb.mono B.out.size))
  have Z2 : Aside0 (w.heap.size + 1 < W2.heap.size) := ⟨Nat.lt_of_lt_of_le Z.out hb.size⟩
  rw [HS.out]
  obtain ⟨hi, hhi⟩ : ∃ r, (sref l ⟨cs, cr, cw, ck⟩).1 = r := ⟨_, rfl⟩
  rw [hhi]
  clear hb B X Z hall hrows hlen hhi
  have k0 : W2.cell? ⟨w.heap.size + 1, 0, none⟩ = some (.int .i64 at_) := X2.out.cell rfl
  have k1 : W2.cell? ⟨w.heap.size + 1, 1, none⟩ = some (.slice A1 st.length q1) := X2.out.cell rfl
  have k2 : W2.cell? ⟨w.heap.size + 1, 2, none⟩ = some (.slice A2 sl.length q2) := X2.out.cell rfl
  have k3 : W2.cell? ⟨w.heap.size + 1, 3, none⟩ = some (.slice A3 inn.length q3) := X2.out.cell rfl
  have k4 : W2.cell? ⟨w.heap.size + 1, 4, none⟩ = some (.slice A4 ou.length q4) := X2.out.cell rfl
  have k5 : W2.cell? ⟨w.heap.size + 1, 5, none⟩ = some (.int .i64 sp) := X2.out.cell rfl
  have k6 : W2.cell? ⟨w.heap.size + 1, 6, none⟩ = some (.bool en) := X2.out.cell rfl
  obtain ⟨k7, k8, k9, _⟩ := X2.out.cells
  by_cases c1 : at_ < 0
  · have HN : Aside0 (¬ LdOk l ⟨cs, cr, cw, ck⟩ Av at_ st.length sl.length inn.length ou.length sp en) := ⟨fun hok => by have := hok.1; omega⟩
    have d1 : decide (at_ < 0) = true := decide_eq_true c1
    clear c1
    go_wp2
    show post (.returned (.bool false)) _
    rw [← HPO.out]
    exact MayPost.no (fun hok => HN.out hok) B2.out
  have d1 : decide (at_ < 0) = false := decide_eq_false c1
  obtain ⟨p, rfl⟩ : ∃ p : Nat, at_ = (p : Int) := ⟨at_.toNat, by omega⟩
  clear c1
  by_cases c2 : (l.length : Int) ≤ (p : Int)
  · have HN : Aside0 (¬ LdOk l ⟨cs, cr, cw, ck⟩ Av (p : Int) st.length sl.length inn.length ou.length sp en) := ⟨fun hok => by have := hok.2.1; omega⟩
    have d2 : decide ((l.length : Int) ≤ (p : Int)) = true := decide_eq_true c2
    have d2' : decide (l.length ≤ p) = true := decide_eq_true (by omega)
    clear c2
    go_wp2
    show post (.returned (.bool false)) _
    rw [← HPO.out]
    exact MayPost.no (fun hok => HN.out hok) B2.out
  have d2 : decide ((l.length : Int) ≤ (p : Int)) = false := decide_eq_false c2
  have d2' : decide (l.length ≤ p) = false := decide_eq_false (by omega)
  by_cases c3 : (sl.length : Int) ≠ cs
  · have HN : Aside0 (¬ LdOk l ⟨cs, cr, cw, ck⟩ Av (p : Int) st.length sl.length inn.length ou.length sp en) := ⟨fun hok => by have := hok.2.2.1; exact c3 this⟩
    have d3 : ((sl.length : Int) != cs) = true := by simpa using c3
    clear c3
    go_wp2
    show post (.returned (.bool false)) _
    rw [← HPO.out]
    exact MayPost.no (fun hok => HN.out hok) B2.out
  have d3 : ((sl.length : Int) != cs) = false := by simpa using c3
  by_cases c4 : (inn.length : Int) ≠ cr
  · have HN : Aside0 (¬ LdOk l ⟨cs, cr, cw, ck⟩ Av (p : Int) st.length sl.length inn.length ou.length sp en) := ⟨fun hok => by have := hok.2.2.2.1; exact c4 this⟩
    have d4 : ((inn.length : Int) != cr) = true := by simpa using c4
    clear c4
    go_wp2
    show post (.returned (.bool false)) _
    rw [← HPO.out]
    exact MayPost.no (fun hok => HN.out hok) B2.out
  have d4 : ((inn.length : Int) != cr) = false := by simpa using c4
  by_cases c5 : (ou.length : Int) ≠ cw
  · have HN : Aside0 (¬ LdOk l ⟨cs, cr, cw, ck⟩ Av (p : Int) st.length sl.length inn.length ou.length sp en) := ⟨fun hok => by have := hok.2.2.2.2.1; exact c5 this⟩
    have d5 : ((ou.length : Int) != cw) = true := by simpa using c5
    clear c5
    go_wp2
    show post (.returned (.bool false)) _
    rw [← HPO.out]
    exact MayPost.no (fun hok => HN.out hok) B2.out
  have d5 : ((ou.length : Int) != cw) = false := by simpa using c5
  have hpl : p < l.length := by omega
  have hpl' : (p : Int) < (l.length : Int) := by omega
  have hcap2 := HC.out.2
  obtain ⟨ad, rfl, hc1, _⟩ := at_T53 (Kd.C_below HC.out.1 B2.out) (p : Int) (by omega) (by omega)
  simp only [Int.toNat_natCast] at hc1
  obtain ⟨op, hop⟩ : ∃ o, (rd_T53 l (p : Int)).f0 = o := ⟨_, rfl⟩
  rw [hop] at hc1
  have hcH := HR.out.1.cellH (k := p) (by rw [HR.out.2]; exact hpl)
  rw [HH.out p hpl] at hcH
  obtain ⟨hg, hhg⟩ : ∃ h, (Av p).h = h := ⟨_, rfl⟩
  rw [hhg] at hcH
  have HG := Aside0.mk hhg
  have C345 := Aside0.mk (And.intro (Classical.not_not.1 c3) (And.intro (Classical.not_not.1 c4) (Classical.not_not.1 c5)))
  have HPL := Aside0.mk hpl
  have HOP := Aside0.mk hop
  clear hop c2 c3 c4 c5 hhg hcap2
  by_cases c6 : (st.length : Int) ≠ hg
  · have HN : Aside0 (¬ LdOk l ⟨cs, cr, cw, ck⟩ Av (p : Int) st.length sl.length inn.length ou.length sp en) := ⟨fun hok => by have := hok.2.2.2.2.2.2.2.2; rw [Int.toNat_natCast, HG.out] at this; exact c6 this⟩
    have d6 : ((st.length : Int) == hg) = false := by simpa using c6
    clear c6
    go_wp2
    go_quiet (fail)
    go_wp2
    show post (.returned (.bool false)) _
    rw [← HPO.out]
    exact MayPost.no (fun hok => HN.out hok) (pw_below_drewN B2.out _)
  have d6 : ((st.length : Int) == hg) = true := by simpa using c6
  have C6 := Aside0.mk (Classical.not_not.1 c6)
  clear c6
  by_cases c7 : sp < 0
  · have HN : Aside0 (¬ LdOk l ⟨cs, cr, cw, ck⟩ Av (p : Int) st.length sl.length inn.length ou.length sp en) := ⟨fun hok => by have := hok.2.2.2.2.2.1; omega⟩
    have d7 : decide (0 ≤ sp) = false := decide_eq_false (by omega)
    clear c7
    go_wp2
    go_quiet (fail)
    go_wp2
    show post (.returned (.bool false)) _
    rw [← HPO.out]
    exact MayPost.no (fun hok => HN.out hok) (pw_below_drewN B2.out _)
  have d7 : decide (0 ≤ sp) = true := decide_eq_true (by omega)
  by_cases c8 : 1099511627776 < sp
  · have HN : Aside0 (¬ LdOk l ⟨cs, cr, cw, ck⟩ Av (p : Int) st.length sl.length inn.length ou.length sp en) := ⟨fun hok => by have := hok.2.2.2.2.2.2.1; omega⟩
    have d8 : decide (sp ≤ 1099511627776) = false := decide_eq_false (by omega)
    clear c7 c8
    go_wp2
    go_quiet (fail)
    go_wp2
    show post (.returned (.bool false)) _
    rw [← HPO.out]
    exact MayPost.no (fun hok => HN.out hok) (pw_below_drewN B2.out _)
  have d8 : decide (sp ≤ 1099511627776) = true := decide_eq_true (by omega)
  have C78 := Aside0.mk (And.intro c7 c8)
  clear c7 c8
  by_cases c9 : en = true ∧ op ≠ 23
  · have HN : Aside0 (¬ LdOk l ⟨cs, cr, cw, ck⟩ Av (p : Int) st.length sl.length inn.length ou.length sp en) := ⟨fun hok => by have := hok.2.2.2.2.2.2.2.1 c9.1; rw [HOP.out] at this; exact c9.2 this⟩
    obtain ⟨rfl, c9⟩ := c9
    have d9 : (op == 23) = false := by simpa using c9
    clear c9
    go_wp2
    go_quiet (fail)
    go_wp2
    show post (.returned (.bool false)) _
    rw [← HPO.out]
    exact MayPost.no (fun hok => HN.out hok) (pw_below_drewN B2.out _)
  have HY : Aside0 (LdOk l ⟨cs, cr, cw, ck⟩ Av (p : Int) st.length sl.length inn.length ou.length sp en) := ⟨by
    refine ⟨by omega, hpl', C345.out.1, C345.out.2.1, C345.out.2.2, by have := C78.out; omega, by have := C78.out; omega, fun h => ?_, ?_⟩
    · rw [HOP.out]; exact Classical.not_not.1 (fun h2 => c9 ⟨h, h2⟩)
    · rw [Int.toNat_natCast, HG.out]; exact C6.out⟩
  cases en with
  | false =>
    clear c9
    go_wp2
    go_quiet (fail)
    go_wp2
    show post (.returned (.bool true)) _
    rw [← HPO.out]
    exact MayPost.yes HY.out (pw_below_drewN B2.out _)
  | true =>
    have d9 : (op == 23) = true := by
      have : op = 23 := Classical.not_not.1 (fun h2 => c9 ⟨rfl, h2⟩)
      simpa using this
    clear c9
    go_wp2
    go_quiet (fail)
    go_wp2
    show post (.returned (.bool true)) _
    rw [← HPO.out]
    exact MayPost.yes HY.out (pw_below_drewN B2.out _)
end Go.Proofs.Ytlmpoojpbdmmfaa.H
end
section
set_option linter.unusedVariables false
set_option linter.unusedSimpArgs false
namespace Go.Proofs.Ytlmpoojpbdmmfaa.H
open Go.RowKit Go.Proofs.YtlmpoojpbdmmfaaW.PrintWords Go.Proofs.YtlmpoojpbdmmfaaW.PrintLast Go.Proofs.YtlmpoojpbdmmfaaW.PrintMore
theorem zero117 (w : World) : (zeroValue 117).run Try.prog w = .ok (.agg #[.int .u64 0, .int .u64 0, .int .u64 0, .int .u64 0, .bool false]) w := by kernel_rfl
theorem zero115 (w : World) : (zeroValue 115).run Try.prog w = .ok (.agg #[.int .u64 0, .int .u64 0, .int .u64 0, .int .u64 0]) w := by kernel_rfl
theorem wraps_u64 (n : Int) (h₀ : 0 ≤ n) (h₁ : n < 2 ^ 64) : IntKind.u64.wrap n = n := by rw [IntKind.wrap_u64]; omega
theorem and32 {x : Int} (h0 : 0 ≤ x) (h1 : x < 18446744073709551616) : Go.bits .and .u64 x 4294967295 = x % 4294967296 := bits_mask .u64 64 (by decide) wraps_u64 32 (by decide) x h0 h1
set_option maxHeartbeats 4000000 in
theorem of_calls (x u d0 d1 : Int) (hu : IntKind.u64.wrap (if x < 0 then -IntKind.u64.wrap x else x) = u) (h0 : Go.bits .and .u64 u 4294967295 = d0) (h1 : u / 4294967296 = d1) (w : World) : Calls Try.prog 78 #[.int .i64 x] w fun e w' => e = .returned (.agg #[.int .u64 d0, .int .u64 d1, .int .u64 0, .int .u64 0, .bool (decide (x < 0))]) ∧ Below w.heap.size w w' := by
  have hz := zero117
  have hz5 := zero115
  by_cases hn : x < 0
  · have e1 : decide (x < 0) = true := decide_eq_true hn
    rw [if_pos hn] at hu
    go_enter Try.func78, Try.ntmps78
    go_wp2
    exact bodyPost_ret (v := .agg #[.int .u64 d0, .int .u64 d1, .int .u64 0, .int .u64 0, .bool (decide (x < 0))]) (by simp [results, Try.results78, go_sem, hu, h0, h1, e1]) rfl ⟨rfl, (Below.refl _ _).alloc (Nat.le_refl _) _⟩
  · have e1 : decide (x < 0) = false := decide_eq_false hn
    rw [if_neg hn] at hu
    go_enter Try.func78, Try.ntmps78
    go_wp2
    exact bodyPost_ret (v := .agg #[.int .u64 d0, .int .u64 d1, .int .u64 0, .int .u64 0, .bool (decide (x < 0))]) (by simp [results, Try.results78, go_sem, hu, h0, h1, e1]) rfl ⟨by rw [e1], (Below.refl _ _).alloc (Nat.le_refl _) _⟩
set_option maxHeartbeats 4000000 in
theorem round_calls (d0 d1 d2 d3 u r : Int) (n : Bool) (hu : Go.bits .or .u64 d0 (IntKind.u64.wrap (d1 * 4294967296)) = u) (hr : IntKind.i64.wrap (if n = true then IntKind.u64.wrap (-u) else u) = r) (w : World) : Calls Try.prog 81 #[.agg #[.int .u64 d0, .int .u64 d1, .int .u64 d2, .int .u64 d3, .bool n]] w fun e w' => e = .returned (.int .i64 r) ∧ Below w.heap.size w w' := by
  have hu117 := Try.underlying117
  have B := Aside0.mk ((Below.refl w.heap.size w).alloc (Nat.le_refl _) (.cells #[.int .u64 d0, .int .u64 d1, .int .u64 d2, .int .u64 d3, .bool n] (117 : Nat)))
  cases n with
  | true =>
    rw [if_pos rfl] at hr
    go_enter Try.func81, Try.ntmps81
    go_wp2
    go_ret
    exact ⟨rfl, B.out⟩
  | false =>
    rw [if_neg (by simp)] at hr
    go_enter Try.func81, Try.ntmps81
    go_wp2
    go_ret
    exact ⟨rfl, B.out⟩
theorem under115 : Try.prog.underlying 115 = some (.array 4 95) := by kernel_rfl
theorem inf95 : (Try.prog.info? 95).map (·.size) = some 1 := by kernel_rfl
theorem guard115 : Try.prog.eqGuardType Try.prog.depth 115 = false := by kernel_rfl
theorem part_u64 (xs : List Int) (i : Nat) (hi : i < xs.length) (w : World) : (part 95 (xs.map (Value.int .u64)).toArray i).run Try.prog w = .ok (.int .u64 (xs.getD i 0)) w := by
  have h4 : (isAgg 95).run Try.prog w = .ok false w := by
    unfold isAgg; rw [Sem.run_bind, run_underlying Try.underlying95 w]; rfl
  simp [part, Sem.run_bind, h4, hi, List.getD_eq_getElem?_getD]
theorem run_equal115 (a0 a1 a2 a3 : Int) (d : Nat) (w : World) :
    (Op.equalIn (d+2) 115 (.agg ([a0, a1, a2, a3].map (Value.int .u64)).toArray) (.agg ([0, 0, 0, 0].map (Value.int .u64)).toArray)).run Try.prog w = .ok (a0 == 0 && a1 == 0 && a2 == 0 && a3 == 0) w := by
  rw [Op.equalIn]
  simp only [Sem.run_bind, run_underlying under115, Result.andThen_ok]
  have hs : (Go.sizeOf 95).run Try.prog w = .ok 1 w := by
    cases hq : Try.prog.info? 95 with
    | none => have := inf95; simp [hq] at this
    | some i => have := inf95; simp [hq] at this; simp [sizeOf, typeInfo, hq, this]
  simp only [hs, Result.andThen_ok, Nat.mul_one]
  rw [Std.Legacy.Range.forIn_eq_forIn_range']
  simp only [Std.Legacy.Range.size, Nat.sub_zero, Nat.add_sub_cancel, Nat.div_one]
  have hr : List.range' 0 4 1 = [0, 1, 2, 3] := by decide
  rw [hr]
  have p0 := part_u64 [a0, a1, a2, a3] 0 (by simp) w
  have p1 := part_u64 [a0, a1, a2, a3] 1 (by simp) w
  have p2 := part_u64 [a0, a1, a2, a3] 2 (by simp) w
  have p3 := part_u64 [a0, a1, a2, a3] 3 (by simp) w
  have q0 := part_u64 [0, 0, 0, 0] 0 (by simp) w
  have q1 := part_u64 [0, 0, 0, 0] 1 (by simp) w
  have q2 := part_u64 [0, 0, 0, 0] 2 (by simp) w
  have q3 := part_u64 [0, 0, 0, 0] 3 (by simp) w
  have e0 := fun a b => run_equalIn_int (P := Try.prog) (w := w) d 95 .u64 .u64 a b Try.underlying95
  simp only [List.map_cons, List.map_nil, List.getD_cons_zero, List.getD_cons_succ] at p0 p1 p2 p3 q0 q1 q2 q3 ⊢
  simp only [List.forIn_cons, List.forIn_nil, Sem.run_bind, p0, q0, Result.andThen_ok, e0]
  by_cases c0 : a0 = 0
  · subst c0
    simp only [beq_self_eq_true, Bool.not_true, Bool.false_eq_true, if_false, Sem.run_pure, Result.andThen_ok, Sem.run_bind, p1, q1, e0]
    by_cases c1 : a1 = 0
    · subst c1
      simp only [beq_self_eq_true, Bool.not_true, Bool.false_eq_true, if_false, Sem.run_pure, Result.andThen_ok, Sem.run_bind, p2, q2, e0]
      by_cases c2 : a2 = 0
      · subst c2
        simp only [beq_self_eq_true, Bool.not_true, Bool.false_eq_true, if_false, Sem.run_pure, Result.andThen_ok, Sem.run_bind, p3, q3, e0]
        by_cases c3 : a3 = 0
        · subst c3
          simp
        · have : (a3 == 0) = false := by simpa using c3
          simp [this]
      · have : (a2 == 0) = false := by simpa using c2
        simp [this]
    · have : (a1 == 0) = false := by simpa using c1
      simp [this]
  · have : (a0 == 0) = false := by simpa using c0
    simp [this]
theorem wpList_eql115 {ops : Array Oper} {rest : List Oper} {op : Oper} {a : Act} {w : World} {Q : Exit → Act → World → Prop} (hgd : op.guard = none) (x y : Operand) (ho : op.op = .binOp .eql 115 x y 115) {a0 a1 a2 a3 : Int}
    (hx : a.eval x = .agg #[.int .u64 a0, .int .u64 a1, .int .u64 a2, .int .u64 a3]) (hy : a.eval y = .agg #[.int .u64 0, .int .u64 0, .int .u64 0, .int .u64 0])
    (h : wpList Try.prog ops Q rest (a.put op.dst (.bool (a0 == 0 && a1 == 0 && a2 == 0 && a3 == 0))) w) : wpList Try.prog ops Q (op :: rest) a w := by
  refine wpList_plain hgd fun _ hK => ?_
  unfold Oper.wp execOp
  have hg := run_eqGuard_agg (P := Try.prog) w .eql 115 x y #[.int .u64 a0, .int .u64 a1, .int .u64 a2, .int .u64 a3] #[.int .u64 0, .int .u64 0, .int .u64 0, .int .u64 0] guard115
  have he : (binOp .eql 115 (.agg #[.int .u64 a0, .int .u64 a1, .int .u64 a2, .int .u64 a3]) (.agg #[.int .u64 0, .int .u64 0, .int .u64 0, .int .u64 0])).run Try.prog w = .ok (.bool (a0 == 0 && a1 == 0 && a2 == 0 && a3 == 0)) w := by
    simp only [binOp, Op.equal, Sem.run_bind]
    rw [show Op.maxDepth = 9998 + 2 from rfl]
    have := run_equal115 a0 a1 a2 a3 9998 w
    simp only [List.map_cons, List.map_nil] at this
    rw [this]
    rfl
  simp only [ho, hx, hy, Sem.run_bind, hg, Result.andThen_ok, he]
  exact hK _ _ h
set_option maxHeartbeats 4000000 in
theorem zero_calls (d0 d1 d2 d3 : Int) (n : Bool) (w : World) : Calls Try.prog 82 #[.agg #[.int .u64 d0, .int .u64 d1, .int .u64 d2, .int .u64 d3, .bool n]] w fun e w' => e = .returned (.bool (d0 == 0 && d1 == 0 && d2 == 0 && d3 == 0)) ∧ Below w.heap.size w w' := by
  have hu117 := Try.underlying117
  have hz5 := zero115
  have B := Aside0.mk ((Below.refl w.heap.size w).alloc (Nat.le_refl _) (.cells #[.int .u64 d0, .int .u64 d1, .int .u64 d2, .int .u64 d3, .bool n] (117 : Nat)))
  go_enter Try.func82, Try.ntmps82
  go_wp2_with ((with_reducible refine gate_ (.binOp .eql 115 (.tmp 4) (.tmp 5) 115) rfl ?_); refine wpList_eql115 rfl (.tmp 4) (.tmp 5) rfl rfl rfl ?_)
  go_ret
  exact ⟨rfl, B.out⟩
theorem bcells {W : World} {g : Nat} {d0 d1 d2 d3 : Int} {n : Bool} (h : W.heap[g]? = some (.cells #[.int .u64 d0, .int .u64 d1, .int .u64 d2, .int .u64 d3, .bool n] (117 : Nat) (0, 0))) : W.cell? ⟨g, 0, none⟩ = some (.int .u64 d0) ∧ W.cell? ⟨g, 1, none⟩ = some (.int .u64 d1) ∧ W.cell? ⟨g, 2, none⟩ = some (.int .u64 d2) ∧ W.cell? ⟨g, 3, none⟩ = some (.int .u64 d3) ∧ W.cell? ⟨g, 4, none⟩ = some (.bool n) ∧ (∀ j, W.frozen? ⟨g, j, none⟩ = false) := by simp [World.cell?, World.frozen?, h]
set_option maxHeartbeats 4000000 in
theorem signed_calls (d0 d1 d2 d3 : Int) (n g : Bool) (w : World) : Calls Try.prog 79 #[.agg #[.int .u64 d0, .int .u64 d1, .int .u64 d2, .int .u64 d3, .bool n], .bool g] w fun e w' => e = .returned (.agg #[.int .u64 d0, .int .u64 d1, .int .u64 d2, .int .u64 d3, .bool (g && !(d0 == 0 && d1 == 0 && d2 == 0 && d3 == 0))]) ∧ Below w.heap.size w w' := by
  have hu117 := Try.underlying117
  have hz := zero117
  cases g with
  | false =>
    go_enter Try.func79, Try.ntmps79
    go_wp2
    exact bodyPost_ret (v := .agg #[.int .u64 d0, .int .u64 d1, .int .u64 d2, .int .u64 d3, .bool false]) (by simp [results, Try.results79, go_sem]) rfl ⟨rfl, ((Below.refl _ _).alloc (Nat.le_refl _) _).alloc (by simp) _⟩
  | true =>
    go_enter Try.func79, Try.ntmps79
    go_wp2_with fail
    have X := Aside0.mk ((heap_alloc_old (w := w.alloc (.cells #[.int .u64 d0, .int .u64 d1, .int .u64 d2, .int .u64 d3, .bool n] (117 : Nat))) (.cells #[.int .u64 0, .int .u64 0, .int .u64 0, .int .u64 0, .bool false] (117 : Nat)) (by simp)).trans (heap_alloc_new w (.cells #[.int .u64 d0, .int .u64 d1, .int .u64 d2, .int .u64 d3, .bool n] (117 : Nat))))
    have Y : Aside0 (((w.alloc (.cells #[.int .u64 d0, .int .u64 d1, .int .u64 d2, .int .u64 d3, .bool n] (117 : Nat))).alloc (.cells #[.int .u64 0, .int .u64 0, .int .u64 0, .int .u64 0, .bool false] (117 : Nat))).heap[w.heap.size + 1]? = some (.cells #[.int .u64 0, .int .u64 0, .int .u64 0, .int .u64 0, .bool false] (117 : Nat) (0, 0))) := ⟨by
      have := heap_alloc_new (w.alloc (.cells #[.int .u64 d0, .int .u64 d1, .int .u64 d2, .int .u64 d3, .bool n] (117 : Nat))) (.cells #[.int .u64 0, .int .u64 0, .int .u64 0, .int .u64 0, .bool false] (117 : Nat))
      simpa using this⟩
    have B := Aside0.mk (((Below.refl w.heap.size w).alloc (Nat.le_refl _) (.cells #[.int .u64 d0, .int .u64 d1, .int .u64 d2, .int .u64 d3, .bool n] (117 : Nat))).alloc (by simp) (.cells #[.int .u64 0, .int .u64 0, .int .u64 0, .int .u64 0, .bool false] (117 : Nat)))
    have Z : Aside0 (w.heap.size + 1 < ((w.alloc (.cells #[.int .u64 d0, .int .u64 d1, .int .u64 d2, .int .u64 d3, .bool n] (117 : Nat))).alloc (.cells #[.int .u64 0, .int .u64 0, .int .u64 0, .int .u64 0, .bool false] (117 : Nat))).heap.size) := ⟨by simp⟩
    generalize (w.alloc (.cells #[.int .u64 d0, .int .u64 d1, .int .u64 d2, .int .u64 d3, .bool n] (117 : Nat))).alloc (.cells #[.int .u64 0, .int .u64 0, .int .u64 0, .int .u64 0, .bool false] (117 : Nat)) = W1 at X Y B Z ⊢
    refine (zero_calls d0 d1 d2 d3 n _).mono ?_
    rintro e W2 ⟨rfl, hb⟩
    obtain ⟨x0, x1, x2, x3, x4, xf⟩ := bcells ((hb.block _ (by have := Z.out; omega)).trans X.out)
    obtain ⟨y0, y1, y2, y3, y4, yf⟩ := bcells ((hb.block _ Z.out).trans Y.out)
    have B2 := Aside0.mk (B.out.trans (hb.mono B.out.size))
    clear hb X Y B
    obtain ⟨q, hq⟩ : ∃ q, (d0 == 0 && d1 == 0 && d2 == 0 && d3 == 0) = q := ⟨_, rfl⟩
    rw [hq]
    have HQ := Aside0.mk hq
    clear hq
    go_wp2
    exact bodyPost_ret (v := .agg #[.int .u64 d0, .int .u64 d1, .int .u64 d2, .int .u64 d3, .bool (!q)]) (by simp [results, Try.results79, go_sem, x0, x1, x2, x3, x4, y0, y1, y2, y3, y4]) rfl ⟨by rw [HQ.out]; simp, (((((((B2.out.setCell (by simp) _).setCell (by simp) _).setCell (by simp) _).setCell (by simp) _).setCell (by simp) _).setCell (by simp) _))⟩
def ii : Nat → Int | 0 => 0 | 1 => 1 | 2 => 2 | 3 => 3 | _ => 4
def carry4 (c0 c1 c2 c3 : Int) : Nat → Int | 0 => 0 | 1 => c0 | 2 => c1 | 3 => c2 | _ => c3
def u0 (a r : Int) : Nat → Int | 0 => a | _ => r
def u1 (a r : Int) : Nat → Int | 0 => a | 1 => a | _ => r
def u2 (a r : Int) : Nat → Int | 0 => a | 1 => a | 2 => a | _ => r
def u3 (a r : Int) : Nat → Int | 0 => a | 1 => a | 2 => a | 3 => a | _ => r
theorem bstart (w : World) (o0 o1 o2 : Obj) : (((w.alloc o0).alloc o1).alloc o2).heap[w.heap.size]? = some o0 ∧ (((w.alloc o0).alloc o1).alloc o2).heap[w.heap.size + 1]? = some o1 ∧ (((w.alloc o0).alloc o1).alloc o2).heap[w.heap.size + 1 + 1]? = some o2 := by
  refine ⟨?_, ?_, ?_⟩
  · rw [heap_alloc_old _ _ (by simp; omega), heap_alloc_old _ _ (by simp)]; exact heap_alloc_new _ _
  · rw [heap_alloc_old _ _ (by simp)]
    have := heap_alloc_new (w.alloc o0) o1
    simpa using this
  · have := heap_alloc_new ((w.alloc o0).alloc o1) o2
    simpa using this
theorem bset {W : World} {g : Nat} {cs : Array Value} (h : W.heap[g]? = some (.cells cs (117 : Nat) (0, 0))) (j : Nat) (v : Value) : (W.setCell ⟨g, j, none⟩ v).heap[g]? = some (.cells (cs.setIfInBounds j v) (117 : Nat) (0, 0)) := by simp [World.setCell, Array.getElem?_modify, h]
theorem bother {W : World} {g k : Nat} {o : Option Obj} (h : W.heap[k]? = o) (hk : k ≠ g) (j : Nat) (v : Value) : (W.setCell ⟨g, j, none⟩ v).heap[k]? = o := (Below.heap_setCell W ⟨g, j, none⟩ v k hk).trans h
def plusPost (a0 a1 a2 a3 b0 b1 b2 b3 : Int) (n : Bool) (w : World) (e : Ending) (w' : World) : Prop := (∃ r0 r1 r2 r3 c0 c1 c2 c3 : Int, e = .returned (.agg #[.int .u64 r0, .int .u64 r1, .int .u64 r2, .int .u64 r3, .bool n]) ∧ r0 + 4294967296 * c0 = a0 + b0 ∧ r1 + 4294967296 * c1 = a1 + b1 + c0 ∧ r2 + 4294967296 * c2 = a2 + b2 + c1 ∧ r3 + 4294967296 * c3 = a3 + b3 + c2 ∧ (0 ≤ r0 ∧ r0 < 4294967296) ∧ (0 ≤ r1 ∧ r1 < 4294967296) ∧ (0 ≤ r2 ∧ r2 < 4294967296) ∧ (0 ≤ r3 ∧ r3 < 4294967296) ∧ (0 ≤ c3 ∧ c3 ≤ 1)) ∧ Below w.heap.size w w'
set_option maxHeartbeats 8000000 in
set_option maxRecDepth 100000 in
theorem plus_calls (a0 a1 a2 a3 b0 b1 b2 b3 : Int) (n m : Bool) (ha : (0 ≤ a0 ∧ a0 < 4294967296) ∧ (0 ≤ a1 ∧ a1 < 4294967296) ∧ (0 ≤ a2 ∧ a2 < 4294967296) ∧ (0 ≤ a3 ∧ a3 < 4294967296)) (hb : (0 ≤ b0 ∧ b0 < 4294967296) ∧ (0 ≤ b1 ∧ b1 < 4294967296) ∧ (0 ≤ b2 ∧ b2 < 4294967296) ∧ (0 ≤ b3 ∧ b3 < 4294967296)) (w : World) :
    Calls Try.prog 83 #[.agg #[.int .u64 a0, .int .u64 a1, .int .u64 a2, .int .u64 a3, .bool n], .agg #[.int .u64 b0, .int .u64 b1, .int .u64 b2, .int .u64 b3, .bool m]] w (plusPost a0 a1 a2 a3 b0 b1 b2 b3 n w) := by
  obtain ⟨r0, hr0⟩ : ∃ r, (a0 + b0) % 4294967296 = r := ⟨_, rfl⟩
  obtain ⟨c0, hc0⟩ : ∃ r, (a0 + b0) / 4294967296 = r := ⟨_, rfl⟩
  obtain ⟨r1, hr1⟩ : ∃ r, (a1 + b1 + c0) % 4294967296 = r := ⟨_, rfl⟩
  obtain ⟨c1, hc1⟩ : ∃ r, (a1 + b1 + c0) / 4294967296 = r := ⟨_, rfl⟩
  obtain ⟨r2, hr2⟩ : ∃ r, (a2 + b2 + c1) % 4294967296 = r := ⟨_, rfl⟩
  obtain ⟨c2, hc2⟩ : ∃ r, (a2 + b2 + c1) / 4294967296 = r := ⟨_, rfl⟩
  obtain ⟨r3, hr3⟩ : ∃ r, (a3 + b3 + c2) % 4294967296 = r := ⟨_, rfl⟩
  obtain ⟨c3, hc3⟩ : ∃ r, (a3 + b3 + c2) / 4294967296 = r := ⟨_, rfl⟩
  have HF : Aside0 (r0 + 4294967296 * c0 = a0 + b0 ∧ r1 + 4294967296 * c1 = a1 + b1 + c0 ∧ r2 + 4294967296 * c2 = a2 + b2 + c1 ∧ r3 + 4294967296 * c3 = a3 + b3 + c2 ∧ (0 ≤ r0 ∧ r0 < 4294967296) ∧ (0 ≤ r1 ∧ r1 < 4294967296) ∧ (0 ≤ r2 ∧ r2 < 4294967296) ∧ (0 ≤ r3 ∧ r3 < 4294967296) ∧ (0 ≤ c3 ∧ c3 ≤ 1)) := ⟨by refine ⟨?_, ?_, ?_, ?_, ?_, ?_, ?_, ?_, ?_⟩ <;> omega⟩
  have HE : Aside0 (((a0 + b0) % 4294967296 = r0 ∧ (a0 + b0) / 4294967296 = c0) ∧ ((a1 + b1 + c0) % 4294967296 = r1 ∧ (a1 + b1 + c0) / 4294967296 = c1) ∧ ((a2 + b2 + c1) % 4294967296 = r2 ∧ (a2 + b2 + c1) / 4294967296 = c2) ∧ ((a3 + b3 + c2) % 4294967296 = r3 ∧ (a3 + b3 + c2) / 4294967296 = c3)) := ⟨⟨hr0, hc0⟩, ⟨hr1, hc1⟩, ⟨hr2, hc2⟩, ⟨hr3, hc3⟩⟩
  have HA := Aside0.mk (And.intro ha hb)
  have HCC : Aside0 ((0 ≤ c0 ∧ c0 ≤ 1) ∧ (0 ≤ c1 ∧ c1 ≤ 1) ∧ (0 ≤ c2 ∧ c2 ≤ 1)) := ⟨by refine ⟨?_, ?_, ?_⟩ <;> omega⟩
  clear hr0 hc0 hr1 hc1 hr2 hc2 hr3 hc3 ha hb
  have hu117 := Try.underlying117
  have hu115 := under115
  have hz := zero117
  go_enter Try.func83, Try.ntmps83
  go_wp2_with fail
  have X : Aside0 ((((w.alloc (.cells #[.int .u64 a0, .int .u64 a1, .int .u64 a2, .int .u64 a3, .bool n] (117 : Nat))).alloc (.cells #[.int .u64 b0, .int .u64 b1, .int .u64 b2, .int .u64 b3, .bool m] (117 : Nat))).alloc (.cells #[.int .u64 0, .int .u64 0, .int .u64 0, .int .u64 0, .bool false] (117 : Nat))).heap[w.heap.size]? = some (.cells #[.int .u64 a0, .int .u64 a1, .int .u64 a2, .int .u64 a3, .bool n] (117 : Nat) (0, 0)) ∧ (((w.alloc (.cells #[.int .u64 a0, .int .u64 a1, .int .u64 a2, .int .u64 a3, .bool n] (117 : Nat))).alloc (.cells #[.int .u64 b0, .int .u64 b1, .int .u64 b2, .int .u64 b3, .bool m] (117 : Nat))).alloc (.cells #[.int .u64 0, .int .u64 0, .int .u64 0, .int .u64 0, .bool false] (117 : Nat))).heap[w.heap.size + 1]? = some (.cells #[.int .u64 b0, .int .u64 b1, .int .u64 b2, .int .u64 b3, .bool m] (117 : Nat) (0, 0)) ∧ (((w.alloc (.cells #[.int .u64 a0, .int .u64 a1, .int .u64 a2, .int .u64 a3, .bool n] (117 : Nat))).alloc (.cells #[.int .u64 b0, .int .u64 b1, .int .u64 b2, .int .u64 b3, .bool m] (117 : Nat))).alloc (.cells #[.int .u64 0, .int .u64 0, .int .u64 0, .int .u64 0, .bool false] (117 : Nat))).heap[w.heap.size + 1 + 1]? = some (.cells #[.int .u64 0, .int .u64 0, .int .u64 0, .int .u64 0, .bool false] (117 : Nat) (0, 0))) := ⟨bstart w (.cells #[.int .u64 a0, .int .u64 a1, .int .u64 a2, .int .u64 a3, .bool n] (117 : Nat)) (.cells #[.int .u64 b0, .int .u64 b1, .int .u64 b2, .int .u64 b3, .bool m] (117 : Nat)) (.cells #[.int .u64 0, .int .u64 0, .int .u64 0, .int .u64 0, .bool false] (117 : Nat))⟩
  have B := Aside0.mk ((((Below.refl w.heap.size w).alloc (Nat.le_refl _) (.cells #[.int .u64 a0, .int .u64 a1, .int .u64 a2, .int .u64 a3, .bool n] (117 : Nat))).alloc (by simp) (.cells #[.int .u64 b0, .int .u64 b1, .int .u64 b2, .int .u64 b3, .bool m] (117 : Nat))).alloc (by simp; omega) (.cells #[.int .u64 0, .int .u64 0, .int .u64 0, .int .u64 0, .bool false] (117 : Nat)))
  generalize (((w.alloc (.cells #[.int .u64 a0, .int .u64 a1, .int .u64 a2, .int .u64 a3, .bool n] (117 : Nat))).alloc (.cells #[.int .u64 b0, .int .u64 b1, .int .u64 b2, .int .u64 b3, .bool m] (117 : Nat))).alloc (.cells #[.int .u64 0, .int .u64 0, .int .u64 0, .int .u64 0, .bool false] (117 : Nat))) = W3 at X B ⊢
  generalize hB : w.heap.size = b at X B ⊢
  go_loopg [5, 6] 4 (fun kq v5 v6 wr => ∃ i : Nat, v5 = .int .u64 (carry4 c0 c1 c2 c3 i) ∧ v6 = .int .i64 (ii i) ∧ kq + i = 4 ∧ Aside0 (wr.heap[b]? = some (.cells #[.int .u64 (u0 a0 r0 i), .int .u64 (u1 a1 r1 i), .int .u64 (u2 a2 r2 i), .int .u64 (u3 a3 r3 i), .bool n] (117 : Nat) (0, 0)) ∧ wr.heap[b + 1]? = some (.cells #[.int .u64 b0, .int .u64 b1, .int .u64 b2, .int .u64 b3, .bool m] (117 : Nat) (0, 0)) ∧ wr.heap[b + 1 + 1]? = some (.cells #[.int .u64 0, .int .u64 0, .int .u64 0, .int .u64 0, .bool false] (117 : Nat) (0, 0))) ∧ Aside0 (Below b w wr))
  case atStart => exact ⟨0, rfl, rfl, rfl, X, B⟩
  case round =>
    obtain ⟨i, rfl, rfl, hik, HX, HB⟩ := hrel
    obtain ⟨a0r, a1r, a2r, a3r⟩ := HA.out.1
    obtain ⟨b0r, b1r, b2r, b3r⟩ := HA.out.2
    obtain ⟨c0r, c1r, c2r⟩ := HCC.out
    have hi : i = 0 ∨ i = 1 ∨ i = 2 ∨ i = 3 ∨ i = 4 := by omega
    rcases hi with rfl | rfl | rfl | rfl | rfl
    · dsimp only [ii, carry4, u0, u1, u2, u3] at HX ⊢
      obtain ⟨x0, x1, x2, x3, x4, xf⟩ := bcells HX.out.1
      obtain ⟨y0, y1, y2, y3, y4, yf⟩ := bcells HX.out.2.1
      obtain ⟨go, rfl⟩ : ∃ go, gk = go + 1 := ⟨gk - 1, by omega⟩
      have ha32 : Go.bits .and .u64 (a0 + b0) 4294967295 = r0 := by rw [and32 (by omega) (by omega)]; exact HE.out.1.1
      have HA32 := Aside0.mk ha32
      clear ha32
      go_wp2_with fail
      go_quiet (fail)
      go_wp2
      go_roundg go
      case measure => omega
      case rel =>
        refine ⟨1, by show _ = Value.int .u64 c0; rw [← HE.out.1.2], rfl, by omega, ⟨?_, bother HX.out.2.1 (by omega) _ _, bother HX.out.2.2 (by omega) _ _⟩, ⟨(pw_below_drewN HB.out nq).setCell (by simp) _⟩⟩
        have h := bset (W := wr.drewN nq) (g := b) HX.out.1 0 (.int .u64 (Go.bits .and .u64 (a0 + b0) 4294967295))
        rw [HA32.out] at h
        rw [HA32.out]
        exact h
    · dsimp only [ii, carry4, u0, u1, u2, u3] at HX ⊢
      obtain ⟨x0, x1, x2, x3, x4, xf⟩ := bcells HX.out.1
      obtain ⟨y0, y1, y2, y3, y4, yf⟩ := bcells HX.out.2.1
      obtain ⟨go, rfl⟩ : ∃ go, gk = go + 1 := ⟨gk - 1, by omega⟩
      have ha32 : Go.bits .and .u64 (a1 + b1 + c0) 4294967295 = r1 := by rw [and32 (by omega) (by omega)]; exact HE.out.2.1.1
      have HA32 := Aside0.mk ha32
      clear ha32
      go_wp2_with fail
      go_quiet (fail)
      go_wp2
      go_roundg go
      case measure => omega
      case rel =>
        refine ⟨2, by show _ = Value.int .u64 c1; rw [← HE.out.2.1.2], rfl, by omega, ⟨?_, bother HX.out.2.1 (by omega) _ _, bother HX.out.2.2 (by omega) _ _⟩, ⟨(pw_below_drewN HB.out nq).setCell (by simp) _⟩⟩
        have h := bset (W := wr.drewN nq) (g := b) HX.out.1 1 (.int .u64 (Go.bits .and .u64 (a1 + b1 + c0) 4294967295))
        rw [HA32.out] at h
        rw [HA32.out]
        exact h
    · dsimp only [ii, carry4, u0, u1, u2, u3] at HX ⊢
      obtain ⟨x0, x1, x2, x3, x4, xf⟩ := bcells HX.out.1
      obtain ⟨y0, y1, y2, y3, y4, yf⟩ := bcells HX.out.2.1
      obtain ⟨go, rfl⟩ : ∃ go, gk = go + 1 := ⟨gk - 1, by omega⟩
      have ha32 : Go.bits .and .u64 (a2 + b2 + c1) 4294967295 = r2 := by rw [and32 (by omega) (by omega)]; exact HE.out.2.2.1.1
      have HA32 := Aside0.mk ha32
      clear ha32
      go_wp2_with fail
      go_quiet (fail)
      go_wp2
      go_roundg go
      case measure => omega
      case rel =>
        refine ⟨3, by show _ = Value.int .u64 c2; rw [← HE.out.2.2.1.2], rfl, by omega, ⟨?_, bother HX.out.2.1 (by omega) _ _, bother HX.out.2.2 (by omega) _ _⟩, ⟨(pw_below_drewN HB.out nq).setCell (by simp) _⟩⟩
        have h := bset (W := wr.drewN nq) (g := b) HX.out.1 2 (.int .u64 (Go.bits .and .u64 (a2 + b2 + c1) 4294967295))
        rw [HA32.out] at h
        rw [HA32.out]
        exact h
    · dsimp only [ii, carry4, u0, u1, u2, u3] at HX ⊢
      obtain ⟨x0, x1, x2, x3, x4, xf⟩ := bcells HX.out.1
      obtain ⟨y0, y1, y2, y3, y4, yf⟩ := bcells HX.out.2.1
      obtain ⟨go, rfl⟩ : ∃ go, gk = go + 1 := ⟨gk - 1, by omega⟩
      have ha32 : Go.bits .and .u64 (a3 + b3 + c2) 4294967295 = r3 := by rw [and32 (by omega) (by omega)]; exact HE.out.2.2.2.1
      have HA32 := Aside0.mk ha32
      clear ha32
      go_wp2_with fail
      go_quiet (fail)
      go_wp2
      go_roundg go
      case measure => omega
      case rel =>
        refine ⟨4, by show _ = Value.int .u64 c3; rw [← HE.out.2.2.2.2], rfl, by omega, ⟨?_, bother HX.out.2.1 (by omega) _ _, bother HX.out.2.2 (by omega) _ _⟩, ⟨(pw_below_drewN HB.out nq).setCell (by simp) _⟩⟩
        have h := bset (W := wr.drewN nq) (g := b) HX.out.1 3 (.int .u64 (Go.bits .and .u64 (a3 + b3 + c2) 4294967295))
        rw [HA32.out] at h
        rw [HA32.out]
        exact h
    · dsimp only [ii, carry4, u0, u1, u2, u3] at HX ⊢
      obtain ⟨x0, x1, x2, x3, x4, xf⟩ := bcells HX.out.1
      obtain ⟨z0, z1, z2, z3, z4, zf⟩ := bcells HX.out.2.2
      go_wp2
      exact bodyPost_ret (v := .agg #[.int .u64 r0, .int .u64 r1, .int .u64 r2, .int .u64 r3, .bool n]) (by simp [results, Try.results83, go_sem, x0, x1, x2, x3, x4, z0, z1, z2, z3, z4]) rfl ⟨⟨r0, r1, r2, r3, c0, c1, c2, c3, rfl, HF.out⟩, by rw [hB]; exact ((((HB.out.setCell (by simp; omega) _).setCell (by simp; omega) _).setCell (by simp; omega) _).setCell (by simp; omega) _).setCell (by simp; omega) _⟩
def minusPost (a0 a1 a2 a3 b0 b1 b2 b3 : Int) (n : Bool) (w : World) (e : Ending) (w' : World) : Prop := (∃ r0 r1 r2 r3 c0 c1 c2 c3 : Int, e = .returned (.agg #[.int .u64 r0, .int .u64 r1, .int .u64 r2, .int .u64 r3, .bool n]) ∧ r0 = a0 - b0 + 4294967296 * c0 ∧ r1 = a1 - b1 - c0 + 4294967296 * c1 ∧ r2 = a2 - b2 - c1 + 4294967296 * c2 ∧ r3 = a3 - b3 - c2 + 4294967296 * c3 ∧ (0 ≤ r0 ∧ r0 < 4294967296) ∧ (0 ≤ r1 ∧ r1 < 4294967296) ∧ (0 ≤ r2 ∧ r2 < 4294967296) ∧ (0 ≤ r3 ∧ r3 < 4294967296) ∧ (0 ≤ c3 ∧ c3 ≤ 1)) ∧ Below w.heap.size w w'
set_option maxHeartbeats 8000000 in
set_option maxRecDepth 100000 in
theorem minus_calls (a0 a1 a2 a3 b0 b1 b2 b3 : Int) (n m : Bool) (ha : (0 ≤ a0 ∧ a0 < 4294967296) ∧ (0 ≤ a1 ∧ a1 < 4294967296) ∧ (0 ≤ a2 ∧ a2 < 4294967296) ∧ (0 ≤ a3 ∧ a3 < 4294967296)) (hb : (0 ≤ b0 ∧ b0 < 4294967296) ∧ (0 ≤ b1 ∧ b1 < 4294967296) ∧ (0 ≤ b2 ∧ b2 < 4294967296) ∧ (0 ≤ b3 ∧ b3 < 4294967296)) (w : World) :
    Calls Try.prog 85 #[.agg #[.int .u64 a0, .int .u64 a1, .int .u64 a2, .int .u64 a3, .bool n], .agg #[.int .u64 b0, .int .u64 b1, .int .u64 b2, .int .u64 b3, .bool m]] w (minusPost a0 a1 a2 a3 b0 b1 b2 b3 n w) := by
  obtain ⟨r0, hr0⟩ : ∃ r, (4294967296 + a0 - b0) % 4294967296 = r := ⟨_, rfl⟩
  obtain ⟨c0, hc0⟩ : ∃ r, 1 - (4294967296 + a0 - b0) / 4294967296 = r := ⟨_, rfl⟩
  obtain ⟨r1, hr1⟩ : ∃ r, (4294967296 + a1 - b1 - c0) % 4294967296 = r := ⟨_, rfl⟩
  obtain ⟨c1, hc1⟩ : ∃ r, 1 - (4294967296 + a1 - b1 - c0) / 4294967296 = r := ⟨_, rfl⟩
  obtain ⟨r2, hr2⟩ : ∃ r, (4294967296 + a2 - b2 - c1) % 4294967296 = r := ⟨_, rfl⟩
  obtain ⟨c2, hc2⟩ : ∃ r, 1 - (4294967296 + a2 - b2 - c1) / 4294967296 = r := ⟨_, rfl⟩
  obtain ⟨r3, hr3⟩ : ∃ r, (4294967296 + a3 - b3 - c2) % 4294967296 = r := ⟨_, rfl⟩
  obtain ⟨c3, hc3⟩ : ∃ r, 1 - (4294967296 + a3 - b3 - c2) / 4294967296 = r := ⟨_, rfl⟩
  have HF : Aside0 (r0 = a0 - b0 + 4294967296 * c0 ∧ r1 = a1 - b1 - c0 + 4294967296 * c1 ∧ r2 = a2 - b2 - c1 + 4294967296 * c2 ∧ r3 = a3 - b3 - c2 + 4294967296 * c3 ∧ (0 ≤ r0 ∧ r0 < 4294967296) ∧ (0 ≤ r1 ∧ r1 < 4294967296) ∧ (0 ≤ r2 ∧ r2 < 4294967296) ∧ (0 ≤ r3 ∧ r3 < 4294967296) ∧ (0 ≤ c3 ∧ c3 ≤ 1)) := ⟨by refine ⟨?_, ?_, ?_, ?_, ?_, ?_, ?_, ?_, ?_⟩ <;> omega⟩
  have HE : Aside0 (((4294967296 + a0 - b0) % 4294967296 = r0 ∧ 1 - (4294967296 + a0 - b0) / 4294967296 = c0) ∧ ((4294967296 + a1 - b1 - c0) % 4294967296 = r1 ∧ 1 - (4294967296 + a1 - b1 - c0) / 4294967296 = c1) ∧ ((4294967296 + a2 - b2 - c1) % 4294967296 = r2 ∧ 1 - (4294967296 + a2 - b2 - c1) / 4294967296 = c2) ∧ ((4294967296 + a3 - b3 - c2) % 4294967296 = r3 ∧ 1 - (4294967296 + a3 - b3 - c2) / 4294967296 = c3)) := ⟨⟨hr0, hc0⟩, ⟨hr1, hc1⟩, ⟨hr2, hc2⟩, ⟨hr3, hc3⟩⟩
  have HA := Aside0.mk (And.intro ha hb)
  have HCC : Aside0 ((0 ≤ c0 ∧ c0 ≤ 1) ∧ (0 ≤ c1 ∧ c1 ≤ 1) ∧ (0 ≤ c2 ∧ c2 ≤ 1)) := ⟨by refine ⟨?_, ?_, ?_⟩ <;> omega⟩
  clear hr0 hc0 hr1 hc1 hr2 hc2 hr3 hc3 ha hb
  have hu117 := Try.underlying117
  have hu115 := under115
  have hz := zero117
  go_enter Try.func85, Try.ntmps85
  go_wp2_with fail
  have X : Aside0 ((((w.alloc (.cells #[.int .u64 a0, .int .u64 a1, .int .u64 a2, .int .u64 a3, .bool n] (117 : Nat))).alloc (.cells #[.int .u64 b0, .int .u64 b1, .int .u64 b2, .int .u64 b3, .bool m] (117 : Nat))).alloc (.cells #[.int .u64 0, .int .u64 0, .int .u64 0, .int .u64 0, .bool false] (117 : Nat))).heap[w.heap.size]? = some (.cells #[.int .u64 a0, .int .u64 a1, .int .u64 a2, .int .u64 a3, .bool n] (117 : Nat) (0, 0)) ∧ (((w.alloc (.cells #[.int .u64 a0, .int .u64 a1, .int .u64 a2, .int .u64 a3, .bool n] (117 : Nat))).alloc (.cells #[.int .u64 b0, .int .u64 b1, .int .u64 b2, .int .u64 b3, .bool m] (117 : Nat))).alloc (.cells #[.int .u64 0, .int .u64 0, .int .u64 0, .int .u64 0, .bool false] (117 : Nat))).heap[w.heap.size + 1]? = some (.cells #[.int .u64 b0, .int .u64 b1, .int .u64 b2, .int .u64 b3, .bool m] (117 : Nat) (0, 0)) ∧ (((w.alloc (.cells #[.int .u64 a0, .int .u64 a1, .int .u64 a2, .int .u64 a3, .bool n] (117 : Nat))).alloc (.cells #[.int .u64 b0, .int .u64 b1, .int .u64 b2, .int .u64 b3, .bool m] (117 : Nat))).alloc (.cells #[.int .u64 0, .int .u64 0, .int .u64 0, .int .u64 0, .bool false] (117 : Nat))).heap[w.heap.size + 1 + 1]? = some (.cells #[.int .u64 0, .int .u64 0, .int .u64 0, .int .u64 0, .bool false] (117 : Nat) (0, 0))) := ⟨bstart w (.cells #[.int .u64 a0, .int .u64 a1, .int .u64 a2, .int .u64 a3, .bool n] (117 : Nat)) (.cells #[.int .u64 b0, .int .u64 b1, .int .u64 b2, .int .u64 b3, .bool m] (117 : Nat)) (.cells #[.int .u64 0, .int .u64 0, .int .u64 0, .int .u64 0, .bool false] (117 : Nat))⟩
  have B := Aside0.mk ((((Below.refl w.heap.size w).alloc (Nat.le_refl _) (.cells #[.int .u64 a0, .int .u64 a1, .int .u64 a2, .int .u64 a3, .bool n] (117 : Nat))).alloc (by simp) (.cells #[.int .u64 b0, .int .u64 b1, .int .u64 b2, .int .u64 b3, .bool m] (117 : Nat))).alloc (by simp; omega) (.cells #[.int .u64 0, .int .u64 0, .int .u64 0, .int .u64 0, .bool false] (117 : Nat)))
  generalize (((w.alloc (.cells #[.int .u64 a0, .int .u64 a1, .int .u64 a2, .int .u64 a3, .bool n] (117 : Nat))).alloc (.cells #[.int .u64 b0, .int .u64 b1, .int .u64 b2, .int .u64 b3, .bool m] (117 : Nat))).alloc (.cells #[.int .u64 0, .int .u64 0, .int .u64 0, .int .u64 0, .bool false] (117 : Nat))) = W3 at X B ⊢
  generalize hB : w.heap.size = b at X B ⊢
  go_loopg [5, 6] 4 (fun kq v5 v6 wr => ∃ i : Nat, v5 = .int .u64 (carry4 c0 c1 c2 c3 i) ∧ v6 = .int .i64 (ii i) ∧ kq + i = 4 ∧ Aside0 (wr.heap[b]? = some (.cells #[.int .u64 (u0 a0 r0 i), .int .u64 (u1 a1 r1 i), .int .u64 (u2 a2 r2 i), .int .u64 (u3 a3 r3 i), .bool n] (117 : Nat) (0, 0)) ∧ wr.heap[b + 1]? = some (.cells #[.int .u64 b0, .int .u64 b1, .int .u64 b2, .int .u64 b3, .bool m] (117 : Nat) (0, 0)) ∧ wr.heap[b + 1 + 1]? = some (.cells #[.int .u64 0, .int .u64 0, .int .u64 0, .int .u64 0, .bool false] (117 : Nat) (0, 0))) ∧ Aside0 (Below b w wr))
  case atStart => exact ⟨0, rfl, rfl, rfl, X, B⟩
  case round =>
    obtain ⟨i, rfl, rfl, hik, HX, HB⟩ := hrel
    obtain ⟨a0r, a1r, a2r, a3r⟩ := HA.out.1
    obtain ⟨b0r, b1r, b2r, b3r⟩ := HA.out.2
    obtain ⟨c0r, c1r, c2r⟩ := HCC.out
    have hi : i = 0 ∨ i = 1 ∨ i = 2 ∨ i = 3 ∨ i = 4 := by omega
    rcases hi with rfl | rfl | rfl | rfl | rfl
    · dsimp only [ii, carry4, u0, u1, u2, u3] at HX ⊢
      obtain ⟨x0, x1, x2, x3, x4, xf⟩ := bcells HX.out.1
      obtain ⟨y0, y1, y2, y3, y4, yf⟩ := bcells HX.out.2.1
      obtain ⟨go, rfl⟩ : ∃ go, gk = go + 1 := ⟨gk - 1, by omega⟩
      have ha32 : Go.bits .and .u64 (4294967296 + a0 - b0) 4294967295 = r0 := by rw [and32 (by omega) (by omega)]; exact HE.out.1.1
      have HA32 := Aside0.mk ha32
      clear ha32
      go_wp2_with fail
      go_quiet (fail)
      go_wp2
      go_roundg go
      case measure => omega
      case rel =>
        refine ⟨1, by show _ = Value.int .u64 c0; rw [← HE.out.1.2], rfl, by omega, ⟨?_, bother HX.out.2.1 (by omega) _ _, bother HX.out.2.2 (by omega) _ _⟩, ⟨(pw_below_drewN HB.out nq).setCell (by simp) _⟩⟩
        have h := bset (W := wr.drewN nq) (g := b) HX.out.1 0 (.int .u64 (Go.bits .and .u64 (4294967296 + a0 - b0) 4294967295))
        rw [HA32.out] at h
        rw [HA32.out]
        exact h
    · dsimp only [ii, carry4, u0, u1, u2, u3] at HX ⊢
      obtain ⟨x0, x1, x2, x3, x4, xf⟩ := bcells HX.out.1
      obtain ⟨y0, y1, y2, y3, y4, yf⟩ := bcells HX.out.2.1
      obtain ⟨go, rfl⟩ : ∃ go, gk = go + 1 := ⟨gk - 1, by omega⟩
      have ha32 : Go.bits .and .u64 (4294967296 + a1 - b1 - c0) 4294967295 = r1 := by rw [and32 (by omega) (by omega)]; exact HE.out.2.1.1
      have HA32 := Aside0.mk ha32
      clear ha32
      go_wp2_with fail
      go_quiet (fail)
      go_wp2
      go_roundg go
      case measure => omega
      case rel =>
        refine ⟨2, by show _ = Value.int .u64 c1; rw [← HE.out.2.1.2], rfl, by omega, ⟨?_, bother HX.out.2.1 (by omega) _ _, bother HX.out.2.2 (by omega) _ _⟩, ⟨(pw_below_drewN HB.out nq).setCell (by simp) _⟩⟩
        have h := bset (W := wr.drewN nq) (g := b) HX.out.1 1 (.int .u64 (Go.bits .and .u64 (4294967296 + a1 - b1 - c0) 4294967295))
        rw [HA32.out] at h
        rw [HA32.out]
        exact h
    · dsimp only [ii, carry4, u0, u1, u2, u3] at HX ⊢
      obtain ⟨x0, x1, x2, x3, x4, xf⟩ := bcells HX.out.1
      obtain ⟨y0, y1, y2, y3, y4, yf⟩ := bcells HX.out.2.1
      obtain ⟨go, rfl⟩ : ∃ go, gk = go + 1 := ⟨gk - 1, by omega⟩
      have ha32 : Go.bits .and .u64 (4294967296 + a2 - b2 - c1) 4294967295 = r2 := by rw [and32 (by omega) (by omega)]; exact HE.out.2.2.1.1
      have HA32 := Aside0.mk ha32
      clear ha32
      go_wp2_with fail
      go_quiet (fail)
      go_wp2
      go_roundg go
      case measure => omega
      case rel =>
        refine ⟨3, by show _ = Value.int .u64 c2; rw [← HE.out.2.2.1.2], rfl, by omega, ⟨?_, bother HX.out.2.1 (by omega) _ _, bother HX.out.2.2 (by omega) _ _⟩, ⟨(pw_below_drewN HB.out nq).setCell (by simp) _⟩⟩
        have h := bset (W := wr.drewN nq) (g := b) HX.out.1 2 (.int .u64 (Go.bits .and .u64 (4294967296 + a2 - b2 - c1) 4294967295))
        rw [HA32.out] at h
        rw [HA32.out]
        exact h
    · dsimp only [ii, carry4, u0, u1, u2, u3] at HX ⊢
      obtain ⟨x0, x1, x2, x3, x4, xf⟩ := bcells HX.out.1
      obtain ⟨y0, y1, y2, y3, y4, yf⟩ := bcells HX.out.2.1
      obtain ⟨go, rfl⟩ : ∃ go, gk = go + 1 := ⟨gk - 1, by omega⟩
      have ha32 : Go.bits .and .u64 (4294967296 + a3 - b3 - c2) 4294967295 = r3 := by rw [and32 (by omega) (by omega)]; exact HE.out.2.2.2.1
      have HA32 := Aside0.mk ha32
      clear ha32
      go_wp2_with fail
      go_quiet (fail)
      go_wp2
      go_roundg go
      case measure => omega
      case rel =>
        refine ⟨4, by show _ = Value.int .u64 c3; rw [← HE.out.2.2.2.2], rfl, by omega, ⟨?_, bother HX.out.2.1 (by omega) _ _, bother HX.out.2.2 (by omega) _ _⟩, ⟨(pw_below_drewN HB.out nq).setCell (by simp) _⟩⟩
        have h := bset (W := wr.drewN nq) (g := b) HX.out.1 3 (.int .u64 (Go.bits .and .u64 (4294967296 + a3 - b3 - c2) 4294967295))
        rw [HA32.out] at h
        rw [HA32.out]
        exact h
    · dsimp only [ii, carry4, u0, u1, u2, u3] at HX ⊢
      obtain ⟨x0, x1, x2, x3, x4, xf⟩ := bcells HX.out.1
      obtain ⟨z0, z1, z2, z3, z4, zf⟩ := bcells HX.out.2.2
      go_wp2
      exact bodyPost_ret (v := .agg #[.int .u64 r0, .int .u64 r1, .int .u64 r2, .int .u64 r3, .bool n]) (by simp [results, Try.results85, go_sem, x0, x1, x2, x3, x4, z0, z1, z2, z3, z4]) rfl ⟨⟨r0, r1, r2, r3, c0, c1, c2, c3, rfl, HF.out⟩, by rw [hB]; exact ((((HB.out.setCell (by simp; omega) _).setCell (by simp; omega) _).setCell (by simp; omega) _).setCell (by simp; omega) _).setCell (by simp; omega) _⟩
end Go.Proofs.Ytlmpoojpbdmmfaa.H
end
