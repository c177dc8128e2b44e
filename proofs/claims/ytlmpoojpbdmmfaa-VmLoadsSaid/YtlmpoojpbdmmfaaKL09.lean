/- Part 9 of the proof of the law L. The conditions: none. (Its parts: Chk19 SverifyVerify.) -/
import Derived.LoopTactic
import Derived.BigQuiet
import Derived.Deep.QuietTactic
import Derived.RegionTactic
import Derived.BigRegion
import Derived.StillTailTactics
import Derived.Test.YtlmpoojpbdmmfaaKL03
import Derived.Test.YtlmpoojpbdmmfaaKL07
import Derived.Test.YtlmpoojpbdmmfaaKL08
section
set_option linter.unusedVariables false
set_option linter.unusedSimpArgs false
namespace Go.Proofs.Ytlmpoojpbdmmfaa.H
open Go.RowKit Go.Proofs.YtlmpoojpbdmmfaaW.PrintWords Go.Proofs.YtlmpoojpbdmmfaaW.PrintLast Go.Proofs.YtlmpoojpbdmmfaaW.PrintMore
set_option maxHeartbeats 1000000 in
theorem slot_calls (a : Int) (h0 : 0 ≤ a) (h1 : a < 512) (w : World) : Calls Try.prog 77 #[.int .i64 a] w fun e w' => e = .returned (.tuple #[.int .i64 (a / 64), .int .u64 (shl .u64 1 (a % 64))]) ∧ Drawn0 w w' := by
  have e1 : Int.tmod a 64 = a % 64 := Int.tmod_eq_emod_of_nonneg h0
  have e2 : Int.tdiv a 64 = a / 64 := Int.tdiv_eq_ediv_of_nonneg h0
  have e3 : wrap64 (a / 64) = a / 64 := by unfold wrap64; omega
  have e5 : 0 ≤ Int.tmod a 64 := by rw [e1]; omega
  rw [← e1, ← e2]
  generalize hq : Int.tdiv a 64 = q at *
  rw [← e2] at e3
  generalize hy : Int.tmod a 64 = y at *
  have e6 : decide (0 ≤ y) = true := decide_eq_true e5
  obtain ⟨j, hj⟩ : ∃ j, shl .u64 1 y = j := ⟨_, rfl⟩
  have hj1 : IntKind.u64.wrap (1 * 2 ^ min y.toNat 64) = j := hj
  have hj2 : y ≤ 64 → IntKind.u64.wrap (1 * 2 ^ y.toNat) = j := shl_small hj
  have hj3 : IntKind.u64.wrap (2 ^ min y.toNat 64) = j := by have h_ := hj1; rw [Int.one_mul] at h_; exact h_
  have hj4 : y ≤ 64 → IntKind.u64.wrap (2 ^ y.toNat) = j := fun h => by have h_ := hj2 h; rw [Int.one_mul] at h_; exact h_
  rw [hj]
  clear e1 e2 h0 h1
  go_enter Try.func77, Try.ntmps77
  go_wp2
  go_quiet (fail)
  go_wp2
  go_ret2
  exact ⟨by simp [e3], ⟨nq, rfl⟩⟩
set_option maxHeartbeats 4000000 in
set_option maxRecDepth 100000 in
theorem checks_calls (b : Nat) (s : Vst) (i : S53) (c : Cf) (w : World) (hb : w.heap[b]? = some (.cells (stArr s) 98 (0, 0))) (hs : s.has.length = 8) (hh : 0 ≤ s.h ∧ s.h ≤ 100000) (hcw : 0 ≤ c.writes ∧ c.writes ≤ 64) :
    Calls Try.prog 50 #[.pointer (some ⟨b, 0, none⟩), .agg #[.int .u8 i.f0, .int .i64 i.f1], cfVal c] w fun e w' => e = .returned (.int .i64 (chk s i c).2) ∧ w.grownBy w' (some b) ∧ w'.heap[b]? = some (.cells (stArr (chk s i c).1) 98 (0, 0)) := by
  have hlt : b < w.heap.size := (Array.getElem?_eq_some_iff.1 hb).1
  have HS := Aside0.mk hs
  obtain ⟨cs, cr, cw, ck⟩ := c
  obtain ⟨op, ar⟩ := i
  simp only [cfVal]
  have e1 : ((w.alloc (.cells #[.int .u8 op, .int .i64 ar] (53 : Nat))).alloc (.cells #[.int .i64 cs, .int .i64 cr, .int .i64 cw, .int .i64 ck] (24 : Nat))).heap[w.heap.size]? = some (.cells #[.int .u8 op, .int .i64 ar] (53 : Nat) (0, 0)) := by
    rw [heap_alloc_old _ _ (by simp)]; exact heap_alloc_new _ _
  have e2 : ((w.alloc (.cells #[.int .u8 op, .int .i64 ar] (53 : Nat))).alloc (.cells #[.int .i64 cs, .int .i64 cr, .int .i64 cw, .int .i64 ck] (24 : Nat))).heap[w.heap.size + 1]? = some (.cells #[.int .i64 cs, .int .i64 cr, .int .i64 cw, .int .i64 ck] (24 : Nat) (0, 0)) := by
    have := heap_alloc_new (w.alloc (.cells #[.int .u8 op, .int .i64 ar] (53 : Nat))) (.cells #[.int .i64 cs, .int .i64 cr, .int .i64 cw, .int .i64 ck] (24 : Nat))
    simpa using this
  have e3 : ((w.alloc (.cells #[.int .u8 op, .int .i64 ar] (53 : Nat))).alloc (.cells #[.int .i64 cs, .int .i64 cr, .int .i64 cw, .int .i64 ck] (24 : Nat))).heap[b]? = some (.cells (stArr s) 98 (0, 0)) := by
    rw [heap_alloc_old _ _ (by simp; omega), heap_alloc_old _ _ hlt]; exact hb
  have e4 : w.grownBy ((w.alloc (.cells #[.int .u8 op, .int .i64 ar] (53 : Nat))).alloc (.cells #[.int .i64 cs, .int .i64 cr, .int .i64 cw, .int .i64 ck] (24 : Nat))) (some b) := (World.grownBy_alloc w _ _).trans (World.grownBy_alloc _ _ _)
  have E1 := Aside0.mk e1
  have E2 := Aside0.mk e2
  have E3 := Aside0.mk e3
  have E4 := Aside0.mk e4
  obtain ⟨K, hK⟩ := ev_may op ar
  have HK := Aside0.mk (hK K (Nat.le_refl _))
  clear hK e1 e2 e3 e4 hb hs
  go_enter Try.func50, Try.ntmps50
  go_wp2_with fail
  generalize (w.alloc (.cells #[.int .u8 op, .int .i64 ar] (53 : Nat))).alloc (.cells #[.int .i64 cs, .int .i64 cr, .int .i64 cw, .int .i64 ck] (24 : Nat)) = W at E1 E2 E3 E4 ⊢
  have HB := Aside0.mk hlt
  generalize hsz : w.heap.size = B at HB E1 E2 ⊢
  clear hlt hsz
  refine (code_May.calls K op ar _ _ HK.out).mono ?_
  rintro e W1 ⟨rfl, hb1⟩
  have F1 : W1.heap[B]? = _ := (hb1.block _ (Array.getElem?_eq_some_iff.1 E1.out).1).trans E1.out
  have F2 : W1.heap[B + 1]? = _ := (hb1.block _ (Array.getElem?_eq_some_iff.1 E2.out).1).trans E2.out
  have F3 : W1.heap[b]? = _ := (hb1.block _ (Array.getElem?_eq_some_iff.1 E3.out).1).trans E3.out
  have F4 : w.grownBy W1 (some b) := E4.out.trans (grown_of_below hb1 _)
  replace E1 := Aside0.mk F1
  replace E2 := Aside0.mk F2
  replace E3 := Aside0.mk F3
  replace E4 := Aside0.mk F4
  clear hb1 F1 F2 F3 F4
  cases hm : mayB op ar with
  | false =>
    go_wp2
    go_ret
    exact ⟨by simp [chk, hm], E4.out, by simpa [chk, hm] using E3.out⟩
  | true =>
    have x0 : W1.cell? ⟨B, 0, none⟩ = some (.int .u8 op) := by simp [World.cell?, E1.out]
    go_wp2_with fail
    refine (verify_Effect.calls op _ _ _ rfl).mono ?_
    rintro e w' ⟨rfl, ⟨nd, rfl⟩⟩
    clear x0
    generalize hW2 : W1.drewN nd = W2
    replace E1 : Aside0 (W2.heap[B]? = some (.cells #[.int .u8 op, .int .i64 ar] (53 : Nat) (0, 0))) := ⟨by rw [← hW2]; exact E1.out⟩
    replace E2 : Aside0 (W2.heap[B + 1]? = some (.cells #[.int .i64 cs, .int .i64 cr, .int .i64 cw, .int .i64 ck] (24 : Nat) (0, 0))) := ⟨by rw [← hW2]; exact E2.out⟩
    replace E3 : Aside0 (W2.heap[b]? = some (.cells (stArr s) 98 (0, 0))) := ⟨by rw [← hW2]; exact E3.out⟩
    replace E4 : Aside0 (w.grownBy W2 (some b)) := ⟨by rw [← hW2]; exact grown_drewN E4.out _⟩
    clear hW2
    have ht : 0 ≤ tks op ∧ tks op ≤ 2 := by unfold tks; split <;> (try split) <;> omega
    have hg : 0 ≤ gvs op ∧ gvs op ≤ 1 := by unfold gvs; split <;> (try split) <;> omega
    generalize hte : tks op = tk at *
    generalize hge : gvs op = gv at *
    have HTE := Aside0.mk hte
    have HGE := Aside0.mk hge
    have HM := Aside0.mk hm
    clear hte hge hm
    have x0 := st_h E3.out
    have x1 : W2.cell? ⟨B + 1, 3, none⟩ = some (.int .i64 ck) := by simp [World.cell?, E2.out]
    have w1 : wrap64 (s.h - tk) = s.h - tk := by unfold wrap64; omega
    have w2 : wrap64 (s.h - tk + gv) = s.h - tk + gv := by unfold wrap64; omega
    by_cases h1 : s.h < tk
    · have d1 : decide (s.h < tk) = true := decide_eq_true h1
      go_wp2
      go_quiet (fail)
      go_wp2
      go_ret
      exact ⟨by simp [chk, HM.out, HTE.out, h1], grown_drewN E4.out _, by simpa [chk, HM.out, HTE.out, h1] using E3.out⟩
    · have d1 : decide (s.h < tk) = false := decide_eq_false h1
      by_cases h2 : ck < s.h - tk + gv
      · have d2 : decide (ck < s.h - tk + gv) = true := decide_eq_true h2
        go_wp2
        go_quiet (fail)
        go_wp2
        go_ret
        exact ⟨by simp [chk, HM.out, HTE.out, HGE.out, h1, h2], grown_drewN E4.out _, by simpa [chk, HM.out, HTE.out, HGE.out, h1, h2] using E3.out⟩
      · have d2 : decide (ck < s.h - tk + gv) = false := decide_eq_false h2
        go_wp2
        go_quiet (fail)
        generalize hW3 : W2.drewN nq = W3
        replace E1 : Aside0 (W3.heap[B]? = some (.cells #[.int .u8 op, .int .i64 ar] (53 : Nat) (0, 0))) := ⟨by rw [← hW3]; exact E1.out⟩
        replace E2 : Aside0 (W3.heap[B + 1]? = some (.cells #[.int .i64 cs, .int .i64 cr, .int .i64 cw, .int .i64 ck] (24 : Nat) (0, 0))) := ⟨by rw [← hW3]; exact E2.out⟩
        replace E3 : Aside0 (W3.heap[b]? = some (.cells (stArr s) 98 (0, 0))) := ⟨by rw [← hW3]; exact E3.out⟩
        replace E4 : Aside0 (w.grownBy W3 (some b)) := ⟨by rw [← hW3]; exact grown_drewN E4.out _⟩
        clear hW3 x0 x1 w1 w2 d1 d2
        have x0 := st_h E3.out
        have x1 : W3.cell? ⟨B, 0, none⟩ = some (.int .u8 op) := by simp [World.cell?, E1.out]
        have xf := st_frozen 0 E3.out
        have w1 : wrap64 (gv - tk) = gv - tk := by unfold wrap64; omega
        have w2 : wrap64 (s.h + (gv - tk)) = s.h + (gv - tk) := by unfold wrap64; omega
        have hne : b < B := HB.out
        have x2 : W3.cell? ⟨B, 1, none⟩ = some (.int .i64 ar) := by simp [World.cell?, E1.out]
        have x3 : W3.cell? ⟨B + 1, 0, none⟩ = some (.int .i64 cs) := by simp [World.cell?, E2.out]
        have x4 : W3.cell? ⟨B + 1, 1, none⟩ = some (.int .i64 cr) := by simp [World.cell?, E2.out]
        have x5 : W3.cell? ⟨B + 1, 2, none⟩ = some (.int .i64 cw) := by simp [World.cell?, E2.out]
        have x9 := st_wr E3.out HS.out
        have xf9 := st_frozen 9 E3.out
        have HNO : ¬ (s.h < tk ∨ ck < s.h - tk + gv) := by omega
        have HC0 : chk s ⟨op, ar⟩ ⟨cs, cr, cw, ck⟩ = chk2 { s with h := s.h + (gv - tk) } ⟨op, ar⟩ ⟨cs, cr, cw, ck⟩ := by
          unfold chk
          rw [if_neg (by rw [HM.out]; decide)]
          simp only [HTE.out, HGE.out]
          rw [if_neg HNO]
        clear HNO
        generalize hq : s.h + (gv - tk) = h' at *
        have HC := Aside0.mk HC0
        have P3 : Aside0 ((W3.setCell ⟨b, 0, none⟩ (.int .i64 h')).heap[b]? = some (.cells (stArr { s with h := h' }) 98 (0, 0))) := ⟨st_put E3.out (stArr_h s _)⟩
        have P4 : Aside0 (w.grownBy (W3.setCell ⟨b, 0, none⟩ (.int .i64 h')) (some b)) := ⟨grown_set E4.out _ _⟩
        have hcw' : 0 ≤ cw ∧ cw ≤ 64 := hcw
        clear hcw HC0
        by_cases o23 : op = 23
        · subst o23
          have hc0 : decide (0 ≤ cw) = true := decide_eq_true hcw'.1
          obtain ⟨j, hj⟩ : ∃ j, shl .u64 1 cw = j := ⟨_, rfl⟩
          have hj1 : IntKind.u64.wrap (1 * 2 ^ min (cw).toNat 64) = j := hj
          have hj2 : cw ≤ 64 → IntKind.u64.wrap (1 * 2 ^ (cw).toNat) = j := shl_small hj
          have hj3 : IntKind.u64.wrap (2 ^ min (cw).toNat 64) = j := by have h_ := hj1; rw [Int.one_mul] at h_; exact h_
          have hj4 : cw ≤ 64 → IntKind.u64.wrap (2 ^ (cw).toNat) = j := fun h => by have h_ := hj2 h; rw [Int.one_mul] at h_; exact h_
          have hj5 := hj4 (by omega)
          have hj6 := hj2 (by omega)
          have HJ := Aside0.mk hj
          clear hj
          by_cases hp : 0 < h'
          · have hpd : decide (0 < h') = true := decide_eq_true hp
            go_wp2
            go_ret
            (rw [HC.out]; exact ⟨by simp [chk2, hp], P4.out, by simpa [chk2, hp] using P3.out⟩)
          · have hpd : decide (0 < h') = false := decide_eq_false hp
            have HPN := Aside0.mk hp
            clear hp
            go_wp2
            go_quiet (fail)
            go_wp2
            · go_ret
              rw [HC.out]
              refine ⟨?_, grown_drewN P4.out _, by simpa [chk2, HPN.out] using P3.out⟩
              rename_i hz
              have hz' : s.wr ≠ IntKind.u64.wrap (j - 1) := by simpa using hz
              simp [chk2, HPN.out, HJ.out, hz']
            · go_ret
              rw [HC.out]
              refine ⟨?_, grown_drewN P4.out _, by simpa [chk2, HPN.out] using P3.out⟩
              rename_i hz
              have hz' : s.wr = IntKind.u64.wrap (j - 1) := by simpa using hz
              simp [chk2, HPN.out, HJ.out, hz']
        by_cases o4 : op = 4
        · subst o4
          by_cases hp : cr ≤ ar
          · have hpd : decide (cr ≤ ar) = true := decide_eq_true hp
            go_wp2
            go_ret
            (rw [HC.out]; exact ⟨by simp [chk2, hp], P4.out, by simpa [chk2, hp] using P3.out⟩)
          · have hpd : decide (cr ≤ ar) = false := decide_eq_false hp
            have HPN := Aside0.mk hp
            clear hp
            go_wp2
            go_ret
            (rw [HC.out]; exact ⟨by simp [chk2, HPN.out], P4.out, by simpa [chk2, HPN.out] using P3.out⟩)
        by_cases o5 : op = 5
        · subst o5
          have ha : 0 ≤ ar ∧ ar < 64 := by
            have := HM.out
            simp [mayB] at this
            exact this
          have hc0 : decide (0 ≤ ar) = true := decide_eq_true ha.1
          obtain ⟨j, hj⟩ : ∃ j, shl .u64 1 ar = j := ⟨_, rfl⟩
          have hj1 : IntKind.u64.wrap (1 * 2 ^ min (ar).toNat 64) = j := hj
          have hj2 : ar ≤ 64 → IntKind.u64.wrap (1 * 2 ^ (ar).toNat) = j := shl_small hj
          have hj3 : IntKind.u64.wrap (2 ^ min (ar).toNat 64) = j := by have h_ := hj1; rw [Int.one_mul] at h_; exact h_
          have hj4 : ar ≤ 64 → IntKind.u64.wrap (2 ^ (ar).toNat) = j := fun h => by have h_ := hj2 h; rw [Int.one_mul] at h_; exact h_
          have hj5 := hj4 (by omega)
          have hj6 := hj2 (by omega)
          have HJ := Aside0.mk hj
          clear hj
          by_cases hp : cw ≤ ar
          · have hpd : decide (cw ≤ ar) = true := decide_eq_true hp
            go_wp2
            go_ret
            (rw [HC.out]; exact ⟨by simp [chk2, hp], P4.out, by simpa [chk2, hp] using P3.out⟩)
          · have hpd : decide (cw ≤ ar) = false := decide_eq_false hp
            have HPN := Aside0.mk hp
            clear hp
            obtain ⟨z, hz⟩ : ∃ z, Go.bits .and .u64 s.wr j = z := ⟨_, rfl⟩
            have HZ := Aside0.mk hz
            by_cases hz0 : z = 0
            · subst hz0
              go_wp2
              go_ret
              rw [HC.out]
              refine ⟨by simp [chk2, show ¬ cw ≤ ar by have := HPN.out; omega, HJ.out, HZ.out], grown_set P4.out _ _, ?_⟩
              have := st_put (j := 9) P3.out (stArr_wr _ (Go.bits .or .u64 s.wr j) HS.out)
              simpa [chk2, show ¬ cw ≤ ar by have := HPN.out; omega, HJ.out, HZ.out] using this
            · have hzd : (z != 0) = true := by simpa using hz0
              have hzd2 : (z == 0) = false := by simpa using hz0
              have HZ0 := Aside0.mk hz0
              clear hz0
              go_wp2
              go_ret
              rw [HC.out]
              exact ⟨by simp [chk2, show ¬ cw ≤ ar by have := HPN.out; omega, HJ.out, HZ.out, show ¬ z = 0 from HZ0.out], P4.out, by simpa [chk2, show ¬ cw ≤ ar by have := HPN.out; omega, HJ.out, HZ.out, show ¬ z = 0 from HZ0.out] using P3.out⟩
        by_cases o2 : op = 2
        · subst o2
          have ha : 0 ≤ ar ∧ ar < 512 := by
            have := HM.out
            simp [mayB] at this
            exact this
          go_wp2_with fail
          refine (slot_calls ar ha.1 ha.2 _).mono ?_
          rintro e w' ⟨rfl, ⟨nd, rfl⟩⟩
          have hk8 : (ar / 64).toNat < 8 := by omega
          have hki : ((ar / 64).toNat : Int) = ar / 64 := by omega
          have Q1 : Aside0 (((W3.setCell ⟨b, 0, none⟩ (.int .i64 h')).drewN nd).heap[B]? = some (.cells #[.int .u8 2, .int .i64 ar] (53 : Nat) (0, 0))) := ⟨set_far E1.out (by omega) _⟩
          have Q2 : Aside0 (((W3.setCell ⟨b, 0, none⟩ (.int .i64 h')).drewN nd).heap[B + 1]? = some (.cells #[.int .i64 cs, .int .i64 cr, .int .i64 cw, .int .i64 ck] (24 : Nat) (0, 0))) := ⟨set_far E2.out (by omega) _⟩
          have Q3 : Aside0 (((W3.setCell ⟨b, 0, none⟩ (.int .i64 h')).drewN nd).heap[b]? = some (.cells (stArr { s with h := h' }) 98 (0, 0))) := ⟨P3.out⟩
          have Q4 : Aside0 (w.grownBy ((W3.setCell ⟨b, 0, none⟩ (.int .i64 h')).drewN nd) (some b)) := ⟨grown_drewN P4.out _⟩
          clear P3 P4 x0 x1 x2 x3 x4 x5 x9 xf xf9 w1 w2 E1 E2 E3 E4
          generalize (W3.setCell ⟨b, 0, none⟩ (.int .i64 h')).drewN nd = W4 at Q1 Q2 Q3 Q4 ⊢
          have P3 := Q3
          have P4 := Q4
          have x1 : W4.cell? ⟨B, 0, none⟩ = some (.int .u8 2) := by simp [World.cell?, Q1.out]
          have x2 : W4.cell? ⟨B, 1, none⟩ = some (.int .i64 ar) := by simp [World.cell?, Q1.out]
          have x3 : W4.cell? ⟨B + 1, 0, none⟩ = some (.int .i64 cs) := by simp [World.cell?, Q2.out]
          obtain ⟨el, hel⟩ : ∃ el, s.has.getD (ar / 64).toNat 0 = el := ⟨_, rfl⟩
          have xk : W4.cell? ⟨b, 1 + (ar / 64).toNat, none⟩ = some (.int .u64 el) := by rw [← hel]; exact st_has P3.out (k := (ar / 64).toNat) (by rw [HS.out]; exact hk8)
          have HE := Aside0.mk hel
          have HEG : Aside0 (s.has[(ar / 64).toNat]?.getD 0 = el) := ⟨by rw [← List.getD_eq_getElem?_getD]; exact hel⟩
          clear hel
          have xf := st_frozen (1 + (ar / 64).toNat) P3.out
          obtain ⟨j, hj⟩ : ∃ j, shl .u64 1 (ar % 64) = j := ⟨_, rfl⟩
          rw [hj]
          have HJ := Aside0.mk hj
          have hd0 : 0 ≤ ar / 64 := by omega
          have hd8 : ar / 64 < 8 := by omega
          clear hj
          by_cases hp : cs ≤ ar
          · have hpd : decide (cs ≤ ar) = true := decide_eq_true hp
            go_wp2
            go_ret
            (rw [HC.out]; exact ⟨by simp [chk2, hp], P4.out, by simpa [chk2, hp] using P3.out⟩)
          · have hpd : decide (cs ≤ ar) = false := decide_eq_false hp
            have HPN := Aside0.mk hp
            clear hp
            obtain ⟨z, hz⟩ : ∃ z, Go.bits .and .u64 el j = z := ⟨_, rfl⟩
            have HZG := Aside0.mk hz
            by_cases hz0 : z = 0
            · subst hz0
              go_wp2
              go_ret
              rw [HC.out]
              exact ⟨by simp [chk2, show ¬ cs ≤ ar by have := HPN.out; omega, HJ.out, HEG.out, HZG.out], P4.out, by simpa [chk2, show ¬ cs ≤ ar by have := HPN.out; omega, HJ.out, HEG.out, HZG.out] using P3.out⟩
            · have hzd : (z != 0) = true := by simpa using hz0
              have hzd2 : (z == 0) = false := by simpa using hz0
              have HZ0 := Aside0.mk hz0
              clear hz0
              go_wp2
              go_still_tail 11, (by kernel_rfl)
              change wpList _ _ _ _ _ W4.drew
              go_wp2
              go_ret
              rw [HC.out]
              refine ⟨by simp [chk2, show ¬ cs ≤ ar by have := HPN.out; omega, HJ.out, HEG.out, HZG.out, show ¬ z = 0 from HZ0.out], grown_drew (grown_set P4.out _ _), ?_⟩
              show (W4.setCell ⟨b, 1 + (ar / 64).toNat, none⟩ (.int .u64 (Go.bits .or .u64 el j))).heap[b]? = _
              have := st_put (j := 1 + (ar / 64).toNat) P3.out (stArr_has _ (ar / 64).toNat (Go.bits .or .u64 el j) (by rw [HS.out]; exact hk8))
              simpa [chk2, show ¬ cs ≤ ar by have := HPN.out; omega, HJ.out, HEG.out, HZG.out, show ¬ z = 0 from HZ0.out] using this
        by_cases o3 : op = 3
        · subst o3
          have ha : 0 ≤ ar ∧ ar < 512 := by
            have := HM.out
            simp [mayB] at this
            exact this
          go_wp2_with fail
          refine (slot_calls ar ha.1 ha.2 _).mono ?_
          rintro e w' ⟨rfl, ⟨nd, rfl⟩⟩
          have hk8 : (ar / 64).toNat < 8 := by omega
          have hki : ((ar / 64).toNat : Int) = ar / 64 := by omega
          have Q1 : Aside0 (((W3.setCell ⟨b, 0, none⟩ (.int .i64 h')).drewN nd).heap[B]? = some (.cells #[.int .u8 3, .int .i64 ar] (53 : Nat) (0, 0))) := ⟨set_far E1.out (by omega) _⟩
          have Q2 : Aside0 (((W3.setCell ⟨b, 0, none⟩ (.int .i64 h')).drewN nd).heap[B + 1]? = some (.cells #[.int .i64 cs, .int .i64 cr, .int .i64 cw, .int .i64 ck] (24 : Nat) (0, 0))) := ⟨set_far E2.out (by omega) _⟩
          have Q3 : Aside0 (((W3.setCell ⟨b, 0, none⟩ (.int .i64 h')).drewN nd).heap[b]? = some (.cells (stArr { s with h := h' }) 98 (0, 0))) := ⟨P3.out⟩
          have Q4 : Aside0 (w.grownBy ((W3.setCell ⟨b, 0, none⟩ (.int .i64 h')).drewN nd) (some b)) := ⟨grown_drewN P4.out _⟩
          clear P3 P4 x0 x1 x2 x3 x4 x5 x9 xf xf9 w1 w2 E1 E2 E3 E4
          generalize (W3.setCell ⟨b, 0, none⟩ (.int .i64 h')).drewN nd = W4 at Q1 Q2 Q3 Q4 ⊢
          have P3 := Q3
          have P4 := Q4
          have x1 : W4.cell? ⟨B, 0, none⟩ = some (.int .u8 3) := by simp [World.cell?, Q1.out]
          have x2 : W4.cell? ⟨B, 1, none⟩ = some (.int .i64 ar) := by simp [World.cell?, Q1.out]
          have x3 : W4.cell? ⟨B + 1, 0, none⟩ = some (.int .i64 cs) := by simp [World.cell?, Q2.out]
          obtain ⟨el, hel⟩ : ∃ el, s.has.getD (ar / 64).toNat 0 = el := ⟨_, rfl⟩
          have xk : W4.cell? ⟨b, 1 + (ar / 64).toNat, none⟩ = some (.int .u64 el) := by rw [← hel]; exact st_has P3.out (k := (ar / 64).toNat) (by rw [HS.out]; exact hk8)
          have HE := Aside0.mk hel
          have HEG : Aside0 (s.has[(ar / 64).toNat]?.getD 0 = el) := ⟨by rw [← List.getD_eq_getElem?_getD]; exact hel⟩
          clear hel
          have xf := st_frozen (1 + (ar / 64).toNat) P3.out
          obtain ⟨j, hj⟩ : ∃ j, shl .u64 1 (ar % 64) = j := ⟨_, rfl⟩
          rw [hj]
          have HJ := Aside0.mk hj
          have hd0 : 0 ≤ ar / 64 := by omega
          have hd8 : ar / 64 < 8 := by omega
          clear hj
          by_cases hp : cs ≤ ar
          · have hpd : decide (cs ≤ ar) = true := decide_eq_true hp
            go_wp2
            go_ret
            (rw [HC.out]; exact ⟨by simp [chk2, hp], P4.out, by simpa [chk2, hp] using P3.out⟩)
          · have hpd : decide (cs ≤ ar) = false := decide_eq_false hp
            have HPN := Aside0.mk hp
            clear hp
            go_wp2
            go_still_tail 11, (by kernel_rfl)
            change wpList _ _ _ _ _ W4.drew
            go_wp2
            go_ret
            rw [HC.out]
            refine ⟨by simp [chk2, show ¬ cs ≤ ar by have := HPN.out; omega, HJ.out, HEG.out], grown_drew (grown_set P4.out _ _), ?_⟩
            show (W4.setCell ⟨b, 1 + (ar / 64).toNat, none⟩ (.int .u64 (Go.bits .or .u64 el j))).heap[b]? = _
            have := st_put (j := 1 + (ar / 64).toNat) P3.out (stArr_has _ (ar / 64).toNat (Go.bits .or .u64 el j) (by rw [HS.out]; exact hk8))
            simpa [chk2, show ¬ cs ≤ ar by have := HPN.out; omega, HJ.out, HEG.out] using this
        have q2 : (op == 2) = false := beq_eq_false_iff_ne.mpr o2
        have q3 : (op == 3) = false := beq_eq_false_iff_ne.mpr o3
        have q4 : (op == 4) = false := beq_eq_false_iff_ne.mpr o4
        have q5 : (op == 5) = false := beq_eq_false_iff_ne.mpr o5
        have q23 : (op == 23) = false := beq_eq_false_iff_ne.mpr o23
        go_wp2
        go_ret
        (rw [HC.out]; exact ⟨by simp [chk2, o2, o3, o4, o5, o23], P4.out, by simpa [chk2, o2, o3, o4, o5, o23] using P3.out⟩)
end Go.Proofs.Ytlmpoojpbdmmfaa.H
end
section
set_option linter.unusedVariables false
set_option linter.unusedSimpArgs false
namespace Go.Proofs.Ytlmpoojpbdmmfaa.H
open Go.RowKit Go.Proofs.YtlmpoojpbdmmfaaW.PrintWords Go.Proofs.YtlmpoojpbdmmfaaW.PrintLast Go.Proofs.YtlmpoojpbdmmfaaW.PrintMore
attribute [local go_sem] max2_int min2_int max_two min_two max_three min_three max_four min_four
def verify_Verify.f (l0 : List (S53)) (a1_0 : Int) (a1_1 : Int) (a1_2 : Int) (a1_3 : Int) : Option (Int × Int) := some (ver l0 ⟨a1_0, a1_1, a1_2, a1_3⟩)
set_option maxHeartbeats 8000000 in
set_option maxRecDepth 100000 in
theorem verify_Verify.calls (A0 : Option Addr) (c0 : Nat) (l0 : List (S53)) (a1_0 : Int) (a1_1 : Int) (a1_2 : Int) (a1_3 : Int) (r1 : Int) (r2 : Int) (w : World) (hr0 : Kd.C k53 w A0 l0.length l0) (hc0 : l0.length ≤ c0) (h : verify_Verify.f l0 a1_0 a1_1 a1_2 a1_3 = some (r1, r2)) :
    Calls Try.prog 27 #[.slice A0 l0.length c0, .agg #[.int .i64 a1_0, .int .i64 a1_1, .int .i64 a1_2, .int .i64 a1_3]] w fun e w' => e = .returned (.tuple #[.int .i64 r1, .int .i64 r2]) ∧ Below w.heap.size w w' := by
  have hp := Option.some.inj h
  have HP := Aside0.mk hp
  have H0 := Aside0.mk hr0
  have HC0 := Aside0.mk hc0
  clear hp h hr0 hc0
  have e1 : ((w.alloc (.cells #[.slice A0 l0.length c0] (22 : Nat))).alloc (.cells #[.int .i64 a1_0, .int .i64 a1_1, .int .i64 a1_2, .int .i64 a1_3] (24 : Nat))).heap[w.heap.size]? = some (.cells #[.slice A0 l0.length c0] (22 : Nat) (0, 0)) := by
    rw [heap_alloc_old _ _ (by simp)]; exact heap_alloc_new _ _
  have e2 : ((w.alloc (.cells #[.slice A0 l0.length c0] (22 : Nat))).alloc (.cells #[.int .i64 a1_0, .int .i64 a1_1, .int .i64 a1_2, .int .i64 a1_3] (24 : Nat))).heap[w.heap.size + 1]? = some (.cells #[.int .i64 a1_0, .int .i64 a1_1, .int .i64 a1_2, .int .i64 a1_3] (24 : Nat) (0, 0)) := by
    have := heap_alloc_new (w.alloc (.cells #[.slice A0 l0.length c0] (22 : Nat))) (.cells #[.int .i64 a1_0, .int .i64 a1_1, .int .i64 a1_2, .int .i64 a1_3] (24 : Nat))
    simpa using this
  have E3 := Aside0.mk ((((Below.refl w.heap.size w).alloc (Nat.le_refl _) (.cells #[.slice A0 l0.length c0] (22 : Nat))).alloc (by simp) (.cells #[.int .i64 a1_0, .int .i64 a1_1, .int .i64 a1_2, .int .i64 a1_3] (24 : Nat))))
  have E1 := Aside0.mk e1
  have E2 := Aside0.mk e2
  clear e1 e2
  go_enter Try.func27, Try.ntmps27
  go_wp2_with fail
  refine (verify_May.calls a1_0 a1_1 a1_2 a1_3 (mayC a1_0 a1_1 a1_2 a1_3) _ rfl).mono ?_
  rintro e W1 ⟨rfl, hb1⟩
  generalize (w.alloc (.cells #[.slice A0 l0.length c0] (22 : Nat))).alloc (.cells #[.int .i64 a1_0, .int .i64 a1_1, .int .i64 a1_2, .int .i64 a1_3] (24 : Nat)) = W0 at E1 E2 E3 hb1
  have F1 := (hb1.block _ (Array.getElem?_eq_some_iff.1 E1.out).1).trans E1.out
  have F2 := (hb1.block _ (Array.getElem?_eq_some_iff.1 E2.out).1).trans E2.out
  have F3 := E3.out.trans (hb1.mono E3.out.size)
  replace E1 := Aside0.mk F1
  replace E2 := Aside0.mk F2
  replace E3 := Aside0.mk F3
  clear F1 F2 F3 hb1
  have x1 : W1.cell? ⟨w.heap.size, 0, none⟩ = some (.slice A0 l0.length c0) := by simp [World.cell?, E1.out]
  cases hmc : mayC a1_0 a1_1 a1_2 a1_3 with
  | false =>
    have hr : (r1, r2) = (0, 2) := by rw [← HP.out]; simp [ver, hmc]
    simp only [Prod.mk.injEq] at hr
    obtain ⟨rfl, rfl⟩ := hr
    go_wp2
    go_ret2
    exact ⟨rfl, E3.out⟩
  | true =>
  by_cases hl1 : 4096 < l0.length
  · have hr : (r1, r2) = (0, 4) := by rw [← HP.out]; simp [ver, hmc, hl1]
    simp only [Prod.mk.injEq] at hr
    obtain ⟨rfl, rfl⟩ := hr
    have d1 : decide (4096 < (l0.length : Int)) = true := decide_eq_true (by omega)
    go_wp2
    go_ret2
    exact ⟨rfl, E3.out⟩
  have d1 : decide (4096 < (l0.length : Int)) = false := decide_eq_false (by omega)
  by_cases hl0 : l0.length = 0
  · have hr : (r1, r2) = (0, 195) := by rw [← HP.out]; simp [ver, hmc, hl0]
    simp only [Prod.mk.injEq] at hr
    obtain ⟨rfl, rfl⟩ := hr
    have d2 : ((l0.length : Int) == 0) = true := by simp [hl0]
    have HL := Aside0.mk hl0
    clear hl0
    go_wp2
    go_ret2
    exact ⟨rfl, E3.out⟩
  have d2 : ((l0.length : Int) == 0) = false := beq_eq_false_iff_ne.mpr (by omega)
  have hmm := @run_makeMap Try.prog
  have hsz1 : (W1.alloc (.map #[] 0)).heap.size = W1.heap.size + 1 := by simp
  obtain ⟨W2, hrun, hv, hg⟩ := ((VM.made (bl := fun _ => 0) E3.out).alloc (.cells #[.int .i64 0, .int .u64 0, .int .u64 0, .int .u64 0, .int .u64 0, .int .u64 0, .int .u64 0, .int .u64 0, .int .u64 0, .int .u64 0] (98 : Nat))).put (k := 0) (s := st0) (b := W1.heap.size + 1) (by decide) (by decide) rfl
    (by rw [← hsz1]; exact heap_alloc_new _ _) (by have := E3.out.size; omega) (fun j hj => absurd rfl hj)
  simp only [Int.natCast_zero] at hrun
  have HV := Aside0.mk hv
  have HG := Aside0.mk (((World.grownBy_alloc W1 (.map #[] 0) (some W1.heap.size)).trans (World.grownBy_alloc _ (.cells #[.int .i64 0, .int .u64 0, .int .u64 0, .int .u64 0, .int .u64 0, .int .u64 0, .int .u64 0, .int .u64 0, .int .u64 0, .int .u64 0] (98 : Nat)) _)).trans hg)
  clear hv hg hsz1
  have hlw : w.heap.size < W1.heap.size := (Array.getElem?_eq_some_iff.1 E1.out).1
  have hlw1 : w.heap.size + 1 < W1.heap.size := (Array.getElem?_eq_some_iff.1 E2.out).1
  have G1 : Aside0 (W2.heap[w.heap.size]? = some (.cells #[.slice A0 l0.length c0] (22 : Nat) (0, 0))) := ⟨(HG.out.block _ hlw (by simp; omega)).trans E1.out⟩
  have G2 : Aside0 (W2.heap[w.heap.size + 1]? = some (.cells #[.int .i64 a1_0, .int .i64 a1_1, .int .i64 a1_2, .int .i64 a1_3] (24 : Nat) (0, 0))) := ⟨(HG.out.block _ hlw1 (by simp; omega)).trans E2.out⟩
  have G3 : Aside0 (Below w.heap.size w W2) := ⟨E3.out.grown HG.out E3.out.size (fun k e => by cases e; omega)⟩
  have x2 : W2.cell? ⟨w.heap.size, 0, none⟩ = some (.slice A0 l0.length c0) := by simp [World.cell?, G1.out]
  have hl2 : w.heap.size < W2.heap.size := Nat.lt_of_lt_of_le hlw HG.out.size
  have hl3 : w.heap.size + 1 < W2.heap.size := Nat.lt_of_lt_of_le hlw1 HG.out.size
  have K1 : Aside0 ((W2.alloc (.cells #[.map (some W1.heap.size)] (99 : Nat))).heap[w.heap.size]? = some (.cells #[.slice A0 l0.length c0] (22 : Nat) (0, 0))) := ⟨by rw [heap_alloc_old _ _ hl2]; exact G1.out⟩
  have K2 : Aside0 ((W2.alloc (.cells #[.map (some W1.heap.size)] (99 : Nat))).heap[w.heap.size + 1]? = some (.cells #[.int .i64 a1_0, .int .i64 a1_1, .int .i64 a1_2, .int .i64 a1_3] (24 : Nat) (0, 0))) := ⟨by rw [heap_alloc_old _ _ hl3]; exact G2.out⟩
  have K3 : Aside0 (Below w.heap.size w (W2.alloc (.cells #[.map (some W1.heap.size)] (99 : Nat)))) := ⟨G3.out.alloc G3.out.size _⟩
  have K4 : Aside0 ((W2.alloc (.cells #[.map (some W1.heap.size)] (99 : Nat))).heap[W2.heap.size]? = some (.cells #[.map (some W1.heap.size)] (99 : Nat) (0, 0))) := ⟨heap_alloc_new _ _⟩
  have K5 := Aside0.mk (HV.out.alloc (.cells #[.map (some W1.heap.size)] (99 : Nat)))
  clear HV HG G1 G2 G3 hl3 hlw hlw1
  have hvv : vgo l0 ⟨a1_0, a1_1, a1_2, a1_3⟩ l0.length 0 (fun j => if j = 0 then some st0 else none) 0 = (r1, r2) := by rw [← HP.out]; simp [ver, hmc, hl1, hl0]
  have HVV := Aside0.mk hvv
  clear hvv
  have hmc2 : (0 ≤ a1_0 ∧ a1_0 ≤ 512) ∧ (0 ≤ a1_1 ∧ a1_1 ≤ 64) ∧ (0 ≤ a1_2 ∧ a1_2 ≤ 64) ∧ (1 ≤ a1_3 ∧ a1_3 ≤ 256) := by simpa [mayC, and_assoc] using hmc
  have HMC := Aside0.mk hmc2
  clear hmc2
  go_wp2_with fail
  clear hrun hmm x1 x2 hl2 E1 E2 E3
  generalize hab : W2.heap.size = ab at K4 ⊢
  generalize hM : W1.heap.size = M at K1 K2 K3 K4 K5 ⊢
  generalize hlb : w.heap.size = lb at *
  generalize W2.alloc (.cells #[.map (some M)] (99 : Nat)) = W3 at K1 K2 K3 K4 K5 ⊢
  clear hab hM
  go_loopg [7, 32] l0.length (fun kq v7 v32 wr => ∃ (k : Nat) (m : Nat → Option Vst) (bl : Nat → Nat) (most : Int), v7 = .int .i64 most ∧ v32 = .int .i64 (k : Int) ∧ Aside0 (k + kq = l0.length) ∧ Aside0 (vgo l0 ⟨a1_0, a1_1, a1_2, a1_3⟩ kq k m most = (r1, r2)) ∧ Aside0 (OKM m) ∧ Aside0 (VM w M (1 + 2 * k) m bl wr) ∧
      Aside0 (wr.heap[lb]? = some (.cells #[.slice A0 l0.length c0] (22 : Nat) (0, 0)) ∧ wr.heap[lb + 1]? = some (.cells #[.int .i64 a1_0, .int .i64 a1_1, .int .i64 a1_2, .int .i64 a1_3] (24 : Nat) (0, 0)) ∧ wr.heap[ab]? = some (.cells #[.map (some M)] (99 : Nat) (0, 0))) ∧ Aside0 (Below lb w wr))
  case atStart =>
    refine ⟨0, _, _, 0, rfl, rfl, ⟨by omega⟩, HVV, ⟨?_⟩, K5, ⟨K1.out, K2.out, K4.out⟩, K3⟩
    intro k x hx
    by_cases e : k = 0
    · simp [e] at hx; subst hx; exact st0_ok
    · simp [e] at hx
  case round =>
    obtain ⟨k, m, bl, most, rfl, rfl, HK, HG, HO, HV, HX, HB⟩ := hrel
    by_cases hk : k < l0.length
    · obtain ⟨go, rfl⟩ : ∃ go, gk = go + 1 := ⟨gk - 1, by have := HK.out; omega⟩
      obtain ⟨ad, e, hc1, hc2⟩ := at_T53 (Kd.C_below H0.out (hlb ▸ HB.out)) (k : Int) (by omega) (by omega)
      subst e
      simp only [Int.toNat_natCast] at hc1 hc2
      have hvg := HG.out
      rw [vgo] at hvg
      generalize hi : rd_T53 l0 (k : Int) = i at *
      obtain ⟨op, ar⟩ := i
      have hlk : (k : Int) < (l0.length : Int) := by omega
      have dlk : decide ((k : Int) < (l0.length : Int)) = true := decide_eq_true hlk
      have xab : wr.cell? ⟨ab, 0, none⟩ = some (.map (some M)) := by simp [World.cell?, HX.out.2.2]
      have xc0 : wr.cell? ⟨lb + 1, 0, none⟩ = some (.int .i64 a1_0) := by simp [World.cell?, HX.out.2.1]
      have xc1 : wr.cell? ⟨lb + 1, 1, none⟩ = some (.int .i64 a1_1) := by simp [World.cell?, HX.out.2.1]
      have xc2 : wr.cell? ⟨lb + 1, 2, none⟩ = some (.int .i64 a1_2) := by simp [World.cell?, HX.out.2.1]
      have xc3 : wr.cell? ⟨lb + 1, 3, none⟩ = some (.int .i64 a1_3) := by simp [World.cell?, HX.out.2.1]
      have hl1' : ab < wr.heap.size := (Array.getElem?_eq_some_iff.1 HX.out.2.2).1
      have hl2' : lb + 1 < wr.heap.size := (Array.getElem?_eq_some_iff.1 HX.out.2.1).1
      have hlook := (HV.out.alloc (.cells #[.int .u8 op, .int .i64 ar] (53 : Nat))).look k (by omega)
      cases hm : m k with
      | none =>
        rw [hm] at hvg
        simp only [Prod.mk.injEq] at hvg
        obtain ⟨rfl, rfl⟩ := hvg
        simp only [hm] at hlook
        clear hm
        go_wp2
        go_ret2
        exact ⟨rfl, (HB.out.alloc (hlb ▸ HB.out.size) _).alloc (by have := HB.out.size; rw [hlb] at this; simp; omega) _⟩
      | some s =>
        rw [hm] at hvg
        simp only at hvg
        simp only [hm] at hlook
        have HM := Aside0.mk hm
        have HVG := Aside0.mk hvg
        clear hm hvg
        generalize hb : bl k = b at *
        have HBL := Aside0.mk hb
        clear hb
        have hl3' : lb + 1 < (wr.alloc (.cells #[.int .u8 op, .int .i64 ar] (53 : Nat))).heap.size := by simp; omega
        have yc0 : ((wr.alloc (.cells #[.int .u8 op, .int .i64 ar] (53 : Nat))).alloc (.cells #[.pointer (some ⟨b, 0, none⟩)] (94 : Nat))).cell? ⟨lb + 1, 0, none⟩ = some (.int .i64 a1_0) := by rw [World.cell?_alloc_lt _ _ _ hl3', World.cell?_alloc_lt _ _ _ hl2']; exact xc0
        have yc1 : ((wr.alloc (.cells #[.int .u8 op, .int .i64 ar] (53 : Nat))).alloc (.cells #[.pointer (some ⟨b, 0, none⟩)] (94 : Nat))).cell? ⟨lb + 1, 1, none⟩ = some (.int .i64 a1_1) := by rw [World.cell?_alloc_lt _ _ _ hl3', World.cell?_alloc_lt _ _ _ hl2']; exact xc1
        have yc2 : ((wr.alloc (.cells #[.int .u8 op, .int .i64 ar] (53 : Nat))).alloc (.cells #[.pointer (some ⟨b, 0, none⟩)] (94 : Nat))).cell? ⟨lb + 1, 2, none⟩ = some (.int .i64 a1_2) := by rw [World.cell?_alloc_lt _ _ _ hl3', World.cell?_alloc_lt _ _ _ hl2']; exact xc2
        have yc3 : ((wr.alloc (.cells #[.int .u8 op, .int .i64 ar] (53 : Nat))).alloc (.cells #[.pointer (some ⟨b, 0, none⟩)] (94 : Nat))).cell? ⟨lb + 1, 3, none⟩ = some (.int .i64 a1_3) := by rw [World.cell?_alloc_lt _ _ _ hl3', World.cell?_alloc_lt _ _ _ hl2']; exact xc3
        clear hl3' xc0 xc1 xc2 xc3
        have V1 := Aside0.mk ((HV.out.alloc (.cells #[.int .u8 op, .int .i64 ar] (53 : Nat))).alloc (.cells #[.pointer (some ⟨b, 0, none⟩)] (94 : Nat)))
        have hl4' : lb < wr.heap.size := by omega
        have B1 : Aside0 (((wr.alloc (.cells #[.int .u8 op, .int .i64 ar] (53 : Nat))).alloc (.cells #[.pointer (some ⟨b, 0, none⟩)] (94 : Nat))).heap[lb]? = some (.cells #[.slice (some ad) l0.length c0] (22 : Nat) (0, 0))) := ⟨by rw [heap_alloc_old _ _ (by simp; omega), heap_alloc_old _ _ hl4']; exact HX.out.1⟩
        have B2 : Aside0 (((wr.alloc (.cells #[.int .u8 op, .int .i64 ar] (53 : Nat))).alloc (.cells #[.pointer (some ⟨b, 0, none⟩)] (94 : Nat))).heap[lb + 1]? = some (.cells #[.int .i64 a1_0, .int .i64 a1_1, .int .i64 a1_2, .int .i64 a1_3] (24 : Nat) (0, 0))) := ⟨by rw [heap_alloc_old _ _ (by simp; omega), heap_alloc_old _ _ hl2']; exact HX.out.2.1⟩
        have B3 : Aside0 (((wr.alloc (.cells #[.int .u8 op, .int .i64 ar] (53 : Nat))).alloc (.cells #[.pointer (some ⟨b, 0, none⟩)] (94 : Nat))).heap[ab]? = some (.cells #[.map (some M)] (99 : Nat) (0, 0))) := ⟨by rw [heap_alloc_old _ _ (by simp; omega), heap_alloc_old _ _ hl1']; exact HX.out.2.2⟩
        have B4 : Aside0 (((wr.alloc (.cells #[.int .u8 op, .int .i64 ar] (53 : Nat))).alloc (.cells #[.pointer (some ⟨b, 0, none⟩)] (94 : Nat))).heap[wr.heap.size]? = some (.cells #[.int .u8 op, .int .i64 ar] (53 : Nat) (0, 0))) := ⟨by rw [heap_alloc_old _ _ (by simp)]; exact heap_alloc_new _ _⟩
        have B5 : Aside0 (((wr.alloc (.cells #[.int .u8 op, .int .i64 ar] (53 : Nat))).alloc (.cells #[.pointer (some ⟨b, 0, none⟩)] (94 : Nat))).heap[wr.heap.size + 1]? = some (.cells #[.pointer (some ⟨b, 0, none⟩)] (94 : Nat) (0, 0))) := ⟨by
          have := heap_alloc_new (wr.alloc (.cells #[.int .u8 op, .int .i64 ar] (53 : Nat))) (.cells #[.pointer (some ⟨b, 0, none⟩)] (94 : Nat))
          simpa using this⟩
        have B6 : Aside0 (Below lb w ((wr.alloc (.cells #[.int .u8 op, .int .i64 ar] (53 : Nat))).alloc (.cells #[.pointer (some ⟨b, 0, none⟩)] (94 : Nat)))) := ⟨(HB.out.alloc (hlb ▸ HB.out.size) _).alloc (by have := HB.out.size; rw [hlb] at this; simp; omega) _⟩
        go_wp2_with fail
        clear yc0 yc1 yc2 yc3 hlook xab hc1 hc2
        generalize ((wr.alloc (.cells #[.int .u8 op, .int .i64 ar] (53 : Nat))).alloc (.cells #[.pointer (some ⟨b, 0, none⟩)] (94 : Nat))) = Wb at V1 B1 B2 B3 B4 B5 B6 ⊢
        have hst := (V1.out.st k s HM.out).1
        rw [HBL.out] at hst
        have hos := HO.out k s HM.out
        refine (checks_calls b s ⟨op, ar⟩ ⟨a1_0, a1_1, a1_2, a1_3⟩ Wb hst hos.1 ⟨hos.2.1, by have := hos.2.2; omega⟩ HMC.out.2.2.1).mono ?_
        rintro e W4 ⟨rfl, hg4, hb4⟩
        rw [← HBL.out] at hg4 hb4
        have V4 := V1.out.turn HM.out hg4 hb4
        have hkp := keeps_turn V1.out HM.out hg4
        have C1 := Aside0.mk (hkp.cells V1.out B1.out (by decide))
        have C2 := Aside0.mk (hkp.cells V1.out B2.out (by decide))
        have C3 := Aside0.mk (hkp.cells V1.out B3.out (by decide))
        have C4 := hkp.cells V1.out B4.out (by decide)
        have C5 := hkp.cells V1.out B5.out (by decide)
        have C6 := Aside0.mk (hkp.below V1.out (hlb ▸ B6.out))
        have hok' : OKS (chk s ⟨op, ar⟩ ⟨a1_0, a1_1, a1_2, a1_3⟩).1 := chk_ok hos HMC.out.2.2.2.2
        have hmayf : (chk s ⟨op, ar⟩ ⟨a1_0, a1_1, a1_2, a1_3⟩).2 = 0 → mayB op ar = true := chk_may
        generalize chk s ⟨op, ar⟩ ⟨a1_0, a1_1, a1_2, a1_3⟩ = ch at *
        obtain ⟨s', e'⟩ := ch
        simp only at hb4 V4 hok' hmayf ⊢
        have xi0 : W4.cell? ⟨wr.heap.size, 0, none⟩ = some (.int .u8 op) := by simp [World.cell?, C4]
        have xi1 : W4.cell? ⟨wr.heap.size, 1, none⟩ = some (.int .i64 ar) := by simp [World.cell?, C4]
        have xs : W4.cell? ⟨wr.heap.size + 1, 0, none⟩ = some (.pointer (some ⟨b, 0, none⟩)) := by simp [World.cell?, C5]
        rw [HBL.out] at hb4
        have xh := st_h hb4
        have D4 := Aside0.mk V4
        have D5 := Aside0.mk C5
        have HOK := Aside0.mk hok'
        have HMF := Aside0.mk hmayf
        clear hst hos hg4 hb4 V4 hkp C4 C5 hok' hmayf V1 B1 B2 B3 B4 B5 B6
        by_cases he : e' = 0
        · subst he
          obtain ⟨mo, hmo⟩ : ∃ mo, (if most < s'.h then s'.h else most) = mo := ⟨_, rfl⟩
          have HMO := Aside0.mk hmo
          go_wp2_with fail
          clear xh xi0 xi1 xs hmo
          have F := vfollows_calls w W4 lb ab (wr.heap.size + 1) k (some ad) l0.length c0 M (1 + 2 * k) (fun j => if j = k then some s' else m j) bl s' ⟨op, ar⟩ D4.out C1.out C3.out (by rw [HBL.out]; exact D5.out) (by simp) (by omega) (by omega)
            (fun j x hx => by
              by_cases e : j = k
              · simp [e] at hx; subst hx; exact HOK.out.1
              · simp [e] at hx; exact (HO.out j x hx).1) C6.out.size (may_arg (i := ⟨op, ar⟩) (by have h := HMF.out; simpa using h))
          refine F.mono ?_
          clear F
          rintro e W5 ⟨rfl, bl5, hv5, hk5, hb5, hg5⟩
          have G1 := Aside0.mk (hk5.cells D4.out C1.out (by decide))
          have G2 := Aside0.mk (hk5.cells D4.out C2.out (by decide))
          have G3 := hk5.cells D4.out C3.out (by decide)
          have G6 := Aside0.mk (hk5.below D4.out C6.out)
          have hvg := HVG.out
          simp only [if_true] at hvg
          have hokf := folP_okm (n := l0.length) (p := k) (i := ⟨op, ar⟩) (put_okm (p := k) HO.out HOK.out) HOK.out
          generalize folP l0.length (fun j => if j = k then some s' else m j) s' k ⟨op, ar⟩ = fo at *
          obtain ⟨m5, e5⟩ := fo
          simp only at hvg hokf hv5 ⊢
          have xab : W5.cell? ⟨ab, 0, none⟩ = some (.map (some M)) := by simp [World.cell?, G3]
          obtain ⟨W6, hrun, hv6, hg6⟩ := hv5.del k (by omega) 0
          have X1 := Aside0.mk ((hg6.block _ (Array.getElem?_eq_some_iff.1 G1.out).1 (by simp; exact (hv5.block G1.out (by decide)).1)).trans G1.out)
          have X2 := Aside0.mk ((hg6.block _ (Array.getElem?_eq_some_iff.1 G2.out).1 (by simp; exact (hv5.block G2.out (by decide)).1)).trans G2.out)
          have X3 := Aside0.mk ((hg6.block _ (Array.getElem?_eq_some_iff.1 G3).1 (by simp; exact (hv5.block G3 (by decide)).1)).trans G3)
          have X6 := Aside0.mk (G6.out.grown hg6 G6.out.size (fun j e => by cases e; exact hv5.low))
          have HV6 := Aside0.mk hv6
          have HOF := Aside0.mk hokf
          have HVG5 := Aside0.mk hvg
          clear hv5 hk5 hb5 hg5 G3 hvg hokf hv6 hg6
          by_cases he5 : e5 = 0
          · subst he5
            go_wp2
            go_roundg go
            case measure => omega
            case rel =>
              refine ⟨k + 1, _, bl5, mo, rfl, by simp, ⟨by have := HK.out; omega⟩, ⟨?_⟩, ⟨del_okm (p := k) HOF.out⟩, ⟨HV6.out.more (by omega)⟩, ⟨X1.out, X2.out, X3.out⟩, ⟨hlb ▸ X6.out⟩⟩
              have := HVG5.out
              simp only [if_true] at this
              rw [show mo = max most s'.h by rw [← HMO.out, Int.max_def]; split <;> split <;> omega]
              exact this
          · have q5 : (e5 != 0) = true := by simp [he5]
            have hvg := HVG5.out
            simp only [he5, if_false, Prod.mk.injEq] at hvg
            obtain ⟨rfl, rfl⟩ := hvg
            clear he5
            go_wp2
            go_ret2
            exact ⟨rfl, hlb ▸ G6.out⟩
        · have q0 : (e' != 0) = true := by simp [he]
          have hvg := HVG.out
          simp only [he, if_false, Prod.mk.injEq] at hvg
          obtain ⟨rfl, rfl⟩ := hvg
          clear he
          go_wp2
          go_ret2
          exact ⟨rfl, hlb ▸ C6.out⟩
    · have hk2 : gk = 0 := by have := HK.out; omega
      subst hk2
      have hge : decide ((k : Int) < (l0.length : Int)) = false := decide_eq_false (by omega)
      have hvg := HG.out
      rw [vgo] at hvg
      simp only [Prod.mk.injEq] at hvg
      obtain ⟨rfl, rfl⟩ := hvg
      go_wp2
      go_ret2
      exact ⟨rfl, by first | exact HB.out | (rw [hlb]; exact HB.out)⟩
end Go.Proofs.Ytlmpoojpbdmmfaa.H
end
