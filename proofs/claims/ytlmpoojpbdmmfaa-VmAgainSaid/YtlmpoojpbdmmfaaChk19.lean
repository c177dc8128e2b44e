/- verify's checks: what an instruction asks of the state, and does to it. The conditions: the pointer's block holds a state; the stack is not absurdly high. -/
import Derived.Test.YtlmpoojpbdmmfaaV19
import Derived.Test.YtlmpoojpbdmmfaaA18
import Derived.Test.YtlmpoojpbdmmfaaSverifyEffect
import Derived.Test.YtlmpoojpbdmmfaaHx1
import Derived.LoopTactic
import Derived.BigQuiet
import Derived.Deep.QuietTactic
import Derived.RegionTactic
import Derived.BigRegion
import Derived.StillTailTactics
set_option linter.unusedVariables false
set_option linter.unusedSimpArgs false
namespace Go.Proofs.Ytlmpoojpbdmmfaa.H
open Go.RowKit Go.Proofs.YtlmpoojpbdmmfaaW.PrintWords Go.Proofs.YtlmpoojpbdmmfaaW.PrintLast Go.Proofs.YtlmpoojpbdmmfaaW.PrintMore

set_option maxHeartbeats 1000000 in
theorem slot_calls (a : Int) (h0 : 0 ≤ a) (h1 : a < 512) (w : World) : Calls Try.prog 77 #[.int .i64 a] w fun e w' => e = .returned (.tuple #[.int .i64 (a / 64), .int .u64 (shl .u64 1 (a % 64))]) ∧ Drawn0 w w' := by
  have e1 : Int.tmod a 64 = a % 64 := Int.tmod_eq_emod_of_nonneg h0
  have e2 : Int.tdiv a 64 = a / 64 := Int.tdiv_eq_ediv_of_nonneg h0
  have e3 : wrap64 (a / 64) = a / 64 := by unfold wrap64; omega
  have e5 : 0 ≤ Int.tmod a 64 := by rw [e1]; omega
  rw [← e1, ← e2]
  generalize hq : Int.tdiv a 64 = q at *
  rw [← e2] at e3
  generalize hy : Int.tmod a 64 = y at *
  have e6 : decide (0 ≤ y) = true := decide_eq_true e5
  obtain ⟨j, hj⟩ : ∃ j, shl .u64 1 y = j := ⟨_, rfl⟩
  have hj1 : IntKind.u64.wrap (1 * 2 ^ min y.toNat 64) = j := hj
  have hj2 : y ≤ 64 → IntKind.u64.wrap (1 * 2 ^ y.toNat) = j := shl_small hj
  have hj3 : IntKind.u64.wrap (2 ^ min y.toNat 64) = j := by have h_ := hj1; rw [Int.one_mul] at h_; exact h_
  have hj4 : y ≤ 64 → IntKind.u64.wrap (2 ^ y.toNat) = j := fun h => by have h_ := hj2 h; rw [Int.one_mul] at h_; exact h_
  rw [hj]
  clear e1 e2 h0 h1
  go_enter Try.func77, Try.ntmps77
  go_wp2
  go_quiet (fail)
  go_wp2
  go_ret2
  exact ⟨by simp [e3], ⟨nq, rfl⟩⟩
set_option maxHeartbeats 4000000 in
set_option maxRecDepth 100000 in
theorem checks_calls (b : Nat) (s : Vst) (i : S53) (c : Cf) (w : World) (hb : w.heap[b]? = some (.cells (stArr s) 98 (0, 0))) (hs : s.has.length = 8) (hh : 0 ≤ s.h ∧ s.h ≤ 100000) (hcw : 0 ≤ c.writes ∧ c.writes ≤ 64) :
    Calls Try.prog 50 #[.pointer (some ⟨b, 0, none⟩), .agg #[.int .u8 i.f0, .int .i64 i.f1], cfVal c] w fun e w' => e = .returned (.int .i64 (chk s i c).2) ∧ w.grownBy w' (some b) ∧ w'.heap[b]? = some (.cells (stArr (chk s i c).1) 98 (0, 0)) := by
  have hlt : b < w.heap.size := (Array.getElem?_eq_some_iff.1 hb).1
  have HS := Aside0.mk hs
  obtain ⟨cs, cr, cw, ck⟩ := c
  obtain ⟨op, ar⟩ := i
  simp only [cfVal]
  have e1 : ((w.alloc (.cells #[.int .u8 op, .int .i64 ar] (53 : Nat))).alloc (.cells #[.int .i64 cs, .int .i64 cr, .int .i64 cw, .int .i64 ck] (24 : Nat))).heap[w.heap.size]? = some (.cells #[.int .u8 op, .int .i64 ar] (53 : Nat) (0, 0)) := by
    rw [heap_alloc_old _ _ (by simp)]; exact heap_alloc_new _ _
  have e2 : ((w.alloc (.cells #[.int .u8 op, .int .i64 ar] (53 : Nat))).alloc (.cells #[.int .i64 cs, .int .i64 cr, .int .i64 cw, .int .i64 ck] (24 : Nat))).heap[w.heap.size + 1]? = some (.cells #[.int .i64 cs, .int .i64 cr, .int .i64 cw, .int .i64 ck] (24 : Nat) (0, 0)) := by
    have := heap_alloc_new (w.alloc (.cells #[.int .u8 op, .int .i64 ar] (53 : Nat))) (.cells #[.int .i64 cs, .int .i64 cr, .int .i64 cw, .int .i64 ck] (24 : Nat))
    simpa using this
  have e3 : ((w.alloc (.cells #[.int .u8 op, .int .i64 ar] (53 : Nat))).alloc (.cells #[.int .i64 cs, .int .i64 cr, .int .i64 cw, .int .i64 ck] (24 : Nat))).heap[b]? = some (.cells (stArr s) 98 (0, 0)) := by
    rw [heap_alloc_old _ _ (by simp; omega), heap_alloc_old _ _ hlt]; exact hb
  have e4 : w.grownBy ((w.alloc (.cells #[.int .u8 op, .int .i64 ar] (53 : Nat))).alloc (.cells #[.int .i64 cs, .int .i64 cr, .int .i64 cw, .int .i64 ck] (24 : Nat))) (some b) := (World.grownBy_alloc w _ _).trans (World.grownBy_alloc _ _ _)
  have E1 := Aside0.mk e1
  have E2 := Aside0.mk e2
  have E3 := Aside0.mk e3
  have E4 := Aside0.mk e4
  obtain ⟨K, hK⟩ := ev_may op ar
  have HK := Aside0.mk (hK K (Nat.le_refl _))
  clear hK e1 e2 e3 e4 hb hs
  go_enter Try.func50, Try.ntmps50
  go_wp2_with fail
  generalize (w.alloc (.cells #[.int .u8 op, .int .i64 ar] (53 : Nat))).alloc (.cells #[.int .i64 cs, .int .i64 cr, .int .i64 cw, .int .i64 ck] (24 : Nat)) = W at E1 E2 E3 E4 ⊢
  have HB := Aside0.mk hlt
  generalize hsz : w.heap.size = B at HB E1 E2 ⊢
  clear hlt hsz
  refine (code_May.calls K op ar _ _ HK.out).mono ?_
  rintro e W1 ⟨rfl, hb1⟩
  have F1 : W1.heap[B]? = _ := (hb1.block _ (Array.getElem?_eq_some_iff.1 E1.out).1).trans E1.out
  have F2 : W1.heap[B + 1]? = _ := (hb1.block _ (Array.getElem?_eq_some_iff.1 E2.out).1).trans E2.out
  have F3 : W1.heap[b]? = _ := (hb1.block _ (Array.getElem?_eq_some_iff.1 E3.out).1).trans E3.out
  have F4 : w.grownBy W1 (some b) := E4.out.trans (grown_of_below hb1 _)
  replace E1 := Aside0.mk F1
  replace E2 := Aside0.mk F2
  replace E3 := Aside0.mk F3
  replace E4 := Aside0.mk F4
  clear hb1 F1 F2 F3 F4
  cases hm : mayB op ar with
  | false =>
    go_wp2
    go_ret
    exact ⟨by simp [chk, hm], E4.out, by simpa [chk, hm] using E3.out⟩
  | true =>
    have x0 : W1.cell? ⟨B, 0, none⟩ = some (.int .u8 op) := by simp [World.cell?, E1.out]
    go_wp2_with fail
    refine (verify_Effect.calls op _ _ _ rfl).mono ?_
    rintro e w' ⟨rfl, ⟨nd, rfl⟩⟩
    clear x0
    generalize hW2 : W1.drewN nd = W2
    replace E1 : Aside0 (W2.heap[B]? = some (.cells #[.int .u8 op, .int .i64 ar] (53 : Nat) (0, 0))) := ⟨by rw [← hW2]; exact E1.out⟩
    replace E2 : Aside0 (W2.heap[B + 1]? = some (.cells #[.int .i64 cs, .int .i64 cr, .int .i64 cw, .int .i64 ck] (24 : Nat) (0, 0))) := ⟨by rw [← hW2]; exact E2.out⟩
    replace E3 : Aside0 (W2.heap[b]? = some (.cells (stArr s) 98 (0, 0))) := ⟨by rw [← hW2]; exact E3.out⟩
    replace E4 : Aside0 (w.grownBy W2 (some b)) := ⟨by rw [← hW2]; exact grown_drewN E4.out _⟩
    clear hW2
    have ht : 0 ≤ tks op ∧ tks op ≤ 2 := by unfold tks; split <;> (try split) <;> omega
    have hg : 0 ≤ gvs op ∧ gvs op ≤ 1 := by unfold gvs; split <;> (try split) <;> omega
    generalize hte : tks op = tk at *
    generalize hge : gvs op = gv at *
    have HTE := Aside0.mk hte
    have HGE := Aside0.mk hge
    have HM := Aside0.mk hm
    clear hte hge hm
    have x0 := st_h E3.out
    have x1 : W2.cell? ⟨B + 1, 3, none⟩ = some (.int .i64 ck) := by simp [World.cell?, E2.out]
    have w1 : wrap64 (s.h - tk) = s.h - tk := by unfold wrap64; omega
    have w2 : wrap64 (s.h - tk + gv) = s.h - tk + gv := by unfold wrap64; omega
    by_cases h1 : s.h < tk
    · have d1 : decide (s.h < tk) = true := decide_eq_true h1
      go_wp2
      go_quiet (fail)
      go_wp2
      go_ret
      exact ⟨by simp [chk, HM.out, HTE.out, h1], grown_drewN E4.out _, by simpa [chk, HM.out, HTE.out, h1] using E3.out⟩
    · have d1 : decide (s.h < tk) = false := decide_eq_false h1
      by_cases h2 : ck < s.h - tk + gv
      · have d2 : decide (ck < s.h - tk + gv) = true := decide_eq_true h2
        go_wp2
        go_quiet (fail)
        go_wp2
        go_ret
        exact ⟨by simp [chk, HM.out, HTE.out, HGE.out, h1, h2], grown_drewN E4.out _, by simpa [chk, HM.out, HTE.out, HGE.out, h1, h2] using E3.out⟩
      · have d2 : decide (ck < s.h - tk + gv) = false := decide_eq_false h2
        go_wp2
        go_quiet (fail)
        generalize hW3 : W2.drewN nq = W3
        replace E1 : Aside0 (W3.heap[B]? = some (.cells #[.int .u8 op, .int .i64 ar] (53 : Nat) (0, 0))) := ⟨by rw [← hW3]; exact E1.out⟩
        replace E2 : Aside0 (W3.heap[B + 1]? = some (.cells #[.int .i64 cs, .int .i64 cr, .int .i64 cw, .int .i64 ck] (24 : Nat) (0, 0))) := ⟨by rw [← hW3]; exact E2.out⟩
        replace E3 : Aside0 (W3.heap[b]? = some (.cells (stArr s) 98 (0, 0))) := ⟨by rw [← hW3]; exact E3.out⟩
        replace E4 : Aside0 (w.grownBy W3 (some b)) := ⟨by rw [← hW3]; exact grown_drewN E4.out _⟩
        clear hW3 x0 x1 w1 w2 d1 d2
        have x0 := st_h E3.out
        have x1 : W3.cell? ⟨B, 0, none⟩ = some (.int .u8 op) := by simp [World.cell?, E1.out]
        have xf := st_frozen 0 E3.out
        have w1 : wrap64 (gv - tk) = gv - tk := by unfold wrap64; omega
        have w2 : wrap64 (s.h + (gv - tk)) = s.h + (gv - tk) := by unfold wrap64; omega
        have hne : b < B := HB.out
        have x2 : W3.cell? ⟨B, 1, none⟩ = some (.int .i64 ar) := by simp [World.cell?, E1.out]
        have x3 : W3.cell? ⟨B + 1, 0, none⟩ = some (.int .i64 cs) := by simp [World.cell?, E2.out]
        have x4 : W3.cell? ⟨B + 1, 1, none⟩ = some (.int .i64 cr) := by simp [World.cell?, E2.out]
        have x5 : W3.cell? ⟨B + 1, 2, none⟩ = some (.int .i64 cw) := by simp [World.cell?, E2.out]
        have x9 := st_wr E3.out HS.out
        have xf9 := st_frozen 9 E3.out
        have HNO : ¬ (s.h < tk ∨ ck < s.h - tk + gv) := by omega
        have HC0 : chk s ⟨op, ar⟩ ⟨cs, cr, cw, ck⟩ = chk2 { s with h := s.h + (gv - tk) } ⟨op, ar⟩ ⟨cs, cr, cw, ck⟩ := by
          unfold chk
          rw [if_neg (by rw [HM.out]; decide)]
          simp only [HTE.out, HGE.out]
          rw [if_neg HNO]
        clear HNO
        generalize hq : s.h + (gv - tk) = h' at *
        have HC := Aside0.mk HC0
        have P3 : Aside0 ((W3.setCell ⟨b, 0, none⟩ (.int .i64 h')).heap[b]? = some (.cells (stArr { s with h := h' }) 98 (0, 0))) := ⟨st_put E3.out (stArr_h s _)⟩
        have P4 : Aside0 (w.grownBy (W3.setCell ⟨b, 0, none⟩ (.int .i64 h')) (some b)) := ⟨grown_set E4.out _ _⟩
        have hcw' : 0 ≤ cw ∧ cw ≤ 64 := hcw
        clear hcw HC0
        by_cases o23 : op = 23
        · subst o23
          have hc0 : decide (0 ≤ cw) = true := decide_eq_true hcw'.1
          obtain ⟨j, hj⟩ : ∃ j, shl .u64 1 cw = j := ⟨_, rfl⟩
          have hj1 : IntKind.u64.wrap (1 * 2 ^ min (cw).toNat 64) = j := hj
          have hj2 : cw ≤ 64 → IntKind.u64.wrap (1 * 2 ^ (cw).toNat) = j := shl_small hj
          have hj3 : IntKind.u64.wrap (2 ^ min (cw).toNat 64) = j := by have h_ := hj1; rw [Int.one_mul] at h_; exact h_
          have hj4 : cw ≤ 64 → IntKind.u64.wrap (2 ^ (cw).toNat) = j := fun h => by have h_ := hj2 h; rw [Int.one_mul] at h_; exact h_
          have hj5 := hj4 (by omega)
          have hj6 := hj2 (by omega)
          have HJ := Aside0.mk hj
          clear hj
          by_cases hp : 0 < h'
          · have hpd : decide (0 < h') = true := decide_eq_true hp
            go_wp2
            go_ret
            (rw [HC.out]; exact ⟨by simp [chk2, hp], P4.out, by simpa [chk2, hp] using P3.out⟩)
          · have hpd : decide (0 < h') = false := decide_eq_false hp
            have HPN := Aside0.mk hp
            clear hp
            go_wp2
            go_quiet (fail)
            go_wp2
            · go_ret
              rw [HC.out]
              refine ⟨?_, grown_drewN P4.out _, by simpa [chk2, HPN.out] using P3.out⟩
              rename_i hz
              have hz' : s.wr ≠ IntKind.u64.wrap (j - 1) := by simpa using hz
              simp [chk2, HPN.out, HJ.out, hz']
            · go_ret
              rw [HC.out]
              refine ⟨?_, grown_drewN P4.out _, by simpa [chk2, HPN.out] using P3.out⟩
              rename_i hz
              have hz' : s.wr = IntKind.u64.wrap (j - 1) := by simpa using hz
              simp [chk2, HPN.out, HJ.out, hz']
        by_cases o4 : op = 4
        · subst o4
          by_cases hp : cr ≤ ar
          · have hpd : decide (cr ≤ ar) = true := decide_eq_true hp
            go_wp2
            go_ret
            (rw [HC.out]; exact ⟨by simp [chk2, hp], P4.out, by simpa [chk2, hp] using P3.out⟩)
          · have hpd : decide (cr ≤ ar) = false := decide_eq_false hp
            have HPN := Aside0.mk hp
            clear hp
            go_wp2
            go_ret
            (rw [HC.out]; exact ⟨by simp [chk2, HPN.out], P4.out, by simpa [chk2, HPN.out] using P3.out⟩)
        by_cases o5 : op = 5
        · subst o5
          have ha : 0 ≤ ar ∧ ar < 64 := by
            have := HM.out
            simp [mayB] at this
            exact this
          have hc0 : decide (0 ≤ ar) = true := decide_eq_true ha.1
          obtain ⟨j, hj⟩ : ∃ j, shl .u64 1 ar = j := ⟨_, rfl⟩
          have hj1 : IntKind.u64.wrap (1 * 2 ^ min (ar).toNat 64) = j := hj
          have hj2 : ar ≤ 64 → IntKind.u64.wrap (1 * 2 ^ (ar).toNat) = j := shl_small hj
          have hj3 : IntKind.u64.wrap (2 ^ min (ar).toNat 64) = j := by have h_ := hj1; rw [Int.one_mul] at h_; exact h_
          have hj4 : ar ≤ 64 → IntKind.u64.wrap (2 ^ (ar).toNat) = j := fun h => by have h_ := hj2 h; rw [Int.one_mul] at h_; exact h_
          have hj5 := hj4 (by omega)
          have hj6 := hj2 (by omega)
          have HJ := Aside0.mk hj
          clear hj
          by_cases hp : cw ≤ ar
          · have hpd : decide (cw ≤ ar) = true := decide_eq_true hp
            go_wp2
            go_ret
            (rw [HC.out]; exact ⟨by simp [chk2, hp], P4.out, by simpa [chk2, hp] using P3.out⟩)
          · have hpd : decide (cw ≤ ar) = false := decide_eq_false hp
            have HPN := Aside0.mk hp
            clear hp
            obtain ⟨z, hz⟩ : ∃ z, Go.bits .and .u64 s.wr j = z := ⟨_, rfl⟩
            have HZ := Aside0.mk hz
            by_cases hz0 : z = 0
            · subst hz0
              go_wp2
              go_ret
              rw [HC.out]
              refine ⟨by simp [chk2, show ¬ cw ≤ ar by have := HPN.out; omega, HJ.out, HZ.out], grown_set P4.out _ _, ?_⟩
              have := st_put (j := 9) P3.out (stArr_wr _ (Go.bits .or .u64 s.wr j) HS.out)
              simpa [chk2, show ¬ cw ≤ ar by have := HPN.out; omega, HJ.out, HZ.out] using this
            · have hzd : (z != 0) = true := by simpa using hz0
              have hzd2 : (z == 0) = false := by simpa using hz0
              have HZ0 := Aside0.mk hz0
              clear hz0
              go_wp2
              go_ret
              rw [HC.out]
              exact ⟨by simp [chk2, show ¬ cw ≤ ar by have := HPN.out; omega, HJ.out, HZ.out, show ¬ z = 0 from HZ0.out], P4.out, by simpa [chk2, show ¬ cw ≤ ar by have := HPN.out; omega, HJ.out, HZ.out, show ¬ z = 0 from HZ0.out] using P3.out⟩
        by_cases o2 : op = 2
        · subst o2
          have ha : 0 ≤ ar ∧ ar < 512 := by
            have := HM.out
            simp [mayB] at this
            exact this
          go_wp2_with fail
          refine (slot_calls ar ha.1 ha.2 _).mono ?_
          rintro e w' ⟨rfl, ⟨nd, rfl⟩⟩
          have hk8 : (ar / 64).toNat < 8 := by omega
          have hki : ((ar / 64).toNat : Int) = ar / 64 := by omega
          have Q1 : Aside0 (((W3.setCell ⟨b, 0, none⟩ (.int .i64 h')).drewN nd).heap[B]? = some (.cells #[.int .u8 2, .int .i64 ar] (53 : Nat) (0, 0))) := ⟨set_far E1.out (by omega) _⟩
          have Q2 : Aside0 (((W3.setCell ⟨b, 0, none⟩ (.int .i64 h')).drewN nd).heap[B + 1]? = some (.cells #[.int .i64 cs, .int .i64 cr, .int .i64 cw, .int .i64 ck] (24 : Nat) (0, 0))) := ⟨set_far E2.out (by omega) _⟩
          have Q3 : Aside0 (((W3.setCell ⟨b, 0, none⟩ (.int .i64 h')).drewN nd).heap[b]? = some (.cells (stArr { s with h := h' }) 98 (0, 0))) := ⟨P3.out⟩
          have Q4 : Aside0 (w.grownBy ((W3.setCell ⟨b, 0, none⟩ (.int .i64 h')).drewN nd) (some b)) := ⟨grown_drewN P4.out _⟩
          clear P3 P4 x0 x1 x2 x3 x4 x5 x9 xf xf9 w1 w2 E1 E2 E3 E4
          generalize (W3.setCell ⟨b, 0, none⟩ (.int .i64 h')).drewN nd = W4 at Q1 Q2 Q3 Q4 ⊢
          have P3 := Q3
          have P4 := Q4
          have x1 : W4.cell? ⟨B, 0, none⟩ = some (.int .u8 2) := by simp [World.cell?, Q1.out]
          have x2 : W4.cell? ⟨B, 1, none⟩ = some (.int .i64 ar) := by simp [World.cell?, Q1.out]
          have x3 : W4.cell? ⟨B + 1, 0, none⟩ = some (.int .i64 cs) := by simp [World.cell?, Q2.out]
          obtain ⟨el, hel⟩ : ∃ el, s.has.getD (ar / 64).toNat 0 = el := ⟨_, rfl⟩
          have xk : W4.cell? ⟨b, 1 + (ar / 64).toNat, none⟩ = some (.int .u64 el) := by rw [← hel]; exact st_has P3.out (k := (ar / 64).toNat) (by rw [HS.out]; exact hk8)
          have HE := Aside0.mk hel
          have HEG : Aside0 (s.has[(ar / 64).toNat]?.getD 0 = el) := ⟨by rw [← List.getD_eq_getElem?_getD]; exact hel⟩
          clear hel
          have xf := st_frozen (1 + (ar / 64).toNat) P3.out
          obtain ⟨j, hj⟩ : ∃ j, shl .u64 1 (ar % 64) = j := ⟨_, rfl⟩
          rw [hj]
          have HJ := Aside0.mk hj
          have hd0 : 0 ≤ ar / 64 := by omega
          have hd8 : ar / 64 < 8 := by omega
          clear hj
          by_cases hp : cs ≤ ar
          · have hpd : decide (cs ≤ ar) = true := decide_eq_true hp
            go_wp2
            go_ret
            (rw [HC.out]; exact ⟨by simp [chk2, hp], P4.out, by simpa [chk2, hp] using P3.out⟩)
          · have hpd : decide (cs ≤ ar) = false := decide_eq_false hp
            have HPN := Aside0.mk hp
            clear hp
            obtain ⟨z, hz⟩ : ∃ z, Go.bits .and .u64 el j = z := ⟨_, rfl⟩
            have HZG := Aside0.mk hz
            by_cases hz0 : z = 0
            · subst hz0
              go_wp2
              go_ret
              rw [HC.out]
              exact ⟨by simp [chk2, show ¬ cs ≤ ar by have := HPN.out; omega, HJ.out, HEG.out, HZG.out], P4.out, by simpa [chk2, show ¬ cs ≤ ar by have := HPN.out; omega, HJ.out, HEG.out, HZG.out] using P3.out⟩
            · have hzd : (z != 0) = true := by simpa using hz0
              have hzd2 : (z == 0) = false := by simpa using hz0
              have HZ0 := Aside0.mk hz0
              clear hz0
              go_wp2
              go_still_tail 11, (by kernel_rfl)
              change wpList _ _ _ _ _ W4.drew
              go_wp2
              go_ret
              rw [HC.out]
              refine ⟨by simp [chk2, show ¬ cs ≤ ar by have := HPN.out; omega, HJ.out, HEG.out, HZG.out, show ¬ z = 0 from HZ0.out], grown_drew (grown_set P4.out _ _), ?_⟩
              show (W4.setCell ⟨b, 1 + (ar / 64).toNat, none⟩ (.int .u64 (Go.bits .or .u64 el j))).heap[b]? = _
              have := st_put (j := 1 + (ar / 64).toNat) P3.out (stArr_has _ (ar / 64).toNat (Go.bits .or .u64 el j) (by rw [HS.out]; exact hk8))
              simpa [chk2, show ¬ cs ≤ ar by have := HPN.out; omega, HJ.out, HEG.out, HZG.out, show ¬ z = 0 from HZ0.out] using this
        by_cases o3 : op = 3
        · subst o3
          have ha : 0 ≤ ar ∧ ar < 512 := by
            have := HM.out
            simp [mayB] at this
            exact this
          go_wp2_with fail
          refine (slot_calls ar ha.1 ha.2 _).mono ?_
          rintro e w' ⟨rfl, ⟨nd, rfl⟩⟩
          have hk8 : (ar / 64).toNat < 8 := by omega
          have hki : ((ar / 64).toNat : Int) = ar / 64 := by omega
          have Q1 : Aside0 (((W3.setCell ⟨b, 0, none⟩ (.int .i64 h')).drewN nd).heap[B]? = some (.cells #[.int .u8 3, .int .i64 ar] (53 : Nat) (0, 0))) := ⟨set_far E1.out (by omega) _⟩
          have Q2 : Aside0 (((W3.setCell ⟨b, 0, none⟩ (.int .i64 h')).drewN nd).heap[B + 1]? = some (.cells #[.int .i64 cs, .int .i64 cr, .int .i64 cw, .int .i64 ck] (24 : Nat) (0, 0))) := ⟨set_far E2.out (by omega) _⟩
          have Q3 : Aside0 (((W3.setCell ⟨b, 0, none⟩ (.int .i64 h')).drewN nd).heap[b]? = some (.cells (stArr { s with h := h' }) 98 (0, 0))) := ⟨P3.out⟩
          have Q4 : Aside0 (w.grownBy ((W3.setCell ⟨b, 0, none⟩ (.int .i64 h')).drewN nd) (some b)) := ⟨grown_drewN P4.out _⟩
          clear P3 P4 x0 x1 x2 x3 x4 x5 x9 xf xf9 w1 w2 E1 E2 E3 E4
          generalize (W3.setCell ⟨b, 0, none⟩ (.int .i64 h')).drewN nd = W4 at Q1 Q2 Q3 Q4 ⊢
          have P3 := Q3
          have P4 := Q4
          have x1 : W4.cell? ⟨B, 0, none⟩ = some (.int .u8 3) := by simp [World.cell?, Q1.out]
          have x2 : W4.cell? ⟨B, 1, none⟩ = some (.int .i64 ar) := by simp [World.cell?, Q1.out]
          have x3 : W4.cell? ⟨B + 1, 0, none⟩ = some (.int .i64 cs) := by simp [World.cell?, Q2.out]
          obtain ⟨el, hel⟩ : ∃ el, s.has.getD (ar / 64).toNat 0 = el := ⟨_, rfl⟩
          have xk : W4.cell? ⟨b, 1 + (ar / 64).toNat, none⟩ = some (.int .u64 el) := by rw [← hel]; exact st_has P3.out (k := (ar / 64).toNat) (by rw [HS.out]; exact hk8)
          have HE := Aside0.mk hel
          have HEG : Aside0 (s.has[(ar / 64).toNat]?.getD 0 = el) := ⟨by rw [← List.getD_eq_getElem?_getD]; exact hel⟩
          clear hel
          have xf := st_frozen (1 + (ar / 64).toNat) P3.out
          obtain ⟨j, hj⟩ : ∃ j, shl .u64 1 (ar % 64) = j := ⟨_, rfl⟩
          rw [hj]
          have HJ := Aside0.mk hj
          have hd0 : 0 ≤ ar / 64 := by omega
          have hd8 : ar / 64 < 8 := by omega
          clear hj
          by_cases hp : cs ≤ ar
          · have hpd : decide (cs ≤ ar) = true := decide_eq_true hp
            go_wp2
            go_ret
            (rw [HC.out]; exact ⟨by simp [chk2, hp], P4.out, by simpa [chk2, hp] using P3.out⟩)
          · have hpd : decide (cs ≤ ar) = false := decide_eq_false hp
            have HPN := Aside0.mk hp
            clear hp
            go_wp2
            go_still_tail 11, (by kernel_rfl)
            change wpList _ _ _ _ _ W4.drew
            go_wp2
            go_ret
            rw [HC.out]
            refine ⟨by simp [chk2, show ¬ cs ≤ ar by have := HPN.out; omega, HJ.out, HEG.out], grown_drew (grown_set P4.out _ _), ?_⟩
            show (W4.setCell ⟨b, 1 + (ar / 64).toNat, none⟩ (.int .u64 (Go.bits .or .u64 el j))).heap[b]? = _
            have := st_put (j := 1 + (ar / 64).toNat) P3.out (stArr_has _ (ar / 64).toNat (Go.bits .or .u64 el j) (by rw [HS.out]; exact hk8))
            simpa [chk2, show ¬ cs ≤ ar by have := HPN.out; omega, HJ.out, HEG.out] using this
        have q2 : (op == 2) = false := beq_eq_false_iff_ne.mpr o2
        have q3 : (op == 3) = false := beq_eq_false_iff_ne.mpr o3
        have q4 : (op == 4) = false := beq_eq_false_iff_ne.mpr o4
        have q5 : (op == 5) = false := beq_eq_false_iff_ne.mpr o5
        have q23 : (op == 23) = false := beq_eq_false_iff_ne.mpr o23
        go_wp2
        go_ret
        (rw [HC.out]; exact ⟨by simp [chk2, o2, o3, o4, o5, o23], P4.out, by simpa [chk2, o2, o3, o4, o5, o23] using P3.out⟩)
end Go.Proofs.Ytlmpoojpbdmmfaa.H
