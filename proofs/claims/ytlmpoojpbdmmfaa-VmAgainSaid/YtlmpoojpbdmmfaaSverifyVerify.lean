/- verify.Verify: its contract. The conditions: the code lies in memory. -/
import Derived.Test.YtlmpoojpbdmmfaaSafe19
import Derived.Test.YtlmpoojpbdmmfaaChk19
set_option linter.unusedVariables false
set_option linter.unusedSimpArgs false
namespace Go.Proofs.Ytlmpoojpbdmmfaa.H
open Go.RowKit Go.Proofs.YtlmpoojpbdmmfaaW.PrintWords Go.Proofs.YtlmpoojpbdmmfaaW.PrintLast Go.Proofs.YtlmpoojpbdmmfaaW.PrintMore
attribute [local go_sem] max2_int min2_int max_two min_two max_three min_three max_four min_four
def verify_Verify.f (l0 : List (S53)) (a1_0 : Int) (a1_1 : Int) (a1_2 : Int) (a1_3 : Int) : Option (Int × Int) := some (ver l0 ⟨a1_0, a1_1, a1_2, a1_3⟩)
set_option maxHeartbeats 8000000 in
set_option maxRecDepth 100000 in
theorem verify_Verify.calls (A0 : Option Addr) (c0 : Nat) (l0 : List (S53)) (a1_0 : Int) (a1_1 : Int) (a1_2 : Int) (a1_3 : Int) (r1 : Int) (r2 : Int) (w : World) (hr0 : Kd.C k53 w A0 l0.length l0) (hc0 : l0.length ≤ c0) (h : verify_Verify.f l0 a1_0 a1_1 a1_2 a1_3 = some (r1, r2)) :
    Calls Try.prog 27 #[.slice A0 l0.length c0, .agg #[.int .i64 a1_0, .int .i64 a1_1, .int .i64 a1_2, .int .i64 a1_3]] w fun e w' => e = .returned (.tuple #[.int .i64 r1, .int .i64 r2]) ∧ Below w.heap.size w w' := by
  have hp := Option.some.inj h
  have HP := Aside0.mk hp
  have H0 := Aside0.mk hr0
  have HC0 := Aside0.mk hc0
  clear hp h hr0 hc0
  have e1 : ((w.alloc (.cells #[.slice A0 l0.length c0] (22 : Nat))).alloc (.cells #[.int .i64 a1_0, .int .i64 a1_1, .int .i64 a1_2, .int .i64 a1_3] (24 : Nat))).heap[w.heap.size]? = some (.cells #[.slice A0 l0.length c0] (22 : Nat) (0, 0)) := by
    rw [heap_alloc_old _ _ (by simp)]; exact heap_alloc_new _ _
  have e2 : ((w.alloc (.cells #[.slice A0 l0.length c0] (22 : Nat))).alloc (.cells #[.int .i64 a1_0, .int .i64 a1_1, .int .i64 a1_2, .int .i64 a1_3] (24 : Nat))).heap[w.heap.size + 1]? = some (.cells #[.int .i64 a1_0, .int .i64 a1_1, .int .i64 a1_2, .int .i64 a1_3] (24 : Nat) (0, 0)) := by
    have := heap_alloc_new (w.alloc (.cells #[.slice A0 l0.length c0] (22 : Nat))) (.cells #[.int .i64 a1_0, .int .i64 a1_1, .int .i64 a1_2, .int .i64 a1_3] (24 : Nat))
    simpa using this
  have E3 := Aside0.mk ((((Below.refl w.heap.size w).alloc (Nat.le_refl _) (.cells #[.slice A0 l0.length c0] (22 : Nat))).alloc (by simp) (.cells #[.int .i64 a1_0, .int .i64 a1_1, .int .i64 a1_2, .int .i64 a1_3] (24 : Nat))))
  have E1 := Aside0.mk e1
  have E2 := Aside0.mk e2
  clear e1 e2
  go_enter Try.func27, Try.ntmps27
  go_wp2_with fail
  refine (verify_May.calls a1_0 a1_1 a1_2 a1_3 (mayC a1_0 a1_1 a1_2 a1_3) _ rfl).mono ?_
  rintro e W1 ⟨rfl, hb1⟩
  generalize (w.alloc (.cells #[.slice A0 l0.length c0] (22 : Nat))).alloc (.cells #[.int .i64 a1_0, .int .i64 a1_1, .int .i64 a1_2, .int .i64 a1_3] (24 : Nat)) = W0 at E1 E2 E3 hb1
  have F1 := (hb1.block _ (Array.getElem?_eq_some_iff.1 E1.out).1).trans E1.out
  have F2 := (hb1.block _ (Array.getElem?_eq_some_iff.1 E2.out).1).trans E2.out
  have F3 := E3.out.trans (hb1.mono E3.out.size)
  replace E1 := Aside0.mk F1
  replace E2 := Aside0.mk F2
  replace E3 := Aside0.mk F3
  clear F1 F2 F3 hb1
  have x1 : W1.cell? ⟨w.heap.size, 0, none⟩ = some (.slice A0 l0.length c0) := by simp [World.cell?, E1.out]
  cases hmc : mayC a1_0 a1_1 a1_2 a1_3 with
  | false =>
    have hr : (r1, r2) = (0, 2) := by rw [← HP.out]; simp [ver, hmc]
    simp only [Prod.mk.injEq] at hr
    obtain ⟨rfl, rfl⟩ := hr
    go_wp2
    go_ret2
    exact ⟨rfl, E3.out⟩
  | true =>
  by_cases hl1 : 4096 < l0.length
  · have hr : (r1, r2) = (0, 4) := by rw [← HP.out]; simp [ver, hmc, hl1]
    simp only [Prod.mk.injEq] at hr
    obtain ⟨rfl, rfl⟩ := hr
    have d1 : decide (4096 < (l0.length : Int)) = true := decide_eq_true (by omega)
    go_wp2
    go_ret2
    exact ⟨rfl, E3.out⟩
  have d1 : decide (4096 < (l0.length : Int)) = false := decide_eq_false (by omega)
  by_cases hl0 : l0.length = 0
  · have hr : (r1, r2) = (0, 195) := by rw [← HP.out]; simp [ver, hmc, hl0]
    simp only [Prod.mk.injEq] at hr
    obtain ⟨rfl, rfl⟩ := hr
    have d2 : ((l0.length : Int) == 0) = true := by simp [hl0]
    have HL := Aside0.mk hl0
    clear hl0
    go_wp2
    go_ret2
    exact ⟨rfl, E3.out⟩
  have d2 : ((l0.length : Int) == 0) = false := beq_eq_false_iff_ne.mpr (by omega)
  have hmm := @run_makeMap Try.prog
  have hsz1 : (W1.alloc (.map #[] 0)).heap.size = W1.heap.size + 1 := by simp
  obtain ⟨W2, hrun, hv, hg⟩ := ((VM.made (bl := fun _ => 0) E3.out).alloc (.cells #[.int .i64 0, .int .u64 0, .int .u64 0, .int .u64 0, .int .u64 0, .int .u64 0, .int .u64 0, .int .u64 0, .int .u64 0, .int .u64 0] (98 : Nat))).put (k := 0) (s := st0) (b := W1.heap.size + 1) (by decide) (by decide) rfl
    (by rw [← hsz1]; exact heap_alloc_new _ _) (by have := E3.out.size; omega) (fun j hj => absurd rfl hj)
  simp only [Int.natCast_zero] at hrun
  have HV := Aside0.mk hv
  have HG := Aside0.mk (((World.grownBy_alloc W1 (.map #[] 0) (some W1.heap.size)).trans (World.grownBy_alloc _ (.cells #[.int .i64 0, .int .u64 0, .int .u64 0, .int .u64 0, .int .u64 0, .int .u64 0, .int .u64 0, .int .u64 0, .int .u64 0, .int .u64 0] (98 : Nat)) _)).trans hg)
  clear hv hg hsz1
  have hlw : w.heap.size < W1.heap.size := (Array.getElem?_eq_some_iff.1 E1.out).1
  have hlw1 : w.heap.size + 1 < W1.heap.size := (Array.getElem?_eq_some_iff.1 E2.out).1
  have G1 : Aside0 (W2.heap[w.heap.size]? = some (.cells #[.slice A0 l0.length c0] (22 : Nat) (0, 0))) := ⟨(HG.out.block _ hlw (by simp; omega)).trans E1.out⟩
  have G2 : Aside0 (W2.heap[w.heap.size + 1]? = some (.cells #[.int .i64 a1_0, .int .i64 a1_1, .int .i64 a1_2, .int .i64 a1_3] (24 : Nat) (0, 0))) := ⟨(HG.out.block _ hlw1 (by simp; omega)).trans E2.out⟩
  have G3 : Aside0 (Below w.heap.size w W2) := ⟨E3.out.grown HG.out E3.out.size (fun k e => by cases e; omega)⟩
  have x2 : W2.cell? ⟨w.heap.size, 0, none⟩ = some (.slice A0 l0.length c0) := by simp [World.cell?, G1.out]
  have hl2 : w.heap.size < W2.heap.size := Nat.lt_of_lt_of_le hlw HG.out.size
  have hl3 : w.heap.size + 1 < W2.heap.size := Nat.lt_of_lt_of_le hlw1 HG.out.size
  have K1 : Aside0 ((W2.alloc (.cells #[.map (some W1.heap.size)] (99 : Nat))).heap[w.heap.size]? = some (.cells #[.slice A0 l0.length c0] (22 : Nat) (0, 0))) := ⟨by rw [heap_alloc_old _ _ hl2]; exact G1.out⟩
  have K2 : Aside0 ((W2.alloc (.cells #[.map (some W1.heap.size)] (99 : Nat))).heap[w.heap.size + 1]? = some (.cells #[.int .i64 a1_0, .int .i64 a1_1, .int .i64 a1_2, .int .i64 a1_3] (24 : Nat) (0, 0))) := ⟨by rw [heap_alloc_old _ _ hl3]; exact G2.out⟩
  have K3 : Aside0 (Below w.heap.size w (W2.alloc (.cells #[.map (some W1.heap.size)] (99 : Nat)))) := ⟨G3.out.alloc G3.out.size _⟩
  have K4 : Aside0 ((W2.alloc (.cells #[.map (some W1.heap.size)] (99 : Nat))).heap[W2.heap.size]? = some (.cells #[.map (some W1.heap.size)] (99 : Nat) (0, 0))) := ⟨heap_alloc_new _ _⟩
  have K5 := Aside0.mk (HV.out.alloc (.cells #[.map (some W1.heap.size)] (99 : Nat)))
  clear HV HG G1 G2 G3 hl3 hlw hlw1
  have hvv : vgo l0 ⟨a1_0, a1_1, a1_2, a1_3⟩ l0.length 0 (fun j => if j = 0 then some st0 else none) 0 = (r1, r2) := by rw [← HP.out]; simp [ver, hmc, hl1, hl0]
  have HVV := Aside0.mk hvv
  clear hvv
  have hmc2 : (0 ≤ a1_0 ∧ a1_0 ≤ 512) ∧ (0 ≤ a1_1 ∧ a1_1 ≤ 64) ∧ (0 ≤ a1_2 ∧ a1_2 ≤ 64) ∧ (1 ≤ a1_3 ∧ a1_3 ≤ 256) := by simpa [mayC, and_assoc] using hmc
  have HMC := Aside0.mk hmc2
  clear hmc2
  go_wp2_with fail
  clear hrun hmm x1 x2 hl2 E1 E2 E3
  generalize hab : W2.heap.size = ab at K4 ⊢
  generalize hM : W1.heap.size = M at K1 K2 K3 K4 K5 ⊢
  generalize hlb : w.heap.size = lb at *
  generalize W2.alloc (.cells #[.map (some M)] (99 : Nat)) = W3 at K1 K2 K3 K4 K5 ⊢
  clear hab hM
  go_loopg [7, 32] l0.length (fun kq v7 v32 wr => ∃ (k : Nat) (m : Nat → Option Vst) (bl : Nat → Nat) (most : Int), v7 = .int .i64 most ∧ v32 = .int .i64 (k : Int) ∧ Aside0 (k + kq = l0.length) ∧ Aside0 (vgo l0 ⟨a1_0, a1_1, a1_2, a1_3⟩ kq k m most = (r1, r2)) ∧ Aside0 (OKM m) ∧ Aside0 (VM w M (1 + 2 * k) m bl wr) ∧
      Aside0 (wr.heap[lb]? = some (.cells #[.slice A0 l0.length c0] (22 : Nat) (0, 0)) ∧ wr.heap[lb + 1]? = some (.cells #[.int .i64 a1_0, .int .i64 a1_1, .int .i64 a1_2, .int .i64 a1_3] (24 : Nat) (0, 0)) ∧ wr.heap[ab]? = some (.cells #[.map (some M)] (99 : Nat) (0, 0))) ∧ Aside0 (Below lb w wr))
  case atStart =>
    refine ⟨0, _, _, 0, rfl, rfl, ⟨by omega⟩, HVV, ⟨?_⟩, K5, ⟨K1.out, K2.out, K4.out⟩, K3⟩
    intro k x hx
    by_cases e : k = 0
    · simp [e] at hx; subst hx; exact st0_ok
    · simp [e] at hx
  case round =>
    obtain ⟨k, m, bl, most, rfl, rfl, HK, HG, HO, HV, HX, HB⟩ := hrel
    by_cases hk : k < l0.length
    · obtain ⟨go, rfl⟩ : ∃ go, gk = go + 1 := ⟨gk - 1, by have := HK.out; omega⟩
      obtain ⟨ad, e, hc1, hc2⟩ := at_T53 (Kd.C_below H0.out (hlb ▸ HB.out)) (k : Int) (by omega) (by omega)
      subst e
      simp only [Int.toNat_natCast] at hc1 hc2
      have hvg := HG.out
      rw [vgo] at hvg
      generalize hi : rd_T53 l0 (k : Int) = i at *
      obtain ⟨op, ar⟩ := i
      have hlk : (k : Int) < (l0.length : Int) := by omega
      have dlk : decide ((k : Int) < (l0.length : Int)) = true := decide_eq_true hlk
      have xab : wr.cell? ⟨ab, 0, none⟩ = some (.map (some M)) := by simp [World.cell?, HX.out.2.2]
      have xc0 : wr.cell? ⟨lb + 1, 0, none⟩ = some (.int .i64 a1_0) := by simp [World.cell?, HX.out.2.1]
      have xc1 : wr.cell? ⟨lb + 1, 1, none⟩ = some (.int .i64 a1_1) := by simp [World.cell?, HX.out.2.1]
      have xc2 : wr.cell? ⟨lb + 1, 2, none⟩ = some (.int .i64 a1_2) := by simp [World.cell?, HX.out.2.1]
      have xc3 : wr.cell? ⟨lb + 1, 3, none⟩ = some (.int .i64 a1_3) := by simp [World.cell?, HX.out.2.1]
      have hl1' : ab < wr.heap.size := (Array.getElem?_eq_some_iff.1 HX.out.2.2).1
      have hl2' : lb + 1 < wr.heap.size := (Array.getElem?_eq_some_iff.1 HX.out.2.1).1
      have hlook := (HV.out.alloc (.cells #[.int .u8 op, .int .i64 ar] (53 : Nat))).look k (by omega)
      cases hm : m k with
      | none =>
        rw [hm] at hvg
        simp only [Prod.mk.injEq] at hvg
        obtain ⟨rfl, rfl⟩ := hvg
        simp only [hm] at hlook
        clear hm
        go_wp2
        go_ret2
        exact ⟨rfl, (HB.out.alloc (hlb ▸ HB.out.size) _).alloc (by have := HB.out.size; rw [hlb] at this; simp; omega) _⟩
      | some s =>
        rw [hm] at hvg
        simp only at hvg
        simp only [hm] at hlook
        have HM := Aside0.mk hm
        have HVG := Aside0.mk hvg
        clear hm hvg
        generalize hb : bl k = b at *
        have HBL := Aside0.mk hb
        clear hb
        have hl3' : lb + 1 < (wr.alloc (.cells #[.int .u8 op, .int .i64 ar] (53 : Nat))).heap.size := by simp; omega
        have yc0 : ((wr.alloc (.cells #[.int .u8 op, .int .i64 ar] (53 : Nat))).alloc (.cells #[.pointer (some ⟨b, 0, none⟩)] (94 : Nat))).cell? ⟨lb + 1, 0, none⟩ = some (.int .i64 a1_0) := by rw [World.cell?_alloc_lt _ _ _ hl3', World.cell?_alloc_lt _ _ _ hl2']; exact xc0
        have yc1 : ((wr.alloc (.cells #[.int .u8 op, .int .i64 ar] (53 : Nat))).alloc (.cells #[.pointer (some ⟨b, 0, none⟩)] (94 : Nat))).cell? ⟨lb + 1, 1, none⟩ = some (.int .i64 a1_1) := by rw [World.cell?_alloc_lt _ _ _ hl3', World.cell?_alloc_lt _ _ _ hl2']; exact xc1
        have yc2 : ((wr.alloc (.cells #[.int .u8 op, .int .i64 ar] (53 : Nat))).alloc (.cells #[.pointer (some ⟨b, 0, none⟩)] (94 : Nat))).cell? ⟨lb + 1, 2, none⟩ = some (.int .i64 a1_2) := by rw [World.cell?_alloc_lt _ _ _ hl3', World.cell?_alloc_lt _ _ _ hl2']; exact xc2
        have yc3 : ((wr.alloc (.cells #[.int .u8 op, .int .i64 ar] (53 : Nat))).alloc (.cells #[.pointer (some ⟨b, 0, none⟩)] (94 : Nat))).cell? ⟨lb + 1, 3, none⟩ = some (.int .i64 a1_3) := by rw [World.cell?_alloc_lt _ _ _ hl3', World.cell?_alloc_lt _ _ _ hl2']; exact xc3
        clear hl3' xc0 xc1 xc2 xc3
        have V1 := Aside0.mk ((HV.out.alloc (.cells #[.int .u8 op, .int .i64 ar] (53 : Nat))).alloc (.cells #[.pointer (some ⟨b, 0, none⟩)] (94 : Nat)))
        have hl4' : lb < wr.heap.size := by omega
        have B1 : Aside0 (((wr.alloc (.cells #[.int .u8 op, .int .i64 ar] (53 : Nat))).alloc (.cells #[.pointer (some ⟨b, 0, none⟩)] (94 : Nat))).heap[lb]? = some (.cells #[.slice (some ad) l0.length c0] (22 : Nat) (0, 0))) := ⟨by rw [heap_alloc_old _ _ (by simp; omega), heap_alloc_old _ _ hl4']; exact HX.out.1⟩
        have B2 : Aside0 (((wr.alloc (.cells #[.int .u8 op, .int .i64 ar] (53 : Nat))).alloc (.cells #[.pointer (some ⟨b, 0, none⟩)] (94 : Nat))).heap[lb + 1]? = some (.cells #[.int .i64 a1_0, .int .i64 a1_1, .int .i64 a1_2, .int .i64 a1_3] (24 : Nat) (0, 0))) := ⟨by rw [heap_alloc_old _ _ (by simp; omega), heap_alloc_old _ _ hl2']; exact HX.out.2.1⟩
        have B3 : Aside0 (((wr.alloc (.cells #[.int .u8 op, .int .i64 ar] (53 : Nat))).alloc (.cells #[.pointer (some ⟨b, 0, none⟩)] (94 : Nat))).heap[ab]? = some (.cells #[.map (some M)] (99 : Nat) (0, 0))) := ⟨by rw [heap_alloc_old _ _ (by simp; omega), heap_alloc_old _ _ hl1']; exact HX.out.2.2⟩
        have B4 : Aside0 (((wr.alloc (.cells #[.int .u8 op, .int .i64 ar] (53 : Nat))).alloc (.cells #[.pointer (some ⟨b, 0, none⟩)] (94 : Nat))).heap[wr.heap.size]? = some (.cells #[.int .u8 op, .int .i64 ar] (53 : Nat) (0, 0))) := ⟨by rw [heap_alloc_old _ _ (by simp)]; exact heap_alloc_new _ _⟩
        have B5 : Aside0 (((wr.alloc (.cells #[.int .u8 op, .int .i64 ar] (53 : Nat))).alloc (.cells #[.pointer (some ⟨b, 0, none⟩)] (94 : Nat))).heap[wr.heap.size + 1]? = some (.cells #[.pointer (some ⟨b, 0, none⟩)] (94 : Nat) (0, 0))) := ⟨by
          have := heap_alloc_new (wr.alloc (.cells #[.int .u8 op, .int .i64 ar] (53 : Nat))) (.cells #[.pointer (some ⟨b, 0, none⟩)] (94 : Nat))
          simpa using this⟩
        have B6 : Aside0 (Below lb w ((wr.alloc (.cells #[.int .u8 op, .int .i64 ar] (53 : Nat))).alloc (.cells #[.pointer (some ⟨b, 0, none⟩)] (94 : Nat)))) := ⟨(HB.out.alloc (hlb ▸ HB.out.size) _).alloc (by have := HB.out.size; rw [hlb] at this; simp; omega) _⟩
        go_wp2_with fail
        clear yc0 yc1 yc2 yc3 hlook xab hc1 hc2
        generalize ((wr.alloc (.cells #[.int .u8 op, .int .i64 ar] (53 : Nat))).alloc (.cells #[.pointer (some ⟨b, 0, none⟩)] (94 : Nat))) = Wb at V1 B1 B2 B3 B4 B5 B6 ⊢
        have hst := (V1.out.st k s HM.out).1
        rw [HBL.out] at hst
        have hos := HO.out k s HM.out
        refine (checks_calls b s ⟨op, ar⟩ ⟨a1_0, a1_1, a1_2, a1_3⟩ Wb hst hos.1 ⟨hos.2.1, by have := hos.2.2; omega⟩ HMC.out.2.2.1).mono ?_
        rintro e W4 ⟨rfl, hg4, hb4⟩
        rw [← HBL.out] at hg4 hb4
        have V4 := V1.out.turn HM.out hg4 hb4
        have hkp := keeps_turn V1.out HM.out hg4
        have C1 := Aside0.mk (hkp.cells V1.out B1.out (by decide))
        have C2 := Aside0.mk (hkp.cells V1.out B2.out (by decide))
        have C3 := Aside0.mk (hkp.cells V1.out B3.out (by decide))
        have C4 := hkp.cells V1.out B4.out (by decide)
        have C5 := hkp.cells V1.out B5.out (by decide)
        have C6 := Aside0.mk (hkp.below V1.out (hlb ▸ B6.out))
        have hok' : OKS (chk s ⟨op, ar⟩ ⟨a1_0, a1_1, a1_2, a1_3⟩).1 := chk_ok hos HMC.out.2.2.2.2
        have hmayf : (chk s ⟨op, ar⟩ ⟨a1_0, a1_1, a1_2, a1_3⟩).2 = 0 → mayB op ar = true := chk_may
        generalize chk s ⟨op, ar⟩ ⟨a1_0, a1_1, a1_2, a1_3⟩ = ch at *
        obtain ⟨s', e'⟩ := ch
        simp only at hb4 V4 hok' hmayf ⊢
        have xi0 : W4.cell? ⟨wr.heap.size, 0, none⟩ = some (.int .u8 op) := by simp [World.cell?, C4]
        have xi1 : W4.cell? ⟨wr.heap.size, 1, none⟩ = some (.int .i64 ar) := by simp [World.cell?, C4]
        have xs : W4.cell? ⟨wr.heap.size + 1, 0, none⟩ = some (.pointer (some ⟨b, 0, none⟩)) := by simp [World.cell?, C5]
        rw [HBL.out] at hb4
        have xh := st_h hb4
        have D4 := Aside0.mk V4
        have D5 := Aside0.mk C5
        have HOK := Aside0.mk hok'
        have HMF := Aside0.mk hmayf
        clear hst hos hg4 hb4 V4 hkp C4 C5 hok' hmayf V1 B1 B2 B3 B4 B5 B6
        by_cases he : e' = 0
        · subst he
          obtain ⟨mo, hmo⟩ : ∃ mo, (if most < s'.h then s'.h else most) = mo := ⟨_, rfl⟩
          have HMO := Aside0.mk hmo
          go_wp2_with fail
          clear xh xi0 xi1 xs hmo
          have F := vfollows_calls w W4 lb ab (wr.heap.size + 1) k (some ad) l0.length c0 M (1 + 2 * k) (fun j => if j = k then some s' else m j) bl s' ⟨op, ar⟩ D4.out C1.out C3.out (by rw [HBL.out]; exact D5.out) (by simp) (by omega) (by omega)
            (fun j x hx => by
              by_cases e : j = k
              · simp [e] at hx; subst hx; exact HOK.out.1
              · simp [e] at hx; exact (HO.out j x hx).1) C6.out.size (may_arg (i := ⟨op, ar⟩) (by have h := HMF.out; simpa using h))
          refine F.mono ?_
          clear F
          rintro e W5 ⟨rfl, bl5, hv5, hk5, hb5, hg5⟩
          have G1 := Aside0.mk (hk5.cells D4.out C1.out (by decide))
          have G2 := Aside0.mk (hk5.cells D4.out C2.out (by decide))
          have G3 := hk5.cells D4.out C3.out (by decide)
          have G6 := Aside0.mk (hk5.below D4.out C6.out)
          have hvg := HVG.out
          simp only [if_true] at hvg
          have hokf := folP_okm (n := l0.length) (p := k) (i := ⟨op, ar⟩) (put_okm (p := k) HO.out HOK.out) HOK.out
          generalize folP l0.length (fun j => if j = k then some s' else m j) s' k ⟨op, ar⟩ = fo at *
          obtain ⟨m5, e5⟩ := fo
          simp only at hvg hokf hv5 ⊢
          have xab : W5.cell? ⟨ab, 0, none⟩ = some (.map (some M)) := by simp [World.cell?, G3]
          obtain ⟨W6, hrun, hv6, hg6⟩ := hv5.del k (by omega) 0
          have X1 := Aside0.mk ((hg6.block _ (Array.getElem?_eq_some_iff.1 G1.out).1 (by simp; exact (hv5.block G1.out (by decide)).1)).trans G1.out)
          have X2 := Aside0.mk ((hg6.block _ (Array.getElem?_eq_some_iff.1 G2.out).1 (by simp; exact (hv5.block G2.out (by decide)).1)).trans G2.out)
          have X3 := Aside0.mk ((hg6.block _ (Array.getElem?_eq_some_iff.1 G3).1 (by simp; exact (hv5.block G3 (by decide)).1)).trans G3)
          have X6 := Aside0.mk (G6.out.grown hg6 G6.out.size (fun j e => by cases e; exact hv5.low))
          have HV6 := Aside0.mk hv6
          have HOF := Aside0.mk hokf
          have HVG5 := Aside0.mk hvg
          clear hv5 hk5 hb5 hg5 G3 hvg hokf hv6 hg6
          by_cases he5 : e5 = 0
          · subst he5
            go_wp2
            go_roundg go
            case measure => omega
            case rel =>
              refine ⟨k + 1, _, bl5, mo, rfl, by simp, ⟨by have := HK.out; omega⟩, ⟨?_⟩, ⟨del_okm (p := k) HOF.out⟩, ⟨HV6.out.more (by omega)⟩, ⟨X1.out, X2.out, X3.out⟩, ⟨hlb ▸ X6.out⟩⟩
              have := HVG5.out
              simp only [if_true] at this
              rw [show mo = max most s'.h by rw [← HMO.out, Int.max_def]; split <;> split <;> omega]
              exact this
          · have q5 : (e5 != 0) = true := by simp [he5]
            have hvg := HVG5.out
            simp only [he5, if_false, Prod.mk.injEq] at hvg
            obtain ⟨rfl, rfl⟩ := hvg
            clear he5
            go_wp2
            go_ret2
            exact ⟨rfl, hlb ▸ G6.out⟩
        · have q0 : (e' != 0) = true := by simp [he]
          have hvg := HVG.out
          simp only [he, if_false, Prod.mk.injEq] at hvg
          obtain ⟨rfl, rfl⟩ := hvg
          clear he
          go_wp2
          go_ret2
          exact ⟨rfl, hlb ▸ C6.out⟩
    · have hk2 : gk = 0 := by have := HK.out; omega
      subst hk2
      have hge : decide ((k : Int) < (l0.length : Int)) = false := decide_eq_false (by omega)
      have hvg := HG.out
      rw [vgo] at hvg
      simp only [Prod.mk.injEq] at hvg
      obtain ⟨rfl, rfl⟩ := hvg
      go_wp2
      go_ret2
      exact ⟨rfl, by first | exact HB.out | (rw [hlb]; exact HB.out)⟩
end Go.Proofs.Ytlmpoojpbdmmfaa.H
