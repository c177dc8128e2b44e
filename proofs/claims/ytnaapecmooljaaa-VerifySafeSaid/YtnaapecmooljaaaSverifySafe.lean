/- The law VerifySafe walked: code that is verified can't go wrong. The conditions: the lists lie in memory. -/
import Derived.Test.YtnaapecmooljaaaSafeB19
import Derived.Test.YtnaapecmooljaaaSverifyVerify
import Derived.Test.YtnaapecmooljaaaHx18
import Derived.Test.YtnaapecmooljaaaHx19
import Derived.Test.YtnaapecmooljaaaHx3
import Derived.Test.YtnaapecmooljaaaP18
import Derived.LoopTactic
import Derived.BigQuiet
import Derived.Deep.QuietTactic
import Derived.KernelRfl
import Derived.Deep.WholeRow
set_option linter.unusedVariables false
set_option linter.unusedSimpArgs false
namespace Go.Proofs.Ytnaapecmooljaaa.H
open Go.RowKit Go.Proofs.YtnaapecmooljaaaW.PrintWords Go.Proofs.YtnaapecmooljaaaW.PrintLast Go.Proofs.YtnaapecmooljaaaW.PrintMore
def carillonlaw19_VerifySafe.f (k : Nat) (l0 : List (S26)) (a1_0 : Int) (a1_1 : Int) (a1_2 : Int) (a1_3 : Int) (l2 : List Bool) : Option Bool := some true
set_option maxHeartbeats 8000000 in
set_option maxRecDepth 100000 in
theorem carillonlaw19_VerifySafe.calls (k : Nat) (A0 : Option Addr) (c0 : Nat) (l0 : List (S26)) (a1_0 : Int) (a1_1 : Int) (a1_2 : Int) (a1_3 : Int) (A2 : Option Addr) (c2 : Nat) (l2 : List Bool) (r : Bool) (w : World) (hr0 : Kd.C k26 w A0 l0.length l0) (hc0 : l0.length ≤ c0) (hr2 : Kd.C Kd.bool w A2 l2.length l2) (hc2 : l2.length ≤ c2) (h : carillonlaw19_VerifySafe.f k l0 a1_0 a1_1 a1_2 a1_3 l2 = some r) :
    Calls Try.prog 11 #[.slice A0 l0.length c0, .agg #[.int .i64 a1_0, .int .i64 a1_1, .int .i64 a1_2, .int .i64 a1_3], .slice A2 l2.length c2] w fun e w' => e = .returned (.bool r) ∧ Below w.heap.size w w' := by
  obtain rfl : true = r := Option.some.inj h
  clear h
  have hu48 := Try.underlying48
  have HR0 := Aside0.mk hr0
  have HC0 := Aside0.mk hc0
  have HR2 := Aside0.mk hr2
  have HC2 := Aside0.mk hc2
  clear hr0 hc0 hr2 hc2
  have HB := Aside0.mk (Below.refl w.heap.size w)
  by_cases hg1 : l0.length > 300 ∨ l2.length > 300
  · have d1 : decide (300 < (l0.length : Int)) = decide (300 < l0.length) := decide_eq_decide.2 (by omega)
    have d2 : decide (300 < (l2.length : Int)) = decide (300 < l2.length) := decide_eq_decide.2 (by omega)
    have e3 : 300 < l0.length ∨ 300 < l2.length := hg1
    clear hg1
    by_cases e4 : 300 < l0.length
    · have d3 : decide (300 < (l0.length : Int)) = true := decide_eq_true (by omega)
      clear e3 d1 d2
      go_enter Try.func11, Try.ntmps11
      go_wp2_with fail
      refine (carillonlaw19_works.calls true _ works19).mono ?_
      rintro e W ⟨rfl, hb⟩
      go_wp2
      go_ret
      exact ⟨rfl, ((Below.refl _ _).alloc (Nat.le_refl _) _).trans (hb.mono (by simp))⟩
    · have d3 : decide (300 < (l0.length : Int)) = false := decide_eq_false (by omega)
      have d4 : decide (300 < (l2.length : Int)) = true := decide_eq_true (by omega)
      clear e3 d1 d2
      go_enter Try.func11, Try.ntmps11
      go_wp2_with fail
      refine (carillonlaw19_works.calls true _ works19).mono ?_
      rintro e W ⟨rfl, hb⟩
      go_wp2
      go_ret
      exact ⟨rfl, ((Below.refl _ _).alloc (Nat.le_refl _) _).trans (hb.mono (by simp))⟩
  · have hle : l0.length ≤ 300 ∧ l2.length ≤ 300 := by omega
    have d1 : decide (300 < (l0.length : Int)) = false := decide_eq_false (by omega)
    have d2 : decide (300 < (l2.length : Int)) = false := decide_eq_false (by omega)
    have LMc7 : Aside0 (([] : List (S26)).length + l0.length < 8796093022208) := ⟨by simp only [List.length_nil]; omega⟩
    clear hg1
    obtain ⟨t408, ht8⟩ : ∃ t, (ver l0 ⟨a1_0, a1_1, a1_2, a1_3⟩).1 = t := ⟨_, rfl⟩
    obtain ⟨t409, ht9⟩ : ∃ t, (ver l0 ⟨a1_0, a1_1, a1_2, a1_3⟩).2 = t := ⟨_, rfl⟩
    obtain ⟨y405, hy405⟩ : ∃ y_ : List (S26), y_ = (([] : List (S26)) ++ l0) := ⟨_, rfl⟩
    have Ny405 := Aside0.mk hy405
    have A8 : Aside0 (verify_Verify.f y405 a1_0 a1_1 a1_2 a1_3 = some (t408, t409)) := ⟨by rw [hy405, List.nil_append, ← ht8, ← ht9]; rfl⟩
    have HV8 := Aside0.mk ht8
    have HV9 := Aside0.mk ht9
    clear ht8 ht9 hy405
    go_enter Try.func11, Try.ntmps11
    try go_wp2_with (first | ((with_reducible refine gate_dst (N := 4) rfl ?_); (try (refine gate_guard (by rfl) ?_; dsimp only)); refine box_event ?hg (N := 4) ?hd (cs := #[.int .i64 a1_0, .int .i64 a1_1, .int .i64 a1_2, .int .i64 a1_3]) (t := 48) ?hr ?_; (case hd => rfl); (case hg => rfl); (case hr => first | (go_simp; done) | (go_simp; rfl)); intro gb403 hg W1 hbox hb; have n0_ := Aside0.mk (below_step (by repeat (first | (with_reducible first | exact HB.out | apply below_alloc | apply pw_below_drewN | apply below_drew1) | exact HB.out)) hb); have n1_ := Aside0.mk (hbox); have n2_ := Aside0.mk ((by rw [hg]; exact (below_size (by repeat (first | (with_reducible first | exact HB.out | apply below_alloc | apply pw_below_drewN | apply below_drew1) | exact HB.out))) : w.heap.size ≤ gb403)); have n3_ := Aside0.mk ((by rw [hg]; exact (below_size (by repeat (first | (with_reducible first | exact HB.out | apply below_alloc | apply pw_below_drewN | apply below_drew1) | exact HB.out))) : w.heap.size ≤ gb403)); clear HB; have HB := n0_; have BK403 := n1_; have GW403 := n2_; have GE403 := n3_; clear n0_ n1_ n2_ n3_; clear hb hbox hg))
    have n0_ := Aside0.mk (blk_drew BK403.out)
    have n1_ := Aside0.mk (below_drew1 HB.out)
    clear BK403
    clear HB
    have BK403 := n0_
    have HB := n1_
    clear n0_ n1_
    refine start_ (n := 9) (S := fun w' => w'.cell? ⟨gb403, 0, none⟩ = some (.int .i64 a1_0) ∧ w'.cell? ⟨gb403, 1, none⟩ = some (.int .i64 a1_1) ∧ w'.cell? ⟨gb403, 2, none⟩ = some (.int .i64 a1_2) ∧ w'.cell? ⟨gb403, 3, none⟩ = some (.int .i64 a1_3)) (ds := []) #[false, false, false, false, false, false, false, false, false] (by kernel_rfl) rfl rfl ⟨(blk_cell BK403.out 0).trans rfl, (blk_cell BK403.out 1).trans rfl, (blk_cell BK403.out 2).trans rfl, (blk_cell BK403.out 3).trans rfl⟩ (fun hHeld => ?_); refine with_tabW vs_tab3 vs_bits3 (fun HT_ HW_ => ?_)
    generalize W1.drew = W2 at BK403 HB hHeld ⊢
    refine pure_ (i := 0) (N := some 29) (v := ?_) (a' := ?_) #[true, false, false, false, false, false, false, false, false] rfl rfl (any_of HT_.out (by kernel_rfl)) (fun _ _ _ h => h) (Or.inl ⟨by rfl, ?_⟩) ?_ ?_
    rotate_left
    · intro w'
      go_simp
      with_reducible rfl
    rotate_left
    · simp only [Act.put, List.setIfInBounds_toArray, List.set_cons_zero, List.set_cons_succ, i64_w, i32_w]
      rfl
    refine take_ (i := 2) (N := some 31) (v := ?_) (a' := ?_) #[true, false, true, false, false, false, false, false, false] rfl rfl (take_ofW HT_.out HW_.out (by kernel_rfl)) (fun _ _ _ h => h) (Or.inl ⟨by rfl, ?_⟩) hHeld ?_ ?_
    rotate_left
    · rintro w' ⟨s0, s1, s2, s3⟩
      go_simp
      with_reducible rfl
    rotate_left
    · simp only [Act.put, List.setIfInBounds_toArray, List.set_cons_zero, List.set_cons_succ, i64_w, i32_w]
      rfl
    refine one_ (i := 1) (N := some 30) #[true, true, true, false, false, false, false, false, false] rfl rfl (one_of HT_.out (by kernel_rfl)) (by decide) (fun K hK => ?_)
    refine Kd.R_append_rows_step k26 (w0 := w) w.heap.size (by rfl) (.const (.slice none 0 0)) (.tmp 29) 22 26 (.agg #[(.int .u8 0), (.int .i64 0)]) 16 rfl Try.underlying22 info26 rfl (by decide) (by omega) (.slice none 0 0) ([] : List (S26)) l0 _ _ _ (fun _ => True) (fun _ => False) rfl rfl ?aO ?aR (fun _ _ h => h) (fun _ h => h.elim) ?aF ?aB ?aS ?aL ?_
    (case aR => repeat (first | exact (Kd.C_below HR0.out HB.out) | (with_reducible refine Kd.C_alloc ?_ _) | (with_reducible refine Kd.C_drewN ?_ _) | (with_reducible refine Kd.C_drew ?_)))
    (case aB => exact (by repeat (first | (with_reducible first | exact HB.out | apply below_alloc | apply pw_below_drewN | apply below_drew1 | refine below_set ?_ GE403.out) | exact HB.out)))
    (case aF => exact (fun _ _ => trivial))
    (case aO => exact ((Kd.R_nil _ _ _ _ (fun _ => True))))
    (case aS => exact (below_size (by repeat (first | (with_reducible first | exact HB.out | apply below_alloc | apply pw_below_drewN | apply below_drew1 | refine below_set ?_ GE403.out) | exact HB.out))))
    (case aL => have := LMc7.out; omega)
    intro v406 W3 ho hb hg hat
    rw [← Ny405.out] at ho
    have n0_ := Aside0.mk (blk_grown (g := gb403) (o := .cells #[.int .i64 a1_0, .int .i64 a1_1, .int .i64 a1_2, .int .i64 a1_3] 48 (0, 0)) (by (with_reducible repeat (first | refine blk_drewN ?_ _ | refine blk_drew ?_ | refine blk_alloc ?_ _)); exact BK403.out) hg (by simp [Value.ownBlock]))
    have n1_ := Aside0.mk (hb)
    have n2_ := Aside0.mk (ho)
    clear BK403
    clear HB
    have BK403 := n0_
    have HB := n1_
    have HO407 := n2_
    clear n0_ n1_ n2_
    clear ho hb hg hat
    obtain ⟨Ao19, co19, eo19⟩ := Kd.R_slice HO407.out
    (first | subst eo19 | (injection eo19 with f1_ f2_ f3_; have f4_ := f1_.symm; have f5_ := f3_.symm; clear f1_ f2_ f3_; subst f4_; subst f5_))
    refine hK.out _ _ ⟨(blk_cell BK403.out 0).trans rfl, (blk_cell BK403.out 1).trans rfl, (blk_cell BK403.out 2).trans rfl, (blk_cell BK403.out 3).trans rfl⟩ (fun hHeld => ?_)
    clear hK K
    refine norm_ (a' := ?_) ?_ ?_
    rotate_left
    · show Act.put _ (some 30) _ = _
      simp only [Act.put, List.setIfInBounds_toArray, List.set_cons_zero, List.set_cons_succ, i64_w, i32_w]
      rfl
    refine one_ (i := 3) (N := some 32) #[true, true, true, true, false, false, false, false, false] rfl rfl (one_of HT_.out (by kernel_rfl)) (by decide) (fun K hK => ?_)
    refine goes_ Try.func31 (by kernel_rfl) rfl #[.slice Ao19 y405.length co19, .agg #[.int .i64 a1_0, .int .i64 a1_1, .int .i64 a1_2, .int .i64 a1_3]] (by rfl) rfl rfl (by (try simp only [List.map_toArray, List.map_cons, List.map_nil]); first | done | rfl | (simp only [List.length_drop, List.length_take]; rfl)) ?_
    with_reducible refine (verify_Verify.calls _ _ y405 a1_0 a1_1 a1_2 a1_3 t408 t409 _ ?side1 ?side2 A8.out).mono ?_
    (case side1 => repeat (first | exact (Kd.R_reads' HO407.out).2.2 | (with_reducible refine Kd.C_alloc ?_ _) | (with_reducible refine Kd.C_drewN ?_ _) | (with_reducible refine Kd.C_drew ?_)))
    (case side2 => exact (Kd.R_reads' HO407.out).2.1)
    rintro e W4 ⟨rfl, hb⟩
    refine ⟨_, rfl, ?_⟩
    have n0_ := Aside0.mk (Kd.R_below (by (with_reducible repeat (first | apply Kd.R_alloc | apply Kd.R_drewN | apply Kd.R_drew)); exact HO407.out) hb)
    have n1_ := Aside0.mk (blk_below (g := gb403) (o := .cells #[.int .i64 a1_0, .int .i64 a1_1, .int .i64 a1_2, .int .i64 a1_3] 48 (0, 0)) (by (with_reducible repeat (first | refine blk_drewN ?_ _ | refine blk_drew ?_ | refine blk_alloc ?_ _)); exact BK403.out) hb)
    have n2_ := Aside0.mk (below_step (by repeat (first | (with_reducible first | exact HB.out | apply below_alloc | apply pw_below_drewN | apply below_drew1 | refine below_set ?_ GE403.out) | exact HB.out)) hb)
    clear HO407
    clear BK403
    clear HB
    have HO407 := n0_
    have BK403 := n1_
    have HB := n2_
    clear n0_ n1_ n2_
    (try clear hb)
    (try clear hb2)
    (try clear hk)
    (try clear hi)
    refine hK.out _ _ ⟨(blk_cell BK403.out 0).trans rfl, (blk_cell BK403.out 1).trans rfl, (blk_cell BK403.out 2).trans rfl, (blk_cell BK403.out 3).trans rfl⟩ (fun hHeld => ?_)
    clear hK K
    refine norm_ (a' := ?_) ?_ ?_
    rotate_left
    · show Act.put _ (some 32) _ = _
      simp only [Act.put, List.setIfInBounds_toArray, List.set_cons_zero, List.set_cons_succ, i64_w, i32_w]
      rfl
    refine pure_ (i := 4) (N := some 28) (v := ?_) (a' := ?_) #[true, true, true, true, true, false, false, false, false] rfl rfl (any_of HT_.out (by kernel_rfl)) (fun _ _ _ h => h) (Or.inl ⟨by rfl, ?_⟩) ?_ ?_
    rotate_left
    · intro w'
      go_simp
      with_reducible rfl
    rotate_left
    · simp only [Act.put, List.setIfInBounds_toArray, List.set_cons_zero, List.set_cons_succ, i64_w, i32_w]
      rfl
    refine pure_ (i := 5) (N := some 33) (v := ?_) (a' := ?_) #[true, true, true, true, true, true, false, false, false] rfl rfl (any_of HT_.out (by kernel_rfl)) (fun _ _ _ h => h) (Or.inl ⟨by rfl, ?_⟩) ?_ ?_
    rotate_left
    · intro w'
      go_simp
      with_reducible rfl
    rotate_left
    · simp only [Act.put, List.setIfInBounds_toArray, List.set_cons_zero, List.set_cons_succ, i64_w, i32_w]
      rfl
    refine pure_ (i := 6) (N := some 34) (v := ?_) (a' := ?_) #[true, true, true, true, true, true, true, false, false] rfl rfl (any_of HT_.out (by kernel_rfl)) (fun _ _ _ h => h) (Or.inl ⟨by rfl, ?_⟩) ?_ ?_
    rotate_left
    · intro w'
      go_simp
      with_reducible rfl
    rotate_left
    · simp only [Act.put, List.setIfInBounds_toArray, List.set_cons_zero, List.set_cons_succ, i64_w, i32_w]
      rfl
    refine pure_ (i := 7) (N := some 7) (v := ?_) (a' := ?_) #[true, true, true, true, true, true, true, true, false] rfl rfl (any_of HT_.out (by kernel_rfl)) (fun _ _ _ h => h) (Or.inl ⟨by rfl, ?_⟩) ?_ ?_
    rotate_left
    · intro w'
      go_simp
      with_reducible rfl
    rotate_left
    · simp only [Act.put, List.setIfInBounds_toArray, List.set_cons_zero, List.set_cons_succ, i64_w, i32_w]
      rfl
    refine pure_ (i := 8) (N := some 8) (v := ?_) (a' := ?_) #[true, true, true, true, true, true, true, true, true] rfl rfl (any_of HT_.out (by kernel_rfl)) (fun _ _ _ h => h) (Or.inl ⟨by rfl, ?_⟩) ?_ ?_
    rotate_left
    · intro w'
      go_simp
      with_reducible rfl
    rotate_left
    · simp only [Act.put, List.setIfInBounds_toArray, List.set_cons_zero, List.set_cons_succ, i64_w, i32_w]
      rfl
    refine done_ (done_of HT_.out (by kernel_rfl)) ?_
    by_cases he : t409 = 0
    · subst he
      have z58 := vs_z58
      have z59 := vs_z59
      generalize hq8 : ((List.replicate 512 false).map Value.bool).toArray = q8 at z58
      generalize hq9 : ((List.replicate 64 (0 : Int)).map (Value.int .i64)).toArray = q9 at z59
      have Q8 := Aside0.mk hq8
      have Q9 := Aside0.mk hq9
      clear hq8 hq9
      go_wp2_with fail
      have hv0 : (ver l0 ⟨a1_0, a1_1, a1_2, a1_3⟩).2 = 0 := HV9.out
      obtain ⟨A, hA, hA0⟩ := ver_good hv0
      rw [HV8.out] at hA
      obtain ⟨hmc, hlen, _, _⟩ := ver_ok hv0
      have hcw : 0 ≤ a1_2 ∧ a1_2 ≤ 64 := by simp [mayC] at hmc; omega
      have HA := Aside0.mk hA
      have S0 : Aside0 (VsS l0 ⟨a1_0, a1_1, a1_2, a1_3⟩ A w gb403 W4.heap.size (W4.heap.size + 1) l0.length 0 0 0 0 (List.replicate 512 false) (List.replicate 64 0) ((W4.alloc (.cells q8 (58 : Nat))).alloc (.cells q9 (59 : Nat)))) := ⟨by
        have hgb : gb403 < W4.heap.size := (Array.getElem?_eq_some_iff.1 BK403.out).1
        refine ⟨hlen, by omega, Nat.le_refl _, Nat.le_refl _, hA0.h.symm, runs_start.le hA0, ?_, ?_, ?_, ⟨HB.out.size, by have := HB.out.size; omega⟩, (HB.out.alloc HB.out.size _).alloc (by have := HB.out.size; simp; omega) _⟩
        · rw [heap_alloc_old _ _ (by simp; omega), heap_alloc_old _ _ hgb]; exact BK403.out
        · rw [heap_alloc_old _ _ (by simp), Q8.out]; exact heap_alloc_new _ _
        · have := heap_alloc_new (W4.alloc (.cells q8 (58 : Nat))) (.cells q9 (59 : Nat))
          rw [Q9.out]
          simpa using this⟩
      have HCW := Aside0.mk hcw
      clear hv0 hA hA0 hmc hcw z58 z59
      generalize (W4.alloc (.cells q8 (58 : Nat))).alloc (.cells q9 (59 : Nat)) = W5 at S0 ⊢
      generalize W4.heap.size + 1 = wb at S0 ⊢
      generalize W4.heap.size = hb at S0 ⊢
      refine wp_loop_ghost_k (VsI (fun (p : Nat) (high : Int) (turn steps : Nat) (v : Nat → Value) => [.slice A0 l0.length c0, v 1, .slice A2 l2.length c2, v 3, .pointer (some ⟨gb403, 0, none⟩), v 5, v 6, .int .i64 t408, v 8, .pointer (some ⟨hb, 0, none⟩), .pointer (some ⟨wb, 0, none⟩), .int .i64 (p : Int), .int .i64 high, .int .i64 (turn : Int), .int .i64 (steps : Int)]) 164 l0 ⟨a1_0, a1_1, a1_2, a1_3⟩ A w gb403 hb wb) l0.length ?start ?round
      case start => exact VsI.intro 0 0 0 0 _ _ _ rfl rfl rfl S0.out
      case round =>
        clear S0 Q8 Q9 hHeld BK403 HB HO407 A8
        rintro n ⟨tm, df⟩ W ⟨p, turn, steps, high, H, Wr, v, us, hus, ht, hdf, HS⟩ J K hJ hK
        have hus2 := us_of hus
        generalize (fun j => us.getD j undef) = u at hus2
        rw [range164] at hus2
        subst hus2
        simp only [List.cons_append, List.nil_append] at ht hdf
        subst ht hdf
        clear hus
        obtain ⟨ad, e, hc1, hc2⟩ := at_T26 (Kd.C_below HR0.out HS.out.bel) (p : Int) (by omega) (by have := HS.out.lt; omega)
        subst e
        simp only [Int.toNat_natCast] at hc1 hc2
        have hG := HA.out p HS.out.lt
        have HG := Aside0.mk hG
        clear hG
        obtain ⟨⟨op, ar⟩, hi⟩ : ∃ i, rd_T26 l0 (p : Int) = i := ⟨_, rfl⟩
        rw [hi] at hc1 hc2
        have HI := Aside0.mk hi
        clear hi
        have hplt := HS.out.lt
        have dst : decide ((l0.length : Int) < (steps : Int)) = false := decide_eq_false (by have := HS.out.st; omega)
        have dp0 : decide ((p : Int) < 0) = false := decide_eq_false (by omega)
        have dpl : decide ((l0.length : Int) ≤ (p : Int)) = false := decide_eq_false (by omega)
        have hpi : (p : Int) < (l0.length : Int) := by omega
        have dst2 : decide (l0.length < steps) = false := decide_eq_false (by have := HS.out.st; omega)
        have dpl2 : decide (l0.length ≤ p) = false := decide_eq_false (by omega)
        have hcg := chk_good HG.out.chk
        rw [HI.out] at hcg
        simp only at hcg
        obtain ⟨KM, hKM⟩ := ev_rmay op ar
        have HKM := Aside0.mk (hKM KM (Nat.le_refl _))
        rw [hcg.1] at HKM
        obtain ⟨KE, hKE⟩ := ev_reff op
        obtain ⟨tk, hte⟩ : ∃ tk, tks op = tk := ⟨_, rfl⟩
        obtain ⟨gv, hge⟩ : ∃ gv, gvs op = gv := ⟨_, rfl⟩
        have hke := hKE KE (Nat.le_refl _)
        rw [hte, hge] at hke hcg
        have HKE := Aside0.mk hke
        have HTE := Aside0.mk hte
        have HGE := Aside0.mk hge
        clear hte hge hke
        have HCG := Aside0.mk hcg
        clear hKM hKE hcg
        go_wp2_with fail
        refine (carillonref18_May.calls KM op ar true _ HKM.out).mono ?_
        rintro e W1 ⟨rfl, hb1⟩
        replace hc1 := pw_cell_below hb1 hc1
        replace hc2 := pw_cell_below hb1 hc2
        have S1 := Aside0.mk (HS.out.moved hb1)
        clear hb1 HS
        go_wp2_with fail
        refine (carillonref19_Effect.calls KE op tk gv _ HKE.out).mono ?_
        rintro e w' ⟨rfl, ⟨nd, rfl⟩⟩
        have S3 : Aside0 (VsS l0 ⟨a1_0, a1_1, a1_2, a1_3⟩ A w gb403 hb wb n p turn steps high H Wr ((W1.alloc (.cells #[.int .u8 op, .int .i64 ar] (26 : Nat))).drewN nd)) := ⟨S1.out.moved (pw_below_drewN ((Below.refl _ _).alloc (Nat.le_refl _) _) nd)⟩
        have I3 : Aside0 (((W1.alloc (.cells #[.int .u8 op, .int .i64 ar] (26 : Nat))).drewN nd).heap[W1.heap.size]? = some (.cells #[.int .u8 op, .int .i64 ar] (26 : Nat) (0, 0))) := ⟨heap_alloc_new _ _⟩
        have L3 : Aside0 (Kd.C k26 ((W1.alloc (.cells #[.int .u8 op, .int .i64 ar] (26 : Nat))).drewN nd) (some ad) l0.length l0) := ⟨Kd.C_below HR0.out S3.out.bel⟩
        clear hc1 hc2 S1
        generalize (W1.alloc (.cells #[.int .u8 op, .int .i64 ar] (26 : Nat))).drewN nd = W3 at S3 I3 L3 ⊢
        generalize W1.heap.size = ib at I3 ⊢
        have hhi := S3.out.hi
        have hok := HG.out.ok
        have htop := HG.out.top
        have hchh := chk_h HG.out.chk
        rw [HI.out] at htop hchh
        simp only at hchh
        rw [← hhi] at hchh
        have hcg := HCG.out
        rw [← hhi] at hcg
        obtain ⟨ht, hg⟩ := tg_range op
        rw [HTE.out] at ht
        rw [HGE.out] at hg
        rw [HTE.out, HGE.out] at hchh
        have hh0 : 0 ≤ high ∧ high ≤ 256 := by rw [hhi]; exact hok.2
        have hp3 : p < 5000 := by omega
        have dh1 : decide (high < tk) = false := decide_eq_false (by have := hcg.2.1; omega)
        have dh2 : decide (t408 < high - tk + gv) = false := decide_eq_false (by omega)
        have dh3 : decide (a1_3 < high - tk + gv) = false := decide_eq_false (by have := hcg.2.2.1; omega)
        have HNH := Aside0.mk hchh
        have HOK := Aside0.mk hok
        have HHI := Aside0.mk hhi
        have HMAY := Aside0.mk hcg.1
        obtain ⟨hh1, hh2⟩ := hh0
        obtain ⟨ht1, ht2⟩ := ht
        obtain ⟨hg1, hg2⟩ := hg
        clear htop hchh hcg hhi hok
        have x0 : W3.cell? ⟨ib, 0, none⟩ = some (.int .u8 op) := by simp [World.cell?, I3.out]
        have x1 : W3.cell? ⟨ib, 1, none⟩ = some (.int .i64 ar) := by simp [World.cell?, I3.out]
        have xc0 : W3.cell? ⟨gb403, 0, none⟩ = some (.int .i64 a1_0) := by simp [World.cell?, S3.out.cb]
        have xc1 : W3.cell? ⟨gb403, 1, none⟩ = some (.int .i64 a1_1) := by simp [World.cell?, S3.out.cb]
        have xc2 : W3.cell? ⟨gb403, 2, none⟩ = some (.int .i64 a1_2) := by simp [World.cell?, S3.out.cb]
        have xc3 : W3.cell? ⟨gb403, 3, none⟩ = some (.int .i64 a1_3) := by simp [World.cell?, S3.out.cb]
        have hlr := S3.out.run.hl
        have hwr := S3.out.run.wl
        have HLR := Aside0.mk hlr
        have HWR := Aside0.mk hwr
        clear hlr hwr
        have hchk : (chk (A p) ⟨op, ar⟩ ⟨a1_0, a1_1, a1_2, a1_3⟩).2 = 0 := by have := HG.out.chk; rw [HI.out] at this; exact this
        have HCHK := Aside0.mk hchk
        clear hchk dst dst2 dp0 dpl dpl2
        by_cases o2 : op = 2
        · subst o2
          obtain ⟨r1, r2, r3, r4⟩ := run_load HOK.out HCHK.out rfl S3.out.run
          simp only at r1 r2 r3
          have xh : W3.cell? ⟨hb, ar.toNat, none⟩ = some (.bool true) := by
            rw [List.getD_eq_getElem?_getD] at r3
            have hlt : ar.toNat < H.length := by rw [HLR.out]; omega
            simp [World.cell?, S3.out.hbk, hlt] at r3 ⊢
            exact r3
          have ds : decide (a1_0 ≤ ar) = false := decide_eq_false (by omega)
          have w7 : wrap64 ar = ar := wrap_arg (by omega) (by omega)
          have dr0 : 0 ≤ ar := r1.1
          have dr1 : ar < 512 := r1.2
          have R4 := Aside0.mk r4
          clear r1 r2 r3 r4
          have hsb := S3.out.st
          have htb := S3.out.tu
          go_wp2
          obtain ⟨n', hlt, hS'⟩ := S3.out.next (m := t408) (H' := H) (Wr' := Wr) (q := (p + 1)) HG.out (by rw [HI.out]; simp [tg19]) (by rw [HI.out]; exact R4.out) turn (by omega) (W' := W3) S3.out.cb S3.out.hbk S3.out.wbk S3.out.bel
          rw [HI.out, HNH.out] at hS'
          exact Handed.intro n' hlt (hJ _ _ _ (VsI.intro (p + 1) turn (steps + 1) _ _ _ _ rfl rfl rfl hS'))
        by_cases o3 : op = 3
        · subst o3
          obtain ⟨r1, r2⟩ := run_store HOK.out HCHK.out rfl S3.out.run
          simp only at r1 r2
          have xf : W3.frozen? ⟨hb, ar.toNat, none⟩ = false := by simp [World.frozen?, S3.out.hbk]
          have xh : ∃ v, W3.cell? ⟨hb, ar.toNat, none⟩ = some v := by
            have hlt : ar.toNat < H.length := by rw [HLR.out]; omega
            simp [World.cell?, S3.out.hbk, hlt]
          obtain ⟨xv, xh⟩ := xh
          have dr0 : 0 ≤ ar := r1.1
          have dr1 : ar < 512 := r1.2
          have R4 := Aside0.mk r2
          clear r1 r2
          have hsb := S3.out.st
          have htb := S3.out.tu
          go_wp2
          obtain ⟨s1, s2, s3, s4⟩ := S3.out.setH ar.toNat
          obtain ⟨n', hlt, hS'⟩ := S3.out.next (m := t408) (H' := (H.set ar.toNat true)) (Wr' := Wr) (q := (p + 1)) HG.out (by rw [HI.out]; simp [tg19]) (by rw [HI.out]; exact R4.out) turn (by omega) (W' := (W3.setCell ⟨hb, ar.toNat, none⟩ (.bool true))) s1 s2 s3 s4
          rw [HI.out, HNH.out] at hS'
          exact Handed.intro n' hlt (hJ _ _ _ (VsI.intro (p + 1) turn (steps + 1) _ _ _ _ rfl rfl rfl hS'))
        by_cases o4 : op = 4
        · subst o4
          obtain ⟨r1, r2⟩ := run_read HCHK.out rfl S3.out.run
          simp only at r1 r2
          have ds : decide (a1_1 ≤ ar) = false := decide_eq_false (by omega)
          have hm : 0 ≤ ar ∧ ar < 64 := by simpa [mayB] using HMAY.out
          have w7 : wrap64 ar = ar := wrap_arg (by omega) (by omega)
          have R4 := Aside0.mk r2
          clear r1 r2
          have hsb := S3.out.st
          have htb := S3.out.tu
          go_wp2
          obtain ⟨n', hlt, hS'⟩ := S3.out.next (m := t408) (H' := H) (Wr' := Wr) (q := (p + 1)) HG.out (by rw [HI.out]; simp [tg19]) (by rw [HI.out]; exact R4.out) turn (by omega) (W' := W3) S3.out.cb S3.out.hbk S3.out.wbk S3.out.bel
          rw [HI.out, HNH.out] at hS'
          exact Handed.intro n' hlt (hJ _ _ _ (VsI.intro (p + 1) turn (steps + 1) _ _ _ _ rfl rfl rfl hS'))
        by_cases o5 : op = 5
        · subst o5
          obtain ⟨r1, r2, r3⟩ := run_write HCHK.out rfl S3.out.run
          simp only at r1 r2 r3
          have xh : W3.cell? ⟨wb, ar.toNat, none⟩ = some (.int .i64 0) := by
            rw [List.getD_eq_getElem?_getD] at r2
            have hlt : ar.toNat < Wr.length := by rw [HWR.out]; omega
            simp [World.cell?, S3.out.wbk, hlt] at r2 ⊢
            exact r2
          have xf : W3.frozen? ⟨wb, ar.toNat, none⟩ = false := by simp [World.frozen?, S3.out.wbk]
          have dr0 : 0 ≤ ar := r1.1
          have dr1 : ar < 64 := r1.2
          have R4 := Aside0.mk r3
          clear r1 r2 r3
          have hsb := S3.out.st
          have htb := S3.out.tu
          go_wp2
          obtain ⟨s1, s2, s3, s4⟩ := S3.out.setW ar.toNat 1
          obtain ⟨n', hlt, hS'⟩ := S3.out.next (m := t408) (H' := H) (Wr' := (Wr.set ar.toNat 1)) (q := (p + 1)) HG.out (by rw [HI.out]; simp [tg19]) (by rw [HI.out]; exact R4.out) turn (by omega) (W' := (W3.setCell ⟨wb, ar.toNat, none⟩ (.int .i64 1))) s1 s2 s3 s4
          rw [HI.out, HNH.out] at hS'
          exact Handed.intro n' hlt (hJ _ _ _ (VsI.intro (p + 1) turn (steps + 1) _ _ _ _ rfl rfl rfl hS'))
        by_cases o21 : op = 21
        · subst o21
          have R4 := Aside0.mk (run_other HCHK.out (by simp) S3.out.run)
          have ha : 1 ≤ ar ∧ ar ≤ 4096 := by simpa [mayB] using HMAY.out
          obtain ⟨ha1, ha2⟩ := ha
          have hq : ((p + ar.toNat : Nat) : Int) = (p : Int) + ar := by omega
          have HQ := Aside0.mk hq
          clear hq
          have hsb := S3.out.st
          have htb := S3.out.tu
          go_wp2
          rw [← HQ.out]
          obtain ⟨n', hlt, hS'⟩ := S3.out.next (m := t408) (H' := H) (Wr' := Wr) (q := (p + ar.toNat)) HG.out (by rw [HI.out]; simp [tg19]) (by rw [HI.out]; exact R4.out) turn (by omega) (W' := W3) S3.out.cb S3.out.hbk S3.out.wbk S3.out.bel
          rw [HI.out, HNH.out] at hS'
          exact Handed.intro n' hlt (hJ _ _ _ (VsI.intro (p + ar.toNat) turn (steps + 1) _ _ _ _ rfl rfl rfl hS'))
        by_cases o22 : op = 22
        · subst o22
          have R4 := Aside0.mk (run_other HCHK.out (by simp) S3.out.run)
          have ha : 1 ≤ ar ∧ ar ≤ 4096 := by simpa [mayB] using HMAY.out
          obtain ⟨ha1, ha2⟩ := ha
          have hq : ((p + ar.toNat : Nat) : Int) = (p : Int) + ar := by omega
          have HQ := Aside0.mk hq
          clear hq
          have hl2 := hle.2
          have hsb := S3.out.st
          have htb := S3.out.tu
          by_cases ht3 : turn < l2.length
          · obtain ⟨ad2, e2, hb0⟩ := Kd.at_bool (Kd.C_below HR2.out S3.out.bel) (turn : Int) (by omega) (by omega)
            subst e2
            simp only [Int.toNat_natCast] at hb0
            have dt : decide ((turn : Int) < (l2.length : Int)) = true := decide_eq_true (by omega)
            have dt2 : (turn : Int) < (l2.length : Int) := by omega
            obtain ⟨tv, htv⟩ : ∃ tv, rdOf false l2 (turn : Int) = tv := ⟨_, rfl⟩
            rw [htv] at hb0
            clear htv
            cases tv with
            | true =>
              go_wp2
              rw [← HQ.out]
              obtain ⟨n', hlt, hS'⟩ := S3.out.next (m := t408) (H' := H) (Wr' := Wr) (q := (p + ar.toNat)) HG.out (by rw [HI.out]; simp [tg19]) (by rw [HI.out]; exact R4.out) (turn + 1) (by omega) (W' := W3) S3.out.cb S3.out.hbk S3.out.wbk S3.out.bel
              rw [HI.out, HNH.out] at hS'
              exact Handed.intro n' hlt (hJ _ _ _ (VsI.intro (p + ar.toNat) (turn + 1) (steps + 1) _ _ _ _ rfl rfl rfl hS'))
            | false =>
              go_wp2
              obtain ⟨n', hlt, hS'⟩ := S3.out.next (m := t408) (H' := H) (Wr' := Wr) (q := (p + 1)) HG.out (by rw [HI.out]; simp [tg19]) (by rw [HI.out]; exact R4.out) (turn + 1) (by omega) (W' := W3) S3.out.cb S3.out.hbk S3.out.wbk S3.out.bel
              rw [HI.out, HNH.out] at hS'
              exact Handed.intro n' hlt (hJ _ _ _ (VsI.intro (p + 1) (turn + 1) (steps + 1) _ _ _ _ rfl rfl rfl hS'))
          · have dt : decide ((turn : Int) < (l2.length : Int)) = false := decide_eq_false (by omega)
            have dt2 : decide (turn < l2.length) = false := decide_eq_false ht3
            go_wp2
            obtain ⟨n', hlt, hS'⟩ := S3.out.next (m := t408) (H' := H) (Wr' := Wr) (q := (p + 1)) HG.out (by rw [HI.out]; simp [tg19]) (by rw [HI.out]; exact R4.out) (turn + 1) (by omega) (W' := W3) S3.out.cb S3.out.hbk S3.out.wbk S3.out.bel
            rw [HI.out, HNH.out] at hS'
            exact Handed.intro n' hlt (hJ _ _ _ (VsI.intro (p + 1) (turn + 1) (steps + 1) _ _ _ _ rfl rfl rfl hS'))
        by_cases o23 : op = 23
        · subst o23
          obtain ⟨r1, r2⟩ := run_end (i := ⟨23, ar⟩) HOK.out HCHK.out rfl HCW.out S3.out.run
          rw [← HHI.out] at r1
          subst r1
          have ht0 : tk = 0 := HTE.out.symm
          have hg0 : gv = 0 := HGE.out.symm
          subst ht0 hg0
          have dz2 : decide (t408 < 0) = false := by simpa using dh2
          have dz3 : decide (a1_3 < 0) = false := by simpa using dh3
          clear dh1 dh2 dh3
          have HR2' := Aside0.mk r2
          have B0 := Aside0.mk (And.intro S3.out.cb (And.intro S3.out.wbk S3.out.bel))
          clear r2
          have hsb := S3.out.st
          have htb := S3.out.tu
          go_wp2_with fail
          clear x0 x1 xc0 xc1 xc2 xc3 S3 L3 I3
          refine wp_loop_ghost_k (VsJ (fun (k : Nat) (v : Nat → Value) => [v 0, v 1, v 2, v 3, .pointer (some ⟨gb403, 0, none⟩), v 5, v 6, v 7, v 8, v 9, .pointer (some ⟨wb, 0, none⟩), v 11, .int .i64 0, v 13, v 14, v 15, v 16, v 17, .int .i64 (k : Int)]) 160 ⟨a1_0, a1_1, a1_2, a1_3⟩ Wr w gb403 wb) 64 ?start2 ?round2
          case start2 => exact VsJ.intro 0 _ rfl rfl rfl ⟨rfl, B0.out⟩
          case round2 =>
            clear B0
            rintro n2 ⟨tm, df⟩ W5 ⟨k5, v5, us, hus, ht, hdf, HS5⟩ J5 K5 hJ5 hK5
            have hus2 := us_of hus
            generalize (fun j => us.getD j undef) = u5 at hus2
            rw [range160] at hus2
            subst hus2
            simp only [List.cons_append, List.nil_append] at ht hdf
            subst ht hdf
            clear hus
            by_cases hk5 : k5 < 64
            · have yc : W5.cell? ⟨gb403, 2, none⟩ = some (.int .i64 a1_2) := by simp [World.cell?, HS5.out.2.1]
              have hv := HR2'.out k5 hk5
              obtain ⟨wv, hwv⟩ : ∃ wv, Wr.getD k5 0 = wv := ⟨_, rfl⟩
              rw [hwv] at hv
              have yw : W5.cell? ⟨wb, k5, none⟩ = some (.int .i64 wv) := by
                rw [List.getD_eq_getElem?_getD] at hwv
                have hlt : k5 < Wr.length := by rw [HWR.out]; omega
                simp [World.cell?, HS5.out.2.2.1, hlt] at hwv ⊢
                exact hwv
              have dk : decide ((k5 : Int) < 64) = true := decide_eq_true (by omega)
              have dk2 : (k5 : Int) < 64 := by omega
              clear hwv
              by_cases hkw : (k5 : Int) < a1_2
              · rw [if_pos hkw] at hv
                subst hv
                have dkw : decide ((k5 : Int) < a1_2) = true := decide_eq_true hkw
                go_wp2
                go_quiet (fail)
                go_wp2
                exact Handed.intro (n2 - 1) (by have := HS5.out.1; omega) (hJ5 _ _ _ (VsJ.intro (k5 + 1) _ rfl rfl rfl ⟨by have := HS5.out.1; omega, HS5.out.2.1, HS5.out.2.2.1, pw_below_drewN HS5.out.2.2.2 _⟩))
              · rw [if_neg hkw] at hv
                subst hv
                have dkw : decide ((k5 : Int) < a1_2) = false := decide_eq_false hkw
                go_wp2
                go_quiet (fail)
                go_wp2
                exact Handed.intro (n2 - 1) (by have := HS5.out.1; omega) (hJ5 _ _ _ (VsJ.intro (k5 + 1) _ rfl rfl rfl ⟨by have := HS5.out.1; omega, HS5.out.2.1, HS5.out.2.2.1, pw_below_drewN HS5.out.2.2.2 _⟩))
            · have dk : decide ((k5 : Int) < 64) = false := decide_eq_false (by omega)
              go_wp2_with fail
              refine (carillonlaw19_works.calls true _ works19).mono ?_
              rintro e W6 ⟨rfl, hb6⟩
              go_wp2
              go_ret
              exact ⟨rfl, HS5.out.2.2.2.trans (hb6.mono HS5.out.2.2.2.size)⟩
        · have R4 := Aside0.mk (run_other HCHK.out ⟨o2, o3, o4, o5, o23⟩ S3.out.run)
          have q2 : (op == 2) = false := beq_eq_false_iff_ne.mpr o2
          have q3 : (op == 3) = false := beq_eq_false_iff_ne.mpr o3
          have q4 : (op == 4) = false := beq_eq_false_iff_ne.mpr o4
          have q5 : (op == 5) = false := beq_eq_false_iff_ne.mpr o5
          have q21 : (op == 21) = false := beq_eq_false_iff_ne.mpr o21
          have q22 : (op == 22) = false := beq_eq_false_iff_ne.mpr o22
          have q23 : (op == 23) = false := beq_eq_false_iff_ne.mpr o23
          have hsb := S3.out.st
          have htb := S3.out.tu
          go_wp2
          obtain ⟨n', hlt, hS'⟩ := S3.out.next (m := t408) (H' := H) (Wr' := Wr) (q := (p + 1)) HG.out (by rw [HI.out]; simp [tg19, o21, o22, o23]) (by rw [HI.out]; exact R4.out) turn (by omega) (W' := W3) S3.out.cb S3.out.hbk S3.out.wbk S3.out.bel
          rw [HI.out, HNH.out] at hS'
          exact Handed.intro n' hlt (hJ _ _ _ (VsI.intro (p + 1) turn (steps + 1) _ _ _ _ rfl rfl rfl hS'))
    · have q0 : (t409 != 0) = true := by simp [he]
      clear he
      go_wp2_with fail
      refine (carillonlaw19_works.calls true _ works19).mono ?_
      rintro e W ⟨rfl, hb⟩
      go_wp2
      go_ret
      exact ⟨rfl, HB.out.trans (hb.mono HB.out.size)⟩
end Go.Proofs.Ytnaapecmooljaaa.H
