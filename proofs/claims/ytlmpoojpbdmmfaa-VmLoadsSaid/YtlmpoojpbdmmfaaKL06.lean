/- Part 6 of the proof of the law L. The conditions: none. (Its parts: Step22 Vm19 Fol19.) -/
import Derived.Maps.OwnSet
import Derived.LoopTactic
import Derived.BigQuiet
import Derived.Deep.QuietTactic
import Derived.RegionTactic
import Derived.BigRegion
import Derived.StillTailTactics
import Derived.Test.YtlmpoojpbdmmfaaKL03
import Derived.Test.YtlmpoojpbdmmfaaKL05
section
set_option linter.unusedVariables false
set_option linter.unusedSimpArgs false
namespace Go.Proofs.Ytlmpoojpbdmmfaa.H
open Go.RowKit Go.Proofs.YtlmpoojpbdmmfaaW.PrintWords Go.Proofs.YtlmpoojpbdmmfaaW.PrintLast Go.Proofs.YtlmpoojpbdmmfaaW.PrintMore Go.Maps
theorem one_at (i : S53) (x : Ctx) : (one i x).1.at_ = x.at_ ∧ (one i x).1.spent = x.spent := by
  unfold one
  repeat' split
  all_goals exact ⟨rfl, rfl⟩
theorem one_dist {i : S53} {x : Ctx} (h : mayB i.f0 i.f1 = true) : 0 ≤ (one i x).2 ∧ (one i x).2 ≤ 4096 := by
  unfold one
  by_cases h1 : i.f0 = 1
  · rw [if_pos h1]; exact ⟨by simp, by simp⟩
  rw [if_neg h1]
  by_cases h2 : i.f0 = 2
  · rw [if_pos h2]; exact ⟨by simp, by simp⟩
  rw [if_neg h2]
  by_cases h3 : i.f0 = 3
  · rw [if_pos h3]; exact ⟨by simp, by simp⟩
  rw [if_neg h3]
  by_cases h4 : i.f0 = 4
  · rw [if_pos h4]; exact ⟨by simp, by simp⟩
  rw [if_neg h4]
  by_cases h5 : i.f0 = 5
  · rw [if_pos h5]; exact ⟨by simp, by simp⟩
  rw [if_neg h5]
  by_cases h6 : i.f0 = 6
  · rw [if_pos h6]; exact ⟨by simp, by simp⟩
  rw [if_neg h6]
  by_cases h7 : i.f0 = 7
  · rw [if_pos h7]; exact ⟨by simp, by simp⟩
  rw [if_neg h7]
  by_cases h22 : i.f0 = 22
  · have hb : 1 ≤ i.f1 ∧ i.f1 ≤ 4096 := by simpa [mayB, h22] using h
    rw [if_pos h22]
    simp only
    split <;> omega
  rw [if_neg h22]
  by_cases h21 : i.f0 = 21
  · have hb : 1 ≤ i.f1 ∧ i.f1 ≤ 4096 := by simpa [mayB, h21] using h
    rw [if_pos h21]
    simp only
    omega
  rw [if_neg h21]
  by_cases h23 : i.f0 = 23
  · rw [if_pos h23]; exact ⟨by simp, by simp⟩
  rw [if_neg h23]
  exact ⟨by simp, by simp⟩
theorem cyc_range (op : Int) : 0 ≤ cyc op ∧ cyc op ≤ 8 := by
  unfold cyc
  repeat' split
  all_goals omega
theorem is_store {W : World} {g : Nat} {t : TypeId} {u v op ar : Int} (h : W.heap[g]? = some (.cells #[.int .u8 u, .int .i64 v] t (0, 0))) : (Instr.storeAt 53 (.pointer (some ⟨g, 0, none⟩)) (.agg #[.int .u8 op, .int .i64 ar])).run Try.prog W = .ok () (W.setRow g #[.int .u8 op, .int .i64 ar]) := by
  have hi : (Try.prog.info? 53).map (·.size) = some 2 := by kernel_rfl
  have := run_storeVar_row (P := Try.prog) W g t 53 #[.int .u8 u, .int .i64 v] #[.int .u8 op, .int .i64 ar] h (by rw [hi]; rfl) rfl (by simp [Value.oneCell'])
  simp only [Instr.storeAt, Instr.sureAddr, Sem.run_bind, Sem.run_pure, Result.andThen]
  exact this
theorem istore_run {oi : Oper} {a : Act} {W : World} (x y : Operand) (ho : oi.op = .store 53 x y) {g : Nat} (hx : a.eval x = .pointer (some ⟨g, 0, none⟩)) {t : TypeId} {u v op ar : Int} (hy : a.eval y = .agg #[.int .u8 op, .int .i64 ar]) (h : W.heap[g]? = some (.cells #[.int .u8 u, .int .i64 v] t (0, 0))) :
    (execOp a.eval oi).run Try.prog W = .ok .skip (W.setRow g #[.int .u8 op, .int .i64 ar]) := by
  unfold execOp
  simp only [ho, hx, hy, Sem.run_bind, Result.andThen_ok, is_store h, Sem.run_pure]
theorem setRow_below2 {B g : Nat} {w0 w : World} (hb : Below B w0 w) (hBg : B ≤ g) (cs : Array Value) : Below B w0 (w.setRow g cs) :=
  ⟨hb.os, hb.tape, hb.output, by simpa using hb.size, fun k hk => (setRow_other w g k cs (by omega)).trans (hb.block k hk)⟩
theorem zero53 (w : World) : (zeroValue 53).run Try.prog w = .ok (.agg #[.int .u8 0, .int .i64 0]) w := by kernel_rfl
set_option maxHeartbeats 4000000 in
theorem step_ended {W : World} {P : Nat → Prop} {b : Nat} {c : Cf} {l : List S53} {x : Ctx} (h : VMem W P b c l x) (he : x.ended = true) : Calls Try.prog 20 #[.pointer (some ⟨b, 0, none⟩)] W fun e W' => e = .returned (.tuple #[.int .i64 0, .bool false, .int .i64 3]) ∧ Below W.heap.size W W' := by
  obtain ⟨M, cv, sv, tv, iv, ov, h⟩ := h
  have c11 : W.cell? ⟨b, 11, none⟩ = some (.bool true) := by rw [← he]; exact h.cell rfl
  clear h he
  go_enter Try.func20, Try.ntmps20
  go_wp2
  go_ret3
  exact ⟨rfl, Below.refl _ _⟩
set_option maxHeartbeats 16000000 in
set_option maxRecDepth 100000 in
theorem step_calls {W : World} {P : Nat → Prop} {b : Nat} {c : Cf} {l : List S53} {x : Ctx} (h : VMem W P b c l x) (hP : ∀ k, P k → k < W.heap.size) (hat : x.at_ < l.length) (hl : l.length ≤ 4096) (he : x.ended = false) (hp : PreOne (rd_T53 l (x.at_ : Int)) x) (hs : 0 ≤ x.spent ∧ x.spent ≤ 2199023255552) :
    Calls Try.prog 20 #[.pointer (some ⟨b, 0, none⟩)] W fun e W' => e = .returned (.tuple #[.int .i64 (cyc (rd_T53 l (x.at_ : Int)).f0), .bool (stp l x).ended, .int .i64 0]) ∧ VMem W' (Zn P W W') b c l (stp l x) ∧ Kept2 W W' P := by
  obtain ⟨M, cv, sv, tv, iv, ov, h⟩ := h
  obtain ⟨A, cap, rfl, hcap, hC⟩ := Kd.R_reads h.code
  obtain ⟨ad, rfl, hc1, hc2⟩ := at_T53 hC (x.at_ : Int) (by omega) (by omega)
  simp only [Int.toNat_natCast] at hc1 hc2
  have hst : stp l x = { (one (rd_T53 l (x.at_ : Int)) x).1 with at_ := (x.at_ + (one (rd_T53 l (x.at_ : Int)) x).2).toNat, spent := (one (rd_T53 l (x.at_ : Int)) x).1.spent + cyc (rd_T53 l (x.at_ : Int)).f0 } := rfl
  obtain ⟨i, hi⟩ : ∃ i, rd_T53 l (x.at_ : Int) = i := ⟨_, rfl⟩
  rw [hi] at hc1 hc2 hp hst
  rw [hst, hi]
  clear hst
  have H := Aside0.mk h
  have HP := Aside0.mk hP
  have HPP := Aside0.mk hp
  have HS := Aside0.mk hs
  have HD := Aside0.mk (one_dist (x := x) hp.may)
  have c11 : W.cell? ⟨b, 11, none⟩ = some (.bool false) := by rw [← he]; exact h.cell rfl
  have hatl : (x.at_ : Int) < (l.length : Int) := by omega
  have hat5 : (x.at_ : Int) < 4096 := by omega
  have HC1 := Aside0.mk (And.intro hc1 hc2)
  have hC' := Aside0.mk hC
  obtain ⟨at_, hae⟩ : ∃ q, x.at_ = q := ⟨_, rfl⟩
  have HAE := Aside0.mk hae
  rw [hae] at hatl hat5 HC1
  clear h hP hp hs he hi hC hc1 hc2 hae hat hl
  go_enter Try.func20, Try.ntmps20
  go_wp2_with fail
  have D := Aside0.mk (H.out.move (W1 := W.drew) (fun k _ _ => rfl))
  refine start_ (n := 13) (S := fun w' => w'.cell? ⟨b, 0, none⟩ = some (.slice (some ad) l.length cap) ∧ w'.cell? ⟨b, 5, none⟩ = some (.int .i64 (at_ : Int)) ∧ w'.cell? (ad.add (at_ * 2)) = some (.int .u8 i.f0) ∧ w'.cell? ⟨(ad.add (at_ * 2)).block, (ad.add (at_ * 2)).off + 1, none⟩ = some (.int .i64 i.f1)) (ds := []) #[false, false, false, false, false, false, false, false, false, false, false, false, false] (by kernel_rfl) rfl rfl ⟨D.out.cell rfl, by rw [← HAE.out]; exact D.out.cell rfl, HC1.out.1, HC1.out.2⟩ (fun hHeld => ?_)
  have HPd : Aside0 (∀ k, P k → k < W.drew.heap.size) := ⟨HP.out⟩
  have BB := Aside0.mk (below_drew1 (Below.refl W.heap.size W))
  generalize W.drew = W1 at D hHeld HPd BB ⊢
  clear H c11 HP
  refine pure_ (i := 0) (N := some 16) (v := ?_) (a' := ?_) #[true, false, false, false, false, false, false, false, false, false, false, false, false] rfl rfl (by kernel_rfl) (fun _ _ _ h => h) (Or.inl ⟨by rfl, ?_⟩) ?_ ?_
  rotate_left
  · intro w'
    go_simp
    with_reducible rfl
  rotate_left
  · simp only [Act.put, List.setIfInBounds_toArray, List.set_cons_zero, List.set_cons_succ, i64_w, i32_w]
    rfl
  refine pure_ (i := 1) (N := some 17) (v := ?_) (a' := ?_) #[true, true, false, false, false, false, false, false, false, false, false, false, false] rfl rfl (by kernel_rfl) (fun _ _ _ h => h) (Or.inl ⟨by rfl, ?_⟩) ?_ ?_
  rotate_left
  · intro w'
    go_simp
    with_reducible rfl
  rotate_left
  · simp only [Act.put, List.setIfInBounds_toArray, List.set_cons_zero, List.set_cons_succ, i64_w, i32_w]
    rfl
  refine pure_ (i := 2) (N := some 18) (v := ?_) (a' := ?_) #[true, true, true, false, false, false, false, false, false, false, false, false, false] rfl rfl (by kernel_rfl) (fun _ _ _ h => h) (Or.inl ⟨by rfl, ?_⟩) ?_ ?_
  rotate_left
  · intro w'
    go_simp
    with_reducible rfl
  rotate_left
  · simp only [Act.put, List.setIfInBounds_toArray, List.set_cons_zero, List.set_cons_succ, i64_w, i32_w]
    rfl
  refine take_ (i := 3) (N := some 19) (v := ?_) (a' := ?_) #[true, true, true, true, false, false, false, false, false, false, false, false, false] rfl rfl (by kernel_rfl) (fun _ _ _ h => h) (Or.inl ⟨by rfl, ?_⟩) hHeld ?_ ?_
  rotate_left
  · rintro w' ⟨s0, s1, s2, s3⟩
    go_simp
    with_reducible rfl
  rotate_left
  · simp only [Act.put, List.setIfInBounds_toArray, List.set_cons_zero, List.set_cons_succ, i64_w, i32_w]
    rfl
  refine pure_ (i := 4) (N := some 20) (v := ?_) (a' := ?_) #[true, true, true, true, true, false, false, false, false, false, false, false, false] rfl rfl (by kernel_rfl) (fun _ _ _ h => h) (Or.inl ⟨by rfl, ?_⟩) ?_ ?_
  rotate_left
  · intro w'
    go_simp
    with_reducible rfl
  rotate_left
  · simp only [Act.put, List.setIfInBounds_toArray, List.set_cons_zero, List.set_cons_succ, i64_w, i32_w]
    rfl
  refine pure_ (i := 5) (N := some 21) (v := ?_) (a' := ?_) #[true, true, true, true, true, true, false, false, false, false, false, false, false] rfl rfl (by kernel_rfl) (fun _ _ _ h => h) (Or.inl ⟨by rfl, ?_⟩) ?_ ?_
  rotate_left
  · intro w'
    go_simp
    with_reducible rfl
  rotate_left
  · simp only [Act.put, List.setIfInBounds_toArray, List.set_cons_zero, List.set_cons_succ, i64_w, i32_w]
    rfl
  refine pure_ (i := 6) (N := some 22) (v := ?_) (a' := ?_) #[true, true, true, true, true, true, true, false, false, false, false, false, false] rfl rfl (by kernel_rfl) (fun _ _ _ h => h) (Or.inl ⟨by rfl, ?_⟩) ?_ ?_
  rotate_left
  · intro w'
    go_simp
    with_reducible rfl
  rotate_left
  · simp only [Act.put, List.setIfInBounds_toArray, List.set_cons_zero, List.set_cons_succ, i64_w, i32_w]
    rfl
  refine pure_ (i := 7) (N := some 23) (v := ?_) (a' := ?_) #[true, true, true, true, true, true, true, true, false, false, false, false, false] rfl rfl (by kernel_rfl) (fun _ _ _ h => h) (Or.inl ⟨by rfl, ?_⟩) ?_ ?_
  rotate_left
  · intro w'
    go_simp
    with_reducible rfl
  rotate_left
  · simp only [Act.put, List.setIfInBounds_toArray, List.set_cons_zero, List.set_cons_succ, i64_w, i32_w]
    rfl
  refine take_ (i := 8) (N := some 24) (v := ?_) (a' := ?_) #[true, true, true, true, true, true, true, true, true, false, false, false, false] rfl rfl (by kernel_rfl) (fun _ _ _ h => h) (Or.inl ⟨by rfl, ?_⟩) hHeld ?_ ?_
  rotate_left
  · rintro w' ⟨s0, s1, s2, s3⟩
    go_simp
    with_reducible rfl
  rotate_left
  · simp only [Act.put, List.setIfInBounds_toArray, List.set_cons_zero, List.set_cons_succ, i64_w, i32_w]
    rfl
  refine pure_ (i := 9) (N := some 25) (v := ?_) (a' := ?_) #[true, true, true, true, true, true, true, true, true, true, false, false, false] rfl rfl (by kernel_rfl) (fun _ _ _ h => h) (Or.inl ⟨by rfl, ?_⟩) ?_ ?_
  rotate_left
  · intro w'
    go_simp
    with_reducible rfl
  rotate_left
  · simp only [Act.put, List.setIfInBounds_toArray, List.set_cons_zero, List.set_cons_succ, i64_w, i32_w]
    rfl
  refine take_ (i := 10) (N := some 26) (v := ?_) (a' := ?_) #[true, true, true, true, true, true, true, true, true, true, true, false, false] rfl rfl (by kernel_rfl) (fun _ _ _ h => h) (Or.inl ⟨by rfl, ?_⟩) hHeld ?_ ?_
  rotate_left
  · rintro w' ⟨s0, s1, s2, s3⟩
    go_simp
    with_reducible rfl
  rotate_left
  · simp only [Act.put, List.setIfInBounds_toArray, List.set_cons_zero, List.set_cons_succ, i64_w, i32_w]
    rfl
  refine one_ (i := 11) (N := some 5) #[true, true, true, true, true, true, true, true, true, true, true, true, false] rfl rfl (by kernel_rfl) (by decide) (fun K hK => ?_)
  refine value_ (v := .pointer (some ⟨W1.heap.size, 0, none⟩)) (w1 := W1.alloc (.cells #[.int .u8 0, .int .i64 0] (53 : Nat))) (by rfl) rfl ?_ ?_
  · have hz := zero53
    go_simp
  have hsz : W1.heap.size < (W1.alloc (.cells #[.int .u8 0, .int .i64 0] (53 : Nat))).heap.size := by simp
  have D2 := Aside0.mk (D.out.move (W1 := W1.alloc (.cells #[.int .u8 0, .int .i64 0] (53 : Nat))) (fun k _ hk => heap_alloc_old _ _ hk))
  have I2 := Aside0.mk (heap_alloc_new W1 (.cells #[.int .u8 0, .int .i64 0] (53 : Nat)))
  have hnb : W1.heap.size ≠ b := by have := (Array.getElem?_eq_some_iff.1 D.out.vb).1; omega
  have hb1 : ∀ k, k < W1.heap.size → (W1.alloc (.cells #[.int .u8 0, .int .i64 0] (53 : Nat))).heap[k]? = W1.heap[k]? := fun k hk => heap_alloc_old _ _ hk
  refine hK.out _ _ ⟨D2.out.cell rfl, by rw [← HAE.out]; exact D2.out.cell rfl, pw_cell_below ((Below.refl _ _).alloc (Nat.le_refl _) _) hHeld.2.2.1, pw_cell_below ((Below.refl _ _).alloc (Nat.le_refl _) _) hHeld.2.2.2⟩ (fun hHeld2 => ?_)
  clear hK K
  refine norm_ (a' := ?_) ?_ ?_
  rotate_left
  · show Act.put _ (some 5) _ = _
    simp only [Act.put, List.setIfInBounds_toArray, List.set_cons_zero, List.set_cons_succ, i64_w, i32_w]
    rfl
  have B2 := Aside0.mk ((Below.refl W1.heap.size W1).alloc (Nat.le_refl _) (.cells #[.int .u8 0, .int .i64 0] (53 : Nat)))
  have HPI : Aside0 (¬ P W1.heap.size) := ⟨fun e => by have := HPd.out _ e; omega⟩
  generalize hW2 : W1.alloc (.cells #[.int .u8 0, .int .i64 0] (53 : Nat)) = W2 at D2 I2 hHeld2 hb1 hsz B2 ⊢
  clear hW2
  generalize hib : W1.heap.size = ib at I2 hnb hb1 hsz HPI ⊢
  refine one_ (i := 12) (N := none) #[true, true, true, true, true, true, true, true, true, true, true, true, true] rfl rfl (by kernel_rfl) (by decide) (fun K hK => ?_)
  refine skip_ (w1 := W2.setRow ib #[.int .u8 i.f0, .int .i64 i.f1]) (by rfl) rfl ?_ ?_
  · refine istore_run (.tmp 5) (.tmp 26) ?_ ?_ ?_ I2.out
    · rfl
    · rfl
    · rfl
  have hoth : ∀ k, k ≠ ib → (W2.setRow ib #[.int .u8 i.f0, .int .i64 i.f1]).heap[k]? = W2.heap[k]? := fun k hk => setRow_other W2 ib k _ hk
  have D3 := Aside0.mk (D2.out.move (W1 := W2.setRow ib #[.int .u8 i.f0, .int .i64 i.f1]) (fun k hk _ => hoth k (fun e => HPI.out (e ▸ hk))))
  have I3 := Aside0.mk (setRow_heap W2 ib _ #[.int .u8 i.f0, .int .i64 i.f1] _ _ I2.out)
  have B3 := Aside0.mk (setRow_below2 (B := W1.heap.size) B2.out (Nat.le_of_eq hib) #[.int .u8 i.f0, .int .i64 i.f1])
  have B4 : Aside0 (Below W.heap.size W (W2.setRow ib #[.int .u8 i.f0, .int .i64 i.f1])) := ⟨BB.out.trans (B3.out.mono BB.out.size)⟩
  have S3 : Aside0 (ib < (W2.setRow ib #[.int .u8 i.f0, .int .i64 i.f1]).heap.size) := ⟨by simpa using hsz⟩
  have P3 : Aside0 (∀ k, P k → k < (W2.setRow ib #[.int .u8 i.f0, .int .i64 i.f1]).heap.size) := ⟨fun k hk => by have := HPd.out k hk; simp; omega⟩
  have c1 := pw_cell_below B3.out hHeld.2.2.1
  have c2 := pw_cell_below B3.out hHeld.2.2.2
  refine hK.out _ _ ⟨D3.out.cell rfl, by rw [← HAE.out]; exact D3.out.cell rfl, c1, c2⟩ (fun hHeld3 => ?_)
  clear hK K hHeld hHeld2 hHeld3 c1 c2 D D2 I2 hb1 hsz B2 B3 hoth HPd BB hnb hib
  generalize W2.setRow ib #[.int .u8 i.f0, .int .i64 i.f1] = W3 at D3 I3 B4 S3 P3 ⊢
  refine done_ (by kernel_rfl) ?_
  go_wp2_with fail
  have D := Aside0.mk (D3.out.move (W1 := W3.drew) (fun k _ _ => rfl))
  have BB : Aside0 (Below W.heap.size W W3.drew) := ⟨below_drew1 B4.out⟩
  have II : Aside0 (W3.drew.heap[ib]? = some (.cells #[.int .u8 i.f0, .int .i64 i.f1] (53 : Nat) (0, 0))) := ⟨I3.out⟩
  have SS : Aside0 (ib < W3.drew.heap.size) := ⟨S3.out⟩
  have PP : Aside0 (∀ k, P k → k < W3.drew.heap.size) := ⟨P3.out⟩
  refine start_ (n := 13) (S := fun w' => w'.cell? ⟨b, 5, none⟩ = some (.int .i64 (at_ : Int)) ∧ w'.cell? ⟨ib, 0, none⟩ = some (.int .u8 i.f0) ∧ w'.cell? ⟨ib, 1, none⟩ = some (.int .i64 i.f1)) (ds := [12]) #[false, false, false, false, false, false, false, false, false, false, false, false, false] (by kernel_rfl) rfl rfl ⟨by rw [← HAE.out]; exact D.out.cell rfl, by simp [World.cell?, II.out], by simp [World.cell?, II.out]⟩ (fun hHeld => ?_)
  generalize W3.drew = W4 at D BB II SS PP hHeld ⊢
  clear D3 I3 B4 S3 P3
  refine pure_ (i := 0) (N := some 27) (v := ?_) (a' := ?_) #[true, false, false, false, false, false, false, false, false, false, false, false, false] rfl rfl (by kernel_rfl) (fun _ _ _ h => h) (Or.inl ⟨by rfl, ?_⟩) ?_ ?_
  rotate_left
  · intro w'
    go_simp
    with_reducible rfl
  rotate_left
  · simp only [Act.put, List.setIfInBounds_toArray, List.set_cons_zero, List.set_cons_succ, i64_w, i32_w]
    rfl
  refine pure_ (i := 1) (N := some 28) (v := ?_) (a' := ?_) #[true, true, false, false, false, false, false, false, false, false, false, false, false] rfl rfl (by kernel_rfl) (fun _ _ _ h => h) (Or.inl ⟨by rfl, ?_⟩) ?_ ?_
  rotate_left
  · intro w'
    go_simp
    with_reducible rfl
  rotate_left
  · simp only [Act.put, List.setIfInBounds_toArray, List.set_cons_zero, List.set_cons_succ, i64_w, i32_w]
    rfl
  refine pure_ (i := 2) (N := some 29) (v := ?_) (a' := ?_) #[true, true, true, false, false, false, false, false, false, false, false, false, false] rfl rfl (by kernel_rfl) (fun _ _ _ h => h) (Or.inl ⟨by rfl, ?_⟩) ?_ ?_
  rotate_left
  · intro w'
    go_simp
    with_reducible rfl
  rotate_left
  · simp only [Act.put, List.setIfInBounds_toArray, List.set_cons_zero, List.set_cons_succ, i64_w, i32_w]
    rfl
  refine pure_ (i := 3) (N := some 30) (v := ?_) (a' := ?_) #[true, true, true, true, false, false, false, false, false, false, false, false, false] rfl rfl (by kernel_rfl) (fun _ _ _ h => h) (Or.inl ⟨by rfl, ?_⟩) ?_ ?_
  rotate_left
  · intro w'
    go_simp
    with_reducible rfl
  rotate_left
  · simp only [Act.put, List.setIfInBounds_toArray, List.set_cons_zero, List.set_cons_succ, i64_w, i32_w]
    rfl
  refine take_ (i := 4) (N := some 31) (v := ?_) (a' := ?_) #[true, true, true, true, true, false, false, false, false, false, false, false, false] rfl rfl (by kernel_rfl) (fun _ _ _ h => h) (Or.inl ⟨by rfl, ?_⟩) hHeld ?_ ?_
  rotate_left
  · rintro w' ⟨s0, s1, s2⟩
    go_simp
    with_reducible rfl
  rotate_left
  · simp only [Act.put, List.setIfInBounds_toArray, List.set_cons_zero, List.set_cons_succ, i64_w, i32_w]
    rfl
  refine pure_ (i := 5) (N := some 32) (v := ?_) (a' := ?_) #[true, true, true, true, true, true, false, false, false, false, false, false, false] rfl rfl (by kernel_rfl) (fun _ _ _ h => h) (Or.inl ⟨by rfl, ?_⟩) ?_ ?_
  rotate_left
  · intro w'
    go_simp
    with_reducible rfl
  rotate_left
  · simp only [Act.put, List.setIfInBounds_toArray, List.set_cons_zero, List.set_cons_succ, i64_w, i32_w]
    rfl
  refine take_ (i := 6) (N := some 33) (v := ?_) (a' := ?_) #[true, true, true, true, true, true, true, false, false, false, false, false, false] rfl rfl (by kernel_rfl) (fun _ _ _ h => h) (Or.inl ⟨by rfl, ?_⟩) hHeld ?_ ?_
  rotate_left
  · rintro w' ⟨s0, s1, s2⟩
    go_simp
    with_reducible rfl
  rotate_left
  · simp only [Act.put, List.setIfInBounds_toArray, List.set_cons_zero, List.set_cons_succ, i64_w, i32_w]
    rfl
  refine one_ (i := 7) (N := some 34) #[true, true, true, true, true, true, true, true, false, false, false, false, false] rfl rfl (by kernel_rfl) (by decide) (fun K hK => ?_)
  refine goes_ Try.func33 (by kernel_rfl) rfl #[.pointer (some ⟨b, 0, none⟩), .agg #[.int .u8 i.f0, .int .i64 i.f1]] (by rfl) rfl rfl (by simp only [List.map_toArray, List.map_cons, List.map_nil]; rfl) ?_
  refine (one_calls ⟨M, _, sv, tv, iv, ov, D.out⟩ PP.out i HPP.out).mono ?_
  rintro e W5 ⟨rfl, hv, hk⟩
  refine ⟨_, rfl, ?_⟩
  obtain ⟨M5, cv5, sv5, tv5, iv5, ov5, hv5⟩ := hv
  have hI5 : W5.heap[ib]? = some (.cells #[.int .u8 i.f0, .int .i64 i.f1] (53 : Nat) (0, 0)) := (hk.block ib SS.out HPI.out).trans II.out
  have D5 := Aside0.mk hv5
  have I5 := Aside0.mk hI5
  have K5 := Aside0.mk (Kept2.step BB.out hk)
  have B5 := Aside0.mk BB.out.size
  have N5 : Aside0 (ib ≠ b) := ⟨fun e => HPI.out (e ▸ D.out.zb)⟩
  have Z5 : Aside0 (P b) := ⟨D.out.zb⟩
  obtain ⟨y, hy⟩ : ∃ y, one i x = y := ⟨_, rfl⟩
  have ha5 : (one i x).1.at_ = at_ := (one_at i x).1.trans HAE.out
  have hs5 := (one_at i x).2
  rw [hy] at D5 ha5 hs5 HD ⊢
  obtain ⟨x1, ds⟩ := y
  simp only at D5 ha5 hs5 HD ⊢
  have HA5 := Aside0.mk ha5
  have HS5 := Aside0.mk hs5
  have HY := Aside0.mk hy
  clear hy ha5 hs5 hv5 hI5 hk
  refine hK.out _ _ ⟨by rw [← HA5.out]; exact D5.out.cell rfl, by simp [World.cell?, I5.out], by simp [World.cell?, I5.out]⟩ (fun hHeld2 => ?_)
  clear hK K hHeld D BB II SS PP
  have hds0 : 0 ≤ ds := HD.out.1
  have hds1 : ds ≤ 4096 := HD.out.2
  have hw : IntKind.i64.wrap ((at_ : Int) + ds) = (at_ : Int) + ds := by rw [IntKind.wrap_i64]; omega
  refine norm_ (a' := ?_) ?_ ?_
  rotate_left
  · show Act.put _ (some 34) _ = _
    simp only [Act.put, List.setIfInBounds_toArray, List.set_cons_zero, List.set_cons_succ, i64_w, i32_w]
    rfl
  refine pure_ (i := 8) (N := some 35) (v := ?_) (a' := ?_) #[true, true, true, true, true, true, true, true, true, false, false, false, false] rfl rfl (by kernel_rfl) (fun _ _ _ h => h) (Or.inl ⟨by rfl, ?_⟩) ?_ ?_
  rotate_left
  · intro w'
    go_simp
    with_reducible rfl
  rotate_left
  · simp only [Act.put, List.setIfInBounds_toArray, List.set_cons_zero, List.set_cons_succ, i64_w, i32_w]
    rfl
  refine pure_ (i := 9) (N := some 36) (v := ?_) (a' := ?_) #[true, true, true, true, true, true, true, true, true, true, false, false, false] rfl rfl (by kernel_rfl) (fun _ _ _ h => h) (Or.inl ⟨by rfl, ?_⟩) ?_ ?_
  rotate_left
  · intro w'
    go_simp
    with_reducible rfl
  rotate_left
  · simp only [Act.put, List.setIfInBounds_toArray, List.set_cons_zero, List.set_cons_succ, i64_w, i32_w]
    rfl
  refine pure_ (i := 10) (N := some 37) (v := ?_) (a' := ?_) #[true, true, true, true, true, true, true, true, true, true, true, false, false] rfl rfl (by kernel_rfl) (fun _ _ _ h => h) (Or.inl ⟨by rfl, ?_⟩) ?_ ?_
  rotate_left
  · intro w'
    go_simp
    with_reducible rfl
  rotate_left
  · simp only [Act.put, List.setIfInBounds_toArray, List.set_cons_zero, List.set_cons_succ, i64_w, i32_w]
    rfl
  refine pure_ (i := 11) (N := some 38) (v := ?_) (a' := ?_) #[true, true, true, true, true, true, true, true, true, true, true, true, false] rfl rfl (by kernel_rfl) (fun _ _ _ h => h) (Or.inl ⟨by rfl, ?_⟩) ?_ ?_
  rotate_left
  · intro w'
    go_simp
    with_reducible rfl
  rotate_left
  · simp only [Act.put, List.setIfInBounds_toArray, List.set_cons_zero, List.set_cons_succ, i64_w, i32_w]
    rfl
  have hat' : (((at_ : Int) + ds).toNat : Int) = (at_ : Int) + ds := by omega
  have F := D5.out.put (x' := { x1 with at_ := ((x.at_ : Int) + ds).toNat }) (sv' := sv5) (j := 5) (u := .int .i64 ((at_ : Int) + ds)) D5.out.st rfl rfl rfl rfl (by rw [HAE.out]; simp [vmA, hat'])
  have F := Aside0.mk F
  have c5 : W5.cell? ⟨b, 5, none⟩ = some (.int .i64 (at_ : Int)) := by rw [← HA5.out]; exact D5.out.cell rfl
  have f5 := D5.out.froz 5
  refine last_ (i := 12) (N := none) #[true, true, true, true, true, true, true, true, true, true, true, true, true] rfl rfl (by kernel_rfl) (by decide) (fun K hK => ?_)
  refine skip_ (w1 := W5.setCell ⟨b, 5, none⟩ (.int .i64 ((at_ : Int) + ds))) (by rfl) rfl ?_ ?_
  · clear F
    go_simp
  have F2 := Aside0.mk (Kept2.trans K5.out (kept2_set (W := W5) (P := Zn P W W5) (b := b) (.inl Z5.out) 5 (.int .i64 ((at_ : Int) + ds))))
  have hI6 := Below.heap_setCell W5 ⟨b, 5, none⟩ (.int .i64 ((at_ : Int) + ds)) ib N5.out
  have I6 : Aside0 ((W5.setCell ⟨b, 5, none⟩ (.int .i64 ((at_ : Int) + ds))).heap[ib]? = some (.cells #[.int .u8 i.f0, .int .i64 i.f1] (53 : Nat) (0, 0))) := ⟨hI6.trans I5.out⟩
  have S6 : Aside0 (W.heap.size ≤ (W5.setCell ⟨b, 5, none⟩ (.int .i64 ((at_ : Int) + ds))).heap.size) := ⟨F2.out.size⟩
  have S56 : Aside0 (W5.heap.size ≤ (W5.setCell ⟨b, 5, none⟩ (.int .i64 ((at_ : Int) + ds))).heap.size) := ⟨by simp [World.setCell]⟩
  refine hK.out _ _ ?_
  clear hK K hHeld2 c5 f5 hI6 D5 I5 K5 hw hat'
  generalize W5.setCell ⟨b, 5, none⟩ (.int .i64 ((at_ : Int) + ds)) = W6 at F F2 I6 S6 S56 ⊢
  refine done_ (by kernel_rfl) ?_
  have c6 : W6.cell? ⟨ib, 0, none⟩ = some (.int .u8 i.f0) := by simp [World.cell?, I6.out]
  obtain ⟨KC, hKC⟩ := ev_cycles i.f0
  have HKC := Aside0.mk (hKC KC (Nat.le_refl _))
  clear hKC
  go_wp2_with fail
  refine (code_Cycles.calls KC i.f0 (cyc i.f0) _ HKC.out).mono ?_
  rintro e W7 ⟨rfl, hd⟩
  have F7 := Aside0.mk (F.out.move (W1 := W7) (fun k _ hk => hd.below.block k hk))
  have K7 : Aside0 (Kept2 W W7 P) := ⟨F2.out.trans (Kept2.of_below hd.below)⟩
  have S7 : Aside0 (W6.heap.size ≤ W7.heap.size) := ⟨hd.below.size⟩
  obtain ⟨hcy0, hcy1⟩ := cyc_range i.f0
  obtain ⟨sp, hsp⟩ : ∃ sp, x1.spent = sp := ⟨_, rfl⟩
  have hsr : 0 ≤ sp ∧ sp ≤ 2199023255552 := by rw [← hsp, HS5.out]; exact HS.out
  obtain ⟨hsr0, hsr1⟩ := hsr
  have c10 : W7.cell? ⟨b, 10, none⟩ = some (.int .i64 sp) := by rw [← hsp]; exact F7.out.cell rfl
  have c11 : W7.cell? ⟨b, 11, none⟩ = some (.bool x1.ended) := F7.out.cell rfl
  have f10 := F7.out.froz 10
  have HSP := Aside0.mk hsp
  obtain ⟨cy, hcy⟩ : ∃ cy, cyc i.f0 = cy := ⟨_, rfl⟩
  rw [hcy] at hcy0 hcy1 ⊢
  have HCY := Aside0.mk hcy
  have G := Aside0.mk (F7.out.put (x' := { x1 with at_ := ((x.at_ : Int) + ds).toNat, spent := x1.spent + cy }) (sv' := sv5) (j := 10) (u := .int .i64 (sp + cy)) F7.out.st rfl rfl rfl rfl (by rw [HSP.out]; simp [vmA]))
  have K8 := Aside0.mk (Kept2.trans K7.out (kept2_set (W := W7) (P := Zn P W W7) (b := b) (.inl Z5.out) 10 (.int .i64 (sp + cy))))
  clear hd hsp hcy F F2 I6 c6 hds0 hds1
  have S78 : Aside0 (W7.heap.size ≤ (W7.setCell ⟨b, 10, none⟩ (.int .i64 (sp + cy))).heap.size) := ⟨by simp [World.setCell]⟩
  go_wp2_with fail
  generalize W7.setCell ⟨b, 10, none⟩ (.int .i64 (sp + cy)) = W8 at G K8 S78 ⊢
  have d11 : W8.cell? ⟨b, 11, none⟩ = some (.bool x1.ended) := G.out.cell rfl
  clear c10 c11 f10
  obtain ⟨en, hen⟩ : ∃ en, x1.ended = en := ⟨_, rfl⟩
  rw [hen] at d11
  have HEN := Aside0.mk hen
  clear hen
  go_quiet (fail)
  go_wp2
  go_ret3
  rw [HY.out, HCY.out, ← HEN.out]
  have hz : ∀ n k, Zn P W4 W5 k → Zn P W (W8.drewN n) k := fun n k hk => hk.imp id (fun ⟨h1, h2⟩ => ⟨Nat.le_trans B5.out h1, by have := S56.out; have := S7.out; have := S78.out; show k < W8.heap.size; omega⟩)
  refine ⟨rfl, ⟨M5, cv5, sv5, tv5, iv5, ov5, VA.mono (P := Zn P W4 W5) ?_ (hz _)⟩, K8.out.trans ⟨rfl, rfl, rfl, Nat.le_refl _, fun _ _ _ => rfl⟩⟩
  exact G.out.move (fun k _ _ => rfl)
end Go.Proofs.Ytlmpoojpbdmmfaa.H
end
section
set_option linter.unusedVariables false
set_option linter.unusedSimpArgs false
namespace Go.Proofs.Ytlmpoojpbdmmfaa.H
open Go.RowKit Go.Proofs.YtlmpoojpbdmmfaaW.PrintWords Go.Proofs.YtlmpoojpbdmmfaaW.PrintLast Go.Proofs.YtlmpoojpbdmmfaaW.PrintMore Go.Maps
def ptrR : Value → Option (DataW Unit × List MemPlace)
  | .pointer none => some (.nil, [])
  | .pointer (some ⟨b, 0, none⟩) => some (.lit (.int .i64 (b : Int)), [])
  | _ => none
theorem ptrR_mk (b : Nat) : ptrR (.pointer (some ⟨b, 0, none⟩)) = some (.lit (.int .i64 (b : Int)), []) := rfl
theorem ptrR_nil {v : Value} {ps : List MemPlace} (h : ptrR v = some (.nil, ps)) : v = .pointer none := by
  unfold ptrR at h
  split at h
  · rfl
  · simp at h
  · simp at h
theorem ptrR_inv {v : Value} {b : Nat} {ps : List MemPlace} (h : ptrR v = some (.lit (.int .i64 (b : Int)), ps)) : v = .pointer (some ⟨b, 0, none⟩) := by
  unfold ptrR at h
  split at h
  · simp at h
  · simp at h
    obtain ⟨h, _⟩ := h
    have : b = b := rfl
    rename_i b' _
    have e : b' = b := by omega
    rw [e]
  · simp at h
theorem key3 : Keyed Try.prog 3 := int_keyed (q := .i64) Try.underlying3
theorem under99 : Try.prog.underlying 99 = some (.map 3 94) := by kernel_rfl
theorem zero94 (w : World) : (zeroValue 94).run Try.prog w = .ok (.pointer none) w := by kernel_rfl
def keyI (k : Nat) : Lit := .int .i64 (k : Int)
theorem keyI_ne {j k : Nat} (h : j ≠ k) : keyI j ≠ keyI k := by
  intro e
  simp only [keyI, Lit.int.injEq, true_and] at e
  omega
theorem key_of (k : Nat) (hk : k ≤ 100000) : keyOf Try.prog 3 (.int .i64 (k : Int)) = some (keyI k) :=
  keyOf_int_mk (q := .i64) Try.underlying3 (by simp [Lit.wf, IntKind.min, IntKind.max, IntKind.bits, IntKind.signed]; omega)
structure VM (w : World) (M n : Nat) (m : Nat → Option Vst) (bl : Nat → Nat) (W : World) : Prop where
  own : ∃ D : DataW Unit, W.ownsMap Try.prog 3 ptrR M n D ∧ ∀ k, k ≤ 100000 → D.atKey (keyI k) .nil = match m k with | none => .nil | some _ => .lit (.int .i64 (bl k : Int))
  st : ∀ k s, m k = some s → W.heap[bl k]? = some (.cells (stArr s) 98 (0, 0)) ∧ w.heap.size ≤ bl k
  inj : ∀ j k, m j ≠ none → m k ≠ none → bl j = bl k → j = k
  low : w.heap.size ≤ M
structure Keeps (M : Nat) (m : Nat → Option Vst) (bl : Nat → Nat) (W W' : World) : Prop where
  os : W'.os = W.os
  tape : W'.tape = W.tape
  output : W'.output = W.output
  size : W.heap.size ≤ W'.heap.size
  block : ∀ k, k < W.heap.size → k ≠ M → (∀ j, m j ≠ none → k ≠ bl j) → W'.heap[k]? = W.heap[k]?
def Grows (B : Nat) (m : Nat → Option Vst) (bl : Nat → Nat) (m' : Nat → Option Vst) (bl' : Nat → Nat) : Prop := ∀ j, m' j ≠ none → (m j ≠ none ∧ bl' j = bl j) ∨ B ≤ bl' j
theorem Keeps.trans {M : Nat} {m m1 : Nat → Option Vst} {bl bl1 : Nat → Nat} {W W1 W2 : World} (h : Keeps M m bl W W1) (k : Keeps M m1 bl1 W1 W2) (g : Grows W.heap.size m bl m1 bl1) : Keeps M m bl W W2 :=
  ⟨k.os.trans h.os, k.tape.trans h.tape, k.output.trans h.output, Nat.le_trans h.size k.size, fun i hi h1 h2 => by
    rw [k.block i (Nat.lt_of_lt_of_le hi h.size) h1 (fun j hj e => ?_)]
    · exact h.block i hi h1 h2
    · rcases g j hj with ⟨g1, g2⟩ | g1
      · exact h2 j g1 (e.trans g2)
      · omega⟩
theorem Grows.refl (B : Nat) (m : Nat → Option Vst) (bl : Nat → Nat) : Grows B m bl m bl := fun _ hj => .inl ⟨hj, rfl⟩
theorem Grows.trans {B B1 : Nat} (hB : B ≤ B1) {m m1 m2 : Nat → Option Vst} {bl bl1 bl2 : Nat → Nat} (h : Grows B m bl m1 bl1) (k : Grows B1 m1 bl1 m2 bl2) : Grows B m bl m2 bl2 := fun j hj => by
  rcases k j hj with ⟨k1, k2⟩ | k1
  · rcases h j k1 with ⟨h1, h2⟩ | h1
    · exact .inl ⟨h1, k2.trans h2⟩
    · exact .inr (by omega)
  · exact .inr (by omega)
section
variable {w W W' : World} {M n : Nat} {m : Nat → Option Vst} {bl : Nat → Nat}
theorem VM.block {k : Nat} {a : Array Value} {t : TypeId} {f : Nat × Nat} (h : VM w M n m bl W) (hk : W.heap[k]? = some (.cells a t f)) (ht : t ≠ 98) : k ≠ M ∧ ∀ j, m j ≠ none → k ≠ bl j := by
  refine ⟨?_, fun j hj e => ?_⟩
  · rintro rfl
    obtain ⟨D, ⟨es, c, hb, _⟩, _⟩ := h.own
    rw [hb] at hk
    cases hk
  · subst e
    obtain ⟨s, hs⟩ := Option.ne_none_iff_exists'.1 hj
    rw [(h.st j s hs).1] at hk
    injection hk with hk
    injection hk with _ hk
    exact ht hk.symm
theorem Keeps.cells (hk : Keeps M m bl W W') (h : VM w M n m bl W) {k : Nat} {a : Array Value} {t : TypeId} {f : Nat × Nat} (hc : W.heap[k]? = some (.cells a t f)) (ht : t ≠ 98) : W'.heap[k]? = some (.cells a t f) := by
  obtain ⟨h1, h2⟩ := h.block hc ht
  rw [hk.block k (Array.getElem?_eq_some_iff.1 hc).1 h1 h2]
  exact hc
theorem Keeps.below (hk : Keeps M m bl W W') (h : VM w M n m bl W) (hb : Below w.heap.size w W) : Below w.heap.size w W' := by
  refine ⟨hk.os.trans hb.os, hk.tape.trans hb.tape, hk.output.trans hb.output, Nat.le_trans hb.size hk.size, fun k hlt => ?_⟩
  rw [hk.block k (Nat.lt_of_lt_of_le hlt hb.size) (by have := h.low; omega) (fun j hj e => ?_)]
  · exact hb.block k hlt
  · obtain ⟨s, hs⟩ := Option.ne_none_iff_exists'.1 hj
    have := (h.st j s hs).2
    omega
theorem Keeps.refl (M : Nat) (m : Nat → Option Vst) (bl : Nat → Nat) (W : World) : Keeps M m bl W W := ⟨rfl, rfl, rfl, Nat.le_refl _, fun _ _ _ _ => rfl⟩
theorem VM.kept (h : VM w M n m bl W) (hM : W'.heap[M]? = W.heap[M]?) (hs : ∀ j s, m j = some s → W'.heap[bl j]? = W.heap[bl j]?) : VM w M n m bl W' := by
  obtain ⟨D, ⟨es, c, hb, hF⟩, hD⟩ := h.own
  exact ⟨⟨D, ⟨es, c, hM.trans hb, hF⟩, hD⟩, fun k s hk => ⟨(hs k s hk).trans (h.st k s hk).1, (h.st k s hk).2⟩, h.inj, h.low⟩
theorem VM.more (h : VM w M n m bl W) {n' : Nat} (hn : n ≤ n') : VM w M n' m bl W := by
  obtain ⟨D, hD, hE⟩ := h.own
  exact ⟨⟨D, hD.mono hn, hE⟩, h.st, h.inj, h.low⟩
theorem VM.ltM (h : VM w M n m bl W) : M < W.heap.size := by
  obtain ⟨D, ⟨es, c, hb, _⟩, _⟩ := h.own
  exact (Array.getElem?_eq_some_iff.1 hb).1
theorem VM.lt (h : VM w M n m bl W) {j : Nat} {s : Vst} (hs : m j = some s) : bl j < W.heap.size := (Array.getElem?_eq_some_iff.1 (h.st j s hs).1).1
theorem VM.neM (h : VM w M n m bl W) {j : Nat} {s : Vst} (hs : m j = some s) : bl j ≠ M := by
  intro e
  obtain ⟨D, ⟨es, c, hb, _⟩, _⟩ := h.own
  rw [← e, (h.st j s hs).1] at hb
  cases hb
theorem VM.alloc (h : VM w M n m bl W) (o : Obj) : VM w M n m bl (W.alloc o) := h.kept (heap_alloc_old _ _ h.ltM) (fun j s hs => heap_alloc_old _ _ (h.lt hs))
theorem VM.below (h : VM w M n m bl W) (hb : Below W.heap.size W W') : VM w M n m bl W' := h.kept (hb.block _ h.ltM) (fun j s hs => hb.block _ (h.lt hs))
theorem VM.turn (h : VM w M n m bl W) {j : Nat} {s s' : Vst} (hs : m j = some s) (hg : W.grownBy W' (some (bl j))) (hb : W'.heap[bl j]? = some (.cells (stArr s') 98 (0, 0))) : VM w M n (fun k => if k = j then some s' else m k) bl W' := by
  have hne := h.neM hs
  obtain ⟨D, ⟨es, c, hM, hF⟩, hD⟩ := h.own
  refine ⟨⟨D, ⟨es, c, (hg.block M h.ltM (by simp; exact fun e => hne e.symm)).trans hM, hF⟩, fun k hk => ?_⟩, fun k x hx => ?_, fun i k hi hk e => ?_, h.low⟩
  · rw [hD k hk]
    by_cases e : k = j
    · subst e; simp [hs]
    · simp [e]
  · by_cases e : k = j
    · subst e
      simp at hx
      subst hx
      exact ⟨hb, (h.st k s hs).2⟩
    · simp [e] at hx
      refine ⟨(hg.block _ (h.lt hx) ?_).trans (h.st k x hx).1, (h.st k x hx).2⟩
      simp
      exact fun e2 => e (h.inj k j (by rw [hx]; simp) (by rw [hs]; simp) e2)
  · refine h.inj i k ?_ ?_ e
    · by_cases e : i = j
      · subst e; rw [hs]; simp
      · simpa [e] using hi
    · by_cases e : k = j
      · subst e; rw [hs]; simp
      · simpa [e] using hk
theorem keeps_turn (h : VM w M n m bl W) {j : Nat} {s : Vst} (hs : m j = some s) (hg : W.grownBy W' (some (bl j))) : Keeps M m bl W W' :=
  ⟨hg.os, hg.tape, hg.output, hg.size, fun k hk _ hb => hg.block k hk (by simp; exact hb j (by rw [hs]; simp))⟩
theorem VM.look (h : VM w M n m bl W) (k : Nat) (hk : k ≤ 100000) : (Instr.lookup 99 (.map (some M)) (.int .i64 (k : Int)) false).run Try.prog W = .ok (match m k with | none => .pointer none | some _ => .pointer (some ⟨bl k, 0, none⟩)) W := by
  obtain ⟨D, hown, hD⟩ := h.own
  obtain ⟨v, ps, hrun, hv⟩ := hown.lookup key3 under99 (zero94 W) (zd := .nil) (zp := []) rfl (key_of k hk)
  rw [hD k hk] at hv
  rw [hrun]
  cases hm : m k with
  | none => rw [hm] at hv; rw [ptrR_nil hv]
  | some s => rw [hm] at hv; rw [ptrR_inv hv]
theorem VM.put (h : VM w M n m bl W) (hn : n < 1000000) {k b : Nat} {s : Vst} (hk : k ≤ 100000) (hm : m k = none) (hb : W.heap[b]? = some (.cells (stArr s) 98 (0, 0))) (hlo : w.heap.size ≤ b) (hne : ∀ j, m j ≠ none → bl j ≠ b) :
    ∃ W', (Instr.mapUpdate 99 (.map (some M)) (.int .i64 (k : Int)) (.pointer (some ⟨b, 0, none⟩))).run Try.prog W = .ok () W' ∧ VM w M (n + 1) (fun i => if i = k then some s else m i) (fun i => if i = k then b else bl i) W' ∧ W.grownBy W' (some M) := by
  have hM := h.ltM
  obtain ⟨D, hown, hD⟩ := h.own
  obtain ⟨W', hrun, hown', hg⟩ := hown.update key3 under99 (by unfold maxLen; omega) (key_of k hk) (ptrR_mk b)
  have hbM : b ≠ M := by
    rintro rfl
    obtain ⟨es, c, hx, _⟩ := hown
    rw [hb] at hx
    cases hx
  refine ⟨W', hrun, ⟨⟨_, hown', fun i hi => ?_⟩, fun i x hx => ?_, fun i j hi hj e => ?_, h.low⟩, hg⟩
  · by_cases e : i = k
    · subst e
      rw [atKey_put_same hown.isMap (key3.key (key_of i hi))]
      simp
    · rw [atKey_put_other (keyI_ne e), hD i hi]
      simp [e]
  · by_cases e : i = k
    · subst e
      simp at hx
      subst hx
      simp only [if_true]
      exact ⟨(hg.block b (Array.getElem?_eq_some_iff.1 hb).1 (by simp; exact hbM)).trans hb, hlo⟩
    · simp [e] at hx
      simp only [e, if_false]
      exact ⟨(hg.block _ (h.lt hx) (by simp; exact h.neM hx)).trans (h.st i x hx).1, (h.st i x hx).2⟩
  · by_cases e1 : i = k
    · by_cases e2 : j = k
      · rw [e1, e2]
      · simp only [e1, e2, if_true, if_false] at e
        simp [e2] at hj
        exact absurd e.symm (hne j hj)
    · by_cases e2 : j = k
      · simp only [e1, e2, if_true, if_false] at e
        simp [e1] at hi
        exact absurd e (hne i hi)
      · simp only [e1, e2, if_false] at e
        simp [e1] at hi
        simp [e2] at hj
        exact h.inj i j hi hj e
theorem VM.del (h : VM w M n m bl W) (k : Nat) (hk : k ≤ 100000) (ty : TypeId) :
    ∃ W', (Builtin.delete_ #[99, 3] ty #[.map (some M), .int .i64 (k : Int)]).run Try.prog W = .ok (.tuple #[]) W' ∧ VM w M n (fun i => if i = k then none else m i) bl W' ∧ W.grownBy W' (some M) := by
  obtain ⟨D, hown, hD⟩ := h.own
  obtain ⟨W', hrun, hown', ht⟩ := hown.drop key3 under99 (key_of k hk) ty
  have hg := ht.grown
  refine ⟨W', hrun, ⟨⟨_, hown', fun i hi => ?_⟩, fun i x hx => ?_, fun i j hi hj e => ?_, h.low⟩, hg⟩
  · by_cases e : i = k
    · subst e
      rw [atKey_del_same]
      simp
    · rw [atKey_del_other (keyI_ne e), hD i hi]
      simp [e]
  · by_cases e : i = k
    · subst e; simp at hx
    · simp [e] at hx
      exact ⟨(hg.block _ (h.lt hx) (by simp; exact h.neM hx)).trans (h.st i x hx).1, (h.st i x hx).2⟩
  · refine h.inj i j ?_ ?_ e
    · by_cases e : i = k
      · subst e; simp at hi
      · simpa [e] using hi
    · by_cases e : j = k
      · subst e; simp at hj
      · simpa [e] using hj
theorem VM.made (hb : Below w.heap.size w W) : VM w W.heap.size 0 (fun _ => none) bl (W.alloc (.map #[] 0)) :=
  ⟨⟨_, World.ownsMap_made W Try.prog 3 ptrR, fun k hk => (by rfl)⟩, fun k s hs => (by cases hs), fun j k hj => absurd rfl hj, hb.size⟩
end
end Go.Proofs.Ytlmpoojpbdmmfaa.H
end
section
set_option linter.unusedVariables false
set_option linter.unusedSimpArgs false
namespace Go.Proofs.Ytlmpoojpbdmmfaa.H
open Go.RowKit Go.Proofs.YtlmpoojpbdmmfaaW.PrintWords Go.Proofs.YtlmpoojpbdmmfaaW.PrintLast Go.Proofs.YtlmpoojpbdmmfaaW.PrintMore
set_option maxHeartbeats 4000000 in
set_option maxRecDepth 100000 in
theorem meet_calls (b : Nat) (s t : Vst) (w : World) (hb : w.heap[b]? = some (.cells (stArr s) 98 (0, 0))) (hs : s.has.length = 8) (ht : t.has.length = 8) :
    Calls Try.prog 49 #[.pointer (some ⟨b, 0, none⟩), stVal t] w fun e w' => e = .returned (.int .i64 (meetS s t).2) ∧ w.grownBy w' (some b) ∧ w'.heap[b]? = some (.cells (stArr (meetS s t).1) 98 (0, 0)) := by
  have hlt : b < w.heap.size := (Array.getElem?_eq_some_iff.1 hb).1
  have HS := Aside0.mk hs
  have HT := Aside0.mk ht
  have e1 : (w.alloc (.cells (stArr t) (98 : Nat))).heap[w.heap.size]? = some (.cells (stArr t) 98 (0, 0)) := heap_alloc_new _ _
  have e2 : (w.alloc (.cells (stArr t) (98 : Nat))).heap[b]? = some (.cells (stArr s) 98 (0, 0)) := by rw [heap_alloc_old _ _ hlt]; exact hb
  have e3 : w.grownBy (w.alloc (.cells (stArr t) (98 : Nat))) (some b) := World.grownBy_alloc w _ _
  obtain ⟨tv, htv⟩ : ∃ tv, tv = stArr t := ⟨_, rfl⟩
  rw [show stVal t = .agg tv by rw [htv]; rfl]
  rw [← htv] at e1 e2 e3
  have HTV := Aside0.mk htv
  clear htv
  go_enter Try.func49, Try.ntmps49
  go_wp2
  generalize w.alloc (.cells tv (98 : Nat)) = W at e1 e2 e3 ⊢
  generalize w.heap.size = tb at hlt e1 ⊢
  have E3 := Aside0.mk e3
  obtain rfl := HTV.out
  clear HTV
  have c0 := st_h e2
  have c9 := st_wr e2 hs
  have t0 := st_h e1
  have t9 := st_wr e1 ht
  have E1 := Aside0.mk e1
  have E2 := Aside0.mk e2
  have HL := Aside0.mk hlt
  clear hb e1 e2 e3 hlt hs ht
  generalize hsv : stArr t = tv
  by_cases h1 : s.h = t.h
  · by_cases h2 : s.wr = t.wr
    · go_quiet (fail)
      go_wp2
      go_quiet (fail)
      go_wp2
      clear c0 c9 t0 t9
      go_loopg [22] 8 (fun kq v22 wr => ∃ i : Nat, v22 = .int .i64 i ∧ Aside0 (i + kq = 8) ∧ Aside0 (wr.heap[tb]? = some (.cells (stArr t) 98 (0, 0))) ∧ Aside0 (wr.heap[b]? = some (.cells (stArr { s with has := mixL s.has t.has i }) 98 (0, 0))) ∧ Aside0 (w.grownBy wr (some b)))
      case atStart => exact ⟨0, rfl, ⟨by omega⟩, ⟨E1.out⟩, ⟨by rw [mixL_zero]; exact E2.out⟩, ⟨grown_drewN (grown_drewN E3.out _) _⟩⟩
      case round =>
        obtain ⟨i, rfl, HK, R1, R2, R3⟩ := hrel
        by_cases hi : i < 8
        · obtain ⟨go, rfl⟩ : ∃ go, gk = go + 1 := ⟨gk - 1, by have := HK.out; omega⟩
          have hls : (mixL s.has t.has i).length = 8 := by rw [mixL_length (by rw [HS.out, HT.out]) (by rw [HS.out]; omega)]; exact HS.out
          have k1 := st_has (s := { s with has := mixL s.has t.has i }) R2.out (k := i) (by rw [hls]; exact hi)
          have k2 := st_has R1.out (k := i) (by rw [HT.out]; exact hi)
          have k3 := st_frozen (1 + i) R2.out
          simp only [mixL_getD (show s.has.length = t.has.length by rw [HS.out, HT.out]) (show i < s.has.length by rw [HS.out]; exact hi)] at k1
          have hi1 : (i : Int) < 8 := by omega
          clear hls
          go_wp2
          go_still_tail 14, (by kernel_rfl)
          change wpList _ _ _ _ _ wr.drew
          go_wp2
          clear k1 k2 k3
          go_roundg go
          case measure => omega
          case rel =>
            refine ⟨i + 1, by simp, ⟨by have := HK.out; omega⟩, ⟨set_far R1.out (by have := HL.out; omega) _⟩, ⟨?_⟩, ⟨grown_drew (grown_set R3.out _ _)⟩⟩
            have hl : s.has.length = t.has.length := by rw [HS.out, HT.out]
            refine st_put (s' := { s with has := mixL s.has t.has (i + 1) }) R2.out ?_
            rw [stArr_has _ _ _ (by rw [mixL_length hl (by rw [HS.out]; omega), HS.out]; exact hi)]
            simp only
            rw [← mixL_succ hl (by rw [HS.out]; exact hi)]
            simp [List.getD_eq_getElem?_getD]
        · have hi2 : i = 8 := by have := HK.out; omega
          subst hi2
          go_wp2
          go_ret
          refine ⟨?_, R3.out, ?_⟩
          · simp [meetS, h1, h2]
          · have := R2.out
            rw [show (8 : Nat) = s.has.length from HS.out.symm, mixL_all (by rw [HS.out, HT.out])] at this
            simpa [meetS, h1, h2] using this
    · go_quiet (fail)
      go_wp2
      go_quiet (fail)
      go_wp2
      go_ret
      exact ⟨by simp [meetS, h1, h2], grown_drewN (grown_drewN E3.out _) _, by simpa [meetS, h1, h2] using E2.out⟩
  · go_quiet (fail)
    go_wp2
    go_ret
    exact ⟨by simp [meetS, h1], grown_drewN E3.out _, by simpa [meetS, h1] using E2.out⟩
end Go.Proofs.Ytlmpoojpbdmmfaa.H
set_option linter.unusedVariables false
set_option linter.unusedSimpArgs false
namespace Go.Proofs.Ytlmpoojpbdmmfaa.H
open Go.RowKit Go.Proofs.YtlmpoojpbdmmfaaW.PrintWords Go.Proofs.YtlmpoojpbdmmfaaW.PrintLast Go.Proofs.YtlmpoojpbdmmfaaW.PrintMore
def goesP (n : Nat) (m : Nat → Option Vst) (s : Vst) (tg : Nat) (be : Int) : (Nat → Option Vst) × Int :=
  if n ≤ tg then (m, be) else match m tg with
    | some t => ((fun k => if k = tg then some (meetS t s).1 else m k), (meetS t s).2)
    | none => ((fun k => if k = tg then some s else m k), 0)
set_option maxHeartbeats 4000000 in
set_option maxRecDepth 100000 in
theorem goes_calls (w W : World) (lb ab sb at_ : Nat) (A : Option Addr) (n c : Nat) (M q : Nat) (m : Nat → Option Vst) (bl : Nat → Nat) (s : Vst) (tg : Nat) (be : Int)
    (h : VM w M q m bl W) (hl : W.heap[lb]? = some (.cells #[.slice A n c] 22 (0, 0))) (ha : W.heap[ab]? = some (.cells #[.map (some M)] 99 (0, 0))) (hsb : W.heap[sb]? = some (.cells #[.pointer (some ⟨bl at_, 0, none⟩)] 94 (0, 0)))
    (hs : m at_ = some s) (hne : at_ ≠ tg) (hto : tg ≤ 100000) (hq : q < 1000000) (hok : ∀ k x, m k = some x → x.has.length = 8) (hw : w.heap.size ≤ W.heap.size) :
    Calls Try.prog 48 #[.int .i64 (tg : Int), .int .i64 be, .pointer (some ⟨lb, 0, none⟩), .pointer (some ⟨ab, 0, none⟩), .pointer (some ⟨sb, 0, none⟩)] W fun e W' =>
      e = .returned (.int .i64 (goesP n m s tg be).2) ∧ ∃ bl', VM w M (q + 1) (goesP n m s tg be).1 bl' W' ∧ Keeps M m bl W W' ∧ bl' at_ = bl at_ ∧ Grows W.heap.size m bl (goesP n m s tg be).1 bl' := by
  have c1 : W.cell? ⟨lb, 0, none⟩ = some (.slice A n c) := by simp [World.cell?, hl]
  have H := Aside0.mk h
  have HOK := Aside0.mk hok
  have HS := Aside0.mk hs
  clear hok
  by_cases h1 : n ≤ tg
  · have d1 : decide ((n : Int) ≤ (tg : Int)) = true := decide_eq_true (by omega)
    clear h hl ha hsb hs
    go_enter Try.func48, Try.ntmps48
    go_wp2
    go_ret
    refine ⟨by simp [goesP, h1], bl, ?_, Keeps.refl _ _ _ _, rfl, fun j hj => .inl ⟨by simpa [goesP, h1] using hj, rfl⟩⟩
    simp only [goesP, h1, if_true]
    obtain ⟨D, hD, hE⟩ := H.out.own
    exact ⟨⟨D, hD.mono (by omega), hE⟩, H.out.st, H.out.inj, H.out.low⟩
  have d1 : decide ((n : Int) ≤ (tg : Int)) = false := decide_eq_false (by omega)
  have c2 : W.cell? ⟨ab, 0, none⟩ = some (.map (some M)) := by simp [World.cell?, ha]
  have c3 : W.cell? ⟨sb, 0, none⟩ = some (.pointer (some ⟨bl at_, 0, none⟩)) := by simp [World.cell?, hsb]
  have hlook := h.look tg hto
  obtain ⟨hst, _⟩ := h.st at_ s hs
  have h8 := HOK.out at_ s hs
  obtain ⟨sh, shas, swr⟩ := s
  obtain ⟨a0, a1, a2, a3, a4, a5, a6, a7, rfl⟩ : ∃ a0 a1 a2 a3 a4 a5 a6 a7, shas = [a0, a1, a2, a3, a4, a5, a6, a7] := by
    match shas, h8 with
    | [a0, a1, a2, a3, a4, a5, a6, a7], _ => exact ⟨_, _, _, _, _, _, _, _, rfl⟩
  have s0 : W.cell? ⟨bl at_, 0, none⟩ = some (.int .i64 sh) := st_cell hst rfl
  have s1 : W.cell? ⟨bl at_, 1, none⟩ = some (.int .u64 a0) := st_cell hst rfl
  have s2 : W.cell? ⟨bl at_, 2, none⟩ = some (.int .u64 a1) := st_cell hst rfl
  have s3 : W.cell? ⟨bl at_, 3, none⟩ = some (.int .u64 a2) := st_cell hst rfl
  have s4 : W.cell? ⟨bl at_, 4, none⟩ = some (.int .u64 a3) := st_cell hst rfl
  have s5 : W.cell? ⟨bl at_, 5, none⟩ = some (.int .u64 a4) := st_cell hst rfl
  have s6 : W.cell? ⟨bl at_, 6, none⟩ = some (.int .u64 a5) := st_cell hst rfl
  have s7 : W.cell? ⟨bl at_, 7, none⟩ = some (.int .u64 a6) := st_cell hst rfl
  have s8 : W.cell? ⟨bl at_, 8, none⟩ = some (.int .u64 a7) := st_cell hst rfl
  have s9 : W.cell? ⟨bl at_, 9, none⟩ = some (.int .u64 swr) := st_cell hst rfl
  have HL := Aside0.mk hl
  have HA := Aside0.mk ha
  have HSB := Aside0.mk hsb
  have HST := Aside0.mk hst
  have HSV : stVal ⟨sh, [a0, a1, a2, a3, a4, a5, a6, a7], swr⟩ = .agg #[.int .i64 sh, .int .u64 a0, .int .u64 a1, .int .u64 a2, .int .u64 a3, .int .u64 a4, .int .u64 a5, .int .u64 a6, .int .u64 a7, .int .u64 swr] := rfl
  have HSV := Aside0.mk HSV
  generalize hbl : bl at_ = ba at *
  have HBL := Aside0.mk hbl
  have hlab : ab < W.heap.size := (Array.getElem?_eq_some_iff.1 ha).1
  clear h hl ha hsb hs hst h8 hbl
  cases hm : m tg with
  | some t =>
    simp only [hm] at hlook
    have HM := Aside0.mk hm
    clear hm
    generalize hbt : bl tg = bt at *
    have HBT := Aside0.mk hbt
    clear hbt
    go_enter Try.func48, Try.ntmps48
    go_wp2_with fail
    have HTT := H.out.st tg t HM.out
    rw [HBT.out] at HTT
    have HTB := Aside0.mk HTT.1
    clear HTT s0 s1 s2 s3 s4 s5 s6 s7 s8 s9 c1 c2 c3 hlook
    refine (meet_calls bt t ⟨sh, [a0, a1, a2, a3, a4, a5, a6, a7], swr⟩ W HTB.out (HOK.out tg t HM.out) rfl).mono ?_
    rintro e W2 ⟨rfl, hg, hb2⟩
    go_wp2
    go_ret
    have eP : goesP n m ⟨sh, [a0, a1, a2, a3, a4, a5, a6, a7], swr⟩ tg be = ((fun k => if k = tg then some (meetS t ⟨sh, [a0, a1, a2, a3, a4, a5, a6, a7], swr⟩).1 else m k), (meetS t ⟨sh, [a0, a1, a2, a3, a4, a5, a6, a7], swr⟩).2) := by
      unfold goesP
      rw [if_neg h1, HM.out]
    rw [eP]
    refine ⟨rfl, bl, ?_, keeps_turn H.out HM.out (by rw [HBT.out]; exact hg), HBL.out, fun j hj => .inl ⟨?_, rfl⟩⟩
    rotate_left
    · by_cases e : j = tg
      · subst e; rw [HM.out]; simp
      · simpa [e] using hj
    have hv := H.out.turn HM.out (by rw [HBT.out]; exact hg) (by rw [HBT.out]; exact hb2)
    obtain ⟨D, hD, hE⟩ := hv.own
    exact ⟨⟨D, hD.mono (by omega), hE⟩, hv.st, hv.inj, hv.low⟩
  | none =>
    simp only [hm] at hlook
    have HM := Aside0.mk hm
    clear hm
    obtain ⟨W2, hrun, hv, hg⟩ := (H.out.alloc (.cells #[.int .i64 sh, .int .u64 a0, .int .u64 a1, .int .u64 a2, .int .u64 a3, .int .u64 a4, .int .u64 a5, .int .u64 a6, .int .u64 a7, .int .u64 swr] (98 : Nat))).put hq hto HM.out
      (s := ⟨sh, [a0, a1, a2, a3, a4, a5, a6, a7], swr⟩) (b := W.heap.size) (heap_alloc_new _ _) hw (fun j hj e => by
        obtain ⟨x, hx⟩ := Option.ne_none_iff_exists'.1 hj
        have := H.out.lt hx
        omega)
    have HV := Aside0.mk hv
    have HG := Aside0.mk ((World.grownBy_alloc W (.cells #[.int .i64 sh, .int .u64 a0, .int .u64 a1, .int .u64 a2, .int .u64 a3, .int .u64 a4, .int .u64 a5, .int .u64 a6, .int .u64 a7, .int .u64 swr] (98 : Nat)) (some M)).trans hg)
    clear hv hg
    go_enter Try.func48, Try.ntmps48
    go_wp2
    go_ret
    have eP : goesP n m ⟨sh, [a0, a1, a2, a3, a4, a5, a6, a7], swr⟩ tg be = ((fun k => if k = tg then some ⟨sh, [a0, a1, a2, a3, a4, a5, a6, a7], swr⟩ else m k), 0) := by
      unfold goesP
      rw [if_neg h1, HM.out]
    rw [eP]
    refine ⟨rfl, _, HV.out, ⟨HG.out.os, HG.out.tape, HG.out.output, HG.out.size, fun k hk h1 _ => HG.out.block k hk (by simp; exact h1)⟩, by simp [hne, HBL.out], fun j hj => ?_⟩
    by_cases e : j = tg
    · subst e; right; simp
    · left; exact ⟨by simpa [e] using hj, by simp [e]⟩
end Go.Proofs.Ytlmpoojpbdmmfaa.H
set_option linter.unusedVariables false
set_option linter.unusedSimpArgs false
namespace Go.Proofs.Ytlmpoojpbdmmfaa.H
open Go.RowKit Go.Proofs.YtlmpoojpbdmmfaaW.PrintWords Go.Proofs.YtlmpoojpbdmmfaaW.PrintLast Go.Proofs.YtlmpoojpbdmmfaaW.PrintMore
def folP (n : Nat) (m : Nat → Option Vst) (s : Vst) (p : Nat) (i : S53) : (Nat → Option Vst) × Int :=
  if i.f0 = 23 then (m, 0) else if i.f0 = 21 then goesP n m s (p + i.f1.toNat) 190
  else if i.f0 = 22 then (if (goesP n m s (p + 1) 195).2 = 0 then goesP n (goesP n m s (p + 1) 195).1 s (p + i.f1.toNat) 190 else goesP n m s (p + 1) 195)
  else goesP n m s (p + 1) 195
theorem goesP_at {n : Nat} {m : Nat → Option Vst} {s : Vst} {tg p : Nat} {be : Int} (h : p ≠ tg) : (goesP n m s tg be).1 p = m p := by
  unfold goesP
  split
  · rfl
  · split <;> simp [h]
theorem meetS_len {s t : Vst} (hs : s.has.length = 8) (ht : t.has.length = 8) : (meetS s t).1.has.length = 8 := by
  unfold meetS
  split
  · exact hs
  split
  · exact hs
  · simp [andL, hs, ht]
theorem goesP_ok {n : Nat} {m : Nat → Option Vst} {s : Vst} {tg : Nat} {be : Int} (hm : ∀ k x, m k = some x → x.has.length = 8) (hs : s.has.length = 8) : ∀ k x, (goesP n m s tg be).1 k = some x → x.has.length = 8 := by
  intro k x hx
  unfold goesP at hx
  split at hx
  · exact hm k x hx
  · split at hx
    · rename_i t ht
      by_cases e : k = tg
      · simp [e] at hx; subst hx; exact meetS_len (hm _ _ ht) hs
      · simp [e] at hx; exact hm k x hx
    · by_cases e : k = tg
      · simp [e] at hx; subst hx; exact hs
      · simp [e] at hx; exact hm k x hx
set_option maxHeartbeats 4000000 in
set_option maxRecDepth 100000 in
theorem vfollows_calls (w W : World) (lb ab sb p : Nat) (A : Option Addr) (n c : Nat) (M q : Nat) (m : Nat → Option Vst) (bl : Nat → Nat) (s : Vst) (i : S53)
    (h : VM w M q m bl W) (hl : W.heap[lb]? = some (.cells #[.slice A n c] 22 (0, 0))) (ha : W.heap[ab]? = some (.cells #[.map (some M)] 99 (0, 0))) (hsb : W.heap[sb]? = some (.cells #[.pointer (some ⟨bl p, 0, none⟩)] 94 (0, 0)))
    (hs : m p = some s) (hp : p ≤ 5000) (hq : q < 900000) (hok : ∀ k x, m k = some x → x.has.length = 8) (hw : w.heap.size ≤ W.heap.size) (hi : (1 ≤ i.f1 ∧ i.f1 ≤ 4096) ∨ (i.f0 ≠ 21 ∧ i.f0 ≠ 22)) :
    Calls Try.prog 51 #[.agg #[.int .u8 i.f0, .int .i64 i.f1], .int .i64 (p : Int), .func (.func 48) #[] #[.pointer (some ⟨lb, 0, none⟩), .pointer (some ⟨ab, 0, none⟩), .pointer (some ⟨sb, 0, none⟩)]] W fun e W' =>
      e = .returned (.int .i64 (folP n m s p i).2) ∧ ∃ bl', VM w M (q + 2) (folP n m s p i).1 bl' W' ∧ Keeps M m bl W W' ∧ bl' p = bl p ∧ Grows W.heap.size m bl (folP n m s p i).1 bl' := by
  obtain ⟨op, ar⟩ := i
  have hlb : lb < W.heap.size := (Array.getElem?_eq_some_iff.1 hl).1
  have hab : ab < W.heap.size := (Array.getElem?_eq_some_iff.1 ha).1
  have hsbl : sb < W.heap.size := (Array.getElem?_eq_some_iff.1 hsb).1
  have H1 := Aside0.mk (h.alloc (.cells #[.int .u8 op, .int .i64 ar] (53 : Nat)))
  have H := Aside0.mk h
  have E1 : Aside0 ((W.alloc (.cells #[.int .u8 op, .int .i64 ar] (53 : Nat))).heap[lb]? = some (.cells #[.slice A n c] 22 (0, 0))) := ⟨by rw [heap_alloc_old _ _ hlb]; exact hl⟩
  have E2 : Aside0 ((W.alloc (.cells #[.int .u8 op, .int .i64 ar] (53 : Nat))).heap[ab]? = some (.cells #[.map (some M)] 99 (0, 0))) := ⟨by rw [heap_alloc_old _ _ hab]; exact ha⟩
  have E3 : Aside0 ((W.alloc (.cells #[.int .u8 op, .int .i64 ar] (53 : Nat))).heap[sb]? = some (.cells #[.pointer (some ⟨bl p, 0, none⟩)] 94 (0, 0))) := ⟨by rw [heap_alloc_old _ _ hsbl]; exact hsb⟩
  have E4 : Aside0 ((W.alloc (.cells #[.int .u8 op, .int .i64 ar] (53 : Nat))).heap[W.heap.size]? = some (.cells #[.int .u8 op, .int .i64 ar] (53 : Nat) (0, 0))) := ⟨heap_alloc_new _ _⟩
  have E5 : Aside0 (Keeps M m bl W (W.alloc (.cells #[.int .u8 op, .int .i64 ar] (53 : Nat)))) := ⟨⟨rfl, rfl, rfl, by simp, fun k hk _ _ => heap_alloc_old _ _ hk⟩⟩
  have HS := Aside0.mk hs
  have HOK := Aside0.mk hok
  have HW : Aside0 (w.heap.size ≤ (W.alloc (.cells #[.int .u8 op, .int .i64 ar] (53 : Nat))).heap.size) := ⟨by simp; omega⟩
  have HZ : Aside0 (W.heap.size ≤ (W.alloc (.cells #[.int .u8 op, .int .i64 ar] (53 : Nat))).heap.size) := ⟨by simp⟩
  clear h hl ha hsb hs hok hlb hab hsbl hw
  have e1 : wrap64 ((p : Int) + 1) = (p : Int) + 1 := by unfold wrap64; omega
  have hcast : ((p + 1 : Nat) : Int) = (p : Int) + 1 := by omega
  by_cases o23 : op = 23
  · subst o23
    go_enter Try.func51, Try.ntmps51
    go_wp2
    go_ret
    refine ⟨by simp [folP], bl, ?_, E5.out, rfl, fun j hj => .inl ⟨by simpa [folP] using hj, rfl⟩⟩
    simp only [folP, if_true]
    obtain ⟨D, hD, hE⟩ := H1.out.own
    exact ⟨⟨D, hD.mono (by omega), hE⟩, H1.out.st, H1.out.inj, H1.out.low⟩
  by_cases o21 : op = 21
  · subst o21
    have hi' : 1 ≤ ar ∧ ar ≤ 4096 := by rcases hi with h | h; exact h; exact absurd rfl h.1
    have e2 : wrap64 ((p : Int) + ar) = (p : Int) + ar := by unfold wrap64; omega
    have hc2 : ((p + ar.toNat : Nat) : Int) = (p : Int) + ar := by omega
    go_enter Try.func51, Try.ntmps51
    go_wp2_with fail
    generalize W.alloc (.cells #[.int .u8 21, .int .i64 ar] (53 : Nat)) = W1 at H1 E1 E2 E3 E4 E5 HW HZ ⊢
    have G := goes_calls w W1 lb ab sb p A n c M q m bl s (p + ar.toNat) 190 H1.out E1.out E2.out E3.out HS.out (by omega) (by omega) (by omega) HOK.out HW.out
    rw [hc2] at G
    refine G.mono ?_
    clear G
    rintro e W2 ⟨rfl, bl1, hv, hk, hb, hg⟩
    go_wp2
    go_ret
    exact ⟨by simp [folP], bl1, by simpa [folP] using hv.more (by omega), E5.out.trans hk (Grows.refl _ _ _), hb, by simpa [folP] using (Grows.refl W.heap.size m bl).trans HZ.out hg⟩
  by_cases o22 : op = 22
  · subst o22
    have hi' : 1 ≤ ar ∧ ar ≤ 4096 := by rcases hi with h | h; exact h; exact absurd rfl h.2
    have e2 : wrap64 ((p : Int) + ar) = (p : Int) + ar := by unfold wrap64; omega
    have hc2 : ((p + ar.toNat : Nat) : Int) = (p : Int) + ar := by omega
    go_enter Try.func51, Try.ntmps51
    go_wp2_with fail
    generalize W.alloc (.cells #[.int .u8 22, .int .i64 ar] (53 : Nat)) = W1 at H1 E1 E2 E3 E4 E5 HW HZ ⊢
    have G := goes_calls w W1 lb ab sb p A n c M q m bl s (p + 1) 195 H1.out E1.out E2.out E3.out HS.out (by omega) (by omega) (by omega) HOK.out HW.out
    rw [hcast] at G
    refine G.mono ?_
    clear G
    rintro e W2 ⟨rfl, bl1, hv, hk, hb, hg⟩
    have X4 := hk.cells H1.out E4.out (by decide)
    have hm1 : (goesP n m s (p + 1) 195).1 p = some s := by rw [goesP_at (by omega)]; exact HS.out
    have hok1 := goesP_ok (n := n) (tg := p + 1) (be := 195) HOK.out (HOK.out p s HS.out)
    have eF : folP n m s p ⟨22, ar⟩ = if (goesP n m s (p + 1) 195).2 = 0 then goesP n (goesP n m s (p + 1) 195).1 s (p + ar.toNat) 190 else goesP n m s (p + 1) 195 := by simp [folP]
    have X1 := hk.cells H1.out E1.out (by decide)
    have X2 := hk.cells H1.out E2.out (by decide)
    have X3 := hk.cells H1.out E3.out (by decide)
    rw [← hb] at X3
    have HSZ : w.heap.size ≤ W2.heap.size := Nat.le_trans HW.out hk.size
    have HF := Aside0.mk eF
    clear eF
    generalize goesP n m s (p + 1) 195 = r1 at *
    have x0 : W2.cell? ⟨W.heap.size, 0, none⟩ = some (.int .u8 22) := by simp [World.cell?, X4]
    have x1 : W2.cell? ⟨W.heap.size, 1, none⟩ = some (.int .i64 ar) := by simp [World.cell?, X4]
    have HX := Aside0.mk (And.intro X1 (And.intro X2 (And.intro X3 (And.intro hm1 (And.intro hok1 HSZ)))))
    have HV := Aside0.mk hv
    have HK := Aside0.mk hk
    have HB := Aside0.mk hb
    have HG := Aside0.mk hg
    clear X1 X2 X3 X4 hm1 hok1 HSZ hv hk hb hg
    by_cases hr : r1.2 = 0
    · have q0 : (r1.2 != 0) = false := by simp [hr]
      have HR := Aside0.mk hr
      clear hr
      go_wp2_with fail
      have G := goes_calls w W2 lb ab sb p A n c M (q + 1) r1.1 bl1 s (p + ar.toNat) 190 HV.out HX.out.1 HX.out.2.1 HX.out.2.2.1 HX.out.2.2.2.1 (by omega) (by omega) (by omega) HX.out.2.2.2.2.1 HX.out.2.2.2.2.2
      rw [hc2] at G
      refine G.mono ?_
      clear G
      rintro e W3 ⟨rfl, bl2, hv2, hk2, hb2, hg2⟩
      go_wp2
      go_ret
      rw [HF.out, if_pos HR.out]
      exact ⟨rfl, bl2, hv2, (E5.out.trans HK.out (Grows.refl _ _ _)).trans hk2 ((Grows.refl _ _ _).trans HZ.out HG.out), hb2.trans HB.out, ((Grows.refl W.heap.size m bl).trans HZ.out HG.out).trans (Nat.le_trans HZ.out HK.out.size) hg2⟩
    · have q0 : (r1.2 != 0) = true := by simp [hr]
      have HR := Aside0.mk hr
      clear hr
      go_wp2
      go_ret
      rw [HF.out, if_neg HR.out]
      exact ⟨rfl, bl1, HV.out.more (by omega), E5.out.trans HK.out (Grows.refl _ _ _), HB.out, (Grows.refl W.heap.size m bl).trans HZ.out HG.out⟩
  · have q23 : (op == 23) = false := beq_eq_false_iff_ne.mpr o23
    have q21 : (op == 21) = false := beq_eq_false_iff_ne.mpr o21
    have q22 : (op != 22) = true := bne_iff_ne.mpr o22
    go_enter Try.func51, Try.ntmps51
    go_wp2_with fail
    generalize W.alloc (.cells #[.int .u8 op, .int .i64 ar] (53 : Nat)) = W1 at H1 E1 E2 E3 E4 E5 HW HZ ⊢
    have G := goes_calls w W1 lb ab sb p A n c M q m bl s (p + 1) 195 H1.out E1.out E2.out E3.out HS.out (by omega) (by omega) (by omega) HOK.out HW.out
    rw [hcast] at G
    refine G.mono ?_
    clear G
    rintro e W2 ⟨rfl, bl1, hv, hk, hb, hg⟩
    have X4 := hk.cells H1.out E4.out (by decide)
    have x0 : W2.cell? ⟨W.heap.size, 0, none⟩ = some (.int .u8 op) := by simp [World.cell?, X4]
    go_wp2
    go_ret
    exact ⟨by simp [folP, o23, o21, o22], bl1, by simpa [folP, o23, o21, o22] using hv.more (by omega), E5.out.trans hk (Grows.refl _ _ _), hb, by simpa [folP, o23, o21, o22] using (Grows.refl W.heap.size m bl).trans HZ.out hg⟩
end Go.Proofs.Ytlmpoojpbdmmfaa.H
end
