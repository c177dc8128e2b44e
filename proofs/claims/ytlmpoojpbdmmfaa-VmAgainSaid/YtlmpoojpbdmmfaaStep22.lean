/- A step of a run: (*Vm).Step. The conditions: what it asks of the context. -/
import Derived.Test.YtlmpoojpbdmmfaaOne22
import Derived.Test.YtlmpoojpbdmmfaaA18
import Derived.Test.YtlmpoojpbdmmfaaHx1
set_option linter.unusedVariables false
set_option linter.unusedSimpArgs false
namespace Go.Proofs.Ytlmpoojpbdmmfaa.H
open Go.RowKit Go.Proofs.YtlmpoojpbdmmfaaW.PrintWords Go.Proofs.YtlmpoojpbdmmfaaW.PrintLast Go.Proofs.YtlmpoojpbdmmfaaW.PrintMore Go.Maps
theorem one_at (i : S53) (x : Ctx) : (one i x).1.at_ = x.at_ ∧ (one i x).1.spent = x.spent := by
  unfold one
  repeat' split
  all_goals exact ⟨rfl, rfl⟩
theorem one_dist {i : S53} {x : Ctx} (h : mayB i.f0 i.f1 = true) : 0 ≤ (one i x).2 ∧ (one i x).2 ≤ 4096 := by
  unfold one
  by_cases h1 : i.f0 = 1
  · rw [if_pos h1]; exact ⟨by simp, by simp⟩
  rw [if_neg h1]
  by_cases h2 : i.f0 = 2
  · rw [if_pos h2]; exact ⟨by simp, by simp⟩
  rw [if_neg h2]
  by_cases h3 : i.f0 = 3
  · rw [if_pos h3]; exact ⟨by simp, by simp⟩
  rw [if_neg h3]
  by_cases h4 : i.f0 = 4
  · rw [if_pos h4]; exact ⟨by simp, by simp⟩
  rw [if_neg h4]
  by_cases h5 : i.f0 = 5
  · rw [if_pos h5]; exact ⟨by simp, by simp⟩
  rw [if_neg h5]
  by_cases h6 : i.f0 = 6
  · rw [if_pos h6]; exact ⟨by simp, by simp⟩
  rw [if_neg h6]
  by_cases h7 : i.f0 = 7
  · rw [if_pos h7]; exact ⟨by simp, by simp⟩
  rw [if_neg h7]
  by_cases h22 : i.f0 = 22
  · have hb : 1 ≤ i.f1 ∧ i.f1 ≤ 4096 := by simpa [mayB, h22] using h
    rw [if_pos h22]
    simp only
    split <;> omega
  rw [if_neg h22]
  by_cases h21 : i.f0 = 21
  · have hb : 1 ≤ i.f1 ∧ i.f1 ≤ 4096 := by simpa [mayB, h21] using h
    rw [if_pos h21]
    simp only
    omega
  rw [if_neg h21]
  by_cases h23 : i.f0 = 23
  · rw [if_pos h23]; exact ⟨by simp, by simp⟩
  rw [if_neg h23]
  exact ⟨by simp, by simp⟩
theorem cyc_range (op : Int) : 0 ≤ cyc op ∧ cyc op ≤ 8 := by
  unfold cyc
  repeat' split
  all_goals omega
theorem is_store {W : World} {g : Nat} {t : TypeId} {u v op ar : Int} (h : W.heap[g]? = some (.cells #[.int .u8 u, .int .i64 v] t (0, 0))) : (Instr.storeAt 53 (.pointer (some ⟨g, 0, none⟩)) (.agg #[.int .u8 op, .int .i64 ar])).run Try.prog W = .ok () (W.setRow g #[.int .u8 op, .int .i64 ar]) := by
  have hi : (Try.prog.info? 53).map (·.size) = some 2 := by kernel_rfl
  have := run_storeVar_row (P := Try.prog) W g t 53 #[.int .u8 u, .int .i64 v] #[.int .u8 op, .int .i64 ar] h (by rw [hi]; rfl) rfl (by simp [Value.oneCell'])
  simp only [Instr.storeAt, Instr.sureAddr, Sem.run_bind, Sem.run_pure, Result.andThen]
  exact this
theorem istore_run {oi : Oper} {a : Act} {W : World} (x y : Operand) (ho : oi.op = .store 53 x y) {g : Nat} (hx : a.eval x = .pointer (some ⟨g, 0, none⟩)) {t : TypeId} {u v op ar : Int} (hy : a.eval y = .agg #[.int .u8 op, .int .i64 ar]) (h : W.heap[g]? = some (.cells #[.int .u8 u, .int .i64 v] t (0, 0))) :
    (execOp a.eval oi).run Try.prog W = .ok .skip (W.setRow g #[.int .u8 op, .int .i64 ar]) := by
  unfold execOp
  simp only [ho, hx, hy, Sem.run_bind, Result.andThen_ok, is_store h, Sem.run_pure]
theorem setRow_below2 {B g : Nat} {w0 w : World} (hb : Below B w0 w) (hBg : B ≤ g) (cs : Array Value) : Below B w0 (w.setRow g cs) :=
  ⟨hb.os, hb.tape, hb.output, by simpa using hb.size, fun k hk => (setRow_other w g k cs (by omega)).trans (hb.block k hk)⟩
theorem zero53 (w : World) : (zeroValue 53).run Try.prog w = .ok (.agg #[.int .u8 0, .int .i64 0]) w := by kernel_rfl
set_option maxHeartbeats 4000000 in
theorem step_nil (W : World) : Calls Try.prog 20 #[.pointer none] W fun e W' => e = .returned (.tuple #[.int .i64 0, .bool false, .int .i64 1]) ∧ Below W.heap.size W W' := by
  go_enter Try.func20, Try.ntmps20
  go_wp2
  go_ret3
  exact ⟨rfl, Below.refl _ _⟩
set_option maxHeartbeats 4000000 in
theorem step_ended {W : World} {P : Nat → Prop} {b : Nat} {c : Cf} {l : List S53} {x : Ctx} (h : VMem W P b c l x) (he : x.ended = true) : Calls Try.prog 20 #[.pointer (some ⟨b, 0, none⟩)] W fun e W' => e = .returned (.tuple #[.int .i64 0, .bool false, .int .i64 3]) ∧ Below W.heap.size W W' := by
  obtain ⟨M, cv, sv, tv, iv, ov, h⟩ := h
  have c11 : W.cell? ⟨b, 11, none⟩ = some (.bool true) := by rw [← he]; exact h.cell rfl
  clear h he
  go_enter Try.func20, Try.ntmps20
  go_wp2
  go_ret3
  exact ⟨rfl, Below.refl _ _⟩
set_option maxHeartbeats 16000000 in
set_option maxRecDepth 100000 in
theorem step_calls {W : World} {P : Nat → Prop} {b : Nat} {c : Cf} {l : List S53} {x : Ctx} (h : VMem W P b c l x) (hP : ∀ k, P k → k < W.heap.size) (hat : x.at_ < l.length) (hl : l.length ≤ 4096) (he : x.ended = false) (hp : PreOne (rd_T53 l (x.at_ : Int)) x) (hs : 0 ≤ x.spent ∧ x.spent ≤ 2199023255552) :
    Calls Try.prog 20 #[.pointer (some ⟨b, 0, none⟩)] W fun e W' => e = .returned (.tuple #[.int .i64 (cyc (rd_T53 l (x.at_ : Int)).f0), .bool (stp l x).ended, .int .i64 0]) ∧ VMem W' (Zn P W W') b c l (stp l x) ∧ Kept2 W W' P := by
  obtain ⟨M, cv, sv, tv, iv, ov, h⟩ := h
  obtain ⟨A, cap, rfl, hcap, hC⟩ := Kd.R_reads h.code
  obtain ⟨ad, rfl, hc1, hc2⟩ := at_T53 hC (x.at_ : Int) (by omega) (by omega)
  simp only [Int.toNat_natCast] at hc1 hc2
  have hst : stp l x = { (one (rd_T53 l (x.at_ : Int)) x).1 with at_ := (x.at_ + (one (rd_T53 l (x.at_ : Int)) x).2).toNat, spent := (one (rd_T53 l (x.at_ : Int)) x).1.spent + cyc (rd_T53 l (x.at_ : Int)).f0 } := rfl
  obtain ⟨i, hi⟩ : ∃ i, rd_T53 l (x.at_ : Int) = i := ⟨_, rfl⟩
  rw [hi] at hc1 hc2 hp hst
  rw [hst, hi]
  clear hst
  have H := Aside0.mk h
  have HP := Aside0.mk hP
  have HPP := Aside0.mk hp
  have HS := Aside0.mk hs
  have HD := Aside0.mk (one_dist (x := x) hp.may)
  have c11 : W.cell? ⟨b, 11, none⟩ = some (.bool false) := by rw [← he]; exact h.cell rfl
  have hatl : (x.at_ : Int) < (l.length : Int) := by omega
  have hat5 : (x.at_ : Int) < 4096 := by omega
  have HC1 := Aside0.mk (And.intro hc1 hc2)
  have hC' := Aside0.mk hC
  obtain ⟨at_, hae⟩ : ∃ q, x.at_ = q := ⟨_, rfl⟩
  have HAE := Aside0.mk hae
  rw [hae] at hatl hat5 HC1
  clear h hP hp hs he hi hC hc1 hc2 hae hat hl
  go_enter Try.func20, Try.ntmps20
  go_wp2_with fail
  have D := Aside0.mk (H.out.move (W1 := W.drew) (fun k _ _ => rfl))
  refine start_ (n := 13) (S := fun w' => w'.cell? ⟨b, 0, none⟩ = some (.slice (some ad) l.length cap) ∧ w'.cell? ⟨b, 5, none⟩ = some (.int .i64 (at_ : Int)) ∧ w'.cell? (ad.add (at_ * 2)) = some (.int .u8 i.f0) ∧ w'.cell? ⟨(ad.add (at_ * 2)).block, (ad.add (at_ * 2)).off + 1, none⟩ = some (.int .i64 i.f1)) (ds := []) #[false, false, false, false, false, false, false, false, false, false, false, false, false] (by kernel_rfl) rfl rfl ⟨D.out.cell rfl, by rw [← HAE.out]; exact D.out.cell rfl, HC1.out.1, HC1.out.2⟩ (fun hHeld => ?_)
  have HPd : Aside0 (∀ k, P k → k < W.drew.heap.size) := ⟨HP.out⟩
  have BB := Aside0.mk (below_drew1 (Below.refl W.heap.size W))
  generalize W.drew = W1 at D hHeld HPd BB ⊢
  clear H c11 HP
  refine pure_ (i := 0) (N := some 16) (v := ?_) (a' := ?_) #[true, false, false, false, false, false, false, false, false, false, false, false, false] rfl rfl (by kernel_rfl) (fun _ _ _ h => h) (Or.inl ⟨by rfl, ?_⟩) ?_ ?_
  rotate_left
  · intro w'
    go_simp
    with_reducible rfl
  rotate_left
  · simp only [Act.put, List.setIfInBounds_toArray, List.set_cons_zero, List.set_cons_succ, i64_w, i32_w]
    rfl
  refine pure_ (i := 1) (N := some 17) (v := ?_) (a' := ?_) #[true, true, false, false, false, false, false, false, false, false, false, false, false] rfl rfl (by kernel_rfl) (fun _ _ _ h => h) (Or.inl ⟨by rfl, ?_⟩) ?_ ?_
  rotate_left
  · intro w'
    go_simp
    with_reducible rfl
  rotate_left
  · simp only [Act.put, List.setIfInBounds_toArray, List.set_cons_zero, List.set_cons_succ, i64_w, i32_w]
    rfl
  refine pure_ (i := 2) (N := some 18) (v := ?_) (a' := ?_) #[true, true, true, false, false, false, false, false, false, false, false, false, false] rfl rfl (by kernel_rfl) (fun _ _ _ h => h) (Or.inl ⟨by rfl, ?_⟩) ?_ ?_
  rotate_left
  · intro w'
    go_simp
    with_reducible rfl
  rotate_left
  · simp only [Act.put, List.setIfInBounds_toArray, List.set_cons_zero, List.set_cons_succ, i64_w, i32_w]
    rfl
  refine take_ (i := 3) (N := some 19) (v := ?_) (a' := ?_) #[true, true, true, true, false, false, false, false, false, false, false, false, false] rfl rfl (by kernel_rfl) (fun _ _ _ h => h) (Or.inl ⟨by rfl, ?_⟩) hHeld ?_ ?_
  rotate_left
  · rintro w' ⟨s0, s1, s2, s3⟩
    go_simp
    with_reducible rfl
  rotate_left
  · simp only [Act.put, List.setIfInBounds_toArray, List.set_cons_zero, List.set_cons_succ, i64_w, i32_w]
    rfl
  refine pure_ (i := 4) (N := some 20) (v := ?_) (a' := ?_) #[true, true, true, true, true, false, false, false, false, false, false, false, false] rfl rfl (by kernel_rfl) (fun _ _ _ h => h) (Or.inl ⟨by rfl, ?_⟩) ?_ ?_
  rotate_left
  · intro w'
    go_simp
    with_reducible rfl
  rotate_left
  · simp only [Act.put, List.setIfInBounds_toArray, List.set_cons_zero, List.set_cons_succ, i64_w, i32_w]
    rfl
  refine pure_ (i := 5) (N := some 21) (v := ?_) (a' := ?_) #[true, true, true, true, true, true, false, false, false, false, false, false, false] rfl rfl (by kernel_rfl) (fun _ _ _ h => h) (Or.inl ⟨by rfl, ?_⟩) ?_ ?_
  rotate_left
  · intro w'
    go_simp
    with_reducible rfl
  rotate_left
  · simp only [Act.put, List.setIfInBounds_toArray, List.set_cons_zero, List.set_cons_succ, i64_w, i32_w]
    rfl
  refine pure_ (i := 6) (N := some 22) (v := ?_) (a' := ?_) #[true, true, true, true, true, true, true, false, false, false, false, false, false] rfl rfl (by kernel_rfl) (fun _ _ _ h => h) (Or.inl ⟨by rfl, ?_⟩) ?_ ?_
  rotate_left
  · intro w'
    go_simp
    with_reducible rfl
  rotate_left
  · simp only [Act.put, List.setIfInBounds_toArray, List.set_cons_zero, List.set_cons_succ, i64_w, i32_w]
    rfl
  refine pure_ (i := 7) (N := some 23) (v := ?_) (a' := ?_) #[true, true, true, true, true, true, true, true, false, false, false, false, false] rfl rfl (by kernel_rfl) (fun _ _ _ h => h) (Or.inl ⟨by rfl, ?_⟩) ?_ ?_
  rotate_left
  · intro w'
    go_simp
    with_reducible rfl
  rotate_left
  · simp only [Act.put, List.setIfInBounds_toArray, List.set_cons_zero, List.set_cons_succ, i64_w, i32_w]
    rfl
  refine take_ (i := 8) (N := some 24) (v := ?_) (a' := ?_) #[true, true, true, true, true, true, true, true, true, false, false, false, false] rfl rfl (by kernel_rfl) (fun _ _ _ h => h) (Or.inl ⟨by rfl, ?_⟩) hHeld ?_ ?_
  rotate_left
  · rintro w' ⟨s0, s1, s2, s3⟩
    go_simp
    with_reducible rfl
  rotate_left
  · simp only [Act.put, List.setIfInBounds_toArray, List.set_cons_zero, List.set_cons_succ, i64_w, i32_w]
    rfl
  refine pure_ (i := 9) (N := some 25) (v := ?_) (a' := ?_) #[true, true, true, true, true, true, true, true, true, true, false, false, false] rfl rfl (by kernel_rfl) (fun _ _ _ h => h) (Or.inl ⟨by rfl, ?_⟩) ?_ ?_
  rotate_left
  · intro w'
    go_simp
    with_reducible rfl
  rotate_left
  · simp only [Act.put, List.setIfInBounds_toArray, List.set_cons_zero, List.set_cons_succ, i64_w, i32_w]
    rfl
  refine take_ (i := 10) (N := some 26) (v := ?_) (a' := ?_) #[true, true, true, true, true, true, true, true, true, true, true, false, false] rfl rfl (by kernel_rfl) (fun _ _ _ h => h) (Or.inl ⟨by rfl, ?_⟩) hHeld ?_ ?_
  rotate_left
  · rintro w' ⟨s0, s1, s2, s3⟩
    go_simp
    with_reducible rfl
  rotate_left
  · simp only [Act.put, List.setIfInBounds_toArray, List.set_cons_zero, List.set_cons_succ, i64_w, i32_w]
    rfl
  refine one_ (i := 11) (N := some 5) #[true, true, true, true, true, true, true, true, true, true, true, true, false] rfl rfl (by kernel_rfl) (by decide) (fun K hK => ?_)
  refine value_ (v := .pointer (some ⟨W1.heap.size, 0, none⟩)) (w1 := W1.alloc (.cells #[.int .u8 0, .int .i64 0] (53 : Nat))) (by rfl) rfl ?_ ?_
  · have hz := zero53
    go_simp
  have hsz : W1.heap.size < (W1.alloc (.cells #[.int .u8 0, .int .i64 0] (53 : Nat))).heap.size := by simp
  have D2 := Aside0.mk (D.out.move (W1 := W1.alloc (.cells #[.int .u8 0, .int .i64 0] (53 : Nat))) (fun k _ hk => heap_alloc_old _ _ hk))
  have I2 := Aside0.mk (heap_alloc_new W1 (.cells #[.int .u8 0, .int .i64 0] (53 : Nat)))
  have hnb : W1.heap.size ≠ b := by have := (Array.getElem?_eq_some_iff.1 D.out.vb).1; omega
  have hb1 : ∀ k, k < W1.heap.size → (W1.alloc (.cells #[.int .u8 0, .int .i64 0] (53 : Nat))).heap[k]? = W1.heap[k]? := fun k hk => heap_alloc_old _ _ hk
  refine hK.out _ _ ⟨D2.out.cell rfl, by rw [← HAE.out]; exact D2.out.cell rfl, pw_cell_below ((Below.refl _ _).alloc (Nat.le_refl _) _) hHeld.2.2.1, pw_cell_below ((Below.refl _ _).alloc (Nat.le_refl _) _) hHeld.2.2.2⟩ (fun hHeld2 => ?_)
  clear hK K
  refine norm_ (a' := ?_) ?_ ?_
  rotate_left
  · show Act.put _ (some 5) _ = _
    simp only [Act.put, List.setIfInBounds_toArray, List.set_cons_zero, List.set_cons_succ, i64_w, i32_w]
    rfl
  have B2 := Aside0.mk ((Below.refl W1.heap.size W1).alloc (Nat.le_refl _) (.cells #[.int .u8 0, .int .i64 0] (53 : Nat)))
  have HPI : Aside0 (¬ P W1.heap.size) := ⟨fun e => by have := HPd.out _ e; omega⟩
  generalize hW2 : W1.alloc (.cells #[.int .u8 0, .int .i64 0] (53 : Nat)) = W2 at D2 I2 hHeld2 hb1 hsz B2 ⊢
  clear hW2
  generalize hib : W1.heap.size = ib at I2 hnb hb1 hsz HPI ⊢
  refine one_ (i := 12) (N := none) #[true, true, true, true, true, true, true, true, true, true, true, true, true] rfl rfl (by kernel_rfl) (by decide) (fun K hK => ?_)
  refine skip_ (w1 := W2.setRow ib #[.int .u8 i.f0, .int .i64 i.f1]) (by rfl) rfl ?_ ?_
  · refine istore_run (.tmp 5) (.tmp 26) ?_ ?_ ?_ I2.out
    · rfl
    · rfl
    · rfl
  have hoth : ∀ k, k ≠ ib → (W2.setRow ib #[.int .u8 i.f0, .int .i64 i.f1]).heap[k]? = W2.heap[k]? := fun k hk => setRow_other W2 ib k _ hk
  have D3 := Aside0.mk (D2.out.move (W1 := W2.setRow ib #[.int .u8 i.f0, .int .i64 i.f1]) (fun k hk _ => hoth k (fun e => HPI.out (e ▸ hk))))
  have I3 := Aside0.mk (setRow_heap W2 ib _ #[.int .u8 i.f0, .int .i64 i.f1] _ _ I2.out)
  have B3 := Aside0.mk (setRow_below2 (B := W1.heap.size) B2.out (Nat.le_of_eq hib) #[.int .u8 i.f0, .int .i64 i.f1])
  have B4 : Aside0 (Below W.heap.size W (W2.setRow ib #[.int .u8 i.f0, .int .i64 i.f1])) := ⟨BB.out.trans (B3.out.mono BB.out.size)⟩
  have S3 : Aside0 (ib < (W2.setRow ib #[.int .u8 i.f0, .int .i64 i.f1]).heap.size) := ⟨by simpa using hsz⟩
  have P3 : Aside0 (∀ k, P k → k < (W2.setRow ib #[.int .u8 i.f0, .int .i64 i.f1]).heap.size) := ⟨fun k hk => by have := HPd.out k hk; simp; omega⟩
  have c1 := pw_cell_below B3.out hHeld.2.2.1
  have c2 := pw_cell_below B3.out hHeld.2.2.2
  refine hK.out _ _ ⟨D3.out.cell rfl, by rw [← HAE.out]; exact D3.out.cell rfl, c1, c2⟩ (fun hHeld3 => ?_)
  clear hK K hHeld hHeld2 hHeld3 c1 c2 D D2 I2 hb1 hsz B2 B3 hoth HPd BB hnb hib
  generalize W2.setRow ib #[.int .u8 i.f0, .int .i64 i.f1] = W3 at D3 I3 B4 S3 P3 ⊢
  refine done_ (by kernel_rfl) ?_
  go_wp2_with fail
  have D := Aside0.mk (D3.out.move (W1 := W3.drew) (fun k _ _ => rfl))
  have BB : Aside0 (Below W.heap.size W W3.drew) := ⟨below_drew1 B4.out⟩
  have II : Aside0 (W3.drew.heap[ib]? = some (.cells #[.int .u8 i.f0, .int .i64 i.f1] (53 : Nat) (0, 0))) := ⟨I3.out⟩
  have SS : Aside0 (ib < W3.drew.heap.size) := ⟨S3.out⟩
  have PP : Aside0 (∀ k, P k → k < W3.drew.heap.size) := ⟨P3.out⟩
  refine start_ (n := 13) (S := fun w' => w'.cell? ⟨b, 5, none⟩ = some (.int .i64 (at_ : Int)) ∧ w'.cell? ⟨ib, 0, none⟩ = some (.int .u8 i.f0) ∧ w'.cell? ⟨ib, 1, none⟩ = some (.int .i64 i.f1)) (ds := [12]) #[false, false, false, false, false, false, false, false, false, false, false, false, false] (by kernel_rfl) rfl rfl ⟨by rw [← HAE.out]; exact D.out.cell rfl, by simp [World.cell?, II.out], by simp [World.cell?, II.out]⟩ (fun hHeld => ?_)
  generalize W3.drew = W4 at D BB II SS PP hHeld ⊢
  clear D3 I3 B4 S3 P3
  refine pure_ (i := 0) (N := some 27) (v := ?_) (a' := ?_) #[true, false, false, false, false, false, false, false, false, false, false, false, false] rfl rfl (by kernel_rfl) (fun _ _ _ h => h) (Or.inl ⟨by rfl, ?_⟩) ?_ ?_
  rotate_left
  · intro w'
    go_simp
    with_reducible rfl
  rotate_left
  · simp only [Act.put, List.setIfInBounds_toArray, List.set_cons_zero, List.set_cons_succ, i64_w, i32_w]
    rfl
  refine pure_ (i := 1) (N := some 28) (v := ?_) (a' := ?_) #[true, true, false, false, false, false, false, false, false, false, false, false, false] rfl rfl (by kernel_rfl) (fun _ _ _ h => h) (Or.inl ⟨by rfl, ?_⟩) ?_ ?_
  rotate_left
  · intro w'
    go_simp
    with_reducible rfl
  rotate_left
  · simp only [Act.put, List.setIfInBounds_toArray, List.set_cons_zero, List.set_cons_succ, i64_w, i32_w]
    rfl
  refine pure_ (i := 2) (N := some 29) (v := ?_) (a' := ?_) #[true, true, true, false, false, false, false, false, false, false, false, false, false] rfl rfl (by kernel_rfl) (fun _ _ _ h => h) (Or.inl ⟨by rfl, ?_⟩) ?_ ?_
  rotate_left
  · intro w'
    go_simp
    with_reducible rfl
  rotate_left
  · simp only [Act.put, List.setIfInBounds_toArray, List.set_cons_zero, List.set_cons_succ, i64_w, i32_w]
    rfl
  refine pure_ (i := 3) (N := some 30) (v := ?_) (a' := ?_) #[true, true, true, true, false, false, false, false, false, false, false, false, false] rfl rfl (by kernel_rfl) (fun _ _ _ h => h) (Or.inl ⟨by rfl, ?_⟩) ?_ ?_
  rotate_left
  · intro w'
    go_simp
    with_reducible rfl
  rotate_left
  · simp only [Act.put, List.setIfInBounds_toArray, List.set_cons_zero, List.set_cons_succ, i64_w, i32_w]
    rfl
  refine take_ (i := 4) (N := some 31) (v := ?_) (a' := ?_) #[true, true, true, true, true, false, false, false, false, false, false, false, false] rfl rfl (by kernel_rfl) (fun _ _ _ h => h) (Or.inl ⟨by rfl, ?_⟩) hHeld ?_ ?_
  rotate_left
  · rintro w' ⟨s0, s1, s2⟩
    go_simp
    with_reducible rfl
  rotate_left
  · simp only [Act.put, List.setIfInBounds_toArray, List.set_cons_zero, List.set_cons_succ, i64_w, i32_w]
    rfl
  refine pure_ (i := 5) (N := some 32) (v := ?_) (a' := ?_) #[true, true, true, true, true, true, false, false, false, false, false, false, false] rfl rfl (by kernel_rfl) (fun _ _ _ h => h) (Or.inl ⟨by rfl, ?_⟩) ?_ ?_
  rotate_left
  · intro w'
    go_simp
    with_reducible rfl
  rotate_left
  · simp only [Act.put, List.setIfInBounds_toArray, List.set_cons_zero, List.set_cons_succ, i64_w, i32_w]
    rfl
  refine take_ (i := 6) (N := some 33) (v := ?_) (a' := ?_) #[true, true, true, true, true, true, true, false, false, false, false, false, false] rfl rfl (by kernel_rfl) (fun _ _ _ h => h) (Or.inl ⟨by rfl, ?_⟩) hHeld ?_ ?_
  rotate_left
  · rintro w' ⟨s0, s1, s2⟩
    go_simp
    with_reducible rfl
  rotate_left
  · simp only [Act.put, List.setIfInBounds_toArray, List.set_cons_zero, List.set_cons_succ, i64_w, i32_w]
    rfl
  refine one_ (i := 7) (N := some 34) #[true, true, true, true, true, true, true, true, false, false, false, false, false] rfl rfl (by kernel_rfl) (by decide) (fun K hK => ?_)
  refine goes_ Try.func33 (by kernel_rfl) rfl #[.pointer (some ⟨b, 0, none⟩), .agg #[.int .u8 i.f0, .int .i64 i.f1]] (by rfl) rfl rfl (by simp only [List.map_toArray, List.map_cons, List.map_nil]; rfl) ?_
  refine (one_calls ⟨M, _, sv, tv, iv, ov, D.out⟩ PP.out i HPP.out).mono ?_
  rintro e W5 ⟨rfl, hv, hk⟩
  refine ⟨_, rfl, ?_⟩
  obtain ⟨M5, cv5, sv5, tv5, iv5, ov5, hv5⟩ := hv
  have hI5 : W5.heap[ib]? = some (.cells #[.int .u8 i.f0, .int .i64 i.f1] (53 : Nat) (0, 0)) := (hk.block ib SS.out HPI.out).trans II.out
  have D5 := Aside0.mk hv5
  have I5 := Aside0.mk hI5
  have K5 := Aside0.mk (Kept2.step BB.out hk)
  have B5 := Aside0.mk BB.out.size
  have N5 : Aside0 (ib ≠ b) := ⟨fun e => HPI.out (e ▸ D.out.zb)⟩
  have Z5 : Aside0 (P b) := ⟨D.out.zb⟩
  obtain ⟨y, hy⟩ : ∃ y, one i x = y := ⟨_, rfl⟩
  have ha5 : (one i x).1.at_ = at_ := (one_at i x).1.trans HAE.out
  have hs5 := (one_at i x).2
  rw [hy] at D5 ha5 hs5 HD ⊢
  obtain ⟨x1, ds⟩ := y
  simp only at D5 ha5 hs5 HD ⊢
  have HA5 := Aside0.mk ha5
  have HS5 := Aside0.mk hs5
  have HY := Aside0.mk hy
  clear hy ha5 hs5 hv5 hI5 hk
  refine hK.out _ _ ⟨by rw [← HA5.out]; exact D5.out.cell rfl, by simp [World.cell?, I5.out], by simp [World.cell?, I5.out]⟩ (fun hHeld2 => ?_)
  clear hK K hHeld D BB II SS PP
  have hds0 : 0 ≤ ds := HD.out.1
  have hds1 : ds ≤ 4096 := HD.out.2
  have hw : IntKind.i64.wrap ((at_ : Int) + ds) = (at_ : Int) + ds := by rw [IntKind.wrap_i64]; omega
  refine norm_ (a' := ?_) ?_ ?_
  rotate_left
  · show Act.put _ (some 34) _ = _
    simp only [Act.put, List.setIfInBounds_toArray, List.set_cons_zero, List.set_cons_succ, i64_w, i32_w]
    rfl
  refine pure_ (i := 8) (N := some 35) (v := ?_) (a' := ?_) #[true, true, true, true, true, true, true, true, true, false, false, false, false] rfl rfl (by kernel_rfl) (fun _ _ _ h => h) (Or.inl ⟨by rfl, ?_⟩) ?_ ?_
  rotate_left
  · intro w'
    go_simp
    with_reducible rfl
  rotate_left
  · simp only [Act.put, List.setIfInBounds_toArray, List.set_cons_zero, List.set_cons_succ, i64_w, i32_w]
    rfl
  refine pure_ (i := 9) (N := some 36) (v := ?_) (a' := ?_) #[true, true, true, true, true, true, true, true, true, true, false, false, false] rfl rfl (by kernel_rfl) (fun _ _ _ h => h) (Or.inl ⟨by rfl, ?_⟩) ?_ ?_
  rotate_left
  · intro w'
    go_simp
    with_reducible rfl
  rotate_left
  · simp only [Act.put, List.setIfInBounds_toArray, List.set_cons_zero, List.set_cons_succ, i64_w, i32_w]
    rfl
  refine pure_ (i := 10) (N := some 37) (v := ?_) (a' := ?_) #[true, true, true, true, true, true, true, true, true, true, true, false, false] rfl rfl (by kernel_rfl) (fun _ _ _ h => h) (Or.inl ⟨by rfl, ?_⟩) ?_ ?_
  rotate_left
  · intro w'
    go_simp
    with_reducible rfl
  rotate_left
  · simp only [Act.put, List.setIfInBounds_toArray, List.set_cons_zero, List.set_cons_succ, i64_w, i32_w]
    rfl
  refine pure_ (i := 11) (N := some 38) (v := ?_) (a' := ?_) #[true, true, true, true, true, true, true, true, true, true, true, true, false] rfl rfl (by kernel_rfl) (fun _ _ _ h => h) (Or.inl ⟨by rfl, ?_⟩) ?_ ?_
  rotate_left
  · intro w'
    go_simp
    with_reducible rfl
  rotate_left
  · simp only [Act.put, List.setIfInBounds_toArray, List.set_cons_zero, List.set_cons_succ, i64_w, i32_w]
    rfl
  have hat' : (((at_ : Int) + ds).toNat : Int) = (at_ : Int) + ds := by omega
  have F := D5.out.put (x' := { x1 with at_ := ((x.at_ : Int) + ds).toNat }) (sv' := sv5) (j := 5) (u := .int .i64 ((at_ : Int) + ds)) D5.out.st rfl rfl rfl rfl (by rw [HAE.out]; simp [vmA, hat'])
  have F := Aside0.mk F
  have c5 : W5.cell? ⟨b, 5, none⟩ = some (.int .i64 (at_ : Int)) := by rw [← HA5.out]; exact D5.out.cell rfl
  have f5 := D5.out.froz 5
  refine last_ (i := 12) (N := none) #[true, true, true, true, true, true, true, true, true, true, true, true, true] rfl rfl (by kernel_rfl) (by decide) (fun K hK => ?_)
  refine skip_ (w1 := W5.setCell ⟨b, 5, none⟩ (.int .i64 ((at_ : Int) + ds))) (by rfl) rfl ?_ ?_
  · clear F
    go_simp
  have F2 := Aside0.mk (Kept2.trans K5.out (kept2_set (W := W5) (P := Zn P W W5) (b := b) (.inl Z5.out) 5 (.int .i64 ((at_ : Int) + ds))))
  have hI6 := Below.heap_setCell W5 ⟨b, 5, none⟩ (.int .i64 ((at_ : Int) + ds)) ib N5.out
  have I6 : Aside0 ((W5.setCell ⟨b, 5, none⟩ (.int .i64 ((at_ : Int) + ds))).heap[ib]? = some (.cells #[.int .u8 i.f0, .int .i64 i.f1] (53 : Nat) (0, 0))) := ⟨hI6.trans I5.out⟩
  have S6 : Aside0 (W.heap.size ≤ (W5.setCell ⟨b, 5, none⟩ (.int .i64 ((at_ : Int) + ds))).heap.size) := ⟨F2.out.size⟩
  have S56 : Aside0 (W5.heap.size ≤ (W5.setCell ⟨b, 5, none⟩ (.int .i64 ((at_ : Int) + ds))).heap.size) := ⟨by simp [World.setCell]⟩
  refine hK.out _ _ ?_
  clear hK K hHeld2 c5 f5 hI6 D5 I5 K5 hw hat'
  generalize W5.setCell ⟨b, 5, none⟩ (.int .i64 ((at_ : Int) + ds)) = W6 at F F2 I6 S6 S56 ⊢
  refine done_ (by kernel_rfl) ?_
  have c6 : W6.cell? ⟨ib, 0, none⟩ = some (.int .u8 i.f0) := by simp [World.cell?, I6.out]
  obtain ⟨KC, hKC⟩ := ev_cycles i.f0
  have HKC := Aside0.mk (hKC KC (Nat.le_refl _))
  clear hKC
  go_wp2_with fail
  refine (code_Cycles.calls KC i.f0 (cyc i.f0) _ HKC.out).mono ?_
  rintro e W7 ⟨rfl, hd⟩
  have F7 := Aside0.mk (F.out.move (W1 := W7) (fun k _ hk => hd.below.block k hk))
  have K7 : Aside0 (Kept2 W W7 P) := ⟨F2.out.trans (Kept2.of_below hd.below)⟩
  have S7 : Aside0 (W6.heap.size ≤ W7.heap.size) := ⟨hd.below.size⟩
  obtain ⟨hcy0, hcy1⟩ := cyc_range i.f0
  obtain ⟨sp, hsp⟩ : ∃ sp, x1.spent = sp := ⟨_, rfl⟩
  have hsr : 0 ≤ sp ∧ sp ≤ 2199023255552 := by rw [← hsp, HS5.out]; exact HS.out
  obtain ⟨hsr0, hsr1⟩ := hsr
  have c10 : W7.cell? ⟨b, 10, none⟩ = some (.int .i64 sp) := by rw [← hsp]; exact F7.out.cell rfl
  have c11 : W7.cell? ⟨b, 11, none⟩ = some (.bool x1.ended) := F7.out.cell rfl
  have f10 := F7.out.froz 10
  have HSP := Aside0.mk hsp
  obtain ⟨cy, hcy⟩ : ∃ cy, cyc i.f0 = cy := ⟨_, rfl⟩
  rw [hcy] at hcy0 hcy1 ⊢
  have HCY := Aside0.mk hcy
  have G := Aside0.mk (F7.out.put (x' := { x1 with at_ := ((x.at_ : Int) + ds).toNat, spent := x1.spent + cy }) (sv' := sv5) (j := 10) (u := .int .i64 (sp + cy)) F7.out.st rfl rfl rfl rfl (by rw [HSP.out]; simp [vmA]))
  have K8 := Aside0.mk (Kept2.trans K7.out (kept2_set (W := W7) (P := Zn P W W7) (b := b) (.inl Z5.out) 10 (.int .i64 (sp + cy))))
  clear hd hsp hcy F F2 I6 c6 hds0 hds1
  have S78 : Aside0 (W7.heap.size ≤ (W7.setCell ⟨b, 10, none⟩ (.int .i64 (sp + cy))).heap.size) := ⟨by simp [World.setCell]⟩
  go_wp2_with fail
  generalize W7.setCell ⟨b, 10, none⟩ (.int .i64 (sp + cy)) = W8 at G K8 S78 ⊢
  have d11 : W8.cell? ⟨b, 11, none⟩ = some (.bool x1.ended) := G.out.cell rfl
  clear c10 c11 f10
  obtain ⟨en, hen⟩ : ∃ en, x1.ended = en := ⟨_, rfl⟩
  rw [hen] at d11
  have HEN := Aside0.mk hen
  clear hen
  go_quiet (fail)
  go_wp2
  go_ret3
  rw [HY.out, HCY.out, ← HEN.out]
  have hz : ∀ n k, Zn P W4 W5 k → Zn P W (W8.drewN n) k := fun n k hk => hk.imp id (fun ⟨h1, h2⟩ => ⟨Nat.le_trans B5.out h1, by have := S56.out; have := S7.out; have := S78.out; show k < W8.heap.size; omega⟩)
  refine ⟨rfl, ⟨M5, cv5, sv5, tv5, iv5, ov5, VA.mono (P := Zn P W4 W5) ?_ (hz _)⟩, K8.out.trans ⟨rfl, rfl, rfl, Nat.le_refl _, fun _ _ _ => rfl⟩⟩
  exact G.out.move (fun k _ _ => rfl)
end Go.Proofs.Ytlmpoojpbdmmfaa.H
