/- Part 5 of the proof of the law L. The conditions: none. (Its parts: One22.) -/
import Derived.Test.YtlmpoojpbdmmfaaKL04
section
set_option linter.unusedVariables false
set_option linter.unusedSimpArgs false
namespace Go.Proofs.Ytlmpoojpbdmmfaa.H
open Go.RowKit Go.Proofs.YtlmpoojpbdmmfaaW.PrintWords Go.Proofs.YtlmpoojpbdmmfaaW.PrintLast Go.Proofs.YtlmpoojpbdmmfaaW.PrintMore Go.Maps
structure PreOne (i : S53) (x : Ctx) : Prop where
  may : mayB i.f0 i.f1 = true
  tk : tks i.f0 ≤ (x.stack.length : Int)
  len : x.stack.length ≤ 1000
  sl : i.f0 = 2 ∨ i.f0 = 3 → i.f1 < (x.slots.length : Int)
  inn : i.f0 = 4 → i.f1 < (x.ins.length : Int)
  ou : i.f0 = 5 → i.f1 < (x.outs.length : Int)
theorem Kept2.step {W W1 W2 : World} {P : Nat → Prop} (h1 : Below W.heap.size W W1) (h2 : Kept2 W1 W2 P) : Kept2 W W2 P :=
  ⟨h2.os.trans h1.os, h2.tape.trans h1.tape, h2.output.trans h1.output, Nat.le_trans h1.size h2.size, fun k hk hn => (h2.block k (Nat.lt_of_lt_of_le hk h1.size) hn).trans (h1.block k hk)⟩
theorem Zn.wide {W W1 W2 : World} {P : Nat → Prop} (h : W.heap.size ≤ W1.heap.size) (k : Nat) (hk : Zn P W1 W2 k) : Zn P W W2 k := hk.imp id (fun ⟨h1, h2⟩ => ⟨Nat.le_trans h h1, h2⟩)
theorem one_fin {W W1 W2 : World} {P : Nat → Prop} {b : Nat} {c : Cf} {l : List S53} {x : Ctx} {M : Nat} {cv sv tv iv ov : Value} (h1 : Below W.heap.size W W1) (h : VA W2 (Zn P W1 W2) b c l x M cv sv tv iv ov) (hk : Kept2 W1 W2 P) : VMem W2 (Zn P W W2) b c l x ∧ Kept2 W W2 P :=
  ⟨⟨M, cv, sv, tv, iv, ov, h.mono (Zn.wide h1.size)⟩, Kept2.step h1 hk⟩
section
variable {W : World} {P : Nat → Prop} {b : Nat} {c : Cf} {l : List S53} {x : Ctx} {M : Nat} {cv sv tv iv ov : Value}
theorem VA.cellSet (h : VA W P b c l x M cv sv tv iv ov) {g : Nat} {cs : Array Value} (hg : W.heap[g]? = some (.cells cs 2 (0, 0))) (j : Nat) (y : Value) :
    (W.setCell ⟨g, j, none⟩ y).heap[b]? = W.heap[b]? ∧ PM (W.setCell ⟨g, j, none⟩ y) M ∧ Kd.R k53 53 (W.setCell ⟨g, j, none⟩ y) 0 P cv l := by
  have hb : b ≠ g := by
    rintro rfl
    rw [h.vb] at hg
    injection hg with hg
    injection hg with _ hg
    exact absurd hg (by decide)
  refine ⟨Below.heap_setCell W ⟨g, j, none⟩ y b hb, h.mp.move (Below.heap_setCell W ⟨g, j, none⟩ y M (fun e => h.mp.apart hg e.symm)), h.codeR (fun k cs' hk => Below.heap_setCell W ⟨g, j, none⟩ y k (fun e => ?_))⟩
  have e : k = g := e
  subst e
  rw [hk] at hg
  injection hg with hg
  injection hg with _ hg
  exact absurd hg (by decide)
theorem VA.setSl (h : VA W P b c l x M cv sv tv iv ov) {g i : Nat} (hg : tv.ownBlock = some g) (hi : i < x.slots.length) (y : Int) : VA (W.setCell ⟨g, i, none⟩ (.int .i64 y)) P b c l { x with slots := x.slots.set i y } M cv sv tv iv ov := by
  obtain ⟨cs, hcs⟩ := h.sl.typed hg
  obtain ⟨h1, h2, h3⟩ := h.cellSet hcs i (.int .i64 y)
  have mv : ∀ {v : Value} {xs : List Int}, IR W v xs → v.ownBlock ≠ some g → IR (W.setCell ⟨g, i, none⟩ (.int .i64 y)) v xs := fun hv hn => hv.move (fun k hk => Below.heap_setCell W ⟨g, i, none⟩ _ k (fun e => hn (by rw [hk]; exact congrArg some e)))
  exact ⟨h1.trans h.vb, h3, mv h.st (fun e => (h.d1 g e).1 hg), h.sl.set hg hi y, mv h.inn (fun e => (h.d2 g hg).1 e), mv h.ou (fun e => (h.d2 g hg).2 e), h2, h.d1, h.d2, h.d3, h.zb, h.zM, h.zs⟩
theorem VA.setOu (h : VA W P b c l x M cv sv tv iv ov) {g i : Nat} (hg : ov.ownBlock = some g) (hi : i < x.outs.length) (y : Int) : VA (W.setCell ⟨g, i, none⟩ (.int .i64 y)) P b c l { x with outs := x.outs.set i y } M cv sv tv iv ov := by
  obtain ⟨cs, hcs⟩ := h.ou.typed hg
  obtain ⟨h1, h2, h3⟩ := h.cellSet hcs i (.int .i64 y)
  have mv : ∀ {v : Value} {xs : List Int}, IR W v xs → v.ownBlock ≠ some g → IR (W.setCell ⟨g, i, none⟩ (.int .i64 y)) v xs := fun hv hn => hv.move (fun k hk => Below.heap_setCell W ⟨g, i, none⟩ _ k (fun e => hn (by rw [hk]; exact congrArg some e)))
  exact ⟨h1.trans h.vb, h3, mv h.st (fun e => (h.d1 g e).2.2 hg), mv h.sl (fun e => (h.d2 g e).2 hg), mv h.inn (fun e => h.d3 g e hg), h.ou.set hg hi y, h2, h.d1, h.d2, h.d3, h.zb, h.zM, h.zs⟩
end
theorem enters_pr {op : Int} (h0 : 8 ≤ op) (h1 : op ≤ 20) (args : Array Value) (w : World) : (callFunc (fnOf op) args).run Try.prog w = .ok (.enter (fnOf op) args) w := by
  have h : op = 8 ∨ op = 9 ∨ op = 10 ∨ op = 11 ∨ op = 12 ∨ op = 13 ∨ op = 14 ∨ op = 15 ∨ op = 16 ∨ op = 17 ∨ op = 18 ∨ op = 19 ∨ op = 20 := by omega
  rcases h with rfl | rfl | rfl | rfl | rfl | rfl | rfl | rfl | rfl | rfl | rfl | rfl | rfl
  · exact enters_ Try.func52 (by kernel_rfl) rfl args w
  · exact enters_ Try.func53 (by kernel_rfl) rfl args w
  · exact enters_ Try.func54 (by kernel_rfl) rfl args w
  · exact enters_ Try.func55 (by kernel_rfl) rfl args w
  · exact enters_ Try.func56 (by kernel_rfl) rfl args w
  · exact enters_ Try.func57 (by kernel_rfl) rfl args w
  · exact enters_ Try.func59 (by kernel_rfl) rfl args w
  · exact enters_ Try.func60 (by kernel_rfl) rfl args w
  · exact enters_ Try.func61 (by kernel_rfl) rfl args w
  · exact enters_ Try.func62 (by kernel_rfl) rfl args w
  · exact enters_ Try.func63 (by kernel_rfl) rfl args w
  · exact enters_ Try.func64 (by kernel_rfl) rfl args w
  · exact enters_ Try.func65 (by kernel_rfl) rfl args w
theorem dyn_run {oi : Oper} {a : Act} {W : World} (cl x y : Operand) (ho : oi.op = .call { callee := .value cl, args := #[x, y], argTypes := #[2, 2] }) {f : Nat} (hc : a.eval cl = .func (.func f) #[] #[]) {u v : Value} (hx : a.eval x = u) (hy : a.eval y = v)
    (hf : (callFunc f #[u, v]).run Try.prog W = .ok (.enter f #[u, v]) W) : (execOp a.eval oi).run Try.prog W = .ok (.enter f #[u, v]) W := by
  unfold execOp
  simp [ho, resolve, Deferred.ofValue, invoke, hc, hx, hy, hf]
theorem pop_len (x : Ctx) : x.pop.stack.length = x.stack.length - 1 := by simp [Ctx.pop]
set_option maxHeartbeats 16000000 in
set_option maxRecDepth 100000 in
theorem one_calls {W : World} {P : Nat → Prop} {b : Nat} {c : Cf} {l : List S53} {x : Ctx} (h : VMem W P b c l x) (hP : ∀ k, P k → k < W.heap.size) (i : S53) (hp : PreOne i x) :
    Calls Try.prog 33 #[.pointer (some ⟨b, 0, none⟩), .agg #[.int .u8 i.f0, .int .i64 i.f1]] W fun e W' => e = .returned (.int .i64 (one i x).2) ∧ VMem W' (Zn P W W') b c l (one i x).1 ∧ Kept2 W W' P := by
  obtain ⟨M, cv, sv, tv, iv, ov, h⟩ := h
  obtain ⟨op, ar⟩ := i
  obtain ⟨hmay, htk, hlen, hsl, hin, hou⟩ := hp
  simp only at hmay htk hsl hin hou
  have H := Aside0.mk (h.move (W1 := W.alloc (.cells #[.int .u8 op, .int .i64 ar] (53 : Nat))) (fun k _ hk => heap_alloc_old _ _ hk))
  have B := Aside0.mk ((Below.refl W.heap.size W).alloc (Nat.le_refl _) (.cells #[.int .u8 op, .int .i64 ar] (53 : Nat)))
  have I := Aside0.mk (heap_alloc_new W (.cells #[.int .u8 op, .int .i64 ar] (53 : Nat)))
  have L := Aside0.mk hlen
  clear h hlen
  have hop := may_op hmay
  by_cases o1 : op = 1
  · subst o1
    clear hmay htk hsl hin hou hop
    go_enter Try.func33, Try.ntmps33
    go_wp2_with fail
    generalize W.alloc (.cells #[.int .u8 1, .int .i64 ar] (53 : Nat)) = W1 at H B I ⊢
    refine (push_calls H.out (by have := L.out; omega) ar).mono ?_
    rintro e W2 ⟨rfl, ⟨sv', hv⟩, hk⟩
    go_wp2
    go_ret
    exact ⟨rfl, one_fin B.out hv hk⟩
  by_cases o2 : op = 2
  · subst o2
    have ha : 0 ≤ ar := by simp [mayB] at hmay; omega
    have hl : ar.toNat < x.slots.length := by have := hsl (by simp); omega
    obtain ⟨g, cap, hsv, hcap, _, hc, _, _⟩ := H.out.sl.cell hl
    have hal : ar < (x.slots.length : Int) := by omega
    have x7 : (W.alloc (.cells #[.int .u8 2, .int .i64 ar] (53 : Nat))).cell? ⟨b, 7, none⟩ = some tv := H.out.cell rfl
    rw [hsv] at x7
    have i0 : (W.alloc (.cells #[.int .u8 2, .int .i64 ar] (53 : Nat))).cell? ⟨W.heap.size, 0, none⟩ = some (.int .u8 2) := by unfold World.cell?; simp only; rw [I.out]; rfl
    have i1 : (W.alloc (.cells #[.int .u8 2, .int .i64 ar] (53 : Nat))).cell? ⟨W.heap.size, 1, none⟩ = some (.int .i64 ar) := by unfold World.cell?; simp only; rw [I.out]; rfl
    obtain ⟨tx, htx⟩ : ∃ tx, x.slots.getD ar.toNat 0 = tx := ⟨_, rfl⟩
    rw [htx] at hc
    have T := Aside0.mk htx
    clear htx hmay htk hsl hin hou hop hl hsv
    go_enter Try.func33, Try.ntmps33
    go_wp2_with fail
    clear I
    generalize W.alloc (.cells #[.int .u8 2, .int .i64 ar] (53 : Nat)) = W0 at H B x7 i0 i1 hc ⊢
    have D := Aside0.mk (H.out.move (W1 := W0.drew) (fun k _ _ => rfl))
    have B1 := Aside0.mk (below_drew1 B.out)
    go_still_tail 10, (by kernel_rfl)
    change wpList _ _ _ _ _ W0.drew
    generalize W0.drew = W1 at D B1 ⊢
    clear x7 i0 i1 hc H B
    go_wp2_with fail
    refine (push_calls D.out (by have := L.out; omega) tx).mono ?_
    rintro e W2 ⟨rfl, ⟨sv', hv⟩, hk⟩
    go_wp2
    go_ret
    have eo : one ⟨2, ar⟩ x = (x.push tx, 1) := by simp [one, ← T.out]
    rw [eo]
    exact ⟨rfl, one_fin B1.out hv hk⟩
  by_cases o4 : op = 4
  · subst o4
    have ha : 0 ≤ ar := by simp [mayB] at hmay; omega
    have hl : ar.toNat < x.ins.length := by have := hin rfl; omega
    obtain ⟨g, cap, hsv, hcap, _, hc, _, _⟩ := H.out.inn.cell hl
    have hal : ar < (x.ins.length : Int) := by omega
    have x7 : (W.alloc (.cells #[.int .u8 4, .int .i64 ar] (53 : Nat))).cell? ⟨b, 8, none⟩ = some iv := H.out.cell rfl
    rw [hsv] at x7
    have i0 : (W.alloc (.cells #[.int .u8 4, .int .i64 ar] (53 : Nat))).cell? ⟨W.heap.size, 0, none⟩ = some (.int .u8 4) := by unfold World.cell?; simp only; rw [I.out]; rfl
    have i1 : (W.alloc (.cells #[.int .u8 4, .int .i64 ar] (53 : Nat))).cell? ⟨W.heap.size, 1, none⟩ = some (.int .i64 ar) := by unfold World.cell?; simp only; rw [I.out]; rfl
    obtain ⟨tx, htx⟩ : ∃ tx, x.ins.getD ar.toNat 0 = tx := ⟨_, rfl⟩
    rw [htx] at hc
    have T := Aside0.mk htx
    clear htx hmay htk hsl hin hou hop hl hsv
    go_enter Try.func33, Try.ntmps33
    go_wp2_with fail
    clear I
    generalize W.alloc (.cells #[.int .u8 4, .int .i64 ar] (53 : Nat)) = W0 at H B x7 i0 i1 hc ⊢
    have D := Aside0.mk (H.out.move (W1 := W0.drew) (fun k _ _ => rfl))
    have B1 := Aside0.mk (below_drew1 B.out)
    go_still_tail 10, (by kernel_rfl)
    change wpList _ _ _ _ _ W0.drew
    generalize W0.drew = W1 at D B1 ⊢
    clear x7 i0 i1 hc H B
    go_wp2_with fail
    refine (push_calls D.out (by have := L.out; omega) tx).mono ?_
    rintro e W2 ⟨rfl, ⟨sv', hv⟩, hk⟩
    go_wp2
    go_ret
    have eo : one ⟨4, ar⟩ x = (x.push tx, 1) := by simp [one, ← T.out]
    rw [eo]
    exact ⟨rfl, one_fin B1.out hv hk⟩
  by_cases o3 : op = 3
  · subst o3
    have ha : 0 ≤ ar := by simp [mayB] at hmay; omega
    have hl : ar.toNat < x.slots.length := by have := hsl (by simp); omega
    have hst : 0 < x.stack.length := by simp [tks] at htk; omega
    obtain ⟨g, cap, hsv, hcap, hown, hc, _, hgl⟩ := H.out.sl.cell hl
    have hal : ar < (x.slots.length : Int) := by omega
    have i0 : (W.alloc (.cells #[.int .u8 3, .int .i64 ar] (53 : Nat))).cell? ⟨W.heap.size, 0, none⟩ = some (.int .u8 3) := by unfold World.cell?; simp only; rw [I.out]; rfl
    have HO := Aside0.mk hown
    have HSV := Aside0.mk hsv
    have HNP : Aside0 (¬ P W.heap.size) := ⟨fun e => by have := hP _ e; omega⟩
    have HIL : Aside0 (W.heap.size < (W.alloc (.cells #[.int .u8 3, .int .i64 ar] (53 : Nat))).heap.size) := ⟨by simp⟩
    have HST := Aside0.mk hst
    clear hmay htk hsl hin hou hop hsv hown hc hst hP
    go_enter Try.func33, Try.ntmps33
    go_wp2_with fail
    clear i0
    generalize W.alloc (.cells #[.int .u8 3, .int .i64 ar] (53 : Nat)) = W0 at H B I HIL ⊢
    generalize hib : W.heap.size = ib at HNP HIL I ⊢
    have HIB := Aside0.mk hib
    clear hib
    have D := Aside0.mk (H.out.move (W1 := W0.drew) (fun k _ _ => rfl))
    have B1 := Aside0.mk (below_drew1 B.out)
    have I1 : Aside0 (W0.drew.heap[ib]? = some (.cells #[.int .u8 3, .int .i64 ar] (53 : Nat) (0, 0))) := ⟨I.out⟩
    have IL1 : Aside0 (ib < W0.drew.heap.size) := ⟨HIL.out⟩
    refine start_ (n := 11) (S := fun w' => w'.cell? ⟨b, 7, none⟩ = some (.slice (some ⟨g, 0, none⟩) x.slots.length cap) ∧ w'.cell? ⟨ib, 1, none⟩ = some (.int .i64 ar)) (ds := []) #[false, false, false, false, false, false, false, false, false, false, false] (by kernel_rfl) rfl rfl ⟨by rw [← HSV.out]; exact D.out.cell rfl, by simp [World.cell?, I1.out]⟩ (fun hHeld => ?_)
    generalize W0.drew = W1 at D B1 I1 IL1 hHeld ⊢
    clear H B I HIL
    refine pure_ (i := 0) (N := some 43) (v := ?_) (a' := ?_) #[true, false, false, false, false, false, false, false, false, false, false] rfl rfl (by kernel_rfl) (fun _ _ _ h => h) (Or.inl ⟨by rfl, ?_⟩) ?_ ?_
    rotate_left
    · intro w'
      go_simp
      with_reducible rfl
    rotate_left
    · simp only [Act.put, List.setIfInBounds_toArray, List.set_cons_zero, List.set_cons_succ, i64_w, i32_w]
      rfl
    refine pure_ (i := 1) (N := some 44) (v := ?_) (a' := ?_) #[true, true, false, false, false, false, false, false, false, false, false] rfl rfl (by kernel_rfl) (fun _ _ _ h => h) (Or.inl ⟨by rfl, ?_⟩) ?_ ?_
    rotate_left
    · intro w'
      go_simp
      with_reducible rfl
    rotate_left
    · simp only [Act.put, List.setIfInBounds_toArray, List.set_cons_zero, List.set_cons_succ, i64_w, i32_w]
      rfl
    refine pure_ (i := 2) (N := some 45) (v := ?_) (a' := ?_) #[true, true, true, false, false, false, false, false, false, false, false] rfl rfl (by kernel_rfl) (fun _ _ _ h => h) (Or.inl ⟨by rfl, ?_⟩) ?_ ?_
    rotate_left
    · intro w'
      go_simp
      with_reducible rfl
    rotate_left
    · simp only [Act.put, List.setIfInBounds_toArray, List.set_cons_zero, List.set_cons_succ, i64_w, i32_w]
      rfl
    refine pure_ (i := 3) (N := some 46) (v := ?_) (a' := ?_) #[true, true, true, true, false, false, false, false, false, false, false] rfl rfl (by kernel_rfl) (fun _ _ _ h => h) (Or.inl ⟨by rfl, ?_⟩) ?_ ?_
    rotate_left
    · intro w'
      go_simp
      with_reducible rfl
    rotate_left
    · simp only [Act.put, List.setIfInBounds_toArray, List.set_cons_zero, List.set_cons_succ, i64_w, i32_w]
      rfl
    refine take_ (i := 4) (N := some 47) (v := ?_) (a' := ?_) #[true, true, true, true, true, false, false, false, false, false, false] rfl rfl (by kernel_rfl) (fun _ _ _ h => h) (Or.inl ⟨by rfl, ?_⟩) hHeld ?_ ?_
    rotate_left
    · rintro w' ⟨s0, s1⟩
      go_simp
      with_reducible rfl
    rotate_left
    · simp only [Act.put, List.setIfInBounds_toArray, List.set_cons_zero, List.set_cons_succ, i64_w, i32_w]
      rfl
    refine pure_ (i := 5) (N := some 48) (v := ?_) (a' := ?_) #[true, true, true, true, true, true, false, false, false, false, false] rfl rfl (by kernel_rfl) (fun _ _ _ h => h) (Or.inl ⟨by rfl, ?_⟩) ?_ ?_
    rotate_left
    · intro w'
      go_simp
      with_reducible rfl
    rotate_left
    · simp only [Act.put, List.setIfInBounds_toArray, List.set_cons_zero, List.set_cons_succ, i64_w, i32_w]
      rfl
    refine take_ (i := 6) (N := some 49) (v := ?_) (a' := ?_) #[true, true, true, true, true, true, true, false, false, false, false] rfl rfl (by kernel_rfl) (fun _ _ _ h => h) (Or.inl ⟨by rfl, ?_⟩) hHeld ?_ ?_
    rotate_left
    · rintro w' ⟨s0, s1⟩
      go_simp
      with_reducible rfl
    rotate_left
    · simp only [Act.put, List.setIfInBounds_toArray, List.set_cons_zero, List.set_cons_succ, i64_w, i32_w]
      rfl
    refine pure_ (i := 7) (N := some 50) (v := ?_) (a' := ?_) #[true, true, true, true, true, true, true, true, false, false, false] rfl rfl (by kernel_rfl) (fun _ _ _ h => h) (Or.inl ⟨by rfl, ?_⟩) ?_ ?_
    rotate_left
    · intro w'
      go_simp
      with_reducible rfl
    rotate_left
    · simp only [Act.put, List.setIfInBounds_toArray, List.set_cons_zero, List.set_cons_succ, i64_w, i32_w]
      rfl
    refine one_ (i := 8) (N := some 51) #[true, true, true, true, true, true, true, true, true, false, false] rfl rfl (by kernel_rfl) (by decide) (fun K hK => ?_)
    refine goes_ Try.func67 (by kernel_rfl) rfl #[.pointer (some ⟨b, 0, none⟩)] (by rfl) rfl rfl (by simp only [List.map_toArray, List.map_cons, List.map_nil]; rfl) ?_
    refine (pop_calls D.out HST.out (by have := L.out; omega)).mono ?_
    rintro e W2 ⟨rfl, ⟨sv', hv⟩, hk, hsz⟩
    refine ⟨_, rfl, ?_⟩
    have i2 : W2.heap[ib]? = some (.cells #[.int .u8 3, .int .i64 ar] (53 : Nat) (0, 0)) := (hk.block ib IL1.out HNP.out).trans I1.out
    refine hK.out _ _ ⟨by rw [← HSV.out]; exact hv.cell rfl, by simp [World.cell?, i2]⟩ (fun hHeld2 => ?_)
    refine norm_ (a' := ?_) ?_ ?_
    rotate_left
    · show Act.put _ (some 51) _ = _
      simp only [Act.put, List.setIfInBounds_toArray, List.set_cons_zero, List.set_cons_succ, i64_w, i32_w]
      rfl
    refine pure_ (i := 9) (N := some 52) (v := ?_) (a' := ?_) #[true, true, true, true, true, true, true, true, true, true, false] rfl rfl (by kernel_rfl) (fun _ _ _ h => h) (Or.inl ⟨by rfl, ?_⟩) ?_ ?_
    rotate_left
    · intro w'
      go_simp
      with_reducible rfl
    rotate_left
    · simp only [Act.put, List.setIfInBounds_toArray, List.set_cons_zero, List.set_cons_succ, i64_w, i32_w]
      rfl
    have hset := hv.setSl (i := ar.toNat) HO.out (by exact hl) x.top
    have hfz : W2.frozen? ⟨g, ar.toNat, none⟩ = false := by
      obtain ⟨cs, hcs⟩ := hv.sl.typed HO.out
      simp [World.frozen?, hcs]
    have hcl : ∃ y, W2.cell? ⟨g, ar.toNat, none⟩ = some y := by
      obtain ⟨g', cap', he, _, ho', hc', _⟩ := hv.sl.cell (i := ar.toNat) hl
      rw [HO.out] at ho'
      cases ho'
      exact ⟨_, hc'⟩
    obtain ⟨y0, hcl⟩ := hcl
    have K2 : Aside0 (Kept2 W (W2.setCell ⟨g, ar.toNat, none⟩ (.int .i64 x.top)) P) := ⟨(Kept2.step B1.out hk).trans ((kept2_set (hv.zs g (by simp [HO.out])) _ _).mono (fun k hk => .inl hk))⟩
    have S2 := Aside0.mk hset
    refine one_ (i := 10) (N := none) #[true, true, true, true, true, true, true, true, true, true, true] rfl rfl (by kernel_rfl) (by decide) (fun K3 hK3 => ?_)
    refine skip_ (w1 := W2.setCell ⟨g, ar.toNat, none⟩ (.int .i64 x.top)) (by rfl) rfl ?_ ?_
    · clear hset hK hK3 hk hv S2 K2
      go_simp
    have hgi : g ≠ ib := fun e => HNP.out (e ▸ hv.zs g (by simp [HO.out]))
    refine hK3.out _ _ ⟨by rw [← HSV.out]; exact S2.out.cell rfl, ?_⟩ (fun _ => ?_)
    · have := Below.heap_setCell W2 ⟨g, ar.toNat, none⟩ (.int .i64 x.top) ib (fun e => hgi e.symm)
      simp [World.cell?, this, i2]
    clear hset hK hK3 hk hv hcl hfz i2 hHeld hHeld2 D B1 I1
    refine done_ (by kernel_rfl) ?_
    go_wp2
    go_ret
    have eo : one ⟨3, ar⟩ x = ({ x.pop with slots := x.slots.set ar.toNat x.top }, 1) := by simp [one]
    rw [eo]
    exact ⟨rfl, ⟨M, cv, _, tv, iv, ov, S2.out.mono (fun k hk => .inl hk)⟩, K2.out⟩
  by_cases o5 : op = 5
  · subst o5
    have ha : 0 ≤ ar := by simp [mayB] at hmay; omega
    have hl : ar.toNat < x.outs.length := by have := hou rfl; omega
    have hst : 0 < x.stack.length := by simp [tks] at htk; omega
    obtain ⟨g, cap, hsv, hcap, hown, hc, _, hgl⟩ := H.out.ou.cell hl
    have hal : ar < (x.outs.length : Int) := by omega
    have i0 : (W.alloc (.cells #[.int .u8 5, .int .i64 ar] (53 : Nat))).cell? ⟨W.heap.size, 0, none⟩ = some (.int .u8 5) := by unfold World.cell?; simp only; rw [I.out]; rfl
    have HO := Aside0.mk hown
    have HSV := Aside0.mk hsv
    have HNP : Aside0 (¬ P W.heap.size) := ⟨fun e => by have := hP _ e; omega⟩
    have HIL : Aside0 (W.heap.size < (W.alloc (.cells #[.int .u8 5, .int .i64 ar] (53 : Nat))).heap.size) := ⟨by simp⟩
    have HST := Aside0.mk hst
    clear hmay htk hsl hin hou hop hsv hown hc hst hP
    go_enter Try.func33, Try.ntmps33
    go_wp2_with fail
    clear i0
    generalize W.alloc (.cells #[.int .u8 5, .int .i64 ar] (53 : Nat)) = W0 at H B I HIL ⊢
    generalize hib : W.heap.size = ib at HNP HIL I ⊢
    have HIB := Aside0.mk hib
    clear hib
    have D := Aside0.mk (H.out.move (W1 := W0.drew) (fun k _ _ => rfl))
    have B1 := Aside0.mk (below_drew1 B.out)
    have I1 : Aside0 (W0.drew.heap[ib]? = some (.cells #[.int .u8 5, .int .i64 ar] (53 : Nat) (0, 0))) := ⟨I.out⟩
    have IL1 : Aside0 (ib < W0.drew.heap.size) := ⟨HIL.out⟩
    refine start_ (n := 11) (S := fun w' => w'.cell? ⟨b, 9, none⟩ = some (.slice (some ⟨g, 0, none⟩) x.outs.length cap) ∧ w'.cell? ⟨ib, 1, none⟩ = some (.int .i64 ar)) (ds := []) #[false, false, false, false, false, false, false, false, false, false, false] (by kernel_rfl) rfl rfl ⟨by rw [← HSV.out]; exact D.out.cell rfl, by simp [World.cell?, I1.out]⟩ (fun hHeld => ?_)
    generalize W0.drew = W1 at D B1 I1 IL1 hHeld ⊢
    clear H B I HIL
    refine pure_ (i := 0) (N := some 64) (v := ?_) (a' := ?_) #[true, false, false, false, false, false, false, false, false, false, false] rfl rfl (by kernel_rfl) (fun _ _ _ h => h) (Or.inl ⟨by rfl, ?_⟩) ?_ ?_
    rotate_left
    · intro w'
      go_simp
      with_reducible rfl
    rotate_left
    · simp only [Act.put, List.setIfInBounds_toArray, List.set_cons_zero, List.set_cons_succ, i64_w, i32_w]
      rfl
    refine pure_ (i := 1) (N := some 65) (v := ?_) (a' := ?_) #[true, true, false, false, false, false, false, false, false, false, false] rfl rfl (by kernel_rfl) (fun _ _ _ h => h) (Or.inl ⟨by rfl, ?_⟩) ?_ ?_
    rotate_left
    · intro w'
      go_simp
      with_reducible rfl
    rotate_left
    · simp only [Act.put, List.setIfInBounds_toArray, List.set_cons_zero, List.set_cons_succ, i64_w, i32_w]
      rfl
    refine pure_ (i := 2) (N := some 66) (v := ?_) (a' := ?_) #[true, true, true, false, false, false, false, false, false, false, false] rfl rfl (by kernel_rfl) (fun _ _ _ h => h) (Or.inl ⟨by rfl, ?_⟩) ?_ ?_
    rotate_left
    · intro w'
      go_simp
      with_reducible rfl
    rotate_left
    · simp only [Act.put, List.setIfInBounds_toArray, List.set_cons_zero, List.set_cons_succ, i64_w, i32_w]
      rfl
    refine pure_ (i := 3) (N := some 67) (v := ?_) (a' := ?_) #[true, true, true, true, false, false, false, false, false, false, false] rfl rfl (by kernel_rfl) (fun _ _ _ h => h) (Or.inl ⟨by rfl, ?_⟩) ?_ ?_
    rotate_left
    · intro w'
      go_simp
      with_reducible rfl
    rotate_left
    · simp only [Act.put, List.setIfInBounds_toArray, List.set_cons_zero, List.set_cons_succ, i64_w, i32_w]
      rfl
    refine take_ (i := 4) (N := some 68) (v := ?_) (a' := ?_) #[true, true, true, true, true, false, false, false, false, false, false] rfl rfl (by kernel_rfl) (fun _ _ _ h => h) (Or.inl ⟨by rfl, ?_⟩) hHeld ?_ ?_
    rotate_left
    · rintro w' ⟨s0, s1⟩
      go_simp
      with_reducible rfl
    rotate_left
    · simp only [Act.put, List.setIfInBounds_toArray, List.set_cons_zero, List.set_cons_succ, i64_w, i32_w]
      rfl
    refine pure_ (i := 5) (N := some 69) (v := ?_) (a' := ?_) #[true, true, true, true, true, true, false, false, false, false, false] rfl rfl (by kernel_rfl) (fun _ _ _ h => h) (Or.inl ⟨by rfl, ?_⟩) ?_ ?_
    rotate_left
    · intro w'
      go_simp
      with_reducible rfl
    rotate_left
    · simp only [Act.put, List.setIfInBounds_toArray, List.set_cons_zero, List.set_cons_succ, i64_w, i32_w]
      rfl
    refine take_ (i := 6) (N := some 70) (v := ?_) (a' := ?_) #[true, true, true, true, true, true, true, false, false, false, false] rfl rfl (by kernel_rfl) (fun _ _ _ h => h) (Or.inl ⟨by rfl, ?_⟩) hHeld ?_ ?_
    rotate_left
    · rintro w' ⟨s0, s1⟩
      go_simp
      with_reducible rfl
    rotate_left
    · simp only [Act.put, List.setIfInBounds_toArray, List.set_cons_zero, List.set_cons_succ, i64_w, i32_w]
      rfl
    refine pure_ (i := 7) (N := some 71) (v := ?_) (a' := ?_) #[true, true, true, true, true, true, true, true, false, false, false] rfl rfl (by kernel_rfl) (fun _ _ _ h => h) (Or.inl ⟨by rfl, ?_⟩) ?_ ?_
    rotate_left
    · intro w'
      go_simp
      with_reducible rfl
    rotate_left
    · simp only [Act.put, List.setIfInBounds_toArray, List.set_cons_zero, List.set_cons_succ, i64_w, i32_w]
      rfl
    refine one_ (i := 8) (N := some 72) #[true, true, true, true, true, true, true, true, true, false, false] rfl rfl (by kernel_rfl) (by decide) (fun K hK => ?_)
    refine goes_ Try.func67 (by kernel_rfl) rfl #[.pointer (some ⟨b, 0, none⟩)] (by rfl) rfl rfl (by simp only [List.map_toArray, List.map_cons, List.map_nil]; rfl) ?_
    refine (pop_calls D.out HST.out (by have := L.out; omega)).mono ?_
    rintro e W2 ⟨rfl, ⟨sv', hv⟩, hk, hsz⟩
    refine ⟨_, rfl, ?_⟩
    have i2 : W2.heap[ib]? = some (.cells #[.int .u8 5, .int .i64 ar] (53 : Nat) (0, 0)) := (hk.block ib IL1.out HNP.out).trans I1.out
    refine hK.out _ _ ⟨by rw [← HSV.out]; exact hv.cell rfl, by simp [World.cell?, i2]⟩ (fun hHeld2 => ?_)
    refine norm_ (a' := ?_) ?_ ?_
    rotate_left
    · show Act.put _ (some 72) _ = _
      simp only [Act.put, List.setIfInBounds_toArray, List.set_cons_zero, List.set_cons_succ, i64_w, i32_w]
      rfl
    refine pure_ (i := 9) (N := some 73) (v := ?_) (a' := ?_) #[true, true, true, true, true, true, true, true, true, true, false] rfl rfl (by kernel_rfl) (fun _ _ _ h => h) (Or.inl ⟨by rfl, ?_⟩) ?_ ?_
    rotate_left
    · intro w'
      go_simp
      with_reducible rfl
    rotate_left
    · simp only [Act.put, List.setIfInBounds_toArray, List.set_cons_zero, List.set_cons_succ, i64_w, i32_w]
      rfl
    have hset := hv.setOu (i := ar.toNat) HO.out (by exact hl) x.top
    have hfz : W2.frozen? ⟨g, ar.toNat, none⟩ = false := by
      obtain ⟨cs, hcs⟩ := hv.ou.typed HO.out
      simp [World.frozen?, hcs]
    have hcl : ∃ y, W2.cell? ⟨g, ar.toNat, none⟩ = some y := by
      obtain ⟨g', cap', he, _, ho', hc', _⟩ := hv.ou.cell (i := ar.toNat) hl
      rw [HO.out] at ho'
      cases ho'
      exact ⟨_, hc'⟩
    obtain ⟨y0, hcl⟩ := hcl
    have K2 : Aside0 (Kept2 W (W2.setCell ⟨g, ar.toNat, none⟩ (.int .i64 x.top)) P) := ⟨(Kept2.step B1.out hk).trans ((kept2_set (hv.zs g (by simp [HO.out])) _ _).mono (fun k hk => .inl hk))⟩
    have S2 := Aside0.mk hset
    refine one_ (i := 10) (N := none) #[true, true, true, true, true, true, true, true, true, true, true] rfl rfl (by kernel_rfl) (by decide) (fun K3 hK3 => ?_)
    refine skip_ (w1 := W2.setCell ⟨g, ar.toNat, none⟩ (.int .i64 x.top)) (by rfl) rfl ?_ ?_
    · clear hset hK hK3 hk hv S2 K2
      go_simp
    have hgi : g ≠ ib := fun e => HNP.out (e ▸ hv.zs g (by simp [HO.out]))
    refine hK3.out _ _ ⟨by rw [← HSV.out]; exact S2.out.cell rfl, ?_⟩ (fun _ => ?_)
    · have := Below.heap_setCell W2 ⟨g, ar.toNat, none⟩ (.int .i64 x.top) ib (fun e => hgi e.symm)
      simp [World.cell?, this, i2]
    clear hset hK hK3 hk hv hcl hfz i2 hHeld hHeld2 D B1 I1
    refine done_ (by kernel_rfl) ?_
    go_wp2
    go_ret
    have eo : one ⟨5, ar⟩ x = ({ x.pop with outs := x.outs.set ar.toNat x.top }, 1) := by simp [one]
    rw [eo]
    exact ⟨rfl, ⟨M, cv, _, tv, iv, ov, S2.out.mono (fun k hk => .inl hk)⟩, K2.out⟩
  by_cases o6 : op = 6
  · subst o6
    have i0 : (W.alloc (.cells #[.int .u8 6, .int .i64 ar] (53 : Nat))).cell? ⟨W.heap.size, 0, none⟩ = some (.int .u8 6) := by unfold World.cell?; simp only; rw [I.out]; rfl
    have i1 : (W.alloc (.cells #[.int .u8 6, .int .i64 ar] (53 : Nat))).cell? ⟨W.heap.size, 1, none⟩ = some (.int .i64 ar) := by unfold World.cell?; simp only; rw [I.out]; rfl
    have HST : Aside0 (0 < x.stack.length) := ⟨by simp [tks] at htk; omega⟩
    clear hmay htk hsl hin hou hop i0 i1 I
    go_enter Try.func33, Try.ntmps33
    go_wp2_with fail
    generalize W.alloc (.cells #[.int .u8 6, .int .i64 ar] (53 : Nat)) = W1 at H B ⊢
    refine (pop_calls H.out HST.out (by have := L.out; omega)).mono ?_
    rintro e W2 ⟨rfl, ⟨sv', hv⟩, hk, hsz⟩
    have hv := Aside0.mk hv
    have hk := Aside0.mk (Kept2.step B.out hk)
    have hs2 := Aside0.mk hsz
    clear hsz
    go_wp2_with fail
    refine (push_calls hv.out (by rw [pop_len]; have := L.out; omega) (wrap64 (-x.top))).mono ?_
    rintro e W3 ⟨rfl, ⟨sv2, hv2⟩, hk2⟩
    go_wp2
    go_ret
    have eo : one ⟨6, ar⟩ x = (x.pop.push (wrap64 (-x.top)), 1) := by simp [one]
    rw [eo]
    exact ⟨rfl, ⟨M, cv, sv2, tv, iv, ov, hv2.mono (fun k hk => Zn.wide (by have := hs2.out; have := B.out.size; omega) k hk)⟩, hk.out.trans (hk2.mono (fun k hk => .inl hk))⟩
  by_cases o7 : op = 7
  · subst o7
    have i0 : (W.alloc (.cells #[.int .u8 7, .int .i64 ar] (53 : Nat))).cell? ⟨W.heap.size, 0, none⟩ = some (.int .u8 7) := by unfold World.cell?; simp only; rw [I.out]; rfl
    have i1 : (W.alloc (.cells #[.int .u8 7, .int .i64 ar] (53 : Nat))).cell? ⟨W.heap.size, 1, none⟩ = some (.int .i64 ar) := by unfold World.cell?; simp only; rw [I.out]; rfl
    have HST : Aside0 (0 < x.stack.length) := ⟨by simp [tks] at htk; omega⟩
    clear hmay htk hsl hin hou hop i0 i1 I
    go_enter Try.func33, Try.ntmps33
    go_wp2_with fail
    generalize W.alloc (.cells #[.int .u8 7, .int .i64 ar] (53 : Nat)) = W1 at H B ⊢
    refine (pop_calls H.out HST.out (by have := L.out; omega)).mono ?_
    rintro e W2 ⟨rfl, ⟨sv', hv⟩, hk, hsz⟩
    have hv := Aside0.mk hv
    have hk := Aside0.mk (Kept2.step B.out hk)
    have hs2 := Aside0.mk hsz
    clear hsz
    go_wp2_with fail
    refine (vm_truth.calls _ _ _ (truth_val _)).mono ?_
    rintro e W3 ⟨rfl, hd⟩
    have hv3 := Aside0.mk (hv.out.move (W1 := W3) (fun k _ hk => (drawn_below hd).block k hk))
    have hk3 := Aside0.mk (hk.out.trans (Kept2.of_below (drawn_below hd)))
    have hl3 := (drawn_below hd).size
    clear hd
    go_wp2_with fail
    refine (push_calls hv3.out (by rw [pop_len]; have := L.out; omega) (tr (x.top == 0))).mono ?_
    rintro e W4 ⟨rfl, ⟨sv2, hv2⟩, hk2⟩
    go_wp2
    go_ret
    have eo : one ⟨7, ar⟩ x = (x.pop.push (tr (x.top == 0)), 1) := by simp [one]
    rw [eo]
    exact ⟨rfl, ⟨M, cv, sv2, tv, iv, ov, hv2.mono (fun k hk => Zn.wide (by have := hs2.out; have := B.out.size; omega) k hk)⟩, hk3.out.trans (hk2.mono (fun k hk => .inl hk))⟩
  by_cases o21 : op = 21
  · subst o21
    have i0 : (W.alloc (.cells #[.int .u8 21, .int .i64 ar] (53 : Nat))).cell? ⟨W.heap.size, 0, none⟩ = some (.int .u8 21) := by unfold World.cell?; simp only; rw [I.out]; rfl
    have i1 : (W.alloc (.cells #[.int .u8 21, .int .i64 ar] (53 : Nat))).cell? ⟨W.heap.size, 1, none⟩ = some (.int .i64 ar) := by unfold World.cell?; simp only; rw [I.out]; rfl
    clear hmay htk hsl hin hou hop
    go_enter Try.func33, Try.ntmps33
    go_wp2
    go_ret
    have eo : one ⟨21, ar⟩ x = (x, ar) := by simp [one]
    rw [eo]
    exact ⟨rfl, ⟨M, cv, sv, tv, iv, ov, H.out.mono (fun k hk => .inl hk)⟩, Kept2.of_below B.out⟩
  by_cases o23 : op = 23
  · subst o23
    have i0 : (W.alloc (.cells #[.int .u8 23, .int .i64 ar] (53 : Nat))).cell? ⟨W.heap.size, 0, none⟩ = some (.int .u8 23) := by unfold World.cell?; simp only; rw [I.out]; rfl
    have i1 : (W.alloc (.cells #[.int .u8 23, .int .i64 ar] (53 : Nat))).cell? ⟨W.heap.size, 1, none⟩ = some (.int .i64 ar) := by unfold World.cell?; simp only; rw [I.out]; rfl
    have F := Aside0.mk (H.out.put (x' := { x with ended := true }) (sv' := sv) (j := 11) (u := .bool true) H.out.st rfl rfl rfl rfl (by simp [vmA]))
    have K := Aside0.mk (Kept2.step B.out (kept2_set (P := P) H.out.zb 11 (.bool true)))
    have f11 := H.out.froz 11
    have c11 : (W.alloc (.cells #[.int .u8 23, .int .i64 ar] (53 : Nat))).cell? ⟨b, 11, none⟩ = some (.bool x.ended) := H.out.cell rfl
    clear hmay htk hsl hin hou hop
    go_enter Try.func33, Try.ntmps33
    go_wp2
    go_ret
    have eo : one ⟨23, ar⟩ x = ({ x with ended := true }, 0) := by simp [one]
    rw [eo]
    exact ⟨rfl, ⟨M, cv, sv, tv, iv, ov, F.out.mono (fun k hk => .inl hk)⟩, K.out⟩
  by_cases o22 : op = 22
  · subst o22
    have i0 : (W.alloc (.cells #[.int .u8 22, .int .i64 ar] (53 : Nat))).cell? ⟨W.heap.size, 0, none⟩ = some (.int .u8 22) := by unfold World.cell?; simp only; rw [I.out]; rfl
    have i1 : (W.alloc (.cells #[.int .u8 22, .int .i64 ar] (53 : Nat))).cell? ⟨W.heap.size, 1, none⟩ = some (.int .i64 ar) := by unfold World.cell?; simp only; rw [I.out]; rfl
    have HST : Aside0 (0 < x.stack.length) := ⟨by simp [tks] at htk; omega⟩
    have HNP : Aside0 (¬ P W.heap.size) := ⟨fun e => by have := hP _ e; omega⟩
    have HIL : Aside0 (W.heap.size < (W.alloc (.cells #[.int .u8 22, .int .i64 ar] (53 : Nat))).heap.size) := ⟨by simp⟩
    clear hmay htk hsl hin hou hop hP
    go_enter Try.func33, Try.ntmps33
    go_wp2_with fail
    clear i0 i1
    generalize W.alloc (.cells #[.int .u8 22, .int .i64 ar] (53 : Nat)) = W1 at H B I HIL ⊢
    generalize hib : W.heap.size = ib at HNP HIL I ⊢
    refine (pop_calls H.out HST.out (by have := L.out; omega)).mono ?_
    rintro e W2 ⟨rfl, ⟨sv', hv⟩, hk, hsz⟩
    have i2 : W2.heap[ib]? = some (.cells #[.int .u8 22, .int .i64 ar] (53 : Nat) (0, 0)) := (hk.block ib HIL.out HNP.out).trans I.out
    have c2 : W2.cell? ⟨ib, 1, none⟩ = some (.int .i64 ar) := by simp [World.cell?, i2]
    have hv := Aside0.mk (hv.mono (P' := Zn P W W2) (fun k hk => .inl hk))
    have hk := Aside0.mk (Kept2.step B.out hk)
    clear i2 hsz I HIL HNP
    obtain ⟨tp, htp⟩ : ∃ tp, x.top = tp := ⟨_, rfl⟩
    have T := Aside0.mk htp
    rw [htp]
    clear htp
    subst hib
    by_cases hz : tp = 0
    · subst hz
      go_wp2
      go_ret
      have eo : one ⟨22, ar⟩ x = (x.pop, ar) := by simp [one, T.out]
      rw [eo]
      exact ⟨rfl, ⟨M, cv, sv', tv, iv, ov, hv.out⟩, hk.out⟩
    · have q : (tp != 0) = true := by simp [hz]
      have Z := Aside0.mk hz
      clear hz
      go_wp2
      go_ret
      have eo : one ⟨22, ar⟩ x = (x.pop, 1) := by simp [one, T.out, Z.out]
      rw [eo]
      exact ⟨rfl, ⟨M, cv, sv', tv, iv, ov, hv.out⟩, hk.out⟩
  have hop2 : 1 ≤ op ∧ op ≤ 23 := by simpa [isOp] using hop
  have h8 : 8 ≤ op ∧ op ≤ 20 := by omega
  clear hop2
  have q1 : (op == 1) = false := beq_eq_false_iff_ne.mpr o1
  have q2 : (op == 2) = false := beq_eq_false_iff_ne.mpr o2
  have q3 : (op == 3) = false := beq_eq_false_iff_ne.mpr o3
  have q4 : (op == 4) = false := beq_eq_false_iff_ne.mpr o4
  have q5 : (op == 5) = false := beq_eq_false_iff_ne.mpr o5
  have q6 : (op == 6) = false := beq_eq_false_iff_ne.mpr o6
  have q7 : (op == 7) = false := beq_eq_false_iff_ne.mpr o7
  have q21 : (op == 21) = false := beq_eq_false_iff_ne.mpr o21
  have q22 : (op == 22) = false := beq_eq_false_iff_ne.mpr o22
  have q23 : (op == 23) = false := beq_eq_false_iff_ne.mpr o23
  have HST : Aside0 (2 ≤ x.stack.length) := ⟨by have h2 : tks op = 2 := (by unfold tks; rw [if_pos h8]); omega⟩
  have HNP : Aside0 (¬ P W.heap.size) := ⟨fun e => by have := hP _ e; omega⟩
  have HIL : Aside0 (W.heap.size < (W.alloc (.cells #[.int .u8 op, .int .i64 ar] (53 : Nat))).heap.size) := ⟨by simp⟩
  have i0 : (W.alloc (.cells #[.int .u8 op, .int .i64 ar] (53 : Nat))).cell? ⟨W.heap.size, 0, none⟩ = some (.int .u8 op) := by unfold World.cell?; simp only; rw [I.out]; rfl
  have eo : Aside0 (one ⟨op, ar⟩ x = (x.pop.pop.push (pr op x.pop.top x.top), 1)) := ⟨by simp [one, o1, o2, o3, o4, o5, o6, o7, o21, o22, o23]⟩
  have H8 := Aside0.mk h8
  clear hmay htk hsl hin hou hop hP o1 o2 o3 o4 o5 o6 o7 o21 o22 o23 h8
  go_enter Try.func33, Try.ntmps33
  go_wp2_with fail
  clear i0 q1 q2 q3 q4 q5 q6 q7 q21 q22 q23
  generalize W.alloc (.cells #[.int .u8 op, .int .i64 ar] (53 : Nat)) = W1 at H B I HIL ⊢
  generalize hib : W.heap.size = ib at HNP HIL I ⊢
  have HIB := Aside0.mk hib
  clear hib
  refine (pop_calls H.out (by have := HST.out; omega) (by have := L.out; omega)).mono ?_
  rintro e W2 ⟨rfl, ⟨sv', hv⟩, hk, hsz⟩
  have I2 := Aside0.mk ((hk.block ib HIL.out HNP.out).trans I.out)
  have IL2 : Aside0 (ib < W2.heap.size) := ⟨by rw [hsz]; exact HIL.out⟩
  have D2 := Aside0.mk hv
  have K2 := Aside0.mk (Kept2.step B.out hk)
  have S2 : Aside0 (W.heap.size ≤ W2.heap.size) := ⟨by rw [hsz]; exact B.out.size⟩
  clear hv hk hsz H B I HIL
  generalize hto : x.top = t1
  have T1 := Aside0.mk hto
  clear hto
  go_wp2_with fail
  have I3 : Aside0 (W2.drew.heap[ib]? = some (.cells #[.int .u8 op, .int .i64 ar] (53 : Nat) (0, 0))) := ⟨I2.out⟩
  have IL3 : Aside0 (ib < W2.drew.heap.size) := ⟨IL2.out⟩
  have D3 := Aside0.mk (D2.out.move (W1 := W2.drew) (fun k _ _ => rfl))
  have K3 : Aside0 (Kept2 W W2.drew P) := ⟨K2.out.trans (Kept2.of_below (below_drew1 (Below.refl _ _)))⟩
  have S3 : Aside0 (W.heap.size ≤ W2.drew.heap.size) := ⟨S2.out⟩
  refine start_ (n := 13) (S := fun w' => w'.cell? ⟨b, 12, none⟩ = some (.map (some M)) ∧ w'.cell? ⟨ib, 0, none⟩ = some (.int .u8 op) ∧ PM w' M) (ds := []) #[false, false, false, false, false, false, false, false, false, false, false, false, false] (by kernel_rfl) rfl rfl ⟨D3.out.cell rfl, by simp [World.cell?, I3.out], D3.out.mp⟩ (fun hHeld => ?_)
  generalize W2.drew = W3 at D3 I3 IL3 K3 S3 hHeld ⊢
  clear D2 I2 IL2 K2 S2
  refine pure_ (i := 0) (N := some 96) (v := ?_) (a' := ?_) #[true, false, false, false, false, false, false, false, false, false, false, false, false] rfl rfl (by kernel_rfl) (fun _ _ _ h => h) (Or.inl ⟨by rfl, ?_⟩) ?_ ?_
  rotate_left
  · intro w'
    go_simp
    with_reducible rfl
  rotate_left
  · simp only [Act.put, List.setIfInBounds_toArray, List.set_cons_zero, List.set_cons_succ, i64_w, i32_w]
    rfl
  refine pure_ (i := 1) (N := some 97) (v := ?_) (a' := ?_) #[true, true, false, false, false, false, false, false, false, false, false, false, false] rfl rfl (by kernel_rfl) (fun _ _ _ h => h) (Or.inl ⟨by rfl, ?_⟩) ?_ ?_
  rotate_left
  · intro w'
    go_simp
    with_reducible rfl
  rotate_left
  · simp only [Act.put, List.setIfInBounds_toArray, List.set_cons_zero, List.set_cons_succ, i64_w, i32_w]
    rfl
  refine pure_ (i := 2) (N := some 98) (v := ?_) (a' := ?_) #[true, true, true, false, false, false, false, false, false, false, false, false, false] rfl rfl (by kernel_rfl) (fun _ _ _ h => h) (Or.inl ⟨by rfl, ?_⟩) ?_ ?_
  rotate_left
  · intro w'
    go_simp
    with_reducible rfl
  rotate_left
  · simp only [Act.put, List.setIfInBounds_toArray, List.set_cons_zero, List.set_cons_succ, i64_w, i32_w]
    rfl
  refine pure_ (i := 3) (N := some 99) (v := ?_) (a' := ?_) #[true, true, true, true, false, false, false, false, false, false, false, false, false] rfl rfl (by kernel_rfl) (fun _ _ _ h => h) (Or.inl ⟨by rfl, ?_⟩) ?_ ?_
  rotate_left
  · intro w'
    go_simp
    with_reducible rfl
  rotate_left
  · simp only [Act.put, List.setIfInBounds_toArray, List.set_cons_zero, List.set_cons_succ, i64_w, i32_w]
    rfl
  refine take_ (i := 4) (N := some 100) (v := ?_) (a' := ?_) #[true, true, true, true, true, false, false, false, false, false, false, false, false] rfl rfl (by kernel_rfl) (fun _ _ _ h => h) (Or.inl ⟨by rfl, ?_⟩) hHeld ?_ ?_
  rotate_left
  · rintro w' ⟨s0, s1, s2⟩
    clear s2
    go_simp
    with_reducible rfl
  rotate_left
  · simp only [Act.put, List.setIfInBounds_toArray, List.set_cons_zero, List.set_cons_succ, i64_w, i32_w]
    rfl
  refine pure_ (i := 5) (N := some 101) (v := ?_) (a' := ?_) #[true, true, true, true, true, true, false, false, false, false, false, false, false] rfl rfl (by kernel_rfl) (fun _ _ _ h => h) (Or.inl ⟨by rfl, ?_⟩) ?_ ?_
  rotate_left
  · intro w'
    go_simp
    with_reducible rfl
  rotate_left
  · simp only [Act.put, List.setIfInBounds_toArray, List.set_cons_zero, List.set_cons_succ, i64_w, i32_w]
    rfl
  refine take_ (i := 6) (N := some 102) (v := ?_) (a' := ?_) #[true, true, true, true, true, true, true, false, false, false, false, false, false] rfl rfl (by kernel_rfl) (fun _ _ _ h => h) (Or.inl ⟨by rfl, ?_⟩) hHeld ?_ ?_
  rotate_left
  · rintro w' ⟨s0, s1, s2⟩
    clear s2
    go_simp
    with_reducible rfl
  rotate_left
  · simp only [Act.put, List.setIfInBounds_toArray, List.set_cons_zero, List.set_cons_succ, i64_w, i32_w]
    rfl
  refine take_ (i := 7) (N := some 103) (v := ?_) (a' := ?_) #[true, true, true, true, true, true, true, true, false, false, false, false, false] rfl rfl (by kernel_rfl) (fun _ _ _ h => h) (Or.inl ⟨by rfl, ?_⟩) hHeld ?_ ?_
  rotate_left
  · rintro w' ⟨s0, s1, s2⟩
    have hl := s2.look H8.out.1 H8.out.2
    clear s0 s1 s2
    go_simp
    with_reducible rfl
  rotate_left
  · simp only [Act.put, List.setIfInBounds_toArray, List.set_cons_zero, List.set_cons_succ, i64_w, i32_w]
    rfl
  refine pure_ (i := 8) (N := some 104) (v := ?_) (a' := ?_) #[true, true, true, true, true, true, true, true, true, false, false, false, false] rfl rfl (by kernel_rfl) (fun _ _ _ h => h) (Or.inl ⟨by rfl, ?_⟩) ?_ ?_
  rotate_left
  · intro w'
    go_simp
    with_reducible rfl
  rotate_left
  · simp only [Act.put, List.setIfInBounds_toArray, List.set_cons_zero, List.set_cons_succ, i64_w, i32_w]
    rfl
  refine pure_ (i := 10) (N := some 106) (v := ?_) (a' := ?_) #[true, true, true, true, true, true, true, true, true, false, true, false, false] rfl rfl (by kernel_rfl) (fun _ _ _ h => h) (Or.inl ⟨by rfl, ?_⟩) ?_ ?_
  rotate_left
  · intro w'
    go_simp
    with_reducible rfl
  rotate_left
  · simp only [Act.put, List.setIfInBounds_toArray, List.set_cons_zero, List.set_cons_succ, i64_w, i32_w]
    rfl
  refine one_ (i := 9) (N := some 105) #[true, true, true, true, true, true, true, true, true, true, true, false, false] rfl rfl (by kernel_rfl) (by decide) (fun K hK => ?_)
  refine goes_ Try.func67 (by kernel_rfl) rfl #[.pointer (some ⟨b, 0, none⟩)] (by rfl) rfl rfl (by simp only [List.map_toArray, List.map_cons, List.map_nil]; rfl) ?_
  refine (pop_calls D3.out (by rw [pop_len]; have := HST.out; omega) (by rw [pop_len]; have := L.out; omega)).mono ?_
  rintro e W4 ⟨rfl, ⟨sv4, hv⟩, hk, hsz⟩
  refine ⟨_, rfl, ?_⟩
  have I4 : Aside0 (W4.heap[ib]? = some (.cells #[.int .u8 op, .int .i64 ar] (53 : Nat) (0, 0))) := ⟨(hk.block ib IL3.out HNP.out).trans I3.out⟩
  have IL4 : Aside0 (ib < W4.heap.size) := ⟨by rw [hsz]; exact IL3.out⟩
  have D4 := Aside0.mk hv
  have K4 : Aside0 (Kept2 W W4 P) := ⟨K3.out.trans (hk.mono (fun k hk => .inl hk))⟩
  have S4 : Aside0 (W.heap.size ≤ W4.heap.size) := ⟨by rw [hsz]; exact S3.out⟩
  refine hK.out _ _ ⟨D4.out.cell rfl, by simp [World.cell?, I4.out], D4.out.mp⟩ (fun hHeld2 => ?_)
  clear hv hk hsz D3 I3 IL3 K3 S3 hHeld hK K
  refine norm_ (a' := ?_) ?_ ?_
  rotate_left
  · show Act.put _ (some 105) _ = _
    simp only [Act.put, List.setIfInBounds_toArray, List.set_cons_zero, List.set_cons_succ, i64_w, i32_w]
    rfl
  refine one_ (i := 11) (N := some 107) #[true, true, true, true, true, true, true, true, true, true, true, true, false] rfl rfl (by kernel_rfl) (by decide) (fun K hK => ?_)
  refine call_ (fnOf op) #[.int .i64 x.pop.top, .int .i64 t1] (by rfl) rfl ?hrun ?_
  case hrun =>
    refine dyn_run (.tmp 103) (.tmp 105) (.tmp 106) ?_ ?_ ?_ ?_ (enters_pr H8.out.1 H8.out.2 _ _)
    · rfl
    · rfl
    · rfl
    · rfl
  refine (pr_calls x.pop.top t1 W4 H8.out.1 H8.out.2).mono ?_
  rintro e W5 ⟨rfl, hb⟩
  refine ⟨_, rfl, ?_⟩
  have D5 := Aside0.mk (D4.out.move (W1 := W5) (fun k _ hk => hb.block k hk))
  have I5 : Aside0 (W5.heap[ib]? = some (.cells #[.int .u8 op, .int .i64 ar] (53 : Nat) (0, 0))) := ⟨(hb.block ib IL4.out).trans I4.out⟩
  have K5 : Aside0 (Kept2 W W5 P) := ⟨K4.out.trans (Kept2.of_below hb)⟩
  have S5 : Aside0 (W.heap.size ≤ W5.heap.size) := ⟨Nat.le_trans S4.out hb.size⟩
  have IL5 : Aside0 (ib < W5.heap.size) := ⟨Nat.lt_of_lt_of_le IL4.out hb.size⟩
  refine hK.out _ _ ⟨D5.out.cell rfl, by simp [World.cell?, I5.out], D5.out.mp⟩ (fun hHeld3 => ?_)
  clear hb D4 I4 K4 S4 IL4 hHeld2 hK K
  refine norm_ (a' := ?_) ?_ ?_
  rotate_left
  · show Act.put _ (some 107) _ = _
    simp only [Act.put, List.setIfInBounds_toArray, List.set_cons_zero, List.set_cons_succ, i64_w, i32_w]
    rfl
  refine one_ (i := 12) (N := some 108) #[true, true, true, true, true, true, true, true, true, true, true, true, true] rfl rfl (by kernel_rfl) (by decide) (fun K hK => ?_)
  refine goes_ Try.func66 (by kernel_rfl) rfl #[.pointer (some ⟨b, 0, none⟩), .int .i64 (pr op x.pop.top t1)] (by rfl) rfl rfl (by simp only [List.map_toArray, List.map_cons, List.map_nil]; rfl) ?_
  refine (push_calls D5.out (by rw [pop_len, pop_len]; have := L.out; omega) (pr op x.pop.top t1)).mono ?_
  rintro e W6 ⟨rfl, ⟨sv6, hv⟩, hk⟩
  refine ⟨_, rfl, ?_⟩
  have I6 : W6.heap[ib]? = some (.cells #[.int .u8 op, .int .i64 ar] (53 : Nat) (0, 0)) := (hk.block ib IL5.out HNP.out).trans I5.out
  have D6 := Aside0.mk (hv.mono (P' := Zn P W W6) (fun k hk => Zn.wide S5.out k hk))
  have K6 : Aside0 (Kept2 W W6 P) := ⟨K5.out.trans (hk.mono (fun k hk => .inl hk))⟩
  refine hK.out _ _ ⟨hv.cell rfl, by simp [World.cell?, I6], hv.mp⟩ (fun hHeld4 => ?_)
  clear hv hk I6 D5 I5 K5 hHeld3 hHeld4 hK K
  refine norm_ (a' := ?_) ?_ ?_
  rotate_left
  · show Act.put _ (some 108) _ = _
    simp only [Act.put, List.setIfInBounds_toArray, List.set_cons_zero, List.set_cons_succ, i64_w, i32_w]
    rfl
  refine done_ (by kernel_rfl) ?_
  go_wp2
  go_ret
  rw [eo.out, T1.out]
  exact ⟨rfl, ⟨M, cv, sv6, tv, iv, ov, D6.out⟩, K6.out⟩
end Go.Proofs.Ytlmpoojpbdmmfaa.H
end
