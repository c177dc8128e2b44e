/- Part 25 of the proof of the law L. The conditions: none. (Its parts: Rst22.) -/
import Derived.Test.YtlmpoojpbdmmfaaKL24
section
set_option linter.unusedVariables false
set_option linter.unusedSimpArgs false
namespace Go.Proofs.Ytlmpoojpbdmmfaa.H
open Go.RowKit Go.Proofs.YtlmpoojpbdmmfaaW.PrintWords Go.Proofs.YtlmpoojpbdmmfaaW.PrintLast Go.Proofs.YtlmpoojpbdmmfaaW.PrintMore Go.Maps
theorem take_all {x : Ctx} {n k : Nat} (h : x.stack.length = n ∧ (x.stack.length : Int) - 0 = (k : Int)) : x.stack.take k = x.stack := List.take_of_length_le (by omega)
theorem one_neg {x : Ctx} {k : Nat} {ar t u : Int} (h : x.stack.length = k + 1) (ht : x.stack.getD k 0 = t) (hu : wrap64 (-t) = u) : one ⟨6, ar⟩ x = ({ x with stack := x.stack.take k ++ [u] }, 1) := by
  subst hu ht
  simp [one, Ctx.pop, Ctx.push, Ctx.top, h]
theorem one_not {x : Ctx} {k : Nat} {ar t u : Int} (h : x.stack.length = k + 1) (ht : x.stack.getD k 0 = t) (hu : tr (t == 0) = u) : one ⟨7, ar⟩ x = ({ x with stack := x.stack.take k ++ [u] }, 1) := by
  subst hu ht
  simp [one, Ctx.pop, Ctx.push, Ctx.top, h]
theorem one_set3 {x : Ctx} {k : Nat} {ar t : Int} (h : x.stack.length = k + 1) (ht : x.stack.getD k 0 = t) : one ⟨3, ar⟩ x = ({ x with stack := x.stack.take k, slots := x.slots.set ar.toNat t }, 1) := by
  subst ht
  simp [one, Ctx.pop, Ctx.push, Ctx.top, h]
theorem one_set5 {x : Ctx} {k : Nat} {ar t : Int} (h : x.stack.length = k + 1) (ht : x.stack.getD k 0 = t) : one ⟨5, ar⟩ x = ({ x with stack := x.stack.take k, outs := x.outs.set ar.toNat t }, 1) := by
  subst ht
  simp [one, Ctx.pop, Ctx.push, Ctx.top, h]
theorem one_brz {x : Ctx} {k : Nat} {ar t : Int} (h : x.stack.length = k + 1) (ht : x.stack.getD k 0 = t) : one ⟨22, ar⟩ x = ({ x with stack := x.stack.take k }, if t = 0 then ar else 1) := by
  subst ht
  simp [one, Ctx.pop, Ctx.push, Ctx.top, h]
theorem one_bin {x : Ctx} {k : Nat} {op ar d t u : Int} (h8 : 8 ≤ op ∧ op ≤ 20) (h : x.stack.length = k + 2) (hd : x.stack.getD k 0 = d) (ht : x.stack.getD (k + 1) 0 = t) (hu : pr op d t = u) : one ⟨op, ar⟩ x = ({ x with stack := x.stack.take k ++ [u] }, 1) := by
  subst hu ht hd
  unfold one
  simp only
  rw [if_neg (by omega), if_neg (by omega), if_neg (by omega), if_neg (by omega), if_neg (by omega), if_neg (by omega), if_neg (by omega), if_neg (by omega), if_neg (by omega), if_neg (by omega)]
  simp [Ctx.pop, Ctx.push, Ctx.top, h, List.take_take, List.getD_eq_getElem?_getD, List.getElem?_take]
theorem more_run {W W' : World} {oi : Oper} {a : Act} (s x : Operand) (ho : oi.op = .call { callee := .builtin .append, args := #[s, x], argTypes := #[25, 25] }) {v v' : Value} {ad : Addr} {n c : Nat} (hs : a.eval s = v) (hx : a.eval x = .slice (some ad) n c)
    (hr : (Builtin.append_ #[25, 25] oi.type #[v, .slice (some ad) n c]).run Try.prog W = .ok v' W') : (execOp a.eval oi).run Try.prog W = .ok (.value v') W' := by
  unfold execOp
  simp only [ho, resolve, invoke, builtin, Sem.run_bind, Sem.run_pure, Result.andThen_ok, List.map_toArray, List.map_cons, List.map_nil, hs, hx, hr]
theorem rcop_f {xs : List Int} (h : xs.length ≤ 1000000) : carillonref22_copied.f xs = some xs := by
  unfold carillonref22_copied.f
  rw [if_pos (by simp; omega)]
  simp
theorem rcopied_calls {W : World} {A : Option Addr} {n cap : Nat} {xs : List Int} (h : IR W (.slice A n cap) xs) {k : Nat} (hk : k ≤ xs.length) (hs : xs.length ≤ 1000000) :
    Calls Try.prog 37 #[.slice A k cap] W fun e W' => ∃ rv, e = .returned rv ∧ IR W' rv (xs.take k) ∧ (∀ q, rv.ownBlock = some q → W.heap.size ≤ q ∧ q < W'.heap.size) ∧ Below W.heap.size W W' := by
  obtain ⟨A', c', e, hc, _, hC⟩ := (h.takeN hk).C
  have e2 : (xs.take k).length = k := by rw [List.length_take]; omega
  rw [e2] at e
  simp only [Value.slice.injEq] at e
  obtain ⟨rfl, _, rfl⟩ := e
  have := carillonref22_copied.calls A cap (xs.take k) (xs.take k) W hC hc (rcop_f (by rw [e2]; omega))
  rw [e2] at this
  refine this.mono ?_
  rintro e W' ⟨v, rfl, hR, hB⟩
  exact ⟨v, rfl, (IR_of_R hR).1, (IR_of_R hR).2, hB⟩
section
variable {W W7 W8 Wa : World} {P : Nat → Prop} {b : Nat} {c : Cf} {x x8 : Ctx} {cv sv tv iv ov rv rv' : Value}
theorem rst_more (hP : ∀ k, P k → k < W.heap.size) (K7 : Kept2 W W7 P) (D7 : RA W7 P b c x cv sv tv iv ov) (hf : ∀ q, rv.ownBlock = some q → W.heap.size ≤ q) (ha : Below W7.heap.size W7 Wa) (hg : Wa.grownBy W8 rv.ownBlock) (ho : rv'.ownBlock = rv.ownBlock ∨ ∃ k, rv'.ownBlock = some k ∧ Wa.heap.size ≤ k) :
    RA W8 P b c x cv sv tv iv ov ∧ Kept2 W W8 P ∧ (∀ q, rv'.ownBlock = some q → W.heap.size ≤ q) := by
  have hs1 := K7.size
  have hs2 := ha.size
  have hmv : ∀ k, k < W.heap.size → W8.heap[k]? = W7.heap[k]? := fun k hk =>
    (hg.block k (by omega) (fun e => by have := hf k e.symm; omega)).trans (ha.block k (by omega))
  refine ⟨D7.move (fun k hp _ => hmv k (hP k hp)), ⟨hg.os.trans (ha.os.trans K7.os), hg.tape.trans (ha.tape.trans K7.tape), hg.output.trans (ha.output.trans K7.output), Nat.le_trans hs1 (Nat.le_trans hs2 hg.size), fun k hk hn => (hmv k hk).trans (K7.block k hk hn)⟩, fun q hq => ?_⟩
  rcases ho with e | ⟨k, e, hk⟩
  · exact hf q (by rw [← e]; exact hq)
  · rw [hq] at e
    obtain rfl := Option.some.inj e
    omega
theorem rst_fin {xs : List Int} {at' : Int} (h0 : 0 ≤ at') (hP : ∀ k, P k → k < W.heap.size) (K8 : Kept2 W W8 P) (D8 : RA W8 P b c x8 cv sv tv iv ov) (hr : IR W8 rv xs) (hf : ∀ q, rv.ownBlock = some q → W.heap.size ≤ q) :
    RA ((W8.setCell ⟨b, 6, none⟩ rv).setCell ⟨b, 5, none⟩ (.int .i64 at')) (Zn P W W8) b c { x8 with stack := xs, at_ := at'.toNat } cv rv tv iv ov ∧ Kept2 W ((W8.setCell ⟨b, 6, none⟩ rv).setCell ⟨b, 5, none⟩ (.int .i64 at')) P ∧ W8.heap.size ≤ ((W8.setCell ⟨b, 6, none⟩ rv).setCell ⟨b, 5, none⟩ (.int .i64 at')).heap.size := by
  have D9 := (D8.mono (P' := Zn P W W8) (fun k hk => .inl hk)).newst hr (fun k hk => ⟨fun e => ?_, fun e => ?_, fun e => ?_⟩) (fun k hk => .inr ⟨hf k hk, hr.lt hk⟩)
  · refine ⟨D9.put rfl rfl rfl rfl ?_, (K8.trans (kept2_set (P := Zn P W W8) (Or.inl D8.zb) 6 rv)).trans (kept2_set (Or.inl D8.zb) 5 _), by simp [World.setCell]⟩
    simp [rmA]
    omega
  · have := hP k (D8.zs k (.inr (.inl e))); have := hf k hk; omega
  · have := hP k (D8.zs k (.inr (.inr (.inl e)))); have := hf k hk; omega
  · have := hP k (D8.zs k (.inr (.inr (.inr e)))); have := hf k hk; omega
theorem rst_out {n : Nat} (h : RA W8 (Zn P W Wa) b c x cv sv tv iv ov) (hs : Wa.heap.size ≤ W8.heap.size) (hk : Kept2 W W8 P) : RMem (W8.drewN n) (Zn P W (W8.drewN n)) b c x cv ∧ Kept2 W (W8.drewN n) P :=
  ⟨⟨_, _, _, _, (h.move (W1 := W8.drewN n) (fun k _ _ => rfl)).mono (P' := Zn P W (W8.drewN n)) (fun k hk => by
    rcases hk with hk | hk
    · exact .inl hk
    · exact .inr ⟨hk.1, Nat.lt_of_lt_of_le hk.2 hs⟩)⟩, hk.trans ⟨rfl, rfl, rfl, Nat.le_refl _, fun _ _ _ => rfl⟩⟩
end
set_option maxHeartbeats 32000000 in
set_option maxRecDepth 100000 in
theorem rst_calls {W : World} {P : Nat → Prop} {b : Nat} {c : Cf} {l : List S53} {x : Ctx} {A : Option Addr} {cap : Nat} (h : RMem W P b c x (.slice A l.length cap)) (hC : Kd.C k53 W A l.length l) (hP : ∀ k, P k → k < W.heap.size) (hat : x.at_ < l.length) (hl : l.length ≤ 4096) (he : x.ended = false) (hp : PreOne (rd_T53 l (x.at_ : Int)) x) (hs : 0 ≤ x.spent ∧ x.spent ≤ 2199023255552) (hr : Rng x) :
    Calls Try.prog 21 #[.pointer (some ⟨b, 0, none⟩)] W fun e W' => e = .returned (.tuple #[.int .i64 (cyc (rd_T53 l (x.at_ : Int)).f0), .bool (stp l x).ended, .int .i64 0]) ∧ RMem W' (Zn P W W') b c (stp l x) (.slice A l.length cap) ∧ Kept2 W W' P := by
  obtain ⟨sv, tv, iv, ov, h⟩ := h
  obtain ⟨ad, rfl, hc1, hc2⟩ := at_T53 hC (x.at_ : Int) (by omega) (by omega)
  simp only [Int.toNat_natCast] at hc1 hc2
  obtain ⟨i, hi⟩ : ∃ i, rd_T53 l (x.at_ : Int) = i := ⟨_, rfl⟩
  have hst : stp l x = { (one i x).1 with at_ := (x.at_ + (one i x).2).toNat, spent := (one i x).1.spent + cyc i.f0 } := by rw [← hi]; rfl
  rw [hi] at hc1 hc2 hp
  rw [hst, hi]
  clear hst
  have H := Aside0.mk h
  have HP := Aside0.mk hP
  have HPK := Aside0.mk hP
  have HPP := Aside0.mk hp
  have HS := Aside0.mk hs
  have HR := Aside0.mk hr
  have HD := Aside0.mk (one_dist (x := x) hp.may)
  have c11 : W.cell? ⟨b, 11, none⟩ = some (.bool false) := by rw [← he]; exact h.cell rfl
  have hatl : (x.at_ : Int) < (l.length : Int) := by omega
  have hat5 : (x.at_ : Int) < 4096 := by omega
  obtain ⟨at_, hae⟩ : ∃ q, x.at_ = q := ⟨_, rfl⟩
  have HAE := Aside0.mk hae
  have HEN := Aside0.mk he
  rw [hae] at hatl hat5
  have HC1 : Aside0 (W.cell? (ad.add (at_ * 2)) = some (.int .u8 i.f0) ∧ W.cell? ⟨(ad.add (at_ * 2)).block, (ad.add (at_ * 2)).off + 1, none⟩ = some (.int .i64 i.f1)) := ⟨by rw [← hae]; exact ⟨hc1, hc2⟩⟩
  clear h hP hp hs he hi hC hc1 hc2 hae hat hl hr
  go_enter Try.func21, Try.ntmps21
  go_wp2_with fail
  have D := Aside0.mk (H.out.move (W1 := W.drew) (fun k _ _ => rfl))
  refine start_ (n := 13) (S := fun w' => w'.cell? ⟨b, 0, none⟩ = some (.slice (some ad) l.length cap) ∧ w'.cell? ⟨b, 5, none⟩ = some (.int .i64 (at_ : Int)) ∧ w'.cell? (ad.add (at_ * 2)) = some (.int .u8 i.f0) ∧ w'.cell? ⟨(ad.add (at_ * 2)).block, (ad.add (at_ * 2)).off + 1, none⟩ = some (.int .i64 i.f1)) (ds := []) #[false, false, false, false, false, false, false, false, false, false, false, false, false] (by kernel_rfl) rfl rfl ⟨D.out.cell rfl, by rw [← HAE.out]; exact D.out.cell rfl, HC1.out.1, HC1.out.2⟩ (fun hHeld => ?_)
  have HPd : Aside0 (∀ k, P k → k < W.drew.heap.size) := ⟨HP.out⟩
  have BB := Aside0.mk (below_drew1 (Below.refl W.heap.size W))
  generalize W.drew = W1 at D hHeld HPd BB ⊢
  clear H c11 HP
  refine pure_ (i := 0) (N := some 18) (v := ?_) (a' := ?_) #[true, false, false, false, false, false, false, false, false, false, false, false, false] rfl rfl (by kernel_rfl) (fun _ _ _ h => h) (Or.inl ⟨by rfl, ?_⟩) ?_ ?_
  rotate_left
  · intro w'
    go_simp
    with_reducible rfl
  rotate_left
  · simp only [Act.put, List.setIfInBounds_toArray, List.set_cons_zero, List.set_cons_succ, i64_w, i32_w]
    rfl
  refine pure_ (i := 1) (N := some 19) (v := ?_) (a' := ?_) #[true, true, false, false, false, false, false, false, false, false, false, false, false] rfl rfl (by kernel_rfl) (fun _ _ _ h => h) (Or.inl ⟨by rfl, ?_⟩) ?_ ?_
  rotate_left
  · intro w'
    go_simp
    with_reducible rfl
  rotate_left
  · simp only [Act.put, List.setIfInBounds_toArray, List.set_cons_zero, List.set_cons_succ, i64_w, i32_w]
    rfl
  refine pure_ (i := 2) (N := some 20) (v := ?_) (a' := ?_) #[true, true, true, false, false, false, false, false, false, false, false, false, false] rfl rfl (by kernel_rfl) (fun _ _ _ h => h) (Or.inl ⟨by rfl, ?_⟩) ?_ ?_
  rotate_left
  · intro w'
    go_simp
    with_reducible rfl
  rotate_left
  · simp only [Act.put, List.setIfInBounds_toArray, List.set_cons_zero, List.set_cons_succ, i64_w, i32_w]
    rfl
  refine take_ (i := 3) (N := some 21) (v := ?_) (a' := ?_) #[true, true, true, true, false, false, false, false, false, false, false, false, false] rfl rfl (by kernel_rfl) (fun _ _ _ h => h) (Or.inl ⟨by rfl, ?_⟩) hHeld ?_ ?_
  rotate_left
  · rintro w' ⟨s0, s1, s2, s3⟩
    go_simp
    with_reducible rfl
  rotate_left
  · simp only [Act.put, List.setIfInBounds_toArray, List.set_cons_zero, List.set_cons_succ, i64_w, i32_w]
    rfl
  refine pure_ (i := 4) (N := some 22) (v := ?_) (a' := ?_) #[true, true, true, true, true, false, false, false, false, false, false, false, false] rfl rfl (by kernel_rfl) (fun _ _ _ h => h) (Or.inl ⟨by rfl, ?_⟩) ?_ ?_
  rotate_left
  · intro w'
    go_simp
    with_reducible rfl
  rotate_left
  · simp only [Act.put, List.setIfInBounds_toArray, List.set_cons_zero, List.set_cons_succ, i64_w, i32_w]
    rfl
  refine pure_ (i := 5) (N := some 23) (v := ?_) (a' := ?_) #[true, true, true, true, true, true, false, false, false, false, false, false, false] rfl rfl (by kernel_rfl) (fun _ _ _ h => h) (Or.inl ⟨by rfl, ?_⟩) ?_ ?_
  rotate_left
  · intro w'
    go_simp
    with_reducible rfl
  rotate_left
  · simp only [Act.put, List.setIfInBounds_toArray, List.set_cons_zero, List.set_cons_succ, i64_w, i32_w]
    rfl
  refine pure_ (i := 6) (N := some 24) (v := ?_) (a' := ?_) #[true, true, true, true, true, true, true, false, false, false, false, false, false] rfl rfl (by kernel_rfl) (fun _ _ _ h => h) (Or.inl ⟨by rfl, ?_⟩) ?_ ?_
  rotate_left
  · intro w'
    go_simp
    with_reducible rfl
  rotate_left
  · simp only [Act.put, List.setIfInBounds_toArray, List.set_cons_zero, List.set_cons_succ, i64_w, i32_w]
    rfl
  refine pure_ (i := 7) (N := some 25) (v := ?_) (a' := ?_) #[true, true, true, true, true, true, true, true, false, false, false, false, false] rfl rfl (by kernel_rfl) (fun _ _ _ h => h) (Or.inl ⟨by rfl, ?_⟩) ?_ ?_
  rotate_left
  · intro w'
    go_simp
    with_reducible rfl
  rotate_left
  · simp only [Act.put, List.setIfInBounds_toArray, List.set_cons_zero, List.set_cons_succ, i64_w, i32_w]
    rfl
  refine take_ (i := 8) (N := some 26) (v := ?_) (a' := ?_) #[true, true, true, true, true, true, true, true, true, false, false, false, false] rfl rfl (by kernel_rfl) (fun _ _ _ h => h) (Or.inl ⟨by rfl, ?_⟩) hHeld ?_ ?_
  rotate_left
  · rintro w' ⟨s0, s1, s2, s3⟩
    go_simp
    with_reducible rfl
  rotate_left
  · simp only [Act.put, List.setIfInBounds_toArray, List.set_cons_zero, List.set_cons_succ, i64_w, i32_w]
    rfl
  refine pure_ (i := 9) (N := some 27) (v := ?_) (a' := ?_) #[true, true, true, true, true, true, true, true, true, true, false, false, false] rfl rfl (by kernel_rfl) (fun _ _ _ h => h) (Or.inl ⟨by rfl, ?_⟩) ?_ ?_
  rotate_left
  · intro w'
    go_simp
    with_reducible rfl
  rotate_left
  · simp only [Act.put, List.setIfInBounds_toArray, List.set_cons_zero, List.set_cons_succ, i64_w, i32_w]
    rfl
  refine take_ (i := 10) (N := some 28) (v := ?_) (a' := ?_) #[true, true, true, true, true, true, true, true, true, true, true, false, false] rfl rfl (by kernel_rfl) (fun _ _ _ h => h) (Or.inl ⟨by rfl, ?_⟩) hHeld ?_ ?_
  rotate_left
  · rintro w' ⟨s0, s1, s2, s3⟩
    go_simp
    with_reducible rfl
  rotate_left
  · simp only [Act.put, List.setIfInBounds_toArray, List.set_cons_zero, List.set_cons_succ, i64_w, i32_w]
    rfl
  refine one_ (i := 11) (N := some 5) #[true, true, true, true, true, true, true, true, true, true, true, true, false] rfl rfl (by kernel_rfl) (by decide) (fun K hK => ?_)
  refine value_ (v := .pointer (some ⟨W1.heap.size, 0, none⟩)) (w1 := W1.alloc (.cells #[.int .u8 0, .int .i64 0] (53 : Nat))) (by rfl) rfl ?_ ?_
  · have hz := zero53
    go_simp
  have hsz : W1.heap.size < (W1.alloc (.cells #[.int .u8 0, .int .i64 0] (53 : Nat))).heap.size := by simp
  have D2 := Aside0.mk (D.out.move (W1 := W1.alloc (.cells #[.int .u8 0, .int .i64 0] (53 : Nat))) (fun k _ hk => heap_alloc_old _ _ hk))
  have I2 := Aside0.mk (heap_alloc_new W1 (.cells #[.int .u8 0, .int .i64 0] (53 : Nat)))
  have hnb : W1.heap.size ≠ b := by have := (Array.getElem?_eq_some_iff.1 D.out.vb).1; omega
  have hb1 : ∀ k, k < W1.heap.size → (W1.alloc (.cells #[.int .u8 0, .int .i64 0] (53 : Nat))).heap[k]? = W1.heap[k]? := fun k hk => heap_alloc_old _ _ hk
  refine hK.out _ _ ⟨D2.out.cell rfl, by rw [← HAE.out]; exact D2.out.cell rfl, pw_cell_below ((Below.refl _ _).alloc (Nat.le_refl _) _) hHeld.2.2.1, pw_cell_below ((Below.refl _ _).alloc (Nat.le_refl _) _) hHeld.2.2.2⟩ (fun hHeld2 => ?_)
  clear hK K
  refine norm_ (a' := ?_) ?_ ?_
  rotate_left
  · show Act.put _ (some 5) _ = _
    simp only [Act.put, List.setIfInBounds_toArray, List.set_cons_zero, List.set_cons_succ, i64_w, i32_w]
    rfl
  have B2 := Aside0.mk ((Below.refl W1.heap.size W1).alloc (Nat.le_refl _) (.cells #[.int .u8 0, .int .i64 0] (53 : Nat)))
  have HPI : Aside0 (¬ P W1.heap.size) := ⟨fun e => by have := HPd.out _ e; omega⟩
  generalize hW2 : W1.alloc (.cells #[.int .u8 0, .int .i64 0] (53 : Nat)) = W2 at D2 I2 hHeld2 hb1 hsz B2 ⊢
  clear hW2
  have LOB : Aside0 (¬ W1.heap.size < W.heap.size) := ⟨by have := BB.out.size; omega⟩
  generalize hib : W1.heap.size = ib at LOB I2 hnb hb1 hsz HPI ⊢
  refine one_ (i := 12) (N := none) #[true, true, true, true, true, true, true, true, true, true, true, true, true] rfl rfl (by kernel_rfl) (by decide) (fun K hK => ?_)
  refine skip_ (w1 := W2.setRow ib #[.int .u8 i.f0, .int .i64 i.f1]) (by rfl) rfl ?_ ?_
  · refine istore_run (.tmp 5) (.tmp 28) ?_ ?_ ?_ I2.out
    · rfl
    · rfl
    · rfl
  have hoth : ∀ k, k ≠ ib → (W2.setRow ib #[.int .u8 i.f0, .int .i64 i.f1]).heap[k]? = W2.heap[k]? := fun k hk => setRow_other W2 ib k _ hk
  have D3 := Aside0.mk (D2.out.move (W1 := W2.setRow ib #[.int .u8 i.f0, .int .i64 i.f1]) (fun k hk _ => hoth k (fun e => HPI.out (e ▸ hk))))
  have I3 := Aside0.mk (setRow_heap W2 ib _ #[.int .u8 i.f0, .int .i64 i.f1] _ _ I2.out)
  have B3 := Aside0.mk (setRow_below2 (B := W1.heap.size) B2.out (Nat.le_of_eq hib) #[.int .u8 i.f0, .int .i64 i.f1])
  have B4 : Aside0 (Below W.heap.size W (W2.setRow ib #[.int .u8 i.f0, .int .i64 i.f1])) := ⟨BB.out.trans (B3.out.mono BB.out.size)⟩
  have S3 : Aside0 (ib < (W2.setRow ib #[.int .u8 i.f0, .int .i64 i.f1]).heap.size) := ⟨by simpa using hsz⟩
  have P3 : Aside0 (∀ k, P k → k < (W2.setRow ib #[.int .u8 i.f0, .int .i64 i.f1]).heap.size) := ⟨fun k hk => by have := HPd.out k hk; simp; omega⟩
  have c1 := pw_cell_below B3.out hHeld.2.2.1
  have c2 := pw_cell_below B3.out hHeld.2.2.2
  refine hK.out _ _ ⟨D3.out.cell rfl, by rw [← HAE.out]; exact D3.out.cell rfl, c1, c2⟩ (fun hHeld3 => ?_)
  clear hK K hHeld hHeld2 hHeld3 c1 c2 D D2 I2 hb1 hsz B2 B3 hoth HPd BB hnb hib
  generalize W2.setRow ib #[.int .u8 i.f0, .int .i64 i.f1] = W3 at D3 I3 B4 S3 P3 ⊢
  refine done_ (by kernel_rfl) ?_
  have NB : Aside0 (ib ≠ b) := ⟨fun e => HPI.out (e ▸ D3.out.zb)⟩
  have LO : Aside0 (W.heap.size ≤ ib) := ⟨by
    refine Nat.le_of_not_lt (fun h => ?_)
    exact LOB.out h⟩
  obtain ⟨op, ar⟩ := i
  have y0 : W3.cell? ⟨ib, 0, none⟩ = some (.int .u8 op) := by simp [World.cell?, I3.out]
  have y1 : W3.cell? ⟨ib, 1, none⟩ = some (.int .i64 ar) := by simp [World.cell?, I3.out]
  go_wp2_with fail
  obtain ⟨K1, hK1⟩ := ev_rcycles op
  have HK1 := Aside0.mk (hK1 K1 (Nat.le_refl _))
  obtain ⟨cyv, hcyv⟩ : ∃ v, cyc op = v := ⟨_, rfl⟩
  rw [hcyv] at HK1
  have HCY := Aside0.mk hcyv
  obtain ⟨cy0, cy1⟩ := cyc_range op
  rw [hcyv] at cy0 cy1
  clear hK1 hcyv y0 y1
  refine (carillonref18_Cycles.calls K1 op cyv _ HK1.out).mono ?_
  rintro e W4 ⟨rfl, hd⟩
  have hb := hd.below
  have D4 := Aside0.mk (D3.out.below hb)
  have I4 := Aside0.mk ((hb.block ib S3.out).trans I3.out)
  have K4 := Aside0.mk (Kept2.of_below (P := P) (B4.out.trans (hb.mono B4.out.size)))
  clear hd hb D3 I3 B4 S3 P3
  have y0 : W4.cell? ⟨ib, 0, none⟩ = some (.int .u8 op) := by simp [World.cell?, I4.out]
  have y1 : W4.cell? ⟨ib, 1, none⟩ = some (.int .i64 ar) := by simp [World.cell?, I4.out]
  have s10 : W4.cell? ⟨b, 10, none⟩ = some (.int .i64 x.spent) := D4.out.cell rfl
  have f10 : W4.frozen? ⟨b, 10, none⟩ = false := D4.out.froz 10
  have hne : ib ≠ b := NB.out
  obtain ⟨spv, hspv⟩ : ∃ v, x.spent = v := ⟨_, rfl⟩
  have HSP := Aside0.mk hspv
  rw [hspv] at s10
  have sp0 : 0 ≤ spv := by rw [← hspv]; exact HS.out.1
  have sp1 : spv ≤ 2199023255552 := by rw [← hspv]; exact HS.out.2
  clear hspv
  go_wp2_with fail
  have D5 : Aside0 (RA (W4.setCell ⟨b, 10, none⟩ (.int .i64 (spv + cyv))) P b c { x with spent := spv + cyv } (.slice (some ad) l.length cap) sv tv iv ov) := ⟨D4.out.put rfl rfl rfl rfl (by simp [rmA])⟩
  have I5 : Aside0 ((W4.setCell ⟨b, 10, none⟩ (.int .i64 (spv + cyv))).heap[ib]? = some (.cells #[.int .u8 op, .int .i64 ar] (53 : Nat) (0, 0))) := ⟨(Below.heap_setCell W4 ⟨b, 10, none⟩ _ ib NB.out).trans I4.out⟩
  have K5 : Aside0 (Kept2 W (W4.setCell ⟨b, 10, none⟩ (.int .i64 (spv + cyv))) P) := ⟨K4.out.trans (kept2_set (.inl D4.out.zb) 10 _)⟩
  clear y0 y1 s10 f10 D4 I4 K4 cy0 cy1 sp0 sp1
  generalize W4.setCell ⟨b, 10, none⟩ (.int .i64 (spv + cyv)) = W5 at D5 I5 K5 ⊢
  obtain ⟨K2, hK2⟩ := ev_reff op
  have HK2 := Aside0.mk (hK2 K2 (Nat.le_refl _))
  obtain ⟨tk, htk⟩ : ∃ v, tks op = v := ⟨_, rfl⟩
  obtain ⟨gv, hgv⟩ : ∃ v, gvs op = v := ⟨_, rfl⟩
  have htg := tg_range op
  have hpt := HPP.out.tk
  simp only at hpt
  rw [htk, hgv] at HK2
  rw [htk] at htg hpt
  have HTK := Aside0.mk htk
  clear hK2 htk hgv
  refine (carillonref19_Effect.calls K2 op tk gv _ HK2.out).mono ?_
  rintro e W6 ⟨rfl, hd⟩
  have hb := hd.below
  have D6 := Aside0.mk (D5.out.below hb)
  have I6 := Aside0.mk ((hb.block ib (Array.getElem?_eq_some_iff.1 I5.out).1).trans I5.out)
  have K6 := Aside0.mk (K5.out.trans (Kept2.of_below hb))
  clear hd hb D5 I5 K5
  obtain ⟨A6, c6, hsv, hc6⟩ := D6.out.st.slice
  simp only at hsv hc6
  subst hsv
  have s6 : W6.cell? ⟨b, 6, none⟩ = some (.slice A6 x.stack.length c6) := D6.out.cell rfl
  obtain ⟨k, hk⟩ : ∃ k : Nat, (x.stack.length : Int) - tk = (k : Int) := ⟨((x.stack.length : Int) - tk).toNat, by omega⟩
  obtain ⟨n, hn⟩ : ∃ n, x.stack.length = n := ⟨_, rfl⟩
  have HNK := Aside0.mk (And.intro hn hk)
  rw [hn] at s6 hk hpt hc6
  have hn5 : n ≤ 100000 := by rw [← hn]; have := HPP.out.len; omega
  have hkn : k ≤ n := by omega
  have hkc : k ≤ c6 := by omega
  obtain ⟨⟨tk0, tk1⟩, _⟩ := htg
  clear hn
  go_wp2_with fail
  have TKC := rcopied_calls D6.out.st (k := k) (by rw [HNK.out.1]; exact hkn) (by rw [HNK.out.1]; omega)
  refine TKC.mono ?_
  clear TKC
  rintro e W7 ⟨rv, rfl, hI, hF, hb⟩
  have D7 := Aside0.mk (D6.out.below hb)
  have I7 := Aside0.mk ((hb.block ib (Array.getElem?_eq_some_iff.1 I6.out).1).trans I6.out)
  have K7 := Aside0.mk (K6.out.trans (Kept2.of_below hb))
  have F7 : Aside0 (∀ q, rv.ownBlock = some q → W.heap.size ≤ q) := ⟨fun q hq => Nat.le_trans K6.out.size (hF q hq).1⟩
  clear hb hF D6 I6 K6 s6 HK1 HK2
  obtain ⟨Ar, cr, hrv, _⟩ := hI.slice
  rw [show (x.stack.take k).length = k by rw [List.length_take, HNK.out.1]; omega] at hrv
  subst hrv
  have R7 := Aside0.mk hI
  clear hI
  have y5 : W7.cell? ⟨b, 5, none⟩ = some (.int .i64 (at_ : Int)) := by rw [← HAE.out]; exact D7.out.cell rfl
  have y0 : W7.cell? ⟨ib, 0, none⟩ = some (.int .u8 op) := by simp [World.cell?, I7.out]
  have y1 : W7.cell? ⟨ib, 1, none⟩ = some (.int .i64 ar) := by simp [World.cell?, I7.out]
  by_cases o1 : op = 1
  · subst o1
    go_wp2_with ((with_reducible refine gate_builtin (b := .append) (xs := #[.tmp 87, .tmp 90]) rfl ?_); refine stop_here ?_)
    unfold Stop
    have BA : Aside0 (Below W7.heap.size W7 (W7.alloc (.cells #[.int .i64 ar] (2 : Nat)))) := ⟨(Below.refl _ _).alloc (Nat.le_refl _) _⟩
    refine wpList_more rfl (.tmp 87) (.tmp 90) rfl [ar] rfl (R7.out.move (fun q hq => heap_alloc_old _ _ (R7.out.lt hq))) rfl ?hc ?hl ?_
    case hc =>
      intro j y hj
      have hj0 : j = 0 := by have := (List.getElem?_eq_some_iff.1 hj).1; simpa using this
      subst hj0
      have hy : ar = y := by simpa using hj
      subst hy
      rw [show (⟨W7.heap.size, 0, none⟩ : Addr).add 0 = ⟨W7.heap.size, 0, none⟩ by simp [Addr.add]]
      exact box_cell (heap_alloc_new _ _)
    case hl =>
      have := HNK.out.1
      rw [List.length_take]
      simp only [List.length_singleton]
      omega
    intro rv' W8 hr' hg' ho'
    obtain ⟨d8, k8, f8⟩ := rst_more HPK.out K7.out D7.out F7.out BA.out hg' ho'
    have D8 := Aside0.mk d8
    have K8 := Aside0.mk k8
    have F8 := Aside0.mk f8
    have R8 := Aside0.mk hr'
    obtain ⟨A8, c8, hsl', _⟩ := hr'.slice
    rw [show (x.stack.take k ++ [ar]).length = k + 1 by rw [List.length_append, List.length_take, HNK.out.1]; simp; omega] at hsl'
    subst hsl'
    clear hr' hg' ho' d8 k8 f8 BA D7 K7 F7 R7
    try clear I7 y0 y1 y5
    have f6 := D8.out.froz 6
    have f5 := D8.out.froz 5
    have q6 : W8.cell? ⟨b, 6, none⟩ = some (.slice A6 x.stack.length c6) := D8.out.cell rfl
    have q5 : W8.cell? ⟨b, 5, none⟩ = some (.int .i64 (at_ : Int)) := by rw [← HAE.out]; exact D8.out.cell rfl
    have G := Aside0.mk (rst_fin (at' := (at_ : Int) + 1) (by omega) HPK.out K8.out D8.out R8.out F8.out)
    clear D8 K8 R8 F8
    go_wp2_with fail
    generalize (W8.setCell ⟨b, 6, none⟩ (.slice A8 (k + 1) c8)).setCell ⟨b, 5, none⟩ (.int .i64 ((at_ : Int) + 1)) = W9 at G ⊢
    have e11 : W9.cell? ⟨b, 11, none⟩ = some (.bool false) := by rw [← HEN.out]; exact G.out.1.cell rfl
    clear f6 f5 q6 q5 
    go_quiet (fail)
    go_wp2
    go_ret3
    have O := rst_out (n := nq) G.out.1 G.out.2.2 G.out.2.1
    clear G e11
    have HN2 := HNK.out
    have HTK2 := HTK.out
    simp [tks] at HTK2
    have eo : one ⟨1, ar⟩ x = ({ x with stack := x.stack.take k ++ [ar] }, 1) := by have hts := take_all (n := n) (k := k) (x := x) (by rw [← HTK2] at HN2; exact HN2); rw [hts]; simp [one, Ctx.push]
    rw [eo, HCY.out]
    dsimp only at O ⊢
    rw [HAE.out, HSP.out]
    exact ⟨by rw [HEN.out]; rfl, O.1, O.2⟩
  by_cases o2 : op = 2
  · subst o2
    have ha : 0 ≤ ar := by have hmy := HPP.out.may; simp [mayB] at hmy; omega
    have hl : ar.toNat < x.slots.length := by have := HPP.out.sl (by simp); simp only at this; omega
    obtain ⟨g, cp, hsv, hcap, _, hc, _, _⟩ := D7.out.sl.cell hl
    have x7 : W7.cell? ⟨b, 7, none⟩ = some tv := D7.out.cell rfl
    rw [hsv] at x7
    obtain ⟨tx, htx⟩ : ∃ tx, x.slots.getD ar.toNat 0 = tx := ⟨_, rfl⟩
    have hal : ar < (x.slots.length : Int) := by omega
    have T := Aside0.mk htx
    have HA := Aside0.mk ha
    dsimp only at hc
    rw [htx] at hc
    clear htx hsv hl hcap
    go_wp2_with fail
    have X1 := Aside0.mk (And.intro x7 (And.intro y1 hc))
    clear x7 y1 hc y0 y5
    have D7b := Aside0.mk (D7.out.move (W1 := W7.drew) (fun k _ _ => rfl))
    have R7b := Aside0.mk (R7.out.move (W' := W7.drew) (fun k _ => rfl))
    have K7b : Aside0 (Kept2 W W7.drew P) := ⟨K7.out.trans ⟨rfl, rfl, rfl, Nat.le_refl _, fun _ _ _ => rfl⟩⟩
    clear D7 R7 K7 I7
    refine start_ (n := 13) (S := fun w' => w'.cell? ⟨b, 7, none⟩ = some (.slice (some ⟨g, 0, none⟩) x.slots.length cp) ∧ w'.cell? ⟨ib, 1, none⟩ = some (.int .i64 ar) ∧ w'.cell? ⟨g, ar.toNat, none⟩ = some (.int .i64 tx)) (ds := [10, 11]) #[false, false, false, false, false, false, false, false, false, false, false, false, false] (by kernel_rfl) rfl rfl X1.out (fun hHeld => ?_)
    generalize W7.drew = W7 at D7b R7b K7b hHeld ⊢
    have D7 := D7b
    have R7 := R7b
    have K7 := K7b
    clear D7b R7b K7b
    refine pure_ (i := 0) (N := some 94) (v := ?_) (a' := ?_) #[true, false, false, false, false, false, false, false, false, false, false, false, false] rfl rfl (by kernel_rfl) (fun _ _ _ h => h) (Or.inl ⟨by rfl, ?_⟩) ?_ ?_
    rotate_left
    · intro w'
      go_simp
      with_reducible rfl
    rotate_left
    · simp only [Act.put, List.setIfInBounds_toArray, List.set_cons_zero, List.set_cons_succ, i64_w, i32_w]
      rfl
    refine pure_ (i := 1) (N := some 95) (v := ?_) (a' := ?_) #[true, true, false, false, false, false, false, false, false, false, false, false, false] rfl rfl (by kernel_rfl) (fun _ _ _ h => h) (Or.inl ⟨by rfl, ?_⟩) ?_ ?_
    rotate_left
    · intro w'
      go_simp
      with_reducible rfl
    rotate_left
    · simp only [Act.put, List.setIfInBounds_toArray, List.set_cons_zero, List.set_cons_succ, i64_w, i32_w]
      rfl
    refine pure_ (i := 2) (N := some 96) (v := ?_) (a' := ?_) #[true, true, true, false, false, false, false, false, false, false, false, false, false] rfl rfl (by kernel_rfl) (fun _ _ _ h => h) (Or.inl ⟨by rfl, ?_⟩) ?_ ?_
    rotate_left
    · intro w'
      go_simp
      with_reducible rfl
    rotate_left
    · simp only [Act.put, List.setIfInBounds_toArray, List.set_cons_zero, List.set_cons_succ, i64_w, i32_w]
      rfl
    refine pure_ (i := 3) (N := some 97) (v := ?_) (a' := ?_) #[true, true, true, true, false, false, false, false, false, false, false, false, false] rfl rfl (by kernel_rfl) (fun _ _ _ h => h) (Or.inl ⟨by rfl, ?_⟩) ?_ ?_
    rotate_left
    · intro w'
      go_simp
      with_reducible rfl
    rotate_left
    · simp only [Act.put, List.setIfInBounds_toArray, List.set_cons_zero, List.set_cons_succ, i64_w, i32_w]
      rfl
    refine pure_ (i := 4) (N := some 98) (v := ?_) (a' := ?_) #[true, true, true, true, true, false, false, false, false, false, false, false, false] rfl rfl (by kernel_rfl) (fun _ _ _ h => h) (Or.inl ⟨by rfl, ?_⟩) ?_ ?_
    rotate_left
    · intro w'
      go_simp
      with_reducible rfl
    rotate_left
    · simp only [Act.put, List.setIfInBounds_toArray, List.set_cons_zero, List.set_cons_succ, i64_w, i32_w]
      rfl
    refine take_ (i := 5) (N := some 99) (v := ?_) (a' := ?_) #[true, true, true, true, true, true, false, false, false, false, false, false, false] rfl rfl (by kernel_rfl) (fun _ _ _ h => h) (Or.inl ⟨by rfl, ?_⟩) hHeld ?_ ?_
    rotate_left
    · rintro w' ⟨s0, s1, s2⟩
      go_simp
      with_reducible rfl
    rotate_left
    · simp only [Act.put, List.setIfInBounds_toArray, List.set_cons_zero, List.set_cons_succ, i64_w, i32_w]
      rfl
    refine pure_ (i := 6) (N := some 100) (v := ?_) (a' := ?_) #[true, true, true, true, true, true, true, false, false, false, false, false, false] rfl rfl (by kernel_rfl) (fun _ _ _ h => h) (Or.inl ⟨by rfl, ?_⟩) ?_ ?_
    rotate_left
    · intro w'
      go_simp
      with_reducible rfl
    rotate_left
    · simp only [Act.put, List.setIfInBounds_toArray, List.set_cons_zero, List.set_cons_succ, i64_w, i32_w]
      rfl
    refine take_ (i := 7) (N := some 101) (v := ?_) (a' := ?_) #[true, true, true, true, true, true, true, true, false, false, false, false, false] rfl rfl (by kernel_rfl) (fun _ _ _ h => h) (Or.inl ⟨by rfl, ?_⟩) hHeld ?_ ?_
    rotate_left
    · rintro w' ⟨s0, s1, s2⟩
      go_simp
      with_reducible rfl
    rotate_left
    · simp only [Act.put, List.setIfInBounds_toArray, List.set_cons_zero, List.set_cons_succ, i64_w, i32_w]
      rfl
    refine pure_ (i := 8) (N := some 102) (v := ?_) (a' := ?_) #[true, true, true, true, true, true, true, true, true, false, false, false, false] rfl rfl (by kernel_rfl) (fun _ _ _ h => h) (Or.inl ⟨by rfl, ?_⟩) ?_ ?_
    rotate_left
    · intro w'
      go_simp
      with_reducible rfl
    rotate_left
    · simp only [Act.put, List.setIfInBounds_toArray, List.set_cons_zero, List.set_cons_succ, i64_w, i32_w]
      rfl
    refine take_ (i := 9) (N := some 103) (v := ?_) (a' := ?_) #[true, true, true, true, true, true, true, true, true, true, false, false, false] rfl rfl (by kernel_rfl) (fun _ _ _ h => h) (Or.inl ⟨by rfl, ?_⟩) hHeld ?_ ?_
    rotate_left
    · rintro w' ⟨s0, s1, s2⟩
      go_simp
      with_reducible rfl
    rotate_left
    · simp only [Act.put, List.setIfInBounds_toArray, List.set_cons_zero, List.set_cons_succ, i64_w, i32_w]
      rfl
    refine last_ (i := 10) (N := some 104) #[true, true, true, true, true, true, true, true, true, true, true, false, false] rfl rfl (by kernel_rfl) (by decide) (fun K hK => ?_)
    refine value_ (v := .slice (some ⟨W7.heap.size, 0, none⟩) 1 1) (w1 := W7.alloc (.cells #[.int .i64 tx] (2 : Nat))) (by rfl) rfl ?_ ?_
    · go_simp
    refine hK.out _ _ ?_
    clear hK K
    refine norm_ (a' := ?_) ?_ ?_
    rotate_left
    · show Act.put _ (some 104) _ = _
      simp only [Act.put, List.setIfInBounds_toArray, List.set_cons_zero, List.set_cons_succ, i64_w, i32_w]
      rfl
    have BA : Aside0 (Below W7.heap.size W7 (W7.alloc (.cells #[.int .i64 tx] (2 : Nat)))) := ⟨(Below.refl _ _).alloc (Nat.le_refl _) _⟩
    obtain ⟨rv', W8, hrun, hr', hg', ho'⟩ := run_more (ys := [tx]) (R7.out.move (W' := W7.alloc (.cells #[.int .i64 tx] (2 : Nat))) (fun q hq => heap_alloc_old _ _ (R7.out.lt hq))) 25 ⟨W7.heap.size, 0, none⟩ 1 (by
      intro j y hj
      have hj0 : j = 0 := by have := (List.getElem?_eq_some_iff.1 hj).1; simpa using this
      subst hj0
      have hy : tx = y := by simpa using hj
      subst hy
      rw [show (⟨W7.heap.size, 0, none⟩ : Addr).add 0 = ⟨W7.heap.size, 0, none⟩ by simp [Addr.add]]
      exact box_cell (heap_alloc_new _ _)) (by
      have := HNK.out.1
      rw [List.length_take]
      simp only [List.length_singleton]
      omega)
    obtain ⟨A8, c8, hsl', _⟩ := hr'.slice
    rw [show (x.stack.take k ++ [tx]).length = k + 1 by rw [List.length_append, List.length_take, HNK.out.1]; simp; omega] at hsl'
    subst hsl'
    refine last_ (i := 11) (N := some 105) #[true, true, true, true, true, true, true, true, true, true, true, true, false] rfl rfl (by kernel_rfl) (by decide) (fun K hK => ?_)
    refine value_ (v := .slice A8 (k + 1) c8) (w1 := W8) (by rfl) rfl ?_ ?_
    · exact more_run (.tmp 94) (.tmp 104) rfl rfl rfl hrun
    refine hK.out _ _ ?_
    clear hK K
    obtain ⟨d8, k8, f8⟩ := rst_more HPK.out K7.out D7.out F7.out BA.out hg' ho'
    have D8 := Aside0.mk d8
    have K8 := Aside0.mk k8
    have F8 := Aside0.mk f8
    have R8 := Aside0.mk hr'
    clear hr' hg' ho' hrun d8 k8 f8 BA D7 K7 F7 R7
    refine norm_ (a' := ?_) ?_ ?_
    rotate_left
    · show Act.put _ (some 105) _ = _
      simp only [Act.put, List.setIfInBounds_toArray, List.set_cons_zero, List.set_cons_succ, i64_w, i32_w]
      rfl
    refine pure_ (i := 12) (N := some 11) (v := ?_) (a' := ?_) #[true, true, true, true, true, true, true, true, true, true, true, true, true] rfl rfl (by kernel_rfl) (fun _ _ _ h => h) (Or.inl ⟨by rfl, ?_⟩) ?_ ?_
    rotate_left
    · intro w'
      go_simp
      with_reducible rfl
    rotate_left
    · simp only [Act.put, List.setIfInBounds_toArray, List.set_cons_zero, List.set_cons_succ, i64_w, i32_w]
      rfl
    refine done_ (by kernel_rfl) ?_
    clear hHeld X1
    have f6 := D8.out.froz 6
    have f5 := D8.out.froz 5
    have q6 : W8.cell? ⟨b, 6, none⟩ = some (.slice A6 x.stack.length c6) := D8.out.cell rfl
    have q5 : W8.cell? ⟨b, 5, none⟩ = some (.int .i64 (at_ : Int)) := by rw [← HAE.out]; exact D8.out.cell rfl
    have G := Aside0.mk (rst_fin (at' := (at_ : Int) + 1) (by omega) HPK.out K8.out D8.out R8.out F8.out)
    clear D8 K8 R8 F8
    go_wp2_with fail
    generalize (W8.setCell ⟨b, 6, none⟩ (.slice A8 (k + 1) c8)).setCell ⟨b, 5, none⟩ (.int .i64 ((at_ : Int) + 1)) = W9 at G ⊢
    have e11 : W9.cell? ⟨b, 11, none⟩ = some (.bool false) := by rw [← HEN.out]; exact G.out.1.cell rfl
    clear f6 f5 q6 q5 
    go_quiet (fail)
    go_wp2
    go_ret3
    have O := rst_out (n := nq) G.out.1 G.out.2.2 G.out.2.1
    clear G e11
    have HN2 := HNK.out
    have HTK2 := HTK.out
    simp [tks] at HTK2
    have eo : one ⟨2, ar⟩ x = ({ x with stack := x.stack.take k ++ [tx] }, 1) := by have hts := take_all (n := n) (k := k) (x := x) (by rw [← HTK2] at HN2; exact HN2); rw [hts]; simp [one, Ctx.push, ← T.out]
    rw [eo, HCY.out]
    dsimp only at O ⊢
    rw [HAE.out, HSP.out]
    exact ⟨by rw [HEN.out]; rfl, O.1, O.2⟩
  by_cases o4 : op = 4
  · subst o4
    have ha : 0 ≤ ar := by have hmy := HPP.out.may; simp [mayB] at hmy; omega
    have hl : ar.toNat < x.ins.length := by have := HPP.out.inn (by simp); simp only at this; omega
    obtain ⟨g, cp, hsv, hcap, _, hc, _, _⟩ := D7.out.inn.cell hl
    have x7 : W7.cell? ⟨b, 8, none⟩ = some iv := D7.out.cell rfl
    rw [hsv] at x7
    obtain ⟨tx, htx⟩ : ∃ tx, x.ins.getD ar.toNat 0 = tx := ⟨_, rfl⟩
    have hal : ar < (x.ins.length : Int) := by omega
    have T := Aside0.mk htx
    have HA := Aside0.mk ha
    dsimp only at hc
    rw [htx] at hc
    clear htx hsv hl hcap
    go_wp2_with fail
    have X1 := Aside0.mk (And.intro x7 (And.intro y1 hc))
    clear x7 y1 hc y0 y5
    have D7b := Aside0.mk (D7.out.move (W1 := W7.drew) (fun k _ _ => rfl))
    have R7b := Aside0.mk (R7.out.move (W' := W7.drew) (fun k _ => rfl))
    have K7b : Aside0 (Kept2 W W7.drew P) := ⟨K7.out.trans ⟨rfl, rfl, rfl, Nat.le_refl _, fun _ _ _ => rfl⟩⟩
    clear D7 R7 K7 I7
    refine start_ (n := 13) (S := fun w' => w'.cell? ⟨b, 8, none⟩ = some (.slice (some ⟨g, 0, none⟩) x.ins.length cp) ∧ w'.cell? ⟨ib, 1, none⟩ = some (.int .i64 ar) ∧ w'.cell? ⟨g, ar.toNat, none⟩ = some (.int .i64 tx)) (ds := [10, 11]) #[false, false, false, false, false, false, false, false, false, false, false, false, false] (by kernel_rfl) rfl rfl X1.out (fun hHeld => ?_)
    generalize W7.drew = W7 at D7b R7b K7b hHeld ⊢
    have D7 := D7b
    have R7 := R7b
    have K7 := K7b
    clear D7b R7b K7b
    refine pure_ (i := 0) (N := some 122) (v := ?_) (a' := ?_) #[true, false, false, false, false, false, false, false, false, false, false, false, false] rfl rfl (by kernel_rfl) (fun _ _ _ h => h) (Or.inl ⟨by rfl, ?_⟩) ?_ ?_
    rotate_left
    · intro w'
      go_simp
      with_reducible rfl
    rotate_left
    · simp only [Act.put, List.setIfInBounds_toArray, List.set_cons_zero, List.set_cons_succ, i64_w, i32_w]
      rfl
    refine pure_ (i := 1) (N := some 123) (v := ?_) (a' := ?_) #[true, true, false, false, false, false, false, false, false, false, false, false, false] rfl rfl (by kernel_rfl) (fun _ _ _ h => h) (Or.inl ⟨by rfl, ?_⟩) ?_ ?_
    rotate_left
    · intro w'
      go_simp
      with_reducible rfl
    rotate_left
    · simp only [Act.put, List.setIfInBounds_toArray, List.set_cons_zero, List.set_cons_succ, i64_w, i32_w]
      rfl
    refine pure_ (i := 2) (N := some 124) (v := ?_) (a' := ?_) #[true, true, true, false, false, false, false, false, false, false, false, false, false] rfl rfl (by kernel_rfl) (fun _ _ _ h => h) (Or.inl ⟨by rfl, ?_⟩) ?_ ?_
    rotate_left
    · intro w'
      go_simp
      with_reducible rfl
    rotate_left
    · simp only [Act.put, List.setIfInBounds_toArray, List.set_cons_zero, List.set_cons_succ, i64_w, i32_w]
      rfl
    refine pure_ (i := 3) (N := some 125) (v := ?_) (a' := ?_) #[true, true, true, true, false, false, false, false, false, false, false, false, false] rfl rfl (by kernel_rfl) (fun _ _ _ h => h) (Or.inl ⟨by rfl, ?_⟩) ?_ ?_
    rotate_left
    · intro w'
      go_simp
      with_reducible rfl
    rotate_left
    · simp only [Act.put, List.setIfInBounds_toArray, List.set_cons_zero, List.set_cons_succ, i64_w, i32_w]
      rfl
    refine pure_ (i := 4) (N := some 126) (v := ?_) (a' := ?_) #[true, true, true, true, true, false, false, false, false, false, false, false, false] rfl rfl (by kernel_rfl) (fun _ _ _ h => h) (Or.inl ⟨by rfl, ?_⟩) ?_ ?_
    rotate_left
    · intro w'
      go_simp
      with_reducible rfl
    rotate_left
    · simp only [Act.put, List.setIfInBounds_toArray, List.set_cons_zero, List.set_cons_succ, i64_w, i32_w]
      rfl
    refine take_ (i := 5) (N := some 127) (v := ?_) (a' := ?_) #[true, true, true, true, true, true, false, false, false, false, false, false, false] rfl rfl (by kernel_rfl) (fun _ _ _ h => h) (Or.inl ⟨by rfl, ?_⟩) hHeld ?_ ?_
    rotate_left
    · rintro w' ⟨s0, s1, s2⟩
      go_simp
      with_reducible rfl
    rotate_left
    · simp only [Act.put, List.setIfInBounds_toArray, List.set_cons_zero, List.set_cons_succ, i64_w, i32_w]
      rfl
    refine pure_ (i := 6) (N := some 128) (v := ?_) (a' := ?_) #[true, true, true, true, true, true, true, false, false, false, false, false, false] rfl rfl (by kernel_rfl) (fun _ _ _ h => h) (Or.inl ⟨by rfl, ?_⟩) ?_ ?_
    rotate_left
    · intro w'
      go_simp
      with_reducible rfl
    rotate_left
    · simp only [Act.put, List.setIfInBounds_toArray, List.set_cons_zero, List.set_cons_succ, i64_w, i32_w]
      rfl
    refine take_ (i := 7) (N := some 129) (v := ?_) (a' := ?_) #[true, true, true, true, true, true, true, true, false, false, false, false, false] rfl rfl (by kernel_rfl) (fun _ _ _ h => h) (Or.inl ⟨by rfl, ?_⟩) hHeld ?_ ?_
    rotate_left
    · rintro w' ⟨s0, s1, s2⟩
      go_simp
      with_reducible rfl
    rotate_left
    · simp only [Act.put, List.setIfInBounds_toArray, List.set_cons_zero, List.set_cons_succ, i64_w, i32_w]
      rfl
    refine pure_ (i := 8) (N := some 130) (v := ?_) (a' := ?_) #[true, true, true, true, true, true, true, true, true, false, false, false, false] rfl rfl (by kernel_rfl) (fun _ _ _ h => h) (Or.inl ⟨by rfl, ?_⟩) ?_ ?_
    rotate_left
    · intro w'
      go_simp
      with_reducible rfl
    rotate_left
    · simp only [Act.put, List.setIfInBounds_toArray, List.set_cons_zero, List.set_cons_succ, i64_w, i32_w]
      rfl
    refine take_ (i := 9) (N := some 131) (v := ?_) (a' := ?_) #[true, true, true, true, true, true, true, true, true, true, false, false, false] rfl rfl (by kernel_rfl) (fun _ _ _ h => h) (Or.inl ⟨by rfl, ?_⟩) hHeld ?_ ?_
    rotate_left
    · rintro w' ⟨s0, s1, s2⟩
      go_simp
      with_reducible rfl
    rotate_left
    · simp only [Act.put, List.setIfInBounds_toArray, List.set_cons_zero, List.set_cons_succ, i64_w, i32_w]
      rfl
    refine last_ (i := 10) (N := some 132) #[true, true, true, true, true, true, true, true, true, true, true, false, false] rfl rfl (by kernel_rfl) (by decide) (fun K hK => ?_)
    refine value_ (v := .slice (some ⟨W7.heap.size, 0, none⟩) 1 1) (w1 := W7.alloc (.cells #[.int .i64 tx] (2 : Nat))) (by rfl) rfl ?_ ?_
    · go_simp
    refine hK.out _ _ ?_
    clear hK K
    refine norm_ (a' := ?_) ?_ ?_
    rotate_left
    · show Act.put _ (some 132) _ = _
      simp only [Act.put, List.setIfInBounds_toArray, List.set_cons_zero, List.set_cons_succ, i64_w, i32_w]
      rfl
    have BA : Aside0 (Below W7.heap.size W7 (W7.alloc (.cells #[.int .i64 tx] (2 : Nat)))) := ⟨(Below.refl _ _).alloc (Nat.le_refl _) _⟩
    obtain ⟨rv', W8, hrun, hr', hg', ho'⟩ := run_more (ys := [tx]) (R7.out.move (W' := W7.alloc (.cells #[.int .i64 tx] (2 : Nat))) (fun q hq => heap_alloc_old _ _ (R7.out.lt hq))) 25 ⟨W7.heap.size, 0, none⟩ 1 (by
      intro j y hj
      have hj0 : j = 0 := by have := (List.getElem?_eq_some_iff.1 hj).1; simpa using this
      subst hj0
      have hy : tx = y := by simpa using hj
      subst hy
      rw [show (⟨W7.heap.size, 0, none⟩ : Addr).add 0 = ⟨W7.heap.size, 0, none⟩ by simp [Addr.add]]
      exact box_cell (heap_alloc_new _ _)) (by
      have := HNK.out.1
      rw [List.length_take]
      simp only [List.length_singleton]
      omega)
    obtain ⟨A8, c8, hsl', _⟩ := hr'.slice
    rw [show (x.stack.take k ++ [tx]).length = k + 1 by rw [List.length_append, List.length_take, HNK.out.1]; simp; omega] at hsl'
    subst hsl'
    refine last_ (i := 11) (N := some 133) #[true, true, true, true, true, true, true, true, true, true, true, true, false] rfl rfl (by kernel_rfl) (by decide) (fun K hK => ?_)
    refine value_ (v := .slice A8 (k + 1) c8) (w1 := W8) (by rfl) rfl ?_ ?_
    · exact more_run (.tmp 122) (.tmp 132) rfl rfl rfl hrun
    refine hK.out _ _ ?_
    clear hK K
    obtain ⟨d8, k8, f8⟩ := rst_more HPK.out K7.out D7.out F7.out BA.out hg' ho'
    have D8 := Aside0.mk d8
    have K8 := Aside0.mk k8
    have F8 := Aside0.mk f8
    have R8 := Aside0.mk hr'
    clear hr' hg' ho' hrun d8 k8 f8 BA D7 K7 F7 R7
    refine norm_ (a' := ?_) ?_ ?_
    rotate_left
    · show Act.put _ (some 133) _ = _
      simp only [Act.put, List.setIfInBounds_toArray, List.set_cons_zero, List.set_cons_succ, i64_w, i32_w]
      rfl
    refine pure_ (i := 12) (N := some 11) (v := ?_) (a' := ?_) #[true, true, true, true, true, true, true, true, true, true, true, true, true] rfl rfl (by kernel_rfl) (fun _ _ _ h => h) (Or.inl ⟨by rfl, ?_⟩) ?_ ?_
    rotate_left
    · intro w'
      go_simp
      with_reducible rfl
    rotate_left
    · simp only [Act.put, List.setIfInBounds_toArray, List.set_cons_zero, List.set_cons_succ, i64_w, i32_w]
      rfl
    refine done_ (by kernel_rfl) ?_
    clear hHeld X1
    have f6 := D8.out.froz 6
    have f5 := D8.out.froz 5
    have q6 : W8.cell? ⟨b, 6, none⟩ = some (.slice A6 x.stack.length c6) := D8.out.cell rfl
    have q5 : W8.cell? ⟨b, 5, none⟩ = some (.int .i64 (at_ : Int)) := by rw [← HAE.out]; exact D8.out.cell rfl
    have G := Aside0.mk (rst_fin (at' := (at_ : Int) + 1) (by omega) HPK.out K8.out D8.out R8.out F8.out)
    clear D8 K8 R8 F8
    go_wp2_with fail
    generalize (W8.setCell ⟨b, 6, none⟩ (.slice A8 (k + 1) c8)).setCell ⟨b, 5, none⟩ (.int .i64 ((at_ : Int) + 1)) = W9 at G ⊢
    have e11 : W9.cell? ⟨b, 11, none⟩ = some (.bool false) := by rw [← HEN.out]; exact G.out.1.cell rfl
    clear f6 f5 q6 q5 
    go_quiet (fail)
    go_wp2
    go_ret3
    have O := rst_out (n := nq) G.out.1 G.out.2.2 G.out.2.1
    clear G e11
    have HN2 := HNK.out
    have HTK2 := HTK.out
    simp [tks] at HTK2
    have eo : one ⟨4, ar⟩ x = ({ x with stack := x.stack.take k ++ [tx] }, 1) := by have hts := take_all (n := n) (k := k) (x := x) (by rw [← HTK2] at HN2; exact HN2); rw [hts]; simp [one, Ctx.push, ← T.out]
    rw [eo, HCY.out]
    dsimp only at O ⊢
    rw [HAE.out, HSP.out]
    exact ⟨by rw [HEN.out]; rfl, O.1, O.2⟩
  by_cases o3 : op = 3
  · subst o3
    have ha : 0 ≤ ar := by have hmy := HPP.out.may; simp [mayB] at hmy; omega
    have hl : ar.toNat < x.slots.length := by have := HPP.out.sl (by simp); simp only at this; omega
    obtain ⟨g, cp, hsv, hcap, hown, hc, hfz, hgl⟩ := D7.out.sl.cell hl
    have x7 : W7.cell? ⟨b, 7, none⟩ = some tv := D7.out.cell rfl
    rw [hsv] at x7
    have hal : ar < (x.slots.length : Int) := by omega
    have HA := Aside0.mk ha
    have HO := Aside0.mk hown
    have HL := Aside0.mk hl
    clear hsv hl hown hc hfz hcap hgl
    have hkl : k + 1 = x.stack.length := by have h1 := HNK.out; have h2 := HTK.out; simp [tks] at h2; omega
    obtain ⟨g6, cp6, hs6, hcap6, hown6, hc6k, _, _⟩ := D7.out.st.cell (i := k) (by dsimp only; omega)
    simp only [Value.slice.injEq] at hs6
    obtain ⟨rfl, _, rfl⟩ := hs6
    have hkn2 : (k : Int) < (n : Int) := by rw [← HNK.out.1]; omega
    have HKL := Aside0.mk hkl
    obtain ⟨tx, htx⟩ : ∃ tx, x.stack.getD k 0 = tx := ⟨_, rfl⟩
    have T := Aside0.mk htx
    dsimp only at hc6k
    rw [htx] at hc6k
    clear htx hcap6 hown6 hkl
    go_wp2_with fail
    have D7b := Aside0.mk (D7.out.move (W1 := W7.drew) (fun k _ _ => rfl))
    have R7b := Aside0.mk (R7.out.move (W' := W7.drew) (fun k _ => rfl))
    have K7b : Aside0 (Kept2 W W7.drew P) := ⟨K7.out.trans ⟨rfl, rfl, rfl, Nat.le_refl _, fun _ _ _ => rfl⟩⟩
    clear D7 R7 K7 I7
    go_still_tail 12, (by kernel_rfl)
    change wpList _ _ _ _ _ W7.drew
    clear x7 hc6k y0 y1 y5
    generalize W7.drew = W7 at D7b R7b K7b ⊢
    have D7 := D7b
    have R7 := R7b
    have K7 := K7b
    clear D7b R7b K7b
    obtain ⟨g', _, e', _, hown', hc, hfz, _⟩ := D7.out.sl.cell (i := ar.toNat) HL.out
    have hgg : g' = g := by have := HO.out; rw [hown'] at this; exact Option.some.inj this
    subst hgg
    dsimp only at hc
    have hzg : P g' := D7.out.zs g' (.inr (.inl hown'))
    have hgb : g' ≠ b := fun e => D7.out.ne D7.out.sl (by rw [hown', e])
    have hbg : b ≠ g' := fun e => hgb e.symm
    have D8 := Aside0.mk (D7.out.setSl hown' (i := ar.toNat) HL.out tx)
    have K8 := Aside0.mk (K7.out.trans (kept2_set (P := Zn P W W7) (.inl hzg) ar.toNat (.int .i64 tx)))
    have R8 := Aside0.mk (IR.move (W' := W7.setCell ⟨g', ar.toNat, none⟩ (.int .i64 tx)) R7.out (fun q hq => Below.heap_setCell W7 ⟨g', ar.toNat, none⟩ _ q (fun e => by have h1 := HPK.out g' hzg; have h2 := F7.out q hq; subst e; omega)))
    have F8 := F7
    clear K7 R7 F7 e' hzg
    have f6 := D7.out.froz 6
    have f5 := D7.out.froz 5
    have q6 : W7.cell? ⟨b, 6, none⟩ = some (.slice (some ⟨g6, 0, none⟩) x.stack.length c6) := D7.out.cell rfl
    have q5 : W7.cell? ⟨b, 5, none⟩ = some (.int .i64 (at_ : Int)) := by rw [← HAE.out]; exact D7.out.cell rfl
    have G := Aside0.mk (rst_fin (at' := (at_ : Int) + 1) (by omega) HPK.out K8.out D8.out R8.out F8.out)
    clear D8 K8 R8 F8
    go_wp2_with fail
    generalize ((W7.setCell ⟨g', ar.toNat, none⟩ (.int .i64 tx)).setCell ⟨b, 6, none⟩ (.slice Ar k cr)).setCell ⟨b, 5, none⟩ (.int .i64 ((at_ : Int) + 1)) = W9 at G ⊢
    have e11 : W9.cell? ⟨b, 11, none⟩ = some (.bool false) := by rw [← HEN.out]; exact G.out.1.cell rfl
    clear f6 f5 q6 q5 hbg hgb
    go_quiet (fail)
    go_wp2
    go_ret3
    have O := rst_out (n := nq) G.out.1 G.out.2.2 G.out.2.1
    clear G e11
    have HN2 := HNK.out
    have HTK2 := HTK.out
    simp [tks] at HTK2
    have eo : one ⟨3, ar⟩ x = ({ x with stack := x.stack.take k, slots := x.slots.set ar.toNat tx }, 1) := one_set3 HKL.out.symm T.out
    rw [eo, HCY.out]
    dsimp only at O ⊢
    rw [HAE.out, HSP.out]
    exact ⟨by rw [HEN.out]; rfl, O.1, O.2⟩
  by_cases o5 : op = 5
  · subst o5
    have ha : 0 ≤ ar := by have hmy := HPP.out.may; simp [mayB] at hmy; omega
    have hl : ar.toNat < x.outs.length := by have := HPP.out.ou (by simp); simp only at this; omega
    obtain ⟨g, cp, hsv, hcap, hown, hc, hfz, hgl⟩ := D7.out.ou.cell hl
    have x7 : W7.cell? ⟨b, 9, none⟩ = some ov := D7.out.cell rfl
    rw [hsv] at x7
    have hal : ar < (x.outs.length : Int) := by omega
    have HA := Aside0.mk ha
    have HO := Aside0.mk hown
    have HL := Aside0.mk hl
    clear hsv hl hown hc hfz hcap hgl
    have hkl : k + 1 = x.stack.length := by have h1 := HNK.out; have h2 := HTK.out; simp [tks] at h2; omega
    obtain ⟨g6, cp6, hs6, hcap6, hown6, hc6k, _, _⟩ := D7.out.st.cell (i := k) (by dsimp only; omega)
    simp only [Value.slice.injEq] at hs6
    obtain ⟨rfl, _, rfl⟩ := hs6
    have hkn2 : (k : Int) < (n : Int) := by rw [← HNK.out.1]; omega
    have HKL := Aside0.mk hkl
    obtain ⟨tx, htx⟩ : ∃ tx, x.stack.getD k 0 = tx := ⟨_, rfl⟩
    have T := Aside0.mk htx
    dsimp only at hc6k
    rw [htx] at hc6k
    clear htx hcap6 hown6 hkl
    go_wp2_with fail
    have D7b := Aside0.mk (D7.out.move (W1 := W7.drew) (fun k _ _ => rfl))
    have R7b := Aside0.mk (R7.out.move (W' := W7.drew) (fun k _ => rfl))
    have K7b : Aside0 (Kept2 W W7.drew P) := ⟨K7.out.trans ⟨rfl, rfl, rfl, Nat.le_refl _, fun _ _ _ => rfl⟩⟩
    clear D7 R7 K7 I7
    go_still_tail 12, (by kernel_rfl)
    change wpList _ _ _ _ _ W7.drew
    clear x7 hc6k y0 y1 y5
    generalize W7.drew = W7 at D7b R7b K7b ⊢
    have D7 := D7b
    have R7 := R7b
    have K7 := K7b
    clear D7b R7b K7b
    obtain ⟨g', _, e', _, hown', hc, hfz, _⟩ := D7.out.ou.cell (i := ar.toNat) HL.out
    have hgg : g' = g := by have := HO.out; rw [hown'] at this; exact Option.some.inj this
    subst hgg
    dsimp only at hc
    have hzg : P g' := D7.out.zs g' (.inr (.inr (.inr hown')))
    have hgb : g' ≠ b := fun e => D7.out.ne D7.out.ou (by rw [hown', e])
    have hbg : b ≠ g' := fun e => hgb e.symm
    have D8 := Aside0.mk (D7.out.setOu hown' (i := ar.toNat) HL.out tx)
    have K8 := Aside0.mk (K7.out.trans (kept2_set (P := Zn P W W7) (.inl hzg) ar.toNat (.int .i64 tx)))
    have R8 := Aside0.mk (IR.move (W' := W7.setCell ⟨g', ar.toNat, none⟩ (.int .i64 tx)) R7.out (fun q hq => Below.heap_setCell W7 ⟨g', ar.toNat, none⟩ _ q (fun e => by have h1 := HPK.out g' hzg; have h2 := F7.out q hq; subst e; omega)))
    have F8 := F7
    clear K7 R7 F7 e' hzg
    have f6 := D7.out.froz 6
    have f5 := D7.out.froz 5
    have q6 : W7.cell? ⟨b, 6, none⟩ = some (.slice (some ⟨g6, 0, none⟩) x.stack.length c6) := D7.out.cell rfl
    have q5 : W7.cell? ⟨b, 5, none⟩ = some (.int .i64 (at_ : Int)) := by rw [← HAE.out]; exact D7.out.cell rfl
    have G := Aside0.mk (rst_fin (at' := (at_ : Int) + 1) (by omega) HPK.out K8.out D8.out R8.out F8.out)
    clear D8 K8 R8 F8
    go_wp2_with fail
    generalize ((W7.setCell ⟨g', ar.toNat, none⟩ (.int .i64 tx)).setCell ⟨b, 6, none⟩ (.slice Ar k cr)).setCell ⟨b, 5, none⟩ (.int .i64 ((at_ : Int) + 1)) = W9 at G ⊢
    have e11 : W9.cell? ⟨b, 11, none⟩ = some (.bool false) := by rw [← HEN.out]; exact G.out.1.cell rfl
    clear f6 f5 q6 q5 hbg hgb
    go_quiet (fail)
    go_wp2
    go_ret3
    have O := rst_out (n := nq) G.out.1 G.out.2.2 G.out.2.1
    clear G e11
    have HN2 := HNK.out
    have HTK2 := HTK.out
    simp [tks] at HTK2
    have eo : one ⟨5, ar⟩ x = ({ x with stack := x.stack.take k, outs := x.outs.set ar.toNat tx }, 1) := one_set5 HKL.out.symm T.out
    rw [eo, HCY.out]
    dsimp only at O ⊢
    rw [HAE.out, HSP.out]
    exact ⟨by rw [HEN.out]; rfl, O.1, O.2⟩
  by_cases o6 : op = 6
  · subst o6
    have hkl : k + 1 = x.stack.length := by have h1 := HNK.out; have h2 := HTK.out; simp [tks] at h2; omega
    obtain ⟨g6, cp6, hs6, hcap6, hown6, hc6k, _, _⟩ := D7.out.st.cell (i := k) (by dsimp only; omega)
    simp only [Value.slice.injEq] at hs6
    obtain ⟨rfl, _, rfl⟩ := hs6
    have hkn2 : (k : Int) < (n : Int) := by rw [← HNK.out.1]; omega
    have HKL := Aside0.mk hkl
    obtain ⟨tx, htx⟩ : ∃ tx, x.stack.getD k 0 = tx := ⟨_, rfl⟩
    have T := Aside0.mk htx
    dsimp only at hc6k
    rw [htx] at hc6k
    clear htx hcap6 hown6 hkl
    obtain ⟨tz, htz⟩ : ∃ tz, wrap64 (-tx) = tz := ⟨_, rfl⟩
    have HZ := Aside0.mk htz
    have hv := rone_val6 tx
    rw [htz] at hv
    have HV := Aside0.mk hv
    clear hv htz
    go_wp2_with fail
    have X1 := Aside0.mk (And.intro y0 hc6k)
    clear y0 y1 y5 hc6k
    have D7b := Aside0.mk (D7.out.move (W1 := W7.drew) (fun k _ _ => rfl))
    have R7b := Aside0.mk (R7.out.move (W' := W7.drew) (fun k _ => rfl))
    have K7b : Aside0 (Kept2 W W7.drew P) := ⟨K7.out.trans ⟨rfl, rfl, rfl, Nat.le_refl _, fun _ _ _ => rfl⟩⟩
    clear D7 R7 K7 I7
    refine start_ (n := 11) (S := fun w' => w'.cell? ⟨ib, 0, none⟩ = some (.int .u8 6) ∧ w'.cell? ⟨g6, k, none⟩ = some (.int .i64 tx)) (ds := [7, 8, 9]) #[false, false, false, false, false, false, false, false, false, false, false] (by kernel_rfl) rfl rfl X1.out (fun hHeld => ?_)
    generalize W7.drew = W7 at D7b R7b K7b hHeld ⊢
    have D7 := D7b
    have R7 := R7b
    have K7 := K7b
    clear D7b R7b K7b
    refine pure_ (i := 0) (N := some 151) (v := ?_) (a' := ?_) #[true, false, false, false, false, false, false, false, false, false, false] rfl rfl (by kernel_rfl) (fun _ _ _ h => h) (Or.inl ⟨by rfl, ?_⟩) ?_ ?_
    rotate_left
    · intro w'
      go_simp
      with_reducible rfl
    rotate_left
    · simp only [Act.put, List.setIfInBounds_toArray, List.set_cons_zero, List.set_cons_succ, i64_w, i32_w]
      rfl
    refine pure_ (i := 1) (N := some 152) (v := ?_) (a' := ?_) #[true, true, false, false, false, false, false, false, false, false, false] rfl rfl (by kernel_rfl) (fun _ _ _ h => h) (Or.inl ⟨by rfl, ?_⟩) ?_ ?_
    rotate_left
    · intro w'
      go_simp
      with_reducible rfl
    rotate_left
    · simp only [Act.put, List.setIfInBounds_toArray, List.set_cons_zero, List.set_cons_succ, i64_w, i32_w]
      rfl
    refine take_ (i := 2) (N := some 153) (v := ?_) (a' := ?_) #[true, true, true, false, false, false, false, false, false, false, false] rfl rfl (by kernel_rfl) (fun _ _ _ h => h) (Or.inl ⟨by rfl, ?_⟩) hHeld ?_ ?_
    rotate_left
    · rintro w' ⟨s0, s1⟩
      go_simp
      with_reducible rfl
    rotate_left
    · simp only [Act.put, List.setIfInBounds_toArray, List.set_cons_zero, List.set_cons_succ, i64_w, i32_w]
      rfl
    refine pure_ (i := 3) (N := some 154) (v := ?_) (a' := ?_) #[true, true, true, true, false, false, false, false, false, false, false] rfl rfl (by kernel_rfl) (fun _ _ _ h => h) (Or.inl ⟨by rfl, ?_⟩) ?_ ?_
    rotate_left
    · intro w'
      go_simp
      with_reducible rfl
    rotate_left
    · simp only [Act.put, List.setIfInBounds_toArray, List.set_cons_zero, List.set_cons_succ, i64_w, i32_w]
      rfl
    refine pure_ (i := 4) (N := some 155) (v := ?_) (a' := ?_) #[true, true, true, true, true, false, false, false, false, false, false] rfl rfl (by kernel_rfl) (fun _ _ _ h => h) (Or.inl ⟨by rfl, ?_⟩) ?_ ?_
    rotate_left
    · intro w'
      go_simp
      with_reducible rfl
    rotate_left
    · simp only [Act.put, List.setIfInBounds_toArray, List.set_cons_zero, List.set_cons_succ, i64_w, i32_w]
      rfl
    refine pure_ (i := 5) (N := some 156) (v := ?_) (a' := ?_) #[true, true, true, true, true, true, false, false, false, false, false] rfl rfl (by kernel_rfl) (fun _ _ _ h => h) (Or.inl ⟨by rfl, ?_⟩) ?_ ?_
    rotate_left
    · intro w'
      go_simp
      with_reducible rfl
    rotate_left
    · simp only [Act.put, List.setIfInBounds_toArray, List.set_cons_zero, List.set_cons_succ, i64_w, i32_w]
      rfl
    refine take_ (i := 6) (N := some 157) (v := ?_) (a' := ?_) #[true, true, true, true, true, true, true, false, false, false, false] rfl rfl (by kernel_rfl) (fun _ _ _ h => h) (Or.inl ⟨by rfl, ?_⟩) hHeld ?_ ?_
    rotate_left
    · rintro w' ⟨s0, s1⟩
      go_simp
      with_reducible rfl
    rotate_left
    · simp only [Act.put, List.setIfInBounds_toArray, List.set_cons_zero, List.set_cons_succ, i64_w, i32_w]
      rfl
    refine last_ (i := 7) (N := some 158) #[true, true, true, true, true, true, true, true, false, false, false] rfl rfl (by kernel_rfl) (by decide) (fun K hK => ?_)
    refine goes_ Try.func38 (by kernel_rfl) rfl #[.int .u8 6, .int .i64 tx] (by rfl) rfl rfl (by simp only [List.map_toArray, List.map_cons, List.map_nil]; rfl) ?_
    refine (carillonref22_one.calls 6 tx tz _ HV.out).mono ?_
    rintro e W71 ⟨rfl, hd⟩
    refine ⟨_, rfl, ?_⟩
    have hb := hd.below
    have D7b := Aside0.mk (D7.out.below hb)
    have R7b := Aside0.mk (R7.out.move (W' := W71) (fun q hq => hb.block q (R7.out.lt hq)))
    have K7b := Aside0.mk (K7.out.trans (Kept2.of_below hb))
    clear D7 R7 K7 hd hb
    have D7 := D7b
    have R7 := R7b
    have K7 := K7b
    clear D7b R7b K7b
    refine hK.out _ _ ?_
    clear hK K
    refine norm_ (a' := ?_) ?_ ?_
    rotate_left
    · show Act.put _ (some 158) _ = _
      simp only [Act.put, List.setIfInBounds_toArray, List.set_cons_zero, List.set_cons_succ, i64_w, i32_w]
      rfl
    refine last_ (i := 8) (N := some 159) #[true, true, true, true, true, true, true, true, true, false, false] rfl rfl (by kernel_rfl) (by decide) (fun K hK => ?_)
    refine value_ (v := .slice (some ⟨W71.heap.size, 0, none⟩) 1 1) (w1 := W71.alloc (.cells #[.int .i64 tz] (2 : Nat))) (by rfl) rfl ?_ ?_
    · go_simp
    refine hK.out _ _ ?_
    clear hK K
    refine norm_ (a' := ?_) ?_ ?_
    rotate_left
    · show Act.put _ (some 159) _ = _
      simp only [Act.put, List.setIfInBounds_toArray, List.set_cons_zero, List.set_cons_succ, i64_w, i32_w]
      rfl
    have BA : Aside0 (Below W71.heap.size W71 (W71.alloc (.cells #[.int .i64 tz] (2 : Nat)))) := ⟨(Below.refl _ _).alloc (Nat.le_refl _) _⟩
    obtain ⟨rv', W8, hrun, hr', hg', ho'⟩ := run_more (ys := [tz]) (R7.out.move (W' := W71.alloc (.cells #[.int .i64 tz] (2 : Nat))) (fun q hq => heap_alloc_old _ _ (R7.out.lt hq))) 25 ⟨W71.heap.size, 0, none⟩ 1 (by
      intro j y hj
      have hj0 : j = 0 := by have := (List.getElem?_eq_some_iff.1 hj).1; simpa using this
      subst hj0
      have hy : tz = y := by simpa using hj
      subst hy
      rw [show (⟨W71.heap.size, 0, none⟩ : Addr).add 0 = ⟨W71.heap.size, 0, none⟩ by simp [Addr.add]]
      exact box_cell (heap_alloc_new _ _)) (by
      have := HNK.out.1
      rw [List.length_take]
      simp only [List.length_singleton]
      omega)
    obtain ⟨A8, c8, hsl', _⟩ := hr'.slice
    rw [show (x.stack.take k ++ [tz]).length = k + 1 by rw [List.length_append, List.length_take, HNK.out.1]; simp; omega] at hsl'
    subst hsl'
    refine last_ (i := 9) (N := some 160) #[true, true, true, true, true, true, true, true, true, true, false] rfl rfl (by kernel_rfl) (by decide) (fun K hK => ?_)
    refine value_ (v := .slice A8 (k + 1) c8) (w1 := W8) (by rfl) rfl ?_ ?_
    · exact more_run (.tmp 151) (.tmp 159) rfl rfl rfl hrun
    refine hK.out _ _ ?_
    clear hK K
    obtain ⟨d8, k8, f8⟩ := rst_more HPK.out K7.out D7.out F7.out BA.out hg' ho'
    have D8 := Aside0.mk d8
    have K8 := Aside0.mk k8
    have F8 := Aside0.mk f8
    have R8 := Aside0.mk hr'
    clear hr' hg' ho' hrun d8 k8 f8 BA D7 K7 F7 R7
    refine norm_ (a' := ?_) ?_ ?_
    rotate_left
    · show Act.put _ (some 160) _ = _
      simp only [Act.put, List.setIfInBounds_toArray, List.set_cons_zero, List.set_cons_succ, i64_w, i32_w]
      rfl
    refine pure_ (i := 10) (N := some 11) (v := ?_) (a' := ?_) #[true, true, true, true, true, true, true, true, true, true, true] rfl rfl (by kernel_rfl) (fun _ _ _ h => h) (Or.inl ⟨by rfl, ?_⟩) ?_ ?_
    rotate_left
    · intro w'
      go_simp
      with_reducible rfl
    rotate_left
    · simp only [Act.put, List.setIfInBounds_toArray, List.set_cons_zero, List.set_cons_succ, i64_w, i32_w]
      rfl
    refine done_ (by kernel_rfl) ?_
    clear hHeld X1
    have f6 := D8.out.froz 6
    have f5 := D8.out.froz 5
    have q6 : W8.cell? ⟨b, 6, none⟩ = some (.slice (some ⟨g6, 0, none⟩) x.stack.length c6) := D8.out.cell rfl
    have q5 : W8.cell? ⟨b, 5, none⟩ = some (.int .i64 (at_ : Int)) := by rw [← HAE.out]; exact D8.out.cell rfl
    have G := Aside0.mk (rst_fin (at' := (at_ : Int) + 1) (by omega) HPK.out K8.out D8.out R8.out F8.out)
    clear D8 K8 R8 F8
    go_wp2_with fail
    generalize (W8.setCell ⟨b, 6, none⟩ (.slice A8 (k + 1) c8)).setCell ⟨b, 5, none⟩ (.int .i64 ((at_ : Int) + 1)) = W9 at G ⊢
    have e11 : W9.cell? ⟨b, 11, none⟩ = some (.bool false) := by rw [← HEN.out]; exact G.out.1.cell rfl
    clear f6 f5 q6 q5 
    go_quiet (fail)
    go_wp2
    go_ret3
    have O := rst_out (n := nq) G.out.1 G.out.2.2 G.out.2.1
    clear G e11
    have HN2 := HNK.out
    have HTK2 := HTK.out
    simp [tks] at HTK2
    have eo : one ⟨6, ar⟩ x = ({ x with stack := x.stack.take k ++ [tz] }, 1) := one_neg HKL.out.symm T.out HZ.out
    rw [eo, HCY.out]
    dsimp only at O ⊢
    rw [HAE.out, HSP.out]
    exact ⟨by rw [HEN.out]; rfl, O.1, O.2⟩
  by_cases o7 : op = 7
  · subst o7
    have hkl : k + 1 = x.stack.length := by have h1 := HNK.out; have h2 := HTK.out; simp [tks] at h2; omega
    obtain ⟨g6, cp6, hs6, hcap6, hown6, hc6k, _, _⟩ := D7.out.st.cell (i := k) (by dsimp only; omega)
    simp only [Value.slice.injEq] at hs6
    obtain ⟨rfl, _, rfl⟩ := hs6
    have hkn2 : (k : Int) < (n : Int) := by rw [← HNK.out.1]; omega
    have HKL := Aside0.mk hkl
    obtain ⟨tx, htx⟩ : ∃ tx, x.stack.getD k 0 = tx := ⟨_, rfl⟩
    have T := Aside0.mk htx
    dsimp only at hc6k
    rw [htx] at hc6k
    clear htx hcap6 hown6 hkl
    obtain ⟨tz, htz⟩ : ∃ tz, tr (tx == 0) = tz := ⟨_, rfl⟩
    have HZ := Aside0.mk htz
    have hv := rone_val7 tx
    rw [htz] at hv
    have HV := Aside0.mk hv
    clear hv htz
    go_wp2_with fail
    have X1 := Aside0.mk (And.intro y0 hc6k)
    clear y0 y1 y5 hc6k
    have D7b := Aside0.mk (D7.out.move (W1 := W7.drew) (fun k _ _ => rfl))
    have R7b := Aside0.mk (R7.out.move (W' := W7.drew) (fun k _ => rfl))
    have K7b : Aside0 (Kept2 W W7.drew P) := ⟨K7.out.trans ⟨rfl, rfl, rfl, Nat.le_refl _, fun _ _ _ => rfl⟩⟩
    clear D7 R7 K7 I7
    refine start_ (n := 11) (S := fun w' => w'.cell? ⟨ib, 0, none⟩ = some (.int .u8 7) ∧ w'.cell? ⟨g6, k, none⟩ = some (.int .i64 tx)) (ds := [7, 8, 9]) #[false, false, false, false, false, false, false, false, false, false, false] (by kernel_rfl) rfl rfl X1.out (fun hHeld => ?_)
    generalize W7.drew = W7 at D7b R7b K7b hHeld ⊢
    have D7 := D7b
    have R7 := R7b
    have K7 := K7b
    clear D7b R7b K7b
    refine pure_ (i := 0) (N := some 151) (v := ?_) (a' := ?_) #[true, false, false, false, false, false, false, false, false, false, false] rfl rfl (by kernel_rfl) (fun _ _ _ h => h) (Or.inl ⟨by rfl, ?_⟩) ?_ ?_
    rotate_left
    · intro w'
      go_simp
      with_reducible rfl
    rotate_left
    · simp only [Act.put, List.setIfInBounds_toArray, List.set_cons_zero, List.set_cons_succ, i64_w, i32_w]
      rfl
    refine pure_ (i := 1) (N := some 152) (v := ?_) (a' := ?_) #[true, true, false, false, false, false, false, false, false, false, false] rfl rfl (by kernel_rfl) (fun _ _ _ h => h) (Or.inl ⟨by rfl, ?_⟩) ?_ ?_
    rotate_left
    · intro w'
      go_simp
      with_reducible rfl
    rotate_left
    · simp only [Act.put, List.setIfInBounds_toArray, List.set_cons_zero, List.set_cons_succ, i64_w, i32_w]
      rfl
    refine take_ (i := 2) (N := some 153) (v := ?_) (a' := ?_) #[true, true, true, false, false, false, false, false, false, false, false] rfl rfl (by kernel_rfl) (fun _ _ _ h => h) (Or.inl ⟨by rfl, ?_⟩) hHeld ?_ ?_
    rotate_left
    · rintro w' ⟨s0, s1⟩
      go_simp
      with_reducible rfl
    rotate_left
    · simp only [Act.put, List.setIfInBounds_toArray, List.set_cons_zero, List.set_cons_succ, i64_w, i32_w]
      rfl
    refine pure_ (i := 3) (N := some 154) (v := ?_) (a' := ?_) #[true, true, true, true, false, false, false, false, false, false, false] rfl rfl (by kernel_rfl) (fun _ _ _ h => h) (Or.inl ⟨by rfl, ?_⟩) ?_ ?_
    rotate_left
    · intro w'
      go_simp
      with_reducible rfl
    rotate_left
    · simp only [Act.put, List.setIfInBounds_toArray, List.set_cons_zero, List.set_cons_succ, i64_w, i32_w]
      rfl
    refine pure_ (i := 4) (N := some 155) (v := ?_) (a' := ?_) #[true, true, true, true, true, false, false, false, false, false, false] rfl rfl (by kernel_rfl) (fun _ _ _ h => h) (Or.inl ⟨by rfl, ?_⟩) ?_ ?_
    rotate_left
    · intro w'
      go_simp
      with_reducible rfl
    rotate_left
    · simp only [Act.put, List.setIfInBounds_toArray, List.set_cons_zero, List.set_cons_succ, i64_w, i32_w]
      rfl
    refine pure_ (i := 5) (N := some 156) (v := ?_) (a' := ?_) #[true, true, true, true, true, true, false, false, false, false, false] rfl rfl (by kernel_rfl) (fun _ _ _ h => h) (Or.inl ⟨by rfl, ?_⟩) ?_ ?_
    rotate_left
    · intro w'
      go_simp
      with_reducible rfl
    rotate_left
    · simp only [Act.put, List.setIfInBounds_toArray, List.set_cons_zero, List.set_cons_succ, i64_w, i32_w]
      rfl
    refine take_ (i := 6) (N := some 157) (v := ?_) (a' := ?_) #[true, true, true, true, true, true, true, false, false, false, false] rfl rfl (by kernel_rfl) (fun _ _ _ h => h) (Or.inl ⟨by rfl, ?_⟩) hHeld ?_ ?_
    rotate_left
    · rintro w' ⟨s0, s1⟩
      go_simp
      with_reducible rfl
    rotate_left
    · simp only [Act.put, List.setIfInBounds_toArray, List.set_cons_zero, List.set_cons_succ, i64_w, i32_w]
      rfl
    refine last_ (i := 7) (N := some 158) #[true, true, true, true, true, true, true, true, false, false, false] rfl rfl (by kernel_rfl) (by decide) (fun K hK => ?_)
    refine goes_ Try.func38 (by kernel_rfl) rfl #[.int .u8 7, .int .i64 tx] (by rfl) rfl rfl (by simp only [List.map_toArray, List.map_cons, List.map_nil]; rfl) ?_
    refine (carillonref22_one.calls 7 tx tz _ HV.out).mono ?_
    rintro e W71 ⟨rfl, hd⟩
    refine ⟨_, rfl, ?_⟩
    have hb := hd.below
    have D7b := Aside0.mk (D7.out.below hb)
    have R7b := Aside0.mk (R7.out.move (W' := W71) (fun q hq => hb.block q (R7.out.lt hq)))
    have K7b := Aside0.mk (K7.out.trans (Kept2.of_below hb))
    clear D7 R7 K7 hd hb
    have D7 := D7b
    have R7 := R7b
    have K7 := K7b
    clear D7b R7b K7b
    refine hK.out _ _ ?_
    clear hK K
    refine norm_ (a' := ?_) ?_ ?_
    rotate_left
    · show Act.put _ (some 158) _ = _
      simp only [Act.put, List.setIfInBounds_toArray, List.set_cons_zero, List.set_cons_succ, i64_w, i32_w]
      rfl
    refine last_ (i := 8) (N := some 159) #[true, true, true, true, true, true, true, true, true, false, false] rfl rfl (by kernel_rfl) (by decide) (fun K hK => ?_)
    refine value_ (v := .slice (some ⟨W71.heap.size, 0, none⟩) 1 1) (w1 := W71.alloc (.cells #[.int .i64 tz] (2 : Nat))) (by rfl) rfl ?_ ?_
    · go_simp
    refine hK.out _ _ ?_
    clear hK K
    refine norm_ (a' := ?_) ?_ ?_
    rotate_left
    · show Act.put _ (some 159) _ = _
      simp only [Act.put, List.setIfInBounds_toArray, List.set_cons_zero, List.set_cons_succ, i64_w, i32_w]
      rfl
    have BA : Aside0 (Below W71.heap.size W71 (W71.alloc (.cells #[.int .i64 tz] (2 : Nat)))) := ⟨(Below.refl _ _).alloc (Nat.le_refl _) _⟩
    obtain ⟨rv', W8, hrun, hr', hg', ho'⟩ := run_more (ys := [tz]) (R7.out.move (W' := W71.alloc (.cells #[.int .i64 tz] (2 : Nat))) (fun q hq => heap_alloc_old _ _ (R7.out.lt hq))) 25 ⟨W71.heap.size, 0, none⟩ 1 (by
      intro j y hj
      have hj0 : j = 0 := by have := (List.getElem?_eq_some_iff.1 hj).1; simpa using this
      subst hj0
      have hy : tz = y := by simpa using hj
      subst hy
      rw [show (⟨W71.heap.size, 0, none⟩ : Addr).add 0 = ⟨W71.heap.size, 0, none⟩ by simp [Addr.add]]
      exact box_cell (heap_alloc_new _ _)) (by
      have := HNK.out.1
      rw [List.length_take]
      simp only [List.length_singleton]
      omega)
    obtain ⟨A8, c8, hsl', _⟩ := hr'.slice
    rw [show (x.stack.take k ++ [tz]).length = k + 1 by rw [List.length_append, List.length_take, HNK.out.1]; simp; omega] at hsl'
    subst hsl'
    refine last_ (i := 9) (N := some 160) #[true, true, true, true, true, true, true, true, true, true, false] rfl rfl (by kernel_rfl) (by decide) (fun K hK => ?_)
    refine value_ (v := .slice A8 (k + 1) c8) (w1 := W8) (by rfl) rfl ?_ ?_
    · exact more_run (.tmp 151) (.tmp 159) rfl rfl rfl hrun
    refine hK.out _ _ ?_
    clear hK K
    obtain ⟨d8, k8, f8⟩ := rst_more HPK.out K7.out D7.out F7.out BA.out hg' ho'
    have D8 := Aside0.mk d8
    have K8 := Aside0.mk k8
    have F8 := Aside0.mk f8
    have R8 := Aside0.mk hr'
    clear hr' hg' ho' hrun d8 k8 f8 BA D7 K7 F7 R7
    refine norm_ (a' := ?_) ?_ ?_
    rotate_left
    · show Act.put _ (some 160) _ = _
      simp only [Act.put, List.setIfInBounds_toArray, List.set_cons_zero, List.set_cons_succ, i64_w, i32_w]
      rfl
    refine pure_ (i := 10) (N := some 11) (v := ?_) (a' := ?_) #[true, true, true, true, true, true, true, true, true, true, true] rfl rfl (by kernel_rfl) (fun _ _ _ h => h) (Or.inl ⟨by rfl, ?_⟩) ?_ ?_
    rotate_left
    · intro w'
      go_simp
      with_reducible rfl
    rotate_left
    · simp only [Act.put, List.setIfInBounds_toArray, List.set_cons_zero, List.set_cons_succ, i64_w, i32_w]
      rfl
    refine done_ (by kernel_rfl) ?_
    clear hHeld X1
    have f6 := D8.out.froz 6
    have f5 := D8.out.froz 5
    have q6 : W8.cell? ⟨b, 6, none⟩ = some (.slice (some ⟨g6, 0, none⟩) x.stack.length c6) := D8.out.cell rfl
    have q5 : W8.cell? ⟨b, 5, none⟩ = some (.int .i64 (at_ : Int)) := by rw [← HAE.out]; exact D8.out.cell rfl
    have G := Aside0.mk (rst_fin (at' := (at_ : Int) + 1) (by omega) HPK.out K8.out D8.out R8.out F8.out)
    clear D8 K8 R8 F8
    go_wp2_with fail
    generalize (W8.setCell ⟨b, 6, none⟩ (.slice A8 (k + 1) c8)).setCell ⟨b, 5, none⟩ (.int .i64 ((at_ : Int) + 1)) = W9 at G ⊢
    have e11 : W9.cell? ⟨b, 11, none⟩ = some (.bool false) := by rw [← HEN.out]; exact G.out.1.cell rfl
    clear f6 f5 q6 q5 
    go_quiet (fail)
    go_wp2
    go_ret3
    have O := rst_out (n := nq) G.out.1 G.out.2.2 G.out.2.1
    clear G e11
    have HN2 := HNK.out
    have HTK2 := HTK.out
    simp [tks] at HTK2
    have eo : one ⟨7, ar⟩ x = ({ x with stack := x.stack.take k ++ [tz] }, 1) := one_not HKL.out.symm T.out HZ.out
    rw [eo, HCY.out]
    dsimp only at O ⊢
    rw [HAE.out, HSP.out]
    exact ⟨by rw [HEN.out]; rfl, O.1, O.2⟩
  by_cases o21 : op = 21
  · subst o21
    have ha : 1 ≤ ar ∧ ar ≤ 4096 := by have hmy := HPP.out.may; simp [mayB] at hmy; omega
    obtain ⟨ha1, ha2⟩ := ha
    have hw : IntKind.i64.wrap ((at_ : Int) + ar) = (at_ : Int) + ar := by rw [IntKind.wrap_i64]; omega
    go_wp2_with fail
    go_quiet (fail)
    have D8 := Aside0.mk (D7.out.move (W1 := W7.drewN nq) (fun k _ _ => rfl))
    have R8 := Aside0.mk (R7.out.move (W' := W7.drewN nq) (fun k _ => rfl))
    have K8 : Aside0 (Kept2 W (W7.drewN nq) P) := ⟨K7.out.trans ⟨rfl, rfl, rfl, Nat.le_refl _, fun _ _ _ => rfl⟩⟩
    have F8 := F7
    clear D7 R7 K7 F7 I7 y0 y1 y5
    generalize W7.drewN nq = W8 at D8 R8 K8 ⊢
    have f6 := D8.out.froz 6
    have f5 := D8.out.froz 5
    have q6 : W8.cell? ⟨b, 6, none⟩ = some (.slice A6 x.stack.length c6) := D8.out.cell rfl
    have q5 : W8.cell? ⟨b, 5, none⟩ = some (.int .i64 (at_ : Int)) := by rw [← HAE.out]; exact D8.out.cell rfl
    have G := Aside0.mk (rst_fin (at' := (at_ : Int) + ar) (by omega) HPK.out K8.out D8.out R8.out F8.out)
    clear D8 K8 R8 F8
    go_wp2_with fail
    generalize (W8.setCell ⟨b, 6, none⟩ (.slice Ar k cr)).setCell ⟨b, 5, none⟩ (.int .i64 ((at_ : Int) + ar)) = W9 at G ⊢
    have e11 : W9.cell? ⟨b, 11, none⟩ = some (.bool false) := by rw [← HEN.out]; exact G.out.1.cell rfl
    clear f6 f5 q6 q5 
    go_quiet (fail)
    go_wp2
    go_ret3
    have O := rst_out (n := nq) G.out.1 G.out.2.2 G.out.2.1
    clear G e11
    have HN2 := HNK.out
    have HTK2 := HTK.out
    simp [tks] at HTK2
    have eo : one ⟨21, ar⟩ x = ({ x with stack := x.stack.take k }, ar) := by have hts := take_all (n := n) (k := k) (x := x) (by rw [← HTK2] at HN2; exact HN2); rw [hts]; simp [one]
    rw [eo, HCY.out]
    dsimp only at O ⊢
    rw [HAE.out, HSP.out]
    exact ⟨by rw [HEN.out]; rfl, O.1, O.2⟩
  by_cases o23 : op = 23
  · subst o23
    have f11 := D7.out.froz 11
    have q11 : W7.cell? ⟨b, 11, none⟩ = some (.bool false) := by rw [← HEN.out]; exact D7.out.cell rfl
    have D8 := Aside0.mk (D7.out.put (x' := { x with spent := spv + cyv, ended := true }) (j := 11) (u := .bool true) rfl rfl rfl rfl (by simp [rmA]))
    have K8 := Aside0.mk (K7.out.trans (kept2_set (P := Zn P W W7) (.inl D7.out.zb) 11 (.bool true)))
    have R8 := Aside0.mk (IR.move (W' := W7.setCell ⟨b, 11, none⟩ (.bool true)) R7.out (fun q hq => Below.heap_setCell W7 ⟨b, 11, none⟩ _ q (fun e => by have h1 := HPK.out b D7.out.zb; have h2 := F7.out q hq; subst e; omega)))
    have F8 := F7
    clear K7 R7 F7 I7
    have f6 := D7.out.froz 6
    have f5 := D7.out.froz 5
    have q6 : W7.cell? ⟨b, 6, none⟩ = some (.slice A6 x.stack.length c6) := D7.out.cell rfl
    have q5 : W7.cell? ⟨b, 5, none⟩ = some (.int .i64 (at_ : Int)) := by rw [← HAE.out]; exact D7.out.cell rfl
    have G := Aside0.mk (rst_fin (at' := (at_ : Int)) (by omega) HPK.out K8.out D8.out R8.out F8.out)
    clear D8 K8 R8 F8
    go_wp2_with fail
    generalize ((W7.setCell ⟨b, 11, none⟩ (.bool true)).setCell ⟨b, 6, none⟩ (.slice Ar k cr)).setCell ⟨b, 5, none⟩ (.int .i64 ((at_ : Int))) = W9 at G ⊢
    have e11 : W9.cell? ⟨b, 11, none⟩ = some (.bool true) := by exact G.out.1.cell rfl
    clear f6 f5 q6 q5 f11 q11
    go_quiet (fail)
    go_wp2
    go_ret3
    have O := rst_out (n := nq) G.out.1 G.out.2.2 G.out.2.1
    clear G e11
    have HN2 := HNK.out
    have HTK2 := HTK.out
    simp [tks] at HTK2
    have eo : one ⟨23, ar⟩ x = ({ x with stack := x.stack.take k, ended := true }, 0) := by have hts := take_all (n := n) (k := k) (x := x) (by rw [← HTK2] at HN2; exact HN2); rw [hts]; simp [one]
    rw [eo, HCY.out]
    dsimp only at O ⊢
    rw [HAE.out, HSP.out]
    exact ⟨by rfl, O.1, O.2⟩
  by_cases o22 : op = 22
  · subst o22
    have ha : 1 ≤ ar ∧ ar ≤ 4096 := by have hmy := HPP.out.may; simp [mayB] at hmy; omega
    obtain ⟨ha1, ha2⟩ := ha
    have hkl : k + 1 = x.stack.length := by have h1 := HNK.out; have h2 := HTK.out; simp [tks] at h2; omega
    obtain ⟨g6, cp6, hs6, hcap6, hown6, hc6k, _, _⟩ := D7.out.st.cell (i := k) (by dsimp only; omega)
    simp only [Value.slice.injEq] at hs6
    obtain ⟨rfl, _, rfl⟩ := hs6
    have hkn2 : (k : Int) < (n : Int) := by rw [← HNK.out.1]; omega
    have HKL := Aside0.mk hkl
    obtain ⟨tx, htx⟩ : ∃ tx, x.stack.getD k 0 = tx := ⟨_, rfl⟩
    have T := Aside0.mk htx
    dsimp only at hc6k
    rw [htx] at hc6k
    clear htx hcap6 hown6 hkl
    by_cases hz : tx = 0
    · subst hz
      have hw : IntKind.i64.wrap ((at_ : Int) + ar) = (at_ : Int) + ar := by rw [IntKind.wrap_i64]; omega
      go_wp2_with fail
      go_quiet (fail)
      have D8 := Aside0.mk (D7.out.move (W1 := W7.drewN nq) (fun k _ _ => rfl))
      have R8 := Aside0.mk (R7.out.move (W' := W7.drewN nq) (fun k _ => rfl))
      have K8 : Aside0 (Kept2 W (W7.drewN nq) P) := ⟨K7.out.trans ⟨rfl, rfl, rfl, Nat.le_refl _, fun _ _ _ => rfl⟩⟩
      have F8 := F7
      clear D7 R7 K7 F7 I7 y0 y1 y5
      generalize W7.drewN nq = W8 at D8 R8 K8 ⊢
      have f6 := D8.out.froz 6
      have f5 := D8.out.froz 5
      have q6 : W8.cell? ⟨b, 6, none⟩ = some (.slice (some ⟨g6, 0, none⟩) x.stack.length c6) := D8.out.cell rfl
      have q5 : W8.cell? ⟨b, 5, none⟩ = some (.int .i64 (at_ : Int)) := by rw [← HAE.out]; exact D8.out.cell rfl
      have G := Aside0.mk (rst_fin (at' := (at_ : Int) + ar) (by omega) HPK.out K8.out D8.out R8.out F8.out)
      clear D8 K8 R8 F8
      go_wp2_with fail
      generalize (W8.setCell ⟨b, 6, none⟩ (.slice Ar k cr)).setCell ⟨b, 5, none⟩ (.int .i64 ((at_ : Int) + ar)) = W9 at G ⊢
      have e11 : W9.cell? ⟨b, 11, none⟩ = some (.bool false) := by rw [← HEN.out]; exact G.out.1.cell rfl
      clear f6 f5 q6 q5 
      go_quiet (fail)
      go_wp2
      go_ret3
      have O := rst_out (n := nq) G.out.1 G.out.2.2 G.out.2.1
      clear G e11
      have HN2 := HNK.out
      have HTK2 := HTK.out
      simp [tks] at HTK2
      have eo : one ⟨22, ar⟩ x = ({ x with stack := x.stack.take k }, ar) := by rw [one_brz HKL.out.symm T.out, if_pos rfl]
      rw [eo, HCY.out]
      dsimp only at O ⊢
      rw [HAE.out, HSP.out]
      exact ⟨by rw [HEN.out]; rfl, O.1, O.2⟩
    · have q : (tx == 0) = false := beq_eq_false_iff_ne.mpr hz
      have Z := Aside0.mk hz
      clear hz
      have D8 := D7
      have K8 := K7
      have R8 := R7
      have F8 := F7
      clear K7 R7 F7 I7
      have f6 := D7.out.froz 6
      have f5 := D7.out.froz 5
      have q6 : W7.cell? ⟨b, 6, none⟩ = some (.slice (some ⟨g6, 0, none⟩) x.stack.length c6) := D7.out.cell rfl
      have q5 : W7.cell? ⟨b, 5, none⟩ = some (.int .i64 (at_ : Int)) := by rw [← HAE.out]; exact D7.out.cell rfl
      have G := Aside0.mk (rst_fin (at' := (at_ : Int) + 1) (by omega) HPK.out K8.out D8.out R8.out F8.out)
      clear D8 K8 R8 F8
      go_wp2_with fail
      generalize (W7.setCell ⟨b, 6, none⟩ (.slice Ar k cr)).setCell ⟨b, 5, none⟩ (.int .i64 ((at_ : Int) + 1)) = W9 at G ⊢
      have e11 : W9.cell? ⟨b, 11, none⟩ = some (.bool false) := by rw [← HEN.out]; exact G.out.1.cell rfl
      clear f6 f5 q6 q5 
      go_quiet (fail)
      go_wp2
      go_ret3
      have O := rst_out (n := nq) G.out.1 G.out.2.2 G.out.2.1
      clear G e11
      have HN2 := HNK.out
      have HTK2 := HTK.out
      simp [tks] at HTK2
      have eo : one ⟨22, ar⟩ x = ({ x with stack := x.stack.take k }, 1) := by rw [one_brz HKL.out.symm T.out, if_neg Z.out]
      rw [eo, HCY.out]
      dsimp only at O ⊢
      rw [HAE.out, HSP.out]
      exact ⟨by rw [HEN.out]; rfl, O.1, O.2⟩
  have h8 : 8 ≤ op ∧ op ≤ 20 := by
    have hop := may_op HPP.out.may
    have hop2 : 1 ≤ op ∧ op ≤ 23 := by simpa [isOp] using hop
    omega
  · have H8 := Aside0.mk h8
    have q1_ : (op == 1) = false := beq_eq_false_iff_ne.mpr o1
    have q2_ : (op == 2) = false := beq_eq_false_iff_ne.mpr o2
    have q3_ : (op == 3) = false := beq_eq_false_iff_ne.mpr o3
    have q4_ : (op == 4) = false := beq_eq_false_iff_ne.mpr o4
    have q5_ : (op == 5) = false := beq_eq_false_iff_ne.mpr o5
    have q6_ : (op == 6) = false := beq_eq_false_iff_ne.mpr o6
    have q7_ : (op == 7) = false := beq_eq_false_iff_ne.mpr o7
    have q21_ : (op == 21) = false := beq_eq_false_iff_ne.mpr o21
    have q22_ : (op == 22) = false := beq_eq_false_iff_ne.mpr o22
    have q23_ : (op == 23) = false := beq_eq_false_iff_ne.mpr o23
    have hkl : k + 2 = x.stack.length := by have h1 := HNK.out; have h2 := HTK.out; unfold tks at h2; rw [if_pos h8] at h2; omega
    obtain ⟨g6, cp6, hs6, hcap6, hown6, hc6k, _, _⟩ := D7.out.st.cell (i := k) (by dsimp only; omega)
    simp only [Value.slice.injEq] at hs6
    obtain ⟨rfl, _, rfl⟩ := hs6
    have hkn2 : (k : Int) < (n : Int) := by rw [← HNK.out.1]; omega
    have HKL := Aside0.mk hkl
    obtain ⟨tx, htx⟩ : ∃ tx, x.stack.getD k 0 = tx := ⟨_, rfl⟩
    have T := Aside0.mk htx
    dsimp only at hc6k
    rw [htx] at hc6k
    obtain ⟨g62, cp62, hs62, _, _, hc6l, _, _⟩ := D7.out.st.cell (i := k + 1) (by dsimp only; omega)
    simp only [Value.slice.injEq, Option.some.injEq, Addr.mk.injEq] at hs62
    obtain ⟨⟨rfl, _⟩, _, _⟩ := hs62
    obtain ⟨ty, hty⟩ : ∃ ty, x.stack.getD (k + 1) 0 = ty := ⟨_, rfl⟩
    have T2 := Aside0.mk hty
    have hkn3 : (k : Int) + 1 < (n : Int) := by have h1 := HNK.out.1; have h2 := HKL.out; omega
    dsimp only at hc6l
    rw [hty] at hc6l
    clear hty
    clear htx hcap6 hown6 hkl
    obtain ⟨tz, htz⟩ : ∃ tz, pr op tx ty = tz := ⟨_, rfl⟩
    have HZ := Aside0.mk htz
    have hv := two_val H8.out.1 H8.out.2 (d := tx) (t := ty) (by rw [← T.out]; exact is64_getD HR.out.1 _) (by rw [← T2.out]; exact is64_getD HR.out.1 _)
    rw [htz] at hv
    have HV := Aside0.mk hv
    clear hv htz h8 o1 o2 o3 o4 o5 o6 o7 o21 o22 o23
    have hw3 : wrap64 ((k : Int) + 1) = (k : Int) + 1 := by unfold wrap64; omega
    go_wp2_with fail
    have X1 := Aside0.mk (And.intro y0 (And.intro hc6k hc6l))
    clear y0 y1 y5 hc6k hc6l q1_ q2_ q3_ q4_ q5_ q6_ q7_ q21_ q22_ q23_
    have D7b := Aside0.mk (D7.out.move (W1 := W7.drew) (fun k _ _ => rfl))
    have R7b := Aside0.mk (R7.out.move (W' := W7.drew) (fun k _ => rfl))
    have K7b : Aside0 (Kept2 W W7.drew P) := ⟨K7.out.trans ⟨rfl, rfl, rfl, Nat.le_refl _, fun _ _ _ => rfl⟩⟩
    clear D7 R7 K7 I7
    refine start_ (n := 16) (S := fun w' => w'.cell? ⟨ib, 0, none⟩ = some (.int .u8 op) ∧ w'.cell? ⟨g6, k, none⟩ = some (.int .i64 tx) ∧ w'.cell? ⟨g6, k + 1, none⟩ = some (.int .i64 ty)) (ds := [12, 13, 14]) #[false, false, false, false, false, false, false, false, false, false, false, false, false, false, false, false] (by kernel_rfl) rfl rfl X1.out (fun hHeld => ?_)
    generalize W7.drew = W7 at D7b R7b K7b hHeld ⊢
    have D7 := D7b
    have R7 := R7b
    have K7 := K7b
    clear D7b R7b K7b
    refine pure_ (i := 0) (N := some 70) (v := ?_) (a' := ?_) #[true, false, false, false, false, false, false, false, false, false, false, false, false, false, false, false] rfl rfl (by kernel_rfl) (fun _ _ _ h => h) (Or.inl ⟨by rfl, ?_⟩) ?_ ?_
    rotate_left
    · intro w'
      go_simp
      with_reducible rfl
    rotate_left
    · simp only [Act.put, List.setIfInBounds_toArray, List.set_cons_zero, List.set_cons_succ, i64_w, i32_w]
      rfl
    refine pure_ (i := 1) (N := some 71) (v := ?_) (a' := ?_) #[true, true, false, false, false, false, false, false, false, false, false, false, false, false, false, false] rfl rfl (by kernel_rfl) (fun _ _ _ h => h) (Or.inl ⟨by rfl, ?_⟩) ?_ ?_
    rotate_left
    · intro w'
      go_simp
      with_reducible rfl
    rotate_left
    · simp only [Act.put, List.setIfInBounds_toArray, List.set_cons_zero, List.set_cons_succ, i64_w, i32_w]
      rfl
    refine take_ (i := 2) (N := some 72) (v := ?_) (a' := ?_) #[true, true, true, false, false, false, false, false, false, false, false, false, false, false, false, false] rfl rfl (by kernel_rfl) (fun _ _ _ h => h) (Or.inl ⟨by rfl, ?_⟩) hHeld ?_ ?_
    rotate_left
    · rintro w' ⟨s0, s1, s2⟩
      go_simp
      with_reducible rfl
    rotate_left
    · simp only [Act.put, List.setIfInBounds_toArray, List.set_cons_zero, List.set_cons_succ, i64_w, i32_w]
      rfl
    refine pure_ (i := 3) (N := some 73) (v := ?_) (a' := ?_) #[true, true, true, true, false, false, false, false, false, false, false, false, false, false, false, false] rfl rfl (by kernel_rfl) (fun _ _ _ h => h) (Or.inl ⟨by rfl, ?_⟩) ?_ ?_
    rotate_left
    · intro w'
      go_simp
      with_reducible rfl
    rotate_left
    · simp only [Act.put, List.setIfInBounds_toArray, List.set_cons_zero, List.set_cons_succ, i64_w, i32_w]
      rfl
    refine pure_ (i := 4) (N := some 74) (v := ?_) (a' := ?_) #[true, true, true, true, true, false, false, false, false, false, false, false, false, false, false, false] rfl rfl (by kernel_rfl) (fun _ _ _ h => h) (Or.inl ⟨by rfl, ?_⟩) ?_ ?_
    rotate_left
    · intro w'
      go_simp
      with_reducible rfl
    rotate_left
    · simp only [Act.put, List.setIfInBounds_toArray, List.set_cons_zero, List.set_cons_succ, i64_w, i32_w]
      rfl
    refine pure_ (i := 5) (N := some 75) (v := ?_) (a' := ?_) #[true, true, true, true, true, true, false, false, false, false, false, false, false, false, false, false] rfl rfl (by kernel_rfl) (fun _ _ _ h => h) (Or.inl ⟨by rfl, ?_⟩) ?_ ?_
    rotate_left
    · intro w'
      go_simp
      with_reducible rfl
    rotate_left
    · simp only [Act.put, List.setIfInBounds_toArray, List.set_cons_zero, List.set_cons_succ, i64_w, i32_w]
      rfl
    refine take_ (i := 6) (N := some 76) (v := ?_) (a' := ?_) #[true, true, true, true, true, true, true, false, false, false, false, false, false, false, false, false] rfl rfl (by kernel_rfl) (fun _ _ _ h => h) (Or.inl ⟨by rfl, ?_⟩) hHeld ?_ ?_
    rotate_left
    · rintro w' ⟨s0, s1, s2⟩
      go_simp
      with_reducible rfl
    rotate_left
    · simp only [Act.put, List.setIfInBounds_toArray, List.set_cons_zero, List.set_cons_succ, i64_w, i32_w]
      rfl
    refine pure_ (i := 7) (N := some 77) (v := ?_) (a' := ?_) #[true, true, true, true, true, true, true, true, false, false, false, false, false, false, false, false] rfl rfl (by kernel_rfl) (fun _ _ _ h => h) (Or.inl ⟨by rfl, ?_⟩) ?_ ?_
    rotate_left
    · intro w'
      go_simp
      with_reducible rfl
    rotate_left
    · simp only [Act.put, List.setIfInBounds_toArray, List.set_cons_zero, List.set_cons_succ, i64_w, i32_w]
      rfl
    refine pure_ (i := 8) (N := some 78) (v := ?_) (a' := ?_) #[true, true, true, true, true, true, true, true, true, false, false, false, false, false, false, false] rfl rfl (by kernel_rfl) (fun _ _ _ h => h) (Or.inl ⟨by rfl, ?_⟩) ?_ ?_
    rotate_left
    · intro w'
      go_simp
      with_reducible rfl
    rotate_left
    · simp only [Act.put, List.setIfInBounds_toArray, List.set_cons_zero, List.set_cons_succ, i64_w, i32_w]
      rfl
    refine pure_ (i := 9) (N := some 79) (v := ?_) (a' := ?_) #[true, true, true, true, true, true, true, true, true, true, false, false, false, false, false, false] rfl rfl (by kernel_rfl) (fun _ _ _ h => h) (Or.inl ⟨by rfl, ?_⟩) ?_ ?_
    rotate_left
    · intro w'
      go_simp
      with_reducible rfl
    rotate_left
    · simp only [Act.put, List.setIfInBounds_toArray, List.set_cons_zero, List.set_cons_succ, i64_w, i32_w]
      rfl
    refine pure_ (i := 10) (N := some 80) (v := ?_) (a' := ?_) #[true, true, true, true, true, true, true, true, true, true, true, false, false, false, false, false] rfl rfl (by kernel_rfl) (fun _ _ _ h => h) (Or.inl ⟨by rfl, ?_⟩) ?_ ?_
    rotate_left
    · intro w'
      go_simp
      have h0 : (0 : Int) ≤ (k : Int) + 1 := Int.add_nonneg (Int.natCast_nonneg k) (by decide)
      rw [if_pos h0]
    rotate_left
    · simp only [Act.put, List.setIfInBounds_toArray, List.set_cons_zero, List.set_cons_succ, i64_w, i32_w]
      rfl
    clear hw3
    refine take_ (i := 11) (N := some 81) (v := ?_) (a' := ?_) #[true, true, true, true, true, true, true, true, true, true, true, true, false, false, false, false] rfl rfl (by kernel_rfl) (fun _ _ _ h => h) (Or.inl ⟨by rfl, ?_⟩) hHeld ?_ ?_
    rotate_left
    · rintro w' ⟨s0, s1, s2⟩
      go_simp
      with_reducible rfl
    rotate_left
    · simp only [Act.put, List.setIfInBounds_toArray, List.set_cons_zero, List.set_cons_succ, i64_w, i32_w]
      rfl
    refine last_ (i := 12) (N := some 82) #[true, true, true, true, true, true, true, true, true, true, true, true, true, false, false, false] rfl rfl (by kernel_rfl) (by decide) (fun K hK => ?_)
    refine goes_ Try.func39 (by kernel_rfl) rfl #[.int .u8 op, .int .i64 tx, .int .i64 ty] (by rfl) rfl rfl (by simp only [List.map_toArray, List.map_cons, List.map_nil]; rfl) ?_
    refine (carillonref22_two.calls op tx ty tz _ HV.out).mono ?_
    rintro e W71 ⟨rfl, hd⟩
    refine ⟨_, rfl, ?_⟩
    have hb := hd
    have D7b := Aside0.mk (D7.out.below hb)
    have R7b := Aside0.mk (R7.out.move (W' := W71) (fun q hq => hb.block q (R7.out.lt hq)))
    have K7b := Aside0.mk (K7.out.trans (Kept2.of_below hb))
    clear D7 R7 K7 hd hb
    have D7 := D7b
    have R7 := R7b
    have K7 := K7b
    clear D7b R7b K7b
    refine hK.out _ _ ?_
    clear hK K
    refine norm_ (a' := ?_) ?_ ?_
    rotate_left
    · show Act.put _ (some 82) _ = _
      simp only [Act.put, List.setIfInBounds_toArray, List.set_cons_zero, List.set_cons_succ, i64_w, i32_w]
      rfl
    refine last_ (i := 13) (N := some 83) #[true, true, true, true, true, true, true, true, true, true, true, true, true, true, false, false] rfl rfl (by kernel_rfl) (by decide) (fun K hK => ?_)
    refine value_ (v := .slice (some ⟨W71.heap.size, 0, none⟩) 1 1) (w1 := W71.alloc (.cells #[.int .i64 tz] (2 : Nat))) (by rfl) rfl ?_ ?_
    · go_simp
    refine hK.out _ _ ?_
    clear hK K
    refine norm_ (a' := ?_) ?_ ?_
    rotate_left
    · show Act.put _ (some 83) _ = _
      simp only [Act.put, List.setIfInBounds_toArray, List.set_cons_zero, List.set_cons_succ, i64_w, i32_w]
      rfl
    have BA : Aside0 (Below W71.heap.size W71 (W71.alloc (.cells #[.int .i64 tz] (2 : Nat)))) := ⟨(Below.refl _ _).alloc (Nat.le_refl _) _⟩
    obtain ⟨rv', W8, hrun, hr', hg', ho'⟩ := run_more (ys := [tz]) (R7.out.move (W' := W71.alloc (.cells #[.int .i64 tz] (2 : Nat))) (fun q hq => heap_alloc_old _ _ (R7.out.lt hq))) 25 ⟨W71.heap.size, 0, none⟩ 1 (by
      intro j y hj
      have hj0 : j = 0 := by have := (List.getElem?_eq_some_iff.1 hj).1; simpa using this
      subst hj0
      have hy : tz = y := by simpa using hj
      subst hy
      rw [show (⟨W71.heap.size, 0, none⟩ : Addr).add 0 = ⟨W71.heap.size, 0, none⟩ by simp [Addr.add]]
      exact box_cell (heap_alloc_new _ _)) (by
      have := HNK.out.1
      rw [List.length_take]
      simp only [List.length_singleton]
      omega)
    obtain ⟨A8, c8, hsl', _⟩ := hr'.slice
    rw [show (x.stack.take k ++ [tz]).length = k + 1 by rw [List.length_append, List.length_take, HNK.out.1]; simp; omega] at hsl'
    subst hsl'
    refine last_ (i := 14) (N := some 84) #[true, true, true, true, true, true, true, true, true, true, true, true, true, true, true, false] rfl rfl (by kernel_rfl) (by decide) (fun K hK => ?_)
    refine value_ (v := .slice A8 (k + 1) c8) (w1 := W8) (by rfl) rfl ?_ ?_
    · exact more_run (.tmp 70) (.tmp 83) rfl rfl rfl hrun
    refine hK.out _ _ ?_
    clear hK K
    obtain ⟨d8, k8, f8⟩ := rst_more HPK.out K7.out D7.out F7.out BA.out hg' ho'
    have D8 := Aside0.mk d8
    have K8 := Aside0.mk k8
    have F8 := Aside0.mk f8
    have R8 := Aside0.mk hr'
    clear hr' hg' ho' hrun d8 k8 f8 BA D7 K7 F7 R7
    refine norm_ (a' := ?_) ?_ ?_
    rotate_left
    · show Act.put _ (some 84) _ = _
      simp only [Act.put, List.setIfInBounds_toArray, List.set_cons_zero, List.set_cons_succ, i64_w, i32_w]
      rfl
    refine pure_ (i := 15) (N := some 11) (v := ?_) (a' := ?_) #[true, true, true, true, true, true, true, true, true, true, true, true, true, true, true, true] rfl rfl (by kernel_rfl) (fun _ _ _ h => h) (Or.inl ⟨by rfl, ?_⟩) ?_ ?_
    rotate_left
    · intro w'
      go_simp
      with_reducible rfl
    rotate_left
    · simp only [Act.put, List.setIfInBounds_toArray, List.set_cons_zero, List.set_cons_succ, i64_w, i32_w]
      rfl
    refine done_ (by kernel_rfl) ?_
    clear hHeld X1
    have f6 := D8.out.froz 6
    have f5 := D8.out.froz 5
    have q6 : W8.cell? ⟨b, 6, none⟩ = some (.slice (some ⟨g6, 0, none⟩) x.stack.length c6) := D8.out.cell rfl
    have q5 : W8.cell? ⟨b, 5, none⟩ = some (.int .i64 (at_ : Int)) := by rw [← HAE.out]; exact D8.out.cell rfl
    have G := Aside0.mk (rst_fin (at' := (at_ : Int) + 1) (by omega) HPK.out K8.out D8.out R8.out F8.out)
    clear D8 K8 R8 F8
    go_wp2_with fail
    generalize (W8.setCell ⟨b, 6, none⟩ (.slice A8 (k + 1) c8)).setCell ⟨b, 5, none⟩ (.int .i64 ((at_ : Int) + 1)) = W9 at G ⊢
    have e11 : W9.cell? ⟨b, 11, none⟩ = some (.bool false) := by rw [← HEN.out]; exact G.out.1.cell rfl
    clear f6 f5 q6 q5 
    go_quiet (fail)
    go_wp2
    go_ret3
    have O := rst_out (n := nq) G.out.1 G.out.2.2 G.out.2.1
    clear G e11
    have HN2 := HNK.out
    have HTK2 := HTK.out
    try simp [tks] at HTK2
    have eo : one ⟨op, ar⟩ x = ({ x with stack := x.stack.take k ++ [tz] }, 1) := one_bin H8.out (by have := HKL.out; omega) T.out T2.out HZ.out
    rw [eo, HCY.out]
    dsimp only at O ⊢
    rw [HAE.out, HSP.out]
    exact ⟨by rw [HEN.out]; rfl, O.1, O.2⟩
end Go.Proofs.Ytlmpoojpbdmmfaa.H
end
