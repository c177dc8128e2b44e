/- Part 8 of the proof of the law L. The conditions: none. (Its parts: Tell22 SverifyEffect.) -/
import Derived.Deep.MidRow
import Derived.Deep.WholeRow
import Derived.Laws.Rows
import Derived.Test.YtlmpoojpbdmmfaaKL03
import Derived.Test.YtlmpoojpbdmmfaaKL07
section
set_option linter.unusedVariables false
set_option linter.unusedSimpArgs false
namespace Go.Proofs.Ytlmpoojpbdmmfaa.H
open Go.RowKit Go.Proofs.YtlmpoojpbdmmfaaW.PrintWords Go.Proofs.YtlmpoojpbdmmfaaW.PrintLast Go.Proofs.YtlmpoojpbdmmfaaW.PrintMore Go.Maps
set_option maxHeartbeats 4000000 in
theorem spent_calls {W : World} {P : Nat → Prop} {b : Nat} {c : Cf} {l : List S53} {x : Ctx} (h : VMem W P b c l x) : Calls Try.prog 15 #[.pointer (some ⟨b, 0, none⟩)] W fun e W' => e = .returned (.int .i64 x.spent) ∧ Below W.heap.size W W' := by
  obtain ⟨M, cv, sv, tv, iv, ov, h⟩ := h
  have c10 : W.cell? ⟨b, 10, none⟩ = some (.int .i64 x.spent) := h.cell rfl
  clear h
  go_enter Try.func15, Try.ntmps15
  go_wp2
  go_ret
  exact ⟨rfl, Below.refl _ _⟩
set_option maxHeartbeats 4000000 in
theorem outs_calls {W : World} {P : Nat → Prop} {b : Nat} {c : Cf} {l : List S53} {x : Ctx} (h : VMem W P b c l x) (he : x.ended = true) (hl : x.outs.length ≤ 500000) : Calls Try.prog 16 #[.pointer (some ⟨b, 0, none⟩)] W fun e W' => (∃ v', e = .returned (.tuple #[v', .bool true]) ∧ IR W' v' x.outs ∧ ∀ k, v'.ownBlock = some k → W.heap.size ≤ k) ∧ Below W.heap.size W W' := by
  have c11 : W.cell? ⟨b, 11, none⟩ = some (.bool true) := by rw [← he]; exact vm_ended h
  obtain ⟨M, cv, sv, tv, iv, ov, h⟩ := h
  have c9 : W.cell? ⟨b, 9, none⟩ = some ov := h.cell rfl
  obtain ⟨A, cap, hov, hcap, hrd, hA⟩ := h.ou.rd
  rw [hov] at c9
  have HR := Aside0.mk hrd
  have HA := Aside0.mk hA
  have HL := Aside0.mk hl
  clear h he hrd hA hl hov
  go_enter Try.func16, Try.ntmps16
  go_wp2_with fail
  refine (clone_ints HR.out HA.out HL.out).mono ?_
  rintro e W2 ⟨v', rfl, h1, h2, h3⟩
  have H1 := Aside0.mk h1
  have H2 := Aside0.mk h2
  have H3 := Aside0.mk h3
  clear h1 h2 h3
  go_wp2
  go_ret2
  exact ⟨⟨v', rfl, H1.out, H2.out⟩, H3.out⟩
def cxA (x : Ctx) (sv tv iv ov : Value) : Array Value := #[.int .i64 (x.at_ : Int), sv, tv, iv, ov, .int .i64 x.spent, .bool x.ended]
structure CxAt (W : World) (lo : Nat) (x : Ctx) (sv tv iv ov : Value) : Prop where
  st : IR W sv x.stack
  sl : IR W tv x.slots
  inn : IR W iv x.ins
  ou : IR W ov x.outs
  d1 : ∀ k, sv.ownBlock = some k → tv.ownBlock ≠ some k ∧ iv.ownBlock ≠ some k ∧ ov.ownBlock ≠ some k
  d2 : ∀ k, tv.ownBlock = some k → iv.ownBlock ≠ some k ∧ ov.ownBlock ≠ some k
  d3 : ∀ k, iv.ownBlock = some k → ov.ownBlock ≠ some k
  lo : ∀ k, (sv.ownBlock = some k ∨ tv.ownBlock = some k ∨ iv.ownBlock = some k ∨ ov.ownBlock = some k) → lo ≤ k
theorem CxAt.move {W W1 : World} {lo : Nat} {x : Ctx} {sv tv iv ov : Value} (h : CxAt W lo x sv tv iv ov) (hm : ∀ k, lo ≤ k → k < W.heap.size → W1.heap[k]? = W.heap[k]?) : CxAt W1 lo x sv tv iv ov :=
  ⟨h.st.move (fun k hk => hm k (h.lo k (.inl hk)) (h.st.lt hk)), h.sl.move (fun k hk => hm k (h.lo k (.inr (.inl hk))) (h.sl.lt hk)), h.inn.move (fun k hk => hm k (h.lo k (.inr (.inr (.inl hk)))) (h.inn.lt hk)), h.ou.move (fun k hk => hm k (h.lo k (.inr (.inr (.inr hk)))) (h.ou.lt hk)), h.d1, h.d2, h.d3, h.lo⟩
theorem CxAt.low {W : World} {lo lo' : Nat} {x : Ctx} {sv tv iv ov : Value} (h : CxAt W lo x sv tv iv ov) (hl : lo' ≤ lo) : CxAt W lo' x sv tv iv ov := ⟨h.st, h.sl, h.inn, h.ou, h.d1, h.d2, h.d3, fun k hk => Nat.le_trans hl (h.lo k hk)⟩
theorem under37 : ∃ fs, Try.prog.underlying 37 = some (.struct fs) := by
  have h : (Try.prog.underlying 37).map (fun d => match d with | .struct _ => true | _ => false) = some true := by kernel_rfl
  cases hd : Try.prog.underlying 37 with
  | none => rw [hd] at h; cases h
  | some d =>
    rw [hd] at h
    cases d <;> simp at h
    exact ⟨_, rfl⟩
theorem info37 : (Try.prog.info? 37).map (·.size) = some 7 := by kernel_rfl
def cx0 : Array Value := #[.int .i64 0, .slice none 0 0, .slice none 0 0, .slice none 0 0, .slice none 0 0, .int .i64 0, .bool false]
theorem zero37 (w : World) : (zeroValue 37).run Try.prog w = .ok (.agg cx0) w := by kernel_rfl
theorem one_slice {v : Value} {W : World} {xs : List Int} (h : IR W v xs) : v.oneCell' = true := by
  obtain ⟨A, cap, e, _⟩ := h.slice
  rw [e]; rfl
theorem cx_all {W : World} {lo : Nat} {x : Ctx} {sv tv iv ov : Value} (h : CxAt W lo x sv tv iv ov) : (cxA x sv tv iv ov).all (·.oneCell') = true := by
  obtain ⟨A1, p1, e1, _⟩ := h.st.slice
  obtain ⟨A2, p2, e2, _⟩ := h.sl.slice
  obtain ⟨A3, p3, e3, _⟩ := h.inn.slice
  obtain ⟨A4, p4, e4, _⟩ := h.ou.slice
  subst e1 e2 e3 e4
  simp [cxA, Value.oneCell']
theorem cx_store {W : World} {g : Nat} {t : TypeId} {cs cs' : Array Value} (h : W.heap[g]? = some (.cells cs t (0, 0))) (h7 : cs.size = 7) (h7' : cs'.size = 7) (h1 : cs'.all (·.oneCell') = true) : (Instr.storeAt 37 (.pointer (some ⟨g, 0, none⟩)) (.agg cs')).run Try.prog W = .ok () (W.setRow g cs') := by
  have := run_storeVar_row (P := Try.prog) W g t 37 cs cs' h (by rw [info37, h7']) (by rw [h7, h7']) h1
  simp only [Instr.storeAt, Instr.sureAddr, Sem.run_bind, Sem.run_pure, Result.andThen]
  exact this
theorem wpList_cxstore {ops : Array Oper} {rest : List Oper} {op : Oper} {a : Act} {w : World} {Q : Exit → Act → World → Prop} (hgd : op.guard = none) (x y : Operand) (ho : op.op = .store 37 x y) {g : Nat} (hx : a.eval x = .pointer (some ⟨g, 0, none⟩)) {t : TypeId} {cs cs' : Array Value}
    (hy : a.eval y = .agg cs') (hb : w.heap[g]? = some (.cells cs t (0, 0))) (h7 : cs.size = 7) (h7' : cs'.size = 7) (h1 : cs'.all (·.oneCell') = true) (h : wpList Try.prog ops Q rest (a.put op.dst undef) (w.setRow g cs')) : wpList Try.prog ops Q (op :: rest) a w := by
  refine wpList_plain hgd fun _ hK => ?_
  unfold Oper.wp execOp
  simp only [ho, hx, hy, Sem.run_bind, Result.andThen_ok, cx_store hb h7 h7' h1]
  exact hK _ _ h
set_option maxHeartbeats 16000000 in
set_option maxRecDepth 100000 in
theorem copied_calls {W : World} {x : Ctx} {sv tv iv ov : Value} (h1 : IR W sv x.stack) (h2 : IR W tv x.slots) (h3 : IR W iv x.ins) (h4 : IR W ov x.outs) (l1 : x.stack.length ≤ 500000) (l2 : x.slots.length ≤ 500000) (l3 : x.ins.length ≤ 500000) (l4 : x.outs.length ≤ 500000) :
    Calls Try.prog 31 #[.agg (cxA x sv tv iv ov)] W fun e W' => (∃ sv' tv' iv' ov', e = .returned (.agg (cxA x sv' tv' iv' ov')) ∧ CxAt W' W.heap.size x sv' tv' iv' ov') ∧ Below W.heap.size W W' := by
  obtain ⟨A1, p1, e1, q1, r1, n1⟩ := h1.rd
  obtain ⟨A2, p2, e2, q2, r2, n2⟩ := h2.rd
  obtain ⟨A3, p3, e3, q3, r3, n3⟩ := h3.rd
  obtain ⟨A4, p4, e4, q4, r4, n4⟩ := h4.rd
  subst e1 e2 e3 e4
  have R1 := Aside0.mk (And.intro r1 (And.intro n1 l1))
  have R2 := Aside0.mk (And.intro r2 (And.intro n2 l2))
  have R3 := Aside0.mk (And.intro r3 (And.intro n3 l3))
  have R4 := Aside0.mk (And.intro r4 (And.intro n4 l4))
  clear r1 r2 r3 r4 n1 n2 n3 n4 l1 l2 l3 l4 h1 h2 h3 h4
  have hz := zero37
  simp only [cxA]
  go_enter Try.func31, Try.ntmps31
  go_wp2_with fail
  obtain ⟨W0, hW0⟩ : ∃ W0, ((W.alloc (.cells #[.int .i64 (x.at_ : Int), .slice A1 x.stack.length p1, .slice A2 x.slots.length p2, .slice A3 x.ins.length p3, .slice A4 x.outs.length p4, .int .i64 x.spent, .bool x.ended] (37 : Nat))).alloc (.cells cx0 (37 : Nat))).drew = W0 := ⟨_, rfl⟩
  have X1 : Aside0 (W0.heap[W.heap.size]? = some (.cells #[.int .i64 (x.at_ : Int), .slice A1 x.stack.length p1, .slice A2 x.slots.length p2, .slice A3 x.ins.length p3, .slice A4 x.outs.length p4, .int .i64 x.spent, .bool x.ended] (37 : Nat) (0, 0))) := ⟨by
    rw [← hW0]
    show ((W.alloc (.cells #[.int .i64 (x.at_ : Int), .slice A1 x.stack.length p1, .slice A2 x.slots.length p2, .slice A3 x.ins.length p3, .slice A4 x.outs.length p4, .int .i64 x.spent, .bool x.ended] (37 : Nat))).alloc (.cells cx0 (37 : Nat))).heap[W.heap.size]? = _
    rw [heap_alloc_old _ _ (by simp)]
    exact heap_alloc_new _ _⟩
  have X2 : Aside0 (W0.heap[W.heap.size + 1]? = some (.cells cx0 (37 : Nat) (0, 0))) := ⟨by
    rw [← hW0]
    show ((W.alloc (.cells #[.int .i64 (x.at_ : Int), .slice A1 x.stack.length p1, .slice A2 x.slots.length p2, .slice A3 x.ins.length p3, .slice A4 x.outs.length p4, .int .i64 x.spent, .bool x.ended] (37 : Nat))).alloc (.cells cx0 (37 : Nat))).heap[W.heap.size + 1]? = _
    have := heap_alloc_new (W.alloc (.cells #[.int .i64 (x.at_ : Int), .slice A1 x.stack.length p1, .slice A2 x.slots.length p2, .slice A3 x.ins.length p3, .slice A4 x.outs.length p4, .int .i64 x.spent, .bool x.ended] (37 : Nat))) (.cells cx0 (37 : Nat))
    simpa using this⟩
  have X3 : Aside0 (Below W.heap.size W W0) := ⟨by rw [← hW0]; exact below_drew1 (((Below.refl _ _).alloc (Nat.le_refl _) _).alloc (by simp) _)⟩
  have X4 : Aside0 (W.heap.size + 2 ≤ W0.heap.size) := ⟨by rw [← hW0]; show W.heap.size + 2 ≤ ((W.alloc (.cells #[.int .i64 (x.at_ : Int), .slice A1 x.stack.length p1, .slice A2 x.slots.length p2, .slice A3 x.ins.length p3, .slice A4 x.outs.length p4, .int .i64 x.spent, .bool x.ended] (37 : Nat))).alloc (.cells cx0 (37 : Nat))).heap.size; simp⟩
  refine start_ (n := 20) (S := fun w' => w'.cell? ⟨W.heap.size, 1, none⟩ = some (.slice A1 x.stack.length p1) ∧ w'.cell? ⟨W.heap.size, 2, none⟩ = some (.slice A2 x.slots.length p2) ∧ w'.cell? ⟨W.heap.size, 3, none⟩ = some (.slice A3 x.ins.length p3) ∧ w'.cell? ⟨W.heap.size, 4, none⟩ = some (.slice A4 x.outs.length p4)) (ds := [13, 15, 17, 19]) #[false, false, false, false, false, false, false, false, false, false, false, false, false, false, false, false, false, false, false, false] (by kernel_rfl) rfl rfl ?hS (fun hHeld => ?_)
  case hS =>
    rw [hW0]
    refine ⟨?_, ?_, ?_, ?_⟩ <;> simp [World.cell?, X1.out]
  rw [hW0] at hHeld ⊢
  clear hW0
  generalize hbb : W.heap.size = bb at *
  refine pure_ (i := 0) (N := some 3) (v := ?_) (a' := ?_) #[true, false, false, false, false, false, false, false, false, false, false, false, false, false, false, false, false, false, false, false] rfl rfl (by kernel_rfl) (fun _ _ _ h => h) (Or.inl ⟨by rfl, ?_⟩) ?_ ?_
  rotate_left
  · intro w'
    go_simp
    with_reducible rfl
  rotate_left
  · simp only [Act.put, List.setIfInBounds_toArray, List.set_cons_zero, List.set_cons_succ, i64_w, i32_w]
    rfl
  refine take_ (i := 1) (N := some 4) (v := ?_) (a' := ?_) #[true, true, false, false, false, false, false, false, false, false, false, false, false, false, false, false, false, false, false, false] rfl rfl (by kernel_rfl) (fun _ _ _ h => h) (Or.inl ⟨by rfl, ?_⟩) hHeld ?_ ?_
  rotate_left
  · rintro w' ⟨s0, s1, s2, s3⟩
    go_simp
    with_reducible rfl
  rotate_left
  · simp only [Act.put, List.setIfInBounds_toArray, List.set_cons_zero, List.set_cons_succ, i64_w, i32_w]
    rfl
  refine pure_ (i := 3) (N := some 6) (v := ?_) (a' := ?_) #[true, true, false, true, false, false, false, false, false, false, false, false, false, false, false, false, false, false, false, false] rfl rfl (by kernel_rfl) (fun _ _ _ h => h) (Or.inl ⟨by rfl, ?_⟩) ?_ ?_
  rotate_left
  · intro w'
    go_simp
    with_reducible rfl
  rotate_left
  · simp only [Act.put, List.setIfInBounds_toArray, List.set_cons_zero, List.set_cons_succ, i64_w, i32_w]
    rfl
  refine take_ (i := 4) (N := some 7) (v := ?_) (a' := ?_) #[true, true, false, true, true, false, false, false, false, false, false, false, false, false, false, false, false, false, false, false] rfl rfl (by kernel_rfl) (fun _ _ _ h => h) (Or.inl ⟨by rfl, ?_⟩) hHeld ?_ ?_
  rotate_left
  · rintro w' ⟨s0, s1, s2, s3⟩
    go_simp
    with_reducible rfl
  rotate_left
  · simp only [Act.put, List.setIfInBounds_toArray, List.set_cons_zero, List.set_cons_succ, i64_w, i32_w]
    rfl
  refine pure_ (i := 6) (N := some 9) (v := ?_) (a' := ?_) #[true, true, false, true, true, false, true, false, false, false, false, false, false, false, false, false, false, false, false, false] rfl rfl (by kernel_rfl) (fun _ _ _ h => h) (Or.inl ⟨by rfl, ?_⟩) ?_ ?_
  rotate_left
  · intro w'
    go_simp
    with_reducible rfl
  rotate_left
  · simp only [Act.put, List.setIfInBounds_toArray, List.set_cons_zero, List.set_cons_succ, i64_w, i32_w]
    rfl
  refine take_ (i := 7) (N := some 10) (v := ?_) (a' := ?_) #[true, true, false, true, true, false, true, true, false, false, false, false, false, false, false, false, false, false, false, false] rfl rfl (by kernel_rfl) (fun _ _ _ h => h) (Or.inl ⟨by rfl, ?_⟩) hHeld ?_ ?_
  rotate_left
  · rintro w' ⟨s0, s1, s2, s3⟩
    go_simp
    with_reducible rfl
  rotate_left
  · simp only [Act.put, List.setIfInBounds_toArray, List.set_cons_zero, List.set_cons_succ, i64_w, i32_w]
    rfl
  refine pure_ (i := 9) (N := some 12) (v := ?_) (a' := ?_) #[true, true, false, true, true, false, true, true, false, true, false, false, false, false, false, false, false, false, false, false] rfl rfl (by kernel_rfl) (fun _ _ _ h => h) (Or.inl ⟨by rfl, ?_⟩) ?_ ?_
  rotate_left
  · intro w'
    go_simp
    with_reducible rfl
  rotate_left
  · simp only [Act.put, List.setIfInBounds_toArray, List.set_cons_zero, List.set_cons_succ, i64_w, i32_w]
    rfl
  refine take_ (i := 10) (N := some 13) (v := ?_) (a' := ?_) #[true, true, false, true, true, false, true, true, false, true, true, false, false, false, false, false, false, false, false, false] rfl rfl (by kernel_rfl) (fun _ _ _ h => h) (Or.inl ⟨by rfl, ?_⟩) hHeld ?_ ?_
  rotate_left
  · rintro w' ⟨s0, s1, s2, s3⟩
    go_simp
    with_reducible rfl
  rotate_left
  · simp only [Act.put, List.setIfInBounds_toArray, List.set_cons_zero, List.set_cons_succ, i64_w, i32_w]
    rfl
  refine one_ (i := 2) (N := some 5) #[true, true, true, true, true, false, true, true, false, true, true, false, false, false, false, false, false, false, false, false] rfl rfl (by kernel_rfl) (by decide) (fun K hK => ?_)
  refine goes_ Try.func28 (by kernel_rfl) rfl #[.slice A1 x.stack.length p1] (by rfl) rfl rfl (by simp only [List.map_toArray, List.map_cons, List.map_nil]; rfl) ?_
  refine (clone_ints (R1.out.1.below (hbb ▸ X3.out)) R1.out.2.1 R1.out.2.2).mono ?_
  rintro e W1 ⟨v1, rfl, i1, o1, b1⟩
  refine ⟨_, rfl, ?_⟩
  have V1 := Aside0.mk i1
  have O1 : Aside0 (∀ k, v1.ownBlock = some k → W0.heap.size ≤ k) := ⟨o1⟩
  have X1' := Aside0.mk ((b1.block bb (by have := X4.out; omega)).trans X1.out)
  have X2' := Aside0.mk ((b1.block (bb + 1) (by have := X4.out; omega)).trans X2.out)
  have X3' : Aside0 (Below bb W W1) := ⟨X3.out.trans (b1.mono (by have := X4.out; omega))⟩
  have X4' : Aside0 (bb + 2 ≤ W1.heap.size) := ⟨by have := X4.out; have := b1.size; omega⟩
  have U1 : Aside0 (∀ k, v1.ownBlock = some k → k < W1.heap.size) := ⟨fun k hk => i1.lt hk⟩
  have Z1 : Aside0 (W0.heap.size ≤ W1.heap.size) := ⟨b1.size⟩
  have Y1 : Aside0 (bb + 2 ≤ W0.heap.size) := X4
  clear X1 X2 X3 X4
  have X1 := X1'
  have X2 := X2'
  have X3 := X3'
  have X4 := X4'
  clear X1' X2' X3' X4' i1 o1 b1
  refine hK.out _ _ ⟨by simp [World.cell?, X1.out], by simp [World.cell?, X1.out], by simp [World.cell?, X1.out], by simp [World.cell?, X1.out]⟩ (fun hHeld => ?_)
  clear hK K
  refine norm_ (a' := ?_) ?_ ?_
  rotate_left
  · show Act.put _ (some 5) _ = _
    simp only [Act.put, List.setIfInBounds_toArray, List.set_cons_zero, List.set_cons_succ, i64_w, i32_w]
    rfl
  refine pure_ (i := 12) (N := some 15) (v := ?_) (a' := ?_) #[true, true, true, true, true, false, true, true, false, true, true, false, true, false, false, false, false, false, false, false] rfl rfl (by kernel_rfl) (fun _ _ _ h => h) (Or.inl ⟨by rfl, ?_⟩) ?_ ?_
  rotate_left
  · intro w'
    go_simp
    with_reducible rfl
  rotate_left
  · simp only [Act.put, List.setIfInBounds_toArray, List.set_cons_zero, List.set_cons_succ, i64_w, i32_w]
    rfl
  refine one_ (i := 5) (N := some 8) #[true, true, true, true, true, true, true, true, false, true, true, false, true, false, false, false, false, false, false, false] rfl rfl (by kernel_rfl) (by decide) (fun K hK => ?_)
  refine goes_ Try.func28 (by kernel_rfl) rfl #[.slice A2 x.slots.length p2] (by rfl) rfl rfl (by simp only [List.map_toArray, List.map_cons, List.map_nil]; rfl) ?_
  refine (clone_ints (R2.out.1.below (hbb ▸ X3.out)) R2.out.2.1 R2.out.2.2).mono ?_
  rintro e W2 ⟨v2, rfl, i2, o2, b2⟩
  refine ⟨_, rfl, ?_⟩
  have V2 := Aside0.mk i2
  have O2 : Aside0 (∀ k, v2.ownBlock = some k → W1.heap.size ≤ k) := ⟨o2⟩
  have X1' := Aside0.mk ((b2.block bb (by have := X4.out; omega)).trans X1.out)
  have X2' := Aside0.mk ((b2.block (bb + 1) (by have := X4.out; omega)).trans X2.out)
  have X3' : Aside0 (Below bb W W2) := ⟨X3.out.trans (b2.mono (by have := X4.out; omega))⟩
  have X4' : Aside0 (bb + 2 ≤ W2.heap.size) := ⟨by have := X4.out; have := b2.size; omega⟩
  have U2 : Aside0 (∀ k, v2.ownBlock = some k → k < W2.heap.size) := ⟨fun k hk => i2.lt hk⟩
  have Z2 : Aside0 (W1.heap.size ≤ W2.heap.size) := ⟨b2.size⟩
  have Y2 : Aside0 (bb + 2 ≤ W1.heap.size) := X4
  have V1' := Aside0.mk (V1.out.move (fun k hk => b2.block k (V1.out.lt hk)))
  clear V1
  have V1 := V1'
  clear V1'
  clear X1 X2 X3 X4
  have X1 := X1'
  have X2 := X2'
  have X3 := X3'
  have X4 := X4'
  clear X1' X2' X3' X4' i2 o2 b2
  refine hK.out _ _ ⟨by simp [World.cell?, X1.out], by simp [World.cell?, X1.out], by simp [World.cell?, X1.out], by simp [World.cell?, X1.out]⟩ (fun hHeld => ?_)
  clear hK K
  refine norm_ (a' := ?_) ?_ ?_
  rotate_left
  · show Act.put _ (some 8) _ = _
    simp only [Act.put, List.setIfInBounds_toArray, List.set_cons_zero, List.set_cons_succ, i64_w, i32_w]
    rfl
  refine one_ (i := 8) (N := some 11) #[true, true, true, true, true, true, true, true, true, true, true, false, true, false, false, false, false, false, false, false] rfl rfl (by kernel_rfl) (by decide) (fun K hK => ?_)
  refine goes_ Try.func28 (by kernel_rfl) rfl #[.slice A3 x.ins.length p3] (by rfl) rfl rfl (by simp only [List.map_toArray, List.map_cons, List.map_nil]; rfl) ?_
  refine (clone_ints (R3.out.1.below (hbb ▸ X3.out)) R3.out.2.1 R3.out.2.2).mono ?_
  rintro e W3 ⟨v3, rfl, i3, o3, b3⟩
  refine ⟨_, rfl, ?_⟩
  have V3 := Aside0.mk i3
  have O3 : Aside0 (∀ k, v3.ownBlock = some k → W2.heap.size ≤ k) := ⟨o3⟩
  have X1' := Aside0.mk ((b3.block bb (by have := X4.out; omega)).trans X1.out)
  have X2' := Aside0.mk ((b3.block (bb + 1) (by have := X4.out; omega)).trans X2.out)
  have X3' : Aside0 (Below bb W W3) := ⟨X3.out.trans (b3.mono (by have := X4.out; omega))⟩
  have X4' : Aside0 (bb + 2 ≤ W3.heap.size) := ⟨by have := X4.out; have := b3.size; omega⟩
  have U3 : Aside0 (∀ k, v3.ownBlock = some k → k < W3.heap.size) := ⟨fun k hk => i3.lt hk⟩
  have Z3 : Aside0 (W2.heap.size ≤ W3.heap.size) := ⟨b3.size⟩
  have Y3 : Aside0 (bb + 2 ≤ W2.heap.size) := X4
  have V1' := Aside0.mk (V1.out.move (fun k hk => b3.block k (V1.out.lt hk)))
  clear V1
  have V1 := V1'
  clear V1'
  have V2' := Aside0.mk (V2.out.move (fun k hk => b3.block k (V2.out.lt hk)))
  clear V2
  have V2 := V2'
  clear V2'
  clear X1 X2 X3 X4
  have X1 := X1'
  have X2 := X2'
  have X3 := X3'
  have X4 := X4'
  clear X1' X2' X3' X4' i3 o3 b3
  refine hK.out _ _ ⟨by simp [World.cell?, X1.out], by simp [World.cell?, X1.out], by simp [World.cell?, X1.out], by simp [World.cell?, X1.out]⟩ (fun hHeld => ?_)
  clear hK K
  refine norm_ (a' := ?_) ?_ ?_
  rotate_left
  · show Act.put _ (some 11) _ = _
    simp only [Act.put, List.setIfInBounds_toArray, List.set_cons_zero, List.set_cons_succ, i64_w, i32_w]
    rfl
  refine one_ (i := 11) (N := some 14) #[true, true, true, true, true, true, true, true, true, true, true, true, true, false, false, false, false, false, false, false] rfl rfl (by kernel_rfl) (by decide) (fun K hK => ?_)
  refine goes_ Try.func28 (by kernel_rfl) rfl #[.slice A4 x.outs.length p4] (by rfl) rfl rfl (by simp only [List.map_toArray, List.map_cons, List.map_nil]; rfl) ?_
  refine (clone_ints (R4.out.1.below (hbb ▸ X3.out)) R4.out.2.1 R4.out.2.2).mono ?_
  rintro e W4 ⟨v4, rfl, i4, o4, b4⟩
  refine ⟨_, rfl, ?_⟩
  have V4 := Aside0.mk i4
  have O4 : Aside0 (∀ k, v4.ownBlock = some k → W3.heap.size ≤ k) := ⟨o4⟩
  have X1' := Aside0.mk ((b4.block bb (by have := X4.out; omega)).trans X1.out)
  have X2' := Aside0.mk ((b4.block (bb + 1) (by have := X4.out; omega)).trans X2.out)
  have X3' : Aside0 (Below bb W W4) := ⟨X3.out.trans (b4.mono (by have := X4.out; omega))⟩
  have X4' : Aside0 (bb + 2 ≤ W4.heap.size) := ⟨by have := X4.out; have := b4.size; omega⟩
  have U4 : Aside0 (∀ k, v4.ownBlock = some k → k < W4.heap.size) := ⟨fun k hk => i4.lt hk⟩
  have Z4 : Aside0 (W3.heap.size ≤ W4.heap.size) := ⟨b4.size⟩
  have Y4 : Aside0 (bb + 2 ≤ W3.heap.size) := X4
  have V1' := Aside0.mk (V1.out.move (fun k hk => b4.block k (V1.out.lt hk)))
  clear V1
  have V1 := V1'
  clear V1'
  have V2' := Aside0.mk (V2.out.move (fun k hk => b4.block k (V2.out.lt hk)))
  clear V2
  have V2 := V2'
  clear V2'
  have V3' := Aside0.mk (V3.out.move (fun k hk => b4.block k (V3.out.lt hk)))
  clear V3
  have V3 := V3'
  clear V3'
  clear X1 X2 X3 X4
  have X1 := X1'
  have X2 := X2'
  have X3 := X3'
  have X4 := X4'
  clear X1' X2' X3' X4' i4 o4 b4
  refine hK.out _ _ ⟨by simp [World.cell?, X1.out], by simp [World.cell?, X1.out], by simp [World.cell?, X1.out], by simp [World.cell?, X1.out]⟩ (fun hHeld => ?_)
  clear hK K
  refine norm_ (a' := ?_) ?_ ?_
  rotate_left
  · show Act.put _ (some 14) _ = _
    simp only [Act.put, List.setIfInBounds_toArray, List.set_cons_zero, List.set_cons_succ, i64_w, i32_w]
    rfl
  have C4 : Aside0 (CxAt W4 (bb + 2) x v1 v2 v3 v4) := ⟨by
    have z1 := Z1.out
    have z2 := Z2.out
    have z3 := Z3.out
    have z4 := Z4.out
    have y1 := Y1.out
    refine ⟨V1.out, V2.out, V3.out, V4.out, fun k hk => ⟨fun e => ?_, fun e => ?_, fun e => ?_⟩, fun k hk => ⟨fun e => ?_, fun e => ?_⟩, fun k hk e => ?_, fun k hk => ?_⟩
    · have := U1.out k hk; have := O2.out k e; omega
    · have := U1.out k hk; have := O3.out k e; omega
    · have := U1.out k hk; have := O4.out k e; omega
    · have := U2.out k hk; have := O3.out k e; omega
    · have := U2.out k hk; have := O4.out k e; omega
    · have := U3.out k hk; have := O4.out k e; omega
    · rcases hk with hk | hk | hk | hk
      · have := O1.out k hk; omega
      · have := O2.out k hk; omega
      · have := O3.out k hk; omega
      · have := O4.out k hk; omega⟩
  obtain ⟨B1, s1, f1, _⟩ := V1.out.slice
  obtain ⟨B2, s2, f2, _⟩ := V2.out.slice
  obtain ⟨B3, s3, f3, _⟩ := V3.out.slice
  obtain ⟨B4, s4, f4, _⟩ := V4.out.slice
  subst f1 f2 f3 f4
  clear V1 V2 V3 V4 O1 O2 O3 O4 U1 U2 U3 U4 Z1 Z2 Z3 Z4 Y1 Y2 Y3 Y4
  have g4 : W4.cell? ⟨bb, 1, none⟩ = some (.slice A1 x.stack.length p1) := by simp [World.cell?, X1.out]
  have h4 : W4.frozen? ⟨bb, 1, none⟩ = false := by simp [World.frozen?, X1.out]
  refine last_ (i := 13) (N := none) #[true, true, true, true, true, true, true, true, true, true, true, true, true, true, false, false, false, false, false, false] rfl rfl (by kernel_rfl) (by decide) (fun K hK => ?_)
  refine skip_ (w1 := W4.setCell ⟨bb, 1, none⟩ (.slice B1 x.stack.length s1)) (by rfl) rfl ?_ ?_
  · go_simp
  refine hK.out _ _ ?_
  clear hK K g4 h4
  have X1' : Aside0 ((W4.setCell ⟨bb, 1, none⟩ (.slice B1 x.stack.length s1)).heap[bb]? = some (.cells #[.int .i64 (x.at_ : Int), .slice B1 x.stack.length s1, .slice A2 x.slots.length p2, .slice A3 x.ins.length p3, .slice A4 x.outs.length p4, .int .i64 x.spent, .bool x.ended] (37 : Nat) (0, 0))) := ⟨by simp [World.setCell, Array.getElem?_modify, X1.out]⟩
  have X2' : Aside0 ((W4.setCell ⟨bb, 1, none⟩ (.slice B1 x.stack.length s1)).heap[bb + 1]? = some (.cells cx0 (37 : Nat) (0, 0))) := ⟨(Below.heap_setCell W4 ⟨bb, 1, none⟩ _ (bb + 1) (by simp)).trans X2.out⟩
  have X3' : Aside0 (Below bb W (W4.setCell ⟨bb, 1, none⟩ (.slice B1 x.stack.length s1))) := ⟨X3.out.setCell (p := ⟨bb, 1, none⟩) (Nat.le_refl _) _⟩
  have X4' : Aside0 (bb + 2 ≤ (W4.setCell ⟨bb, 1, none⟩ (.slice B1 x.stack.length s1)).heap.size) := ⟨by simpa [World.setCell] using X4.out⟩
  have C4' := Aside0.mk (C4.out.move (W1 := W4.setCell ⟨bb, 1, none⟩ (.slice B1 x.stack.length s1)) (fun k hk _ => Below.heap_setCell W4 ⟨bb, 1, none⟩ _ k (by show k ≠ bb; omega)))
  clear X1 X2 X3 X4 C4
  have X1 := X1'
  have X2 := X2'
  have X3 := X3'
  have X4 := X4'
  have C4 := C4'
  clear X1' X2' X3' X4' C4'
  generalize W4.setCell ⟨bb, 1, none⟩ (.slice B1 x.stack.length s1) = W5 at X1 X2 X3 X4 C4 ⊢
  refine pure_ (i := 14) (N := some 16) (v := ?_) (a' := ?_) #[true, true, true, true, true, true, true, true, true, true, true, true, true, true, true, false, false, false, false, false] rfl rfl (by kernel_rfl) (fun _ _ _ h => h) (Or.inl ⟨by rfl, ?_⟩) ?_ ?_
  rotate_left
  · intro w'
    go_simp
    with_reducible rfl
  rotate_left
  · simp only [Act.put, List.setIfInBounds_toArray, List.set_cons_zero, List.set_cons_succ, i64_w, i32_w]
    rfl
  have g5 : W5.cell? ⟨bb, 2, none⟩ = some (.slice A2 x.slots.length p2) := by simp [World.cell?, X1.out]
  have h5 : W5.frozen? ⟨bb, 2, none⟩ = false := by simp [World.frozen?, X1.out]
  refine last_ (i := 15) (N := none) #[true, true, true, true, true, true, true, true, true, true, true, true, true, true, true, true, false, false, false, false] rfl rfl (by kernel_rfl) (by decide) (fun K hK => ?_)
  refine skip_ (w1 := W5.setCell ⟨bb, 2, none⟩ (.slice B2 x.slots.length s2)) (by rfl) rfl ?_ ?_
  · go_simp
  refine hK.out _ _ ?_
  clear hK K g5 h5
  have X1' : Aside0 ((W5.setCell ⟨bb, 2, none⟩ (.slice B2 x.slots.length s2)).heap[bb]? = some (.cells #[.int .i64 (x.at_ : Int), .slice B1 x.stack.length s1, .slice B2 x.slots.length s2, .slice A3 x.ins.length p3, .slice A4 x.outs.length p4, .int .i64 x.spent, .bool x.ended] (37 : Nat) (0, 0))) := ⟨by simp [World.setCell, Array.getElem?_modify, X1.out]⟩
  have X2' : Aside0 ((W5.setCell ⟨bb, 2, none⟩ (.slice B2 x.slots.length s2)).heap[bb + 1]? = some (.cells cx0 (37 : Nat) (0, 0))) := ⟨(Below.heap_setCell W5 ⟨bb, 2, none⟩ _ (bb + 1) (by simp)).trans X2.out⟩
  have X3' : Aside0 (Below bb W (W5.setCell ⟨bb, 2, none⟩ (.slice B2 x.slots.length s2))) := ⟨X3.out.setCell (p := ⟨bb, 2, none⟩) (Nat.le_refl _) _⟩
  have X4' : Aside0 (bb + 2 ≤ (W5.setCell ⟨bb, 2, none⟩ (.slice B2 x.slots.length s2)).heap.size) := ⟨by simpa [World.setCell] using X4.out⟩
  have C4' := Aside0.mk (C4.out.move (W1 := W5.setCell ⟨bb, 2, none⟩ (.slice B2 x.slots.length s2)) (fun k hk _ => Below.heap_setCell W5 ⟨bb, 2, none⟩ _ k (by show k ≠ bb; omega)))
  clear X1 X2 X3 X4 C4
  have X1 := X1'
  have X2 := X2'
  have X3 := X3'
  have X4 := X4'
  have C4 := C4'
  clear X1' X2' X3' X4' C4'
  generalize W5.setCell ⟨bb, 2, none⟩ (.slice B2 x.slots.length s2) = W6 at X1 X2 X3 X4 C4 ⊢
  refine pure_ (i := 16) (N := some 17) (v := ?_) (a' := ?_) #[true, true, true, true, true, true, true, true, true, true, true, true, true, true, true, true, true, false, false, false] rfl rfl (by kernel_rfl) (fun _ _ _ h => h) (Or.inl ⟨by rfl, ?_⟩) ?_ ?_
  rotate_left
  · intro w'
    go_simp
    with_reducible rfl
  rotate_left
  · simp only [Act.put, List.setIfInBounds_toArray, List.set_cons_zero, List.set_cons_succ, i64_w, i32_w]
    rfl
  have g6 : W6.cell? ⟨bb, 3, none⟩ = some (.slice A3 x.ins.length p3) := by simp [World.cell?, X1.out]
  have h6 : W6.frozen? ⟨bb, 3, none⟩ = false := by simp [World.frozen?, X1.out]
  refine last_ (i := 17) (N := none) #[true, true, true, true, true, true, true, true, true, true, true, true, true, true, true, true, true, true, false, false] rfl rfl (by kernel_rfl) (by decide) (fun K hK => ?_)
  refine skip_ (w1 := W6.setCell ⟨bb, 3, none⟩ (.slice B3 x.ins.length s3)) (by rfl) rfl ?_ ?_
  · go_simp
  refine hK.out _ _ ?_
  clear hK K g6 h6
  have X1' : Aside0 ((W6.setCell ⟨bb, 3, none⟩ (.slice B3 x.ins.length s3)).heap[bb]? = some (.cells #[.int .i64 (x.at_ : Int), .slice B1 x.stack.length s1, .slice B2 x.slots.length s2, .slice B3 x.ins.length s3, .slice A4 x.outs.length p4, .int .i64 x.spent, .bool x.ended] (37 : Nat) (0, 0))) := ⟨by simp [World.setCell, Array.getElem?_modify, X1.out]⟩
  have X2' : Aside0 ((W6.setCell ⟨bb, 3, none⟩ (.slice B3 x.ins.length s3)).heap[bb + 1]? = some (.cells cx0 (37 : Nat) (0, 0))) := ⟨(Below.heap_setCell W6 ⟨bb, 3, none⟩ _ (bb + 1) (by simp)).trans X2.out⟩
  have X3' : Aside0 (Below bb W (W6.setCell ⟨bb, 3, none⟩ (.slice B3 x.ins.length s3))) := ⟨X3.out.setCell (p := ⟨bb, 3, none⟩) (Nat.le_refl _) _⟩
  have X4' : Aside0 (bb + 2 ≤ (W6.setCell ⟨bb, 3, none⟩ (.slice B3 x.ins.length s3)).heap.size) := ⟨by simpa [World.setCell] using X4.out⟩
  have C4' := Aside0.mk (C4.out.move (W1 := W6.setCell ⟨bb, 3, none⟩ (.slice B3 x.ins.length s3)) (fun k hk _ => Below.heap_setCell W6 ⟨bb, 3, none⟩ _ k (by show k ≠ bb; omega)))
  clear X1 X2 X3 X4 C4
  have X1 := X1'
  have X2 := X2'
  have X3 := X3'
  have X4 := X4'
  have C4 := C4'
  clear X1' X2' X3' X4' C4'
  generalize W6.setCell ⟨bb, 3, none⟩ (.slice B3 x.ins.length s3) = W7 at X1 X2 X3 X4 C4 ⊢
  refine pure_ (i := 18) (N := some 18) (v := ?_) (a' := ?_) #[true, true, true, true, true, true, true, true, true, true, true, true, true, true, true, true, true, true, true, false] rfl rfl (by kernel_rfl) (fun _ _ _ h => h) (Or.inl ⟨by rfl, ?_⟩) ?_ ?_
  rotate_left
  · intro w'
    go_simp
    with_reducible rfl
  rotate_left
  · simp only [Act.put, List.setIfInBounds_toArray, List.set_cons_zero, List.set_cons_succ, i64_w, i32_w]
    rfl
  have g7 : W7.cell? ⟨bb, 4, none⟩ = some (.slice A4 x.outs.length p4) := by simp [World.cell?, X1.out]
  have h7 : W7.frozen? ⟨bb, 4, none⟩ = false := by simp [World.frozen?, X1.out]
  refine last_ (i := 19) (N := none) #[true, true, true, true, true, true, true, true, true, true, true, true, true, true, true, true, true, true, true, true] rfl rfl (by kernel_rfl) (by decide) (fun K hK => ?_)
  refine skip_ (w1 := W7.setCell ⟨bb, 4, none⟩ (.slice B4 x.outs.length s4)) (by rfl) rfl ?_ ?_
  · go_simp
  refine hK.out _ _ ?_
  clear hK K g7 h7
  have X1' : Aside0 ((W7.setCell ⟨bb, 4, none⟩ (.slice B4 x.outs.length s4)).heap[bb]? = some (.cells #[.int .i64 (x.at_ : Int), .slice B1 x.stack.length s1, .slice B2 x.slots.length s2, .slice B3 x.ins.length s3, .slice B4 x.outs.length s4, .int .i64 x.spent, .bool x.ended] (37 : Nat) (0, 0))) := ⟨by simp [World.setCell, Array.getElem?_modify, X1.out]⟩
  have X2' : Aside0 ((W7.setCell ⟨bb, 4, none⟩ (.slice B4 x.outs.length s4)).heap[bb + 1]? = some (.cells cx0 (37 : Nat) (0, 0))) := ⟨(Below.heap_setCell W7 ⟨bb, 4, none⟩ _ (bb + 1) (by simp)).trans X2.out⟩
  have X3' : Aside0 (Below bb W (W7.setCell ⟨bb, 4, none⟩ (.slice B4 x.outs.length s4))) := ⟨X3.out.setCell (p := ⟨bb, 4, none⟩) (Nat.le_refl _) _⟩
  have X4' : Aside0 (bb + 2 ≤ (W7.setCell ⟨bb, 4, none⟩ (.slice B4 x.outs.length s4)).heap.size) := ⟨by simpa [World.setCell] using X4.out⟩
  have C4' := Aside0.mk (C4.out.move (W1 := W7.setCell ⟨bb, 4, none⟩ (.slice B4 x.outs.length s4)) (fun k hk _ => Below.heap_setCell W7 ⟨bb, 4, none⟩ _ k (by show k ≠ bb; omega)))
  clear X1 X2 X3 X4 C4
  have X1 := X1'
  have X2 := X2'
  have X3 := X3'
  have X4 := X4'
  have C4 := C4'
  clear X1' X2' X3' X4' C4'
  generalize W7.setCell ⟨bb, 4, none⟩ (.slice B4 x.outs.length s4) = W8 at X1 X2 X3 X4 C4 ⊢
  refine done_ (by kernel_rfl) ?_
  have g0 : ∀ j v, (#[.int .i64 (x.at_ : Int), .slice B1 x.stack.length s1, .slice B2 x.slots.length s2, .slice B3 x.ins.length s3, .slice B4 x.outs.length s4, .int .i64 x.spent, .bool x.ended] : Array Value)[j]? = some v → W8.cell? ⟨bb, j, none⟩ = some v := fun j v hv => by simp [World.cell?, X1.out, hv]
  have k0 : W8.cell? ⟨bb, 0, none⟩ = some (.int .i64 (x.at_ : Int)) := g0 0 _ rfl
  have k1 := g0 1 _ rfl
  have k2 := g0 2 _ rfl
  have k3 := g0 3 _ rfl
  have k4 := g0 4 _ rfl
  have k5 := g0 5 _ rfl
  have k6 := g0 6 _ rfl
  clear g0
  go_wp2_with (first | ((with_reducible refine gate_store (t := 37) (p := 2) rfl ?_); refine wpList_cxstore rfl (.tmp 2) (.tmp 19) rfl rfl rfl X2.out rfl rfl (cx_all C4.out) ?_))
  obtain ⟨fs, hfs⟩ := under37
  have hX := setRow_heap W8 (bb + 1) _ (cxA x (.slice B1 x.stack.length s1) (.slice B2 x.slots.length s2) (.slice B3 x.ins.length s3) (.slice B4 x.outs.length s4)) _ _ X2.out
  have hC := (C4.out.move (W1 := W8.setRow (bb + 1) (cxA x (.slice B1 x.stack.length s1) (.slice B2 x.slots.length s2) (.slice B3 x.ins.length s3) (.slice B4 x.outs.length s4))) (fun k hk _ => setRow_other W8 (bb + 1) k _ (by omega))).low (lo' := bb) (by omega)
  have hB := setRow_below2 X3.out (by omega : bb ≤ bb + 1) (cxA x (.slice B1 x.stack.length s1) (.slice B2 x.slots.length s2) (.slice B3 x.ins.length s3) (.slice B4 x.outs.length s4))
  refine bodyPost_ret (results_cell_row (P := Try.prog) (fn := Try.f31) (p := 2) (ty := 37) rfl _ _ (bb + 1) 37 _ (0, 0) _ ?hp hX hfs rfl (by rw [info37]; rfl)) rfl ?_
  case hp => rfl
  rw [hbb]
  exact ⟨⟨_, _, _, _, rfl, hC⟩, hB⟩
set_option maxHeartbeats 8000000 in
set_option maxRecDepth 100000 in
theorem save_calls {W : World} {P : Nat → Prop} {b : Nat} {c : Cf} {l : List S53} {x : Ctx} (h : VMem W P b c l x) (l1 : x.stack.length ≤ 500000) (l2 : x.slots.length ≤ 500000) (l3 : x.ins.length ≤ 500000) (l4 : x.outs.length ≤ 500000) :
    Calls Try.prog 13 #[.pointer (some ⟨b, 0, none⟩)] W fun e W' => (∃ sv' tv' iv' ov', e = .returned (.tuple #[.agg (cxA x sv' tv' iv' ov'), .int .i64 0]) ∧ CxAt W' W.heap.size x sv' tv' iv' ov') ∧ Below W.heap.size W W' := by
  obtain ⟨M, cv, sv, tv, iv, ov, h⟩ := h
  have hz := zero37
  have D := Aside0.mk (h.move (W1 := W.alloc (.cells cx0 (37 : Nat))) (fun k _ hk => heap_alloc_old _ _ hk))
  have X := Aside0.mk (heap_alloc_new W (.cells cx0 (37 : Nat)))
  have B := Aside0.mk ((Below.refl W.heap.size W).alloc (Nat.le_refl _) (.cells cx0 (37 : Nat)))
  have Z : Aside0 (W.heap.size < (W.alloc (.cells cx0 (37 : Nat))).heap.size) := ⟨by simp⟩
  have L := Aside0.mk (And.intro l1 (And.intro l2 (And.intro l3 l4)))
  clear h l1 l2 l3 l4
  have k0 : (W.alloc (.cells cx0 (37 : Nat))).cell? ⟨b, 5, none⟩ = some (.int .i64 (x.at_ : Int)) := D.out.cell rfl
  have k1 : (W.alloc (.cells cx0 (37 : Nat))).cell? ⟨b, 6, none⟩ = some sv := D.out.cell rfl
  have k2 : (W.alloc (.cells cx0 (37 : Nat))).cell? ⟨b, 7, none⟩ = some tv := D.out.cell rfl
  have k3 : (W.alloc (.cells cx0 (37 : Nat))).cell? ⟨b, 8, none⟩ = some iv := D.out.cell rfl
  have k4 : (W.alloc (.cells cx0 (37 : Nat))).cell? ⟨b, 9, none⟩ = some ov := D.out.cell rfl
  have k5 : (W.alloc (.cells cx0 (37 : Nat))).cell? ⟨b, 10, none⟩ = some (.int .i64 x.spent) := D.out.cell rfl
  have k6 : (W.alloc (.cells cx0 (37 : Nat))).cell? ⟨b, 11, none⟩ = some (.bool x.ended) := D.out.cell rfl
  go_enter Try.func13, Try.ntmps13
  go_wp2_with fail
  clear k0 k1 k2 k3 k4 k5 k6
  generalize W.alloc (.cells cx0 (37 : Nat)) = W1 at D X B Z ⊢
  generalize hib : W.heap.size = ib at X B Z ⊢
  refine (copied_calls D.out.st D.out.sl D.out.inn D.out.ou L.out.1 L.out.2.1 L.out.2.2.1 L.out.2.2.2).mono ?_
  rintro e W2 ⟨⟨sv', tv', iv', ov', rfl, hc⟩, hb⟩
  have X2 := Aside0.mk ((hb.block ib Z.out).trans X.out)
  have C2 := Aside0.mk (hc.low (lo' := ib + 1) (by have := Z.out; omega))
  have B2 : Aside0 (Below ib W W2) := ⟨B.out.trans (hb.mono (by have := Z.out; omega))⟩
  clear hc hb D X B Z
  go_wp2_with (first | ((with_reducible refine gate_store (t := 37) (p := 2) rfl ?_); refine wpList_cxstore (cs' := cxA x sv' tv' iv' ov') rfl (.tmp 2) (.tmp 11) rfl rfl rfl X2.out rfl rfl (cx_all C2.out) ?_))
  obtain ⟨fs, hfs⟩ := under37
  have hX := setRow_heap W2 ib _ (cxA x sv' tv' iv' ov') _ _ X2.out
  have hC := (C2.out.move (W1 := W2.setRow ib (cxA x sv' tv' iv' ov')) (fun k hk _ => setRow_other W2 ib k _ (by omega))).low (lo' := ib) (by omega)
  have hB := setRow_below2 B2.out (Nat.le_refl ib) (cxA x sv' tv' iv' ov')
  refine bodyPost_ret (results_ct (P := Try.prog) (fn := Try.f13) (p := 2) (u := 3) (ty := 37) rfl _ _ ib 37 _ (0, 0) _ ?hp hX hfs rfl (by rw [info37]; rfl)) rfl ?_
  case hp => rfl
  rw [hib]
  exact ⟨⟨_, _, _, _, rfl, hC⟩, hB⟩
end Go.Proofs.Ytlmpoojpbdmmfaa.H
set_option linter.unusedVariables false
set_option linter.unusedSimpArgs false
namespace Go.Proofs.Ytlmpoojpbdmmfaa.H
open Go.RowKit Go.Proofs.YtlmpoojpbdmmfaaW.PrintWords Go.Proofs.YtlmpoojpbdmmfaaW.PrintLast Go.Proofs.YtlmpoojpbdmmfaaW.PrintMore Go.Maps
def upd (s : Fin 4 → Option Value) (i : Fin 4) (v : Value) : Fin 4 → Option Value := fun j => if j = i then some v else s j
def cnt (s : Fin 4 → Option Value) : Nat := (s 0).isNone.toNat + (s 1).isNone.toNat + (s 2).isNone.toNat + (s 3).isNone.toNat
theorem cnt_upd {s : Fin 4 → Option Value} {i : Fin 4} (h : s i = none) (v : Value) : cnt (upd s i v) + 1 = cnt s := by
  rcases i with ⟨_ | _ | _ | _ | k, hk⟩
  · have h' : s 0 = none := h
    simp [cnt, upd, h']; omega
  · have h' : s 1 = none := h
    simp [cnt, upd, h']; omega
  · have h' : s 2 = none := h
    simp [cnt, upd, h']; omega
  · have h' : s 3 = none := h
    simp [cnt, upd, h']
  · omega
theorem cnt_zero {s : Fin 4 → Option Value} (h : cnt s = 0) : ∀ i, (s i).isSome = true := by
  have h0 : (s 0).isNone = false ∧ (s 1).isNone = false ∧ (s 2).isNone = false ∧ (s 3).isNone = false := by
    unfold cnt at h
    refine ⟨?_, ?_, ?_, ?_⟩
    · cases e : (s 0).isNone <;> simp [e] at h ⊢
    · cases e : (s 1).isNone <;> simp [e] at h ⊢
    · cases e : (s 2).isNone <;> simp [e] at h ⊢
    · cases e : (s 3).isNone <;> simp [e] at h ⊢
  intro i
  rcases i with ⟨_ | _ | _ | _ | k, hk⟩
  · have := h0.1; simpa [Option.isNone_iff_eq_none, Option.isSome_iff_ne_none] using this
  · have := h0.2.1; simpa [Option.isNone_iff_eq_none, Option.isSome_iff_ne_none] using this
  · have := h0.2.2.1; simpa [Option.isNone_iff_eq_none, Option.isSome_iff_ne_none] using this
  · have := h0.2.2.2; simpa [Option.isNone_iff_eq_none, Option.isSome_iff_ne_none] using this
  · omega
def lack (s : Fin 4 → Option Value) (ix : Fin 4 → Nat) : List Nat := (if (s 0).isNone then [ix 0] else []) ++ ((if (s 1).isNone then [ix 1] else []) ++ ((if (s 2).isNone then [ix 2] else []) ++ (if (s 3).isNone then [ix 3] else [])))
theorem mem_lack {s : Fin 4 → Option Value} {ix : Fin 4 → Nat} {j : Nat} (h : j ∈ lack s ix) : ∃ i, s i = none ∧ ix i = j := by
  have part : ∀ i : Fin 4, j ∈ (if (s i).isNone then [ix i] else []) → s i = none ∧ ix i = j := fun i hi => by
    split at hi
    · rename_i e
      exact ⟨by simpa using e, (List.mem_singleton.1 hi).symm⟩
    · cases hi
  unfold lack at h
  rcases List.mem_append.1 h with h | h
  · exact ⟨0, part 0 h⟩
  rcases List.mem_append.1 h with h | h
  · exact ⟨1, part 1 h⟩
  rcases List.mem_append.1 h with h | h
  · exact ⟨2, part 2 h⟩
  · exact ⟨3, part 3 h⟩
theorem lack_ne {s : Fin 4 → Option Value} {ix : Fin 4 → Nat} (h : cnt s ≠ 0) : lack s ix ≠ [] := by
  intro e
  apply h
  unfold lack at e
  simp only [List.append_eq_nil_iff] at e
  obtain ⟨e0, e1, e2, e3⟩ := e
  have part : ∀ i : Fin 4, (if (s i).isNone then [ix i] else []) = [] → (s i).isNone = false := fun i hi => by
    cases he : (s i).isNone with
    | false => rfl
    | true => simp [he] at hi
  simp [cnt, part 0 e0, part 1 e1, part 2 e2, part 3 e3]
theorem makers {ops : Array Oper} {Q : Exit → Act → World → Prop} {S : World → Prop} {ds : List Nat} {md : Region.Mode} {m : Nat} (ix : Fin 4 → Nat) (o : Fin 4 → Oper) (lst : (Fin 4 → Option Value) → Array Bool) (fr : (Fin 4 → Option Value) → Act) (Inv : (Fin 4 → Option Value) → World → Prop)
    (hix : ∀ i, ops[ix i]? = some (o i)) (hready : ∀ s, cnt s ≠ 0 → ¬((s 0).isSome = true ∧ (s 1).isSome = true ∧ (s 2).isSome = true) → Region.ready md ops (lst s) = lack s ix) (hset : ∀ s i v, s i = none → (lst s).setIfInBounds (ix i) true = lst (upd s i v)) (hput : ∀ s i v, s i = none → (fr s).put (o i).dst v = fr (upd s i v))
    (hS : ∀ s w, Inv s w → S w)
    (hrun : ∀ s i w, s i = none → Inv s w → ∀ K : Act → World → Prop, (∀ v w', Inv (upd s i v) w' → K ((fr s).put (o i).dst v) w') → if Region.wanted (o i) (yielded ops (fr s).tmps) = true then Oper.wp Try.prog (o i) (fr s) w K Q else K ((fr s).put (o i).dst undef) w)
    (hexc : ∀ s w, (s 0).isSome = true → (s 1).isSome = true → (s 2).isSome = true → s 3 = none → Inv s w → wpAnyLast Try.prog md ops Q S ds (m + 1) (lst s) (fr s) w)
    (hend : ∀ s w, (∀ i, (s i).isSome = true) → Inv s w → wpAnyLast Try.prog md ops Q S ds m (lst s) (fr s) w) :
    ∀ n s w, cnt s = n → Inv s w → wpAnyLast Try.prog md ops Q S ds (m + n) (lst s) (fr s) w
  | 0, s, w, hc, hI => hend s w (cnt_zero hc) hI
  | n + 1, s, w, hc, hI => by
    by_cases hx : (s 0).isSome = true ∧ (s 1).isSome = true ∧ (s 2).isSome = true
    · obtain ⟨x0, x1, x2⟩ := hx
      have e0 : (s 0).isNone = false := by simpa [Option.isSome_iff_ne_none] using x0
      have e1 : (s 1).isNone = false := by simpa [Option.isSome_iff_ne_none] using x1
      have e2 : (s 2).isNone = false := by simpa [Option.isSome_iff_ne_none] using x2
      have h3 : s 3 = none := by
        cases h3 : s 3 with
        | none => rfl
        | some v =>
          exfalso
          have e3 : (s 3).isNone = false := by rw [h3]; rfl
          unfold cnt at hc
          rw [e0, e1, e2, e3] at hc
          simp at hc
      have hn0 : n = 0 := by
        have e3 : (s 3).isNone = true := by rw [h3]; rfl
        unfold cnt at hc
        rw [e0, e1, e2, e3] at hc
        simp at hc
        omega
      subst hn0
      exact hexc s w x0 x1 x2 h3 hI
    have hr := hready s (by omega) hx
    refine wpAnyLast_ready hr (lack_ne (by omega)) (fun j hj => ?_)
    obtain ⟨i, hn, rfl⟩ := mem_lack hj
    refine wpOp_step (hix i) (fun K' hK => hrun s i w hn hI K' (fun v w' h => hK _ _ ⟨fun _ _ => hS _ _ h, ?_⟩))
    rw [hset s i v hn, hput s i v hn]
    exact makers ix o lst fr Inv hix hready hset hput hS hrun hexc hend n (upd s i v) w' (by have := cnt_upd hn v; omega) h
end Go.Proofs.Ytlmpoojpbdmmfaa.H
end
section
set_option linter.unusedVariables false
set_option linter.unusedSimpArgs false
namespace Go.Proofs.Ytlmpoojpbdmmfaa.H
open Go.RowKit Go.Proofs.YtlmpoojpbdmmfaaW.PrintWords Go.Proofs.YtlmpoojpbdmmfaaW.PrintLast Go.Proofs.YtlmpoojpbdmmfaaW.PrintMore
def verify_Effect.f (a0 : Int) : Option (Int × Int) := some (tks a0, gvs a0)
set_option maxHeartbeats 4000000 in
theorem verify_Effect.calls (a0 : Int) (r1 : Int) (r2 : Int) (w : World) (h : verify_Effect.f a0 = some (r1, r2)) :
    Calls Try.prog 74 #[.int .u8 a0] w fun e w' => e = .returned (.tuple #[.int .i64 r1, .int .i64 r2]) ∧ Drawn0 w w' := by
  simp only [verify_Effect.f, Option.some.injEq, Prod.mk.injEq] at h
  obtain ⟨rfl, rfl⟩ := h
  by_cases h : 1 ≤ a0 ∧ a0 ≤ 23
  · have h1 : a0 = 1 ∨ a0 = 2 ∨ a0 = 3 ∨ a0 = 4 ∨ a0 = 5 ∨ a0 = 6 ∨ a0 = 7 ∨ a0 = 8 ∨ a0 = 9 ∨ a0 = 10 ∨ a0 = 11 ∨ a0 = 12 ∨ a0 = 13 ∨ a0 = 14 ∨ a0 = 15 ∨ a0 = 16 ∨ a0 = 17 ∨ a0 = 18 ∨ a0 = 19 ∨ a0 = 20 ∨ a0 = 21 ∨ a0 = 22 ∨ a0 = 23 := by omega
    clear h
    rcases h1 with rfl | rfl | rfl | rfl | rfl | rfl | rfl | rfl | rfl | rfl | rfl | rfl | rfl | rfl | rfl | rfl | rfl | rfl | rfl | rfl | rfl | rfl | rfl
    all_goals (
      go_enter Try.func74, Try.ntmps74
      go_wp2
      go_ret2
      exact ⟨rfl, Drawn0.refl _⟩)
  · have e : ∀ c : Int, 1 ≤ c → c ≤ 23 → (a0 == c) = false := fun c h1 h2 => beq_eq_false_iff_ne.mpr (by omega)
    have t1 : tks a0 = 0 := by unfold tks; rw [if_neg (by omega), if_neg (by omega)]
    have t2 : gvs a0 = 0 := by unfold gvs; rw [if_neg (by omega), if_neg (by omega)]
    rw [t1, t2]
    have e1 := e 1 (by decide) (by decide)
    have e2 := e 2 (by decide) (by decide)
    have e3 := e 3 (by decide) (by decide)
    have e4 := e 4 (by decide) (by decide)
    have e5 := e 5 (by decide) (by decide)
    have e6 := e 6 (by decide) (by decide)
    have e7 := e 7 (by decide) (by decide)
    have e8 := e 8 (by decide) (by decide)
    have e9 := e 9 (by decide) (by decide)
    have e10 := e 10 (by decide) (by decide)
    have e11 := e 11 (by decide) (by decide)
    have e12 := e 12 (by decide) (by decide)
    have e13 := e 13 (by decide) (by decide)
    have e14 := e 14 (by decide) (by decide)
    have e15 := e 15 (by decide) (by decide)
    have e16 := e 16 (by decide) (by decide)
    have e17 := e 17 (by decide) (by decide)
    have e18 := e 18 (by decide) (by decide)
    have e19 := e 19 (by decide) (by decide)
    have e20 := e 20 (by decide) (by decide)
    have e22 := e 22 (by decide) (by decide)
    clear e t1 t2 h
    go_enter Try.func74, Try.ntmps74
    go_wp2
    go_ret2
    exact ⟨rfl, Drawn0.refl _⟩
end Go.Proofs.Ytlmpoojpbdmmfaa.H
end
