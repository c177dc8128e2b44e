/- Part 23 of the proof of the law R. The conditions: none. (Its parts: Rnew22.) -/
import Derived.Test.YtlmpoojpbdmmfaaKR18
import Derived.Test.YtlmpoojpbdmmfaaKR22
section
set_option linter.unusedVariables false
set_option linter.unusedSimpArgs false
namespace Go.Proofs.Ytlmpoojpbdmmfaa.H
open Go.RowKit Go.Proofs.YtlmpoojpbdmmfaaW.PrintWords Go.Proofs.YtlmpoojpbdmmfaaW.PrintLast Go.Proofs.YtlmpoojpbdmmfaaW.PrintMore Go.Maps
theorem wpList_mk25 {ops : Array Oper} {rest : List Oper} {op : Oper} {a : Act} {w : World} {Q : Exit → Act → World → Prop} (hgd : op.guard = none) (x : Operand) (ho : op.op = .makeSlice 25 x x) {z : Int} (hx : a.eval x = .int .i64 z) (h0 : 0 ≤ z) (h1 : z ≤ 1000)
    (h : wpList Try.prog ops Q rest (a.put op.dst (.slice (some ⟨w.heap.size, 0, none⟩) z.toNat z.toNat)) (w.alloc (.cells (madeCells #[Value.int .i64 0] z.toNat) 2))) : wpList Try.prog ops Q (op :: rest) a w := by
  refine wpList_plain hgd fun _ hK => ?_
  unfold Oper.wp execOp
  simp only [ho, hx, Sem.run_bind, Result.andThen_ok, mk25 h0 h1]
  exact hK _ _ h
section
variable {W W1 : World} {P P' : Nat → Prop} {b : Nat} {c : Cf} {x : Ctx} {cv sv tv iv ov : Value}
theorem RA.newsl (h : RA W P b c x cv sv tv iv ov) {xs : List Int} {rv : Value} (hr : IR W rv xs) (hd : ∀ k, rv.ownBlock = some k → sv.ownBlock ≠ some k ∧ iv.ownBlock ≠ some k ∧ ov.ownBlock ≠ some k) (hz : ∀ k, rv.ownBlock = some k → P k) :
    RA (W.setCell ⟨b, 7, none⟩ rv) P b c { x with slots := xs } cv sv rv iv ov := by
  have hne : ∀ {v : Value} {xs : List Int}, IR W v xs → IR (W.setCell ⟨b, 7, none⟩ rv) v xs := fun hv => hv.move (fun k hk => Below.heap_setCell W ⟨b, 7, none⟩ rv k (fun e => h.ne hv (by rw [hk, e])))
  refine ⟨by simp [World.setCell, Array.getElem?_modify, h.vb, rmA], hne h.st, hne hr, hne h.inn, hne h.ou, fun k hk => ⟨fun e => (hd k e).1 hk, (h.d1 k hk).2⟩, fun k hk => (hd k hk).2, h.d3, h.zb, fun k hk => ?_⟩
  rcases hk with hk | hk | hk | hk
  · exact h.zs k (.inl hk)
  · exact hz k hk
  · exact h.zs k (.inr (.inr (.inl hk)))
  · exact h.zs k (.inr (.inr (.inr hk)))
theorem RA.newou (h : RA W P b c x cv sv tv iv ov) {xs : List Int} {rv : Value} (hr : IR W rv xs) (hd : ∀ k, rv.ownBlock = some k → sv.ownBlock ≠ some k ∧ tv.ownBlock ≠ some k ∧ iv.ownBlock ≠ some k) (hz : ∀ k, rv.ownBlock = some k → P k) :
    RA (W.setCell ⟨b, 9, none⟩ rv) P b c { x with outs := xs } cv sv tv iv rv := by
  have hne : ∀ {v : Value} {xs : List Int}, IR W v xs → IR (W.setCell ⟨b, 9, none⟩ rv) v xs := fun hv => hv.move (fun k hk => Below.heap_setCell W ⟨b, 9, none⟩ rv k (fun e => h.ne hv (by rw [hk, e])))
  refine ⟨by simp [World.setCell, Array.getElem?_modify, h.vb, rmA], hne h.st, hne h.sl, hne h.inn, hne hr, fun k hk => ⟨(h.d1 k hk).1, (h.d1 k hk).2.1, fun e => (hd k e).1 hk⟩, fun k hk => ⟨(h.d2 k hk).1, fun e => (hd k e).2.1 hk⟩, fun k hk e => (hd k e).2.2 hk, h.zb, fun k hk => ?_⟩
  rcases hk with hk | hk | hk | hk
  · exact h.zs k (.inl hk)
  · exact h.zs k (.inr (.inl hk))
  · exact h.zs k (.inr (.inr (.inl hk)))
  · exact hz k hk
theorem RA.newin (h : RA W P b c x cv sv tv iv ov) {xs : List Int} {rv : Value} (hr : IR W rv xs) (hd : ∀ k, rv.ownBlock = some k → sv.ownBlock ≠ some k ∧ tv.ownBlock ≠ some k ∧ ov.ownBlock ≠ some k) (hz : ∀ k, rv.ownBlock = some k → P k) :
    RA (W.setCell ⟨b, 8, none⟩ rv) P b c { x with ins := xs } cv sv tv rv ov := by
  have hne : ∀ {v : Value} {xs : List Int}, IR W v xs → IR (W.setCell ⟨b, 8, none⟩ rv) v xs := fun hv => hv.move (fun k hk => Below.heap_setCell W ⟨b, 8, none⟩ rv k (fun e => h.ne hv (by rw [hk, e])))
  refine ⟨by simp [World.setCell, Array.getElem?_modify, h.vb, rmA], hne h.st, hne h.sl, hne hr, hne h.ou, fun k hk => ⟨(h.d1 k hk).1, fun e => (hd k e).1 hk, (h.d1 k hk).2.2⟩, fun k hk => ⟨fun e => (hd k e).2.1 hk, (h.d2 k hk).2⟩, fun k hk => (hd k hk).2.2, h.zb, fun k hk => ?_⟩
  rcases hk with hk | hk | hk | hk
  · exact h.zs k (.inl hk)
  · exact h.zs k (.inr (.inl hk))
  · exact hz k hk
  · exact h.zs k (.inr (.inr (.inr hk)))
theorem RA.narrow (h : RA W P b c x cv sv tv iv ov) : RA W (fun k => P k ∧ k < W.heap.size) b c x cv sv tv iv ov :=
  ⟨h.vb, h.st, h.sl, h.inn, h.ou, h.d1, h.d2, h.d3, ⟨h.zb, (Array.getElem?_eq_some_iff.1 h.vb).1⟩, fun k hk => ⟨h.zs k hk, by
    rcases hk with hk | hk | hk | hk
    · exact h.st.lt hk
    · exact h.sl.lt hk
    · exact h.inn.lt hk
    · exact h.ou.lt hk⟩⟩
end
theorem nil_own (k : Nat) : (Value.slice none 0 0).ownBlock ≠ some k := by simp [Value.ownBlock]
theorem wpList_ins {ops : Array Oper} {rest : List Oper} {o : Oper} {a : Act} {W : World} {Q : Exit → Act → World → Prop} (hgd : o.guard = none) (s x : Operand) (ho : o.op = .call { callee := .builtin .append, args := #[s, x], argTypes := #[25, 25] }) (hty : o.type = 25)
    {A : Option Addr} {cap : Nat} {xs : List Int} (hs : a.eval s = .slice none 0 0) (hx : a.eval x = .slice A xs.length cap) (hv : RdI W A xs) (hlen : xs.length ≤ 1000)
    (h : ∀ v' W', IR W' v' xs → Below W.heap.size W W' → (∀ k, v'.ownBlock = some k → W.heap.size ≤ k) → wpList Try.prog ops Q rest (a.put o.dst v') W') : wpList Try.prog ops Q (o :: rest) a W := by
  cases A with
  | none =>
    have h0 : xs = [] := hv.1 rfl
    subst h0
    refine wpList_plain hgd fun K hK => ?_
    obtain ⟨i, hi, hz, hsz, hby⟩ := info2'
    have hr : (Builtin.append_ #[25, 25] o.type #[.slice none 0 0, .slice none 0 cap]).run Try.prog W = .ok (.slice none 0 0) W := by
      simp [Builtin.append_, run_underlying Try.underlying25, sizeOf, typeInfo, hi, Builtin.lenOf, Builtin.firstCells, loadCells, loadCellsFrom]
    unfold Oper.wp execOp
    simp only [ho, resolve, invoke, builtin, Sem.run_bind, Sem.run_pure, Result.andThen_ok, List.map_toArray, List.map_cons, List.map_nil, hs, hx, List.length_nil, hr]
    exact hK _ _ (h _ _ (IR.nil W) (Below.refl _ _) (fun k hk => absurd hk (nil_own k)))
  | some ad =>
    refine wpList_more hgd s x ho xs hs (IR.nil W) hx (fun j y hj => ?_) (by simp; omega) (fun v' W' h1 h2 h3 => h v' W' (by simpa using h1) ⟨h2.os, h2.tape, h2.output, h2.size, fun k hk => h2.block k hk (fun e => nil_own k e.symm)⟩ (fun k hk => ?_))
    · exact hv.2 _ rfl j y hj
    · rcases h3 with e | ⟨q, e, hq⟩
      · rw [hk] at e; exact absurd e.symm (nil_own k)
      · rw [hk] at e
        obtain rfl := Option.some.inj e
        exact hq
def RNewIs (W W' : World) (pv : Option Addr) (l : List S53) (c : Cf) (ins : List Int) (cv : Value) : Prop :=
  (newE l c ins.length ≠ 0 → pv = none) ∧ (newE l c ins.length = 0 → ∃ b, pv = some ⟨b, 0, none⟩ ∧ RMem W' (fun k => W.heap.size ≤ k ∧ k < W'.heap.size) b c (ctx0 c ins) cv)
set_option maxHeartbeats 8000000 in
set_option maxRecDepth 100000 in
theorem rnew_calls {W : World} {A : Option Addr} {l : List S53} {cap : Nat} {Ai : Option Addr} {ci : Nat} {ins : List Int} {c : Cf} (hC : Kd.C k53 W A l.length l) (hcap : l.length ≤ cap) (hI : RdI W Ai ins) (hin : ins.length ≤ 1000) :
    Calls Try.prog 12 #[.slice A l.length cap, cfVal c, .slice Ai ins.length ci] W fun e W' => ∃ pv, e = .returned (.tuple #[.pointer pv, .int .i64 (newE l c ins.length)]) ∧ RNewIs W W' pv l c ins (.slice A l.length cap) ∧ Below W.heap.size W W' := by
  obtain ⟨cs, cr, cw, ck⟩ := c
  simp only [cfVal]
  have HI := Aside0.mk hI
  have HC := Aside0.mk hC
  have HCP := Aside0.mk hcap
  have B1 := Aside0.mk ((Below.refl W.heap.size W).alloc (Nat.le_refl _) (.cells #[.int .i64 cs, .int .i64 cr, .int .i64 cw, .int .i64 ck] (24 : Nat)))
  have X1 := Aside0.mk (heap_alloc_new W (.cells #[.int .i64 cs, .int .i64 cr, .int .i64 cw, .int .i64 ck] (24 : Nat)))
  have S1 : Aside0 (W.heap.size < (W.alloc (.cells #[.int .i64 cs, .int .i64 cr, .int .i64 cw, .int .i64 ck] (24 : Nat))).heap.size) := ⟨by simp⟩
  obtain ⟨er, her⟩ : ∃ e, (sref l ⟨cs, cr, cw, ck⟩).2 = e := ⟨_, rfl⟩
  have HER := Aside0.mk her
  clear hC hcap hI her
  go_enter Try.func12, Try.ntmps12
  go_wp2_with ((with_reducible refine gate_ (.load 24 (.tmp 4)) rfl ?_); refine wpList_cfload rfl (.tmp 4) rfl rfl X1.out ?_)
  generalize W.alloc (.cells #[.int .i64 cs, .int .i64 cr, .int .i64 cw, .int .i64 ck] (24 : Nat)) = W1 at B1 X1 S1 ⊢
  generalize hg0 : W.heap.size = g0 at X1 S1
  have HG0 := Aside0.mk hg0
  clear hg0
  refine (rstates_calls A cap l ⟨cs, cr, cw, ck⟩ W1 (Kd.C_below HC.out B1.out) HCP.out).mono ?_
  rintro e W2 ⟨⟨v, rfl⟩, hb⟩
  have B2 := Aside0.mk (B1.out.trans (hb.mono B1.out.size))
  have X2 := Aside0.mk ((hb.block g0 S1.out).trans X1.out)
  rw [HER.out]
  clear hb B1 X1 S1
  by_cases h1 : er = 0
  · subst h1
    have x1 : W2.cell? ⟨g0, 1, none⟩ = some (.int .i64 cr) := by simp [World.cell?, X2.out]
    obtain ⟨n, hn⟩ : ∃ n, ins.length = n := ⟨_, rfl⟩
    have HN := Aside0.mk hn
    rw [hn] at hin ⊢
    by_cases h2 : (n : Int) = cr
    · have q : ((n : Int) != cr) = false := by simp [h2]
      subst h2
      have hv0 : (ver l ⟨cs, (n : Int), cw, ck⟩).2 = 0 := by rw [ver_sref, HER.out]
      have hen : newE l ⟨cs, (n : Int), cw, ck⟩ n = 0 := by unfold newE; rw [if_neg (by rw [hv0]; simp), if_neg (by simp)]
      have HEN := Aside0.mk hen
      have hrg : (0 ≤ cs ∧ cs ≤ 1000) ∧ (0 ≤ cw ∧ cw ≤ 1000) := by
        obtain ⟨hm, _⟩ := ver_ok hv0
        have hmc : (0 ≤ cs ∧ cs ≤ 512) ∧ (0 ≤ (n : Int) ∧ (n : Int) ≤ 64) ∧ (0 ≤ cw ∧ cw ≤ 64) ∧ (1 ≤ ck ∧ ck ≤ 256) := by simpa [mayC, and_assoc] using hm
        omega
      obtain ⟨⟨hs0, hs1⟩, hw0, hw1⟩ := hrg
      clear hv0 hen
      have BA : Aside0 (Below W.heap.size W (W2.alloc (.cells (rmA ⟨cs, (n : Int), cw, ck⟩ ⟨0, [], [], [], [], 0, false⟩ (.slice A l.length cap) (.slice none 0 0) (.slice none 0 0) (.slice none 0 0) (.slice none 0 0)) (42 : Nat)))) := ⟨B2.out.alloc B2.out.size _⟩
      have D3 : Aside0 (RA (W2.alloc (.cells (rmA ⟨cs, (n : Int), cw, ck⟩ ⟨0, [], [], [], [], 0, false⟩ (.slice A l.length cap) (.slice none 0 0) (.slice none 0 0) (.slice none 0 0) (.slice none 0 0)) (42 : Nat))) (fun k => W.heap.size ≤ k) W2.heap.size ⟨cs, (n : Int), cw, ck⟩ ⟨0, [], [], [], [], 0, false⟩ (.slice A l.length cap) (.slice none 0 0) (.slice none 0 0) (.slice none 0 0) (.slice none 0 0)) :=
        ⟨heap_alloc_new _ _, IR.nil _, IR.nil _, IR.nil _, IR.nil _, (fun k hk => by cases hk), (fun k hk => by cases hk), (fun k hk => by cases hk), B2.out.size, (fun k hk => by rcases hk with hk | hk | hk | hk <;> cases hk)⟩
      have X3 : Aside0 ((W2.alloc (.cells (rmA ⟨cs, (n : Int), cw, ck⟩ ⟨0, [], [], [], [], 0, false⟩ (.slice A l.length cap) (.slice none 0 0) (.slice none 0 0) (.slice none 0 0) (.slice none 0 0)) (42 : Nat))).heap[g0]? = some (.cells #[.int .i64 cs, .int .i64 (n : Int), .int .i64 cw, .int .i64 ck] (24 : Nat) (0, 0))) := ⟨(heap_alloc_old _ _ (Array.getElem?_eq_some_iff.1 X2.out).1).trans X2.out⟩
      simp only [rmA] at BA D3 X3
      have x0 : (W2.alloc (.cells #[.slice A l.length cap, .int .i64 cs, .int .i64 (n : Int), .int .i64 cw, .int .i64 ck, .int .i64 ((0 : Nat) : Int), .slice none 0 0, .slice none 0 0, .slice none 0 0, .slice none 0 0, .int .i64 0, .bool false] (42 : Nat))).cell? ⟨g0, 0, none⟩ = some (.int .i64 cs) := by unfold World.cell?; simp only; rw [X3.out]; rfl
      simp only [Int.natCast_zero] at x0
      go_wp2_with (first | ((with_reducible refine gate_ (.load 24 (.tmp 4)) rfl ?_); refine wpList_cfload rfl (.tmp 4) rfl rfl X2.out ?_) | ((with_reducible refine gate_ (.makeSlice 25 (.tmp 33) (.tmp 33)) rfl ?_); refine stop_here ?_))
      unfold Stop
      generalize W2.alloc (.cells #[.slice A l.length cap, .int .i64 cs, .int .i64 (n : Int), .int .i64 cw, .int .i64 ck, .int .i64 0, .slice none 0 0, .slice none 0 0, .slice none 0 0, .slice none 0 0, .int .i64 0, .bool false] (42 : Nat)) = W3 at D3 X3 BA x0 ⊢
      have GB : Aside0 (g0 ≠ W2.heap.size) := ⟨Nat.ne_of_lt (Array.getElem?_eq_some_iff.1 X2.out).1⟩
      generalize W2.heap.size = b at D3 GB ⊢
      clear X2 B2 x0
      refine wpList_mk25 rfl (.tmp 33) rfl rfl hs0 hs1 ?_
      have D4 := Aside0.mk (D3.out.move (W1 := W3.alloc (.cells (madeCells #[Value.int .i64 0] cs.toNat) 2)) (fun k _ hk => heap_alloc_old _ _ hk))
      have X4 := Aside0.mk ((heap_alloc_old W3 (.cells (madeCells #[Value.int .i64 0] cs.toNat) 2) (Array.getElem?_eq_some_iff.1 X3.out).1).trans X3.out)
      have BB4 := Aside0.mk (BA.out.alloc BA.out.size (.cells (madeCells #[Value.int .i64 0] cs.toNat) 2))
      have IM := Aside0.mk (made_IR hs1 W3)
      have Z4 : Aside0 (W.heap.size ≤ W3.heap.size) := ⟨BA.out.size⟩
      clear D3 X3 BA
      generalize W3.alloc (.cells (madeCells #[Value.int .i64 0] cs.toNat) 2) = W4 at D4 X4 BB4 IM ⊢
      generalize W3.heap.size = h4 at IM Z4 ⊢
      have y7 : W4.cell? ⟨b, 7, none⟩ = some (.slice none 0 0) := D4.out.cell rfl
      have f7 := D4.out.froz 7
      have y2 : W4.cell? ⟨g0, 2, none⟩ = some (.int .i64 cw) := by simp [World.cell?, X4.out]
      have hgb : g0 ≠ b := GB.out
      have hbg : b ≠ g0 := fun e => GB.out e.symm
      have D5 := Aside0.mk (D4.out.newsl IM.out (fun k hk => ⟨nil_own k, nil_own k, nil_own k⟩) (fun k hk => by have e : h4 = k := Option.some.inj hk; have := Z4.out; omega))
      have X5 := Aside0.mk ((Below.heap_setCell W4 ⟨b, 7, none⟩ (.slice (some ⟨h4, 0, none⟩) cs.toNat cs.toNat) g0 hgb).trans X4.out)
      have BB5 : Aside0 (Below W.heap.size W (W4.setCell ⟨b, 7, none⟩ (.slice (some ⟨h4, 0, none⟩) cs.toNat cs.toNat))) := ⟨BB4.out.setCell D4.out.zb _⟩
      have N5 : Aside0 (∀ k, (Value.slice (some ⟨h4, 0, none⟩) cs.toNat cs.toNat).ownBlock = some k → k < W4.heap.size) := ⟨fun k hk => IM.out.lt hk⟩
      clear D4 X4 BB4 Z4
      go_wp2_with ((with_reducible refine gate_ (.makeSlice 25 (.tmp 40) (.tmp 40)) rfl ?_); refine stop_here ?_)
      unfold Stop
      have S5 : Aside0 ((W4.setCell ⟨b, 7, none⟩ (.slice (some ⟨h4, 0, none⟩) cs.toNat cs.toNat)).heap.size = W4.heap.size) := ⟨by simp [World.setCell]⟩
      clear y7 f7 y2 IM
      generalize W4.setCell ⟨b, 7, none⟩ (.slice (some ⟨h4, 0, none⟩) cs.toNat cs.toNat) = W5 at D5 X5 BB5 S5 ⊢
      refine wpList_mk25 rfl (.tmp 40) rfl rfl hw0 hw1 ?_
      have D6 := Aside0.mk (D5.out.move (W1 := W5.alloc (.cells (madeCells #[Value.int .i64 0] cw.toNat) 2)) (fun k _ hk => heap_alloc_old _ _ hk))
      have BB6 := Aside0.mk (BB5.out.alloc BB5.out.size (.cells (madeCells #[Value.int .i64 0] cw.toNat) 2))
      have IM := Aside0.mk (made_IR hw1 W5)
      have Z6 : Aside0 (W.heap.size ≤ W5.heap.size) := ⟨BB5.out.size⟩
      have N6 : Aside0 (∀ k, (Value.slice (some ⟨h4, 0, none⟩) cs.toNat cs.toNat).ownBlock = some k → k < W5.heap.size) := ⟨fun k hk => by rw [S5.out]; exact N5.out k hk⟩
      clear D5 X5 BB5 N5 S5
      generalize W5.alloc (.cells (madeCells #[Value.int .i64 0] cw.toNat) 2) = W6 at D6 BB6 IM ⊢
      generalize W5.heap.size = h6 at IM Z6 N6 ⊢
      have y9 : W6.cell? ⟨b, 9, none⟩ = some (.slice none 0 0) := D6.out.cell rfl
      have f9 := D6.out.froz 9
      have y8 : W6.cell? ⟨b, 8, none⟩ = some (.slice none 0 0) := D6.out.cell rfl
      have D7 := Aside0.mk (D6.out.newou IM.out (fun k hk => ⟨nil_own k, fun e => by have h1 := N6.out k e; have h2 : h6 = k := Option.some.inj hk; omega, nil_own k⟩) (fun k hk => by have e : h6 = k := Option.some.inj hk; have := Z6.out; omega))
      have BB7 : Aside0 (Below W.heap.size W (W6.setCell ⟨b, 9, none⟩ (.slice (some ⟨h6, 0, none⟩) cw.toNat cw.toNat))) := ⟨BB6.out.setCell D6.out.zb _⟩
      clear D6 BB6 IM Z6 N6
      go_wp2_with ((with_reducible refine gate_builtin (b := .append) (xs := #[.tmp 50, .tmp 51]) rfl ?_); refine stop_here ?_)
      unfold Stop
      clear y9 f9 y8
      generalize W6.setCell ⟨b, 9, none⟩ (.slice (some ⟨h6, 0, none⟩) cw.toNat cw.toNat) = W7 at D7 BB7 ⊢
      refine wpList_ins (xs := ins) (A := Ai) (cap := ci) rfl (.tmp 50) (.tmp 51) rfl rfl rfl (by rw [HN.out]; rfl) (HI.out.below BB7.out) (by rw [HN.out]; exact hin) ?_
      intro v' W8 hv' hb' hz'
      have D8 := Aside0.mk (D7.out.below hb')
      have BB8 := Aside0.mk (BB7.out.trans (hb'.mono BB7.out.size))
      have y8 : W8.cell? ⟨b, 8, none⟩ = some (.slice none 0 0) := D8.out.cell rfl
      have f8 := D8.out.froz 8
      have D9 := Aside0.mk (D8.out.newin hv' (fun k hk => ⟨nil_own k, fun e => by have h1 := D7.out.sl.lt e; have h2 := hz' k hk; omega, fun e => by have h1 := D7.out.ou.lt e; have h2 := hz' k hk; omega⟩) (fun k hk => Nat.le_trans BB7.out.size (hz' k hk)))
      obtain ⟨A8, c8, e8, _⟩ := hv'.slice
      rw [HN.out] at e8
      subst e8
      have BB9 : Aside0 (Below W.heap.size W (W8.setCell ⟨b, 8, none⟩ (.slice A8 n c8))) := ⟨BB8.out.setCell D8.out.zb _⟩
      clear D7 BB7 D8 BB8 hv' hb' hz'
      go_wp2_with fail
      go_ret2
      have en : newE l ⟨cs, (n : Int), cw, ck⟩ ins.length = 0 := by rw [HN.out]; exact HEN.out
      first | rw [en] | rw [HEN.out]
      refine ⟨some ⟨b, 0, none⟩, rfl, ⟨fun h => absurd en h, fun _ => ⟨b, rfl, ?_⟩⟩, BB9.out⟩
      have F := D9.out.narrow
      exact ⟨_, _, _, _, F⟩
    · have q : ((n : Int) != cr) = true := by simp [h2]
      have H2 := Aside0.mk h2
      clear h2
      go_wp2_with fail
      go_ret2
      have en : newE l ⟨cs, cr, cw, ck⟩ ins.length = 2 := by unfold newE; rw [if_neg (by rw [ver_sref, HER.out]; simp), if_pos (by rw [HN.out]; exact H2.out)]
      rw [en]
      exact ⟨none, rfl, ⟨fun _ => rfl, fun h => absurd (en.symm.trans h) (by decide)⟩, B2.out⟩
  · have q : (er != 0) = true := by simp [h1]
    have H1 := Aside0.mk h1
    clear h1
    go_wp2_with fail
    go_ret2
    have en : newE l ⟨cs, cr, cw, ck⟩ ins.length = er := by unfold newE; rw [ver_sref, HER.out, if_pos H1.out]
    rw [en]
    exact ⟨none, rfl, ⟨fun _ => rfl, fun h => absurd (en.symm.trans h) H1.out⟩, B2.out⟩
end Go.Proofs.Ytlmpoojpbdmmfaa.H
end
