/- Part 4 of the proof of the law L. The conditions: none. (Its parts: Push22 Clone22.) -/
import Derived.Maps.OwnSet
import Derived.Laws.AppendOwn
import Derived.KernelRfl
import Derived.LoopTactic
import Derived.BigQuiet
import Derived.Deep.QuietTactic
import Derived.StillTailTactics
import Derived.Lib.MinMax
import Derived.OwnWalk
import Derived.WalkSpells
import Derived.Test.YtlmpoojpbdmmfaaKL02
import Derived.Test.YtlmpoojpbdmmfaaKL03
section
set_option linter.unusedVariables false
set_option linter.unusedSimpArgs false
namespace Go.Proofs.Ytlmpoojpbdmmfaa.H
open Go.RowKit Go.Proofs.YtlmpoojpbdmmfaaW.PrintWords Go.Proofs.YtlmpoojpbdmmfaaW.PrintLast Go.Proofs.YtlmpoojpbdmmfaaW.PrintMore Go.Maps
structure Ctx where
  at_ : Nat
  stack : List Int
  slots : List Int
  ins : List Int
  outs : List Int
  spent : Int
  ended : Bool
def tr (p : Bool) : Int := if p then 1 else 0
def divv (d t : Int) : Int := if t = -1 then wrap64 (-d) else if t = 1 then d else if t = 0 then 0 else wrap64 (Int.tdiv d t)
def modv (d t : Int) : Int := if t = -1 then 0 else if t = 0 then 0 else if t = 1 then 0 else Int.tmod d t
def pr (op d t : Int) : Int :=
  if op = 8 then wrap64 (d + t) else if op = 9 then wrap64 (d - t) else if op = 10 then wrap64 (d * t) else if op = 11 then divv d t else if op = 12 then modv d t
  else if op = 13 then tr (decide (d = t)) else if op = 14 then tr (decide (d ≠ t)) else if op = 15 then tr (decide (d < t)) else if op = 16 then tr (decide (d ≤ t)) else if op = 17 then tr (decide (t < d)) else if op = 18 then tr (decide (t ≤ d))
  else if op = 19 then tr (decide (d ≠ 0) && decide (t ≠ 0)) else tr (decide (d ≠ 0) || decide (t ≠ 0))
def fnOf (op : Int) : Nat := if op ≤ 13 then (op + 44).toNat else (op + 45).toNat
def Ctx.pop (x : Ctx) : Ctx := { x with stack := x.stack.take (x.stack.length - 1) }
def Ctx.top (x : Ctx) : Int := x.stack.getD (x.stack.length - 1) 0
def Ctx.push (x : Ctx) (t : Int) : Ctx := { x with stack := x.stack ++ [t] }
def one (i : S53) (x : Ctx) : Ctx × Int :=
  if i.f0 = 1 then (x.push i.f1, 1)
  else if i.f0 = 2 then (x.push (x.slots.getD i.f1.toNat 0), 1)
  else if i.f0 = 3 then ({ x.pop with slots := x.slots.set i.f1.toNat x.top }, 1)
  else if i.f0 = 4 then (x.push (x.ins.getD i.f1.toNat 0), 1)
  else if i.f0 = 5 then ({ x.pop with outs := x.outs.set i.f1.toNat x.top }, 1)
  else if i.f0 = 6 then (x.pop.push (wrap64 (-x.top)), 1)
  else if i.f0 = 7 then (x.pop.push (tr (x.top == 0)), 1)
  else if i.f0 = 22 then (x.pop, if x.top = 0 then i.f1 else 1)
  else if i.f0 = 21 then (x, i.f1)
  else if i.f0 = 23 then ({ x with ended := true }, 0)
  else (x.pop.pop.push (pr i.f0 x.pop.top x.top), 1)
def stp (l : List S53) (x : Ctx) : Ctx :=
  { (one (rd_T53 l (x.at_ : Int)) x).1 with at_ := (x.at_ + (one (rd_T53 l (x.at_ : Int)) x).2).toNat, spent := (one (rd_T53 l (x.at_ : Int)) x).1.spent + cyc (rd_T53 l (x.at_ : Int)).f0 }
def runN (l : List S53) (cy : Int) : Nat → Int → Ctx → Int × Ctx
  | 0, sum, x => (sum, x)
  | n + 1, sum, x => if sum < cy ∧ x.ended = false then runN l cy n (sum + cyc (rd_T53 l (x.at_ : Int)).f0) (stp l x) else (sum, x)
def ints (xs : List Int) : List Value := xs.map (Value.int .i64)
def IR (W : World) (v : Value) (xs : List Int) : Prop := W.ownsRow 0 2 1 v xs.length (ints xs)
theorem ints_length (xs : List Int) : (ints xs).length = xs.length := by simp [ints]
theorem ints_getD {xs : List Int} {i : Nat} (h : i < xs.length) : (ints xs)[i]? = some (.int .i64 (xs.getD i 0)) := by simp [ints, List.getD_eq_getElem?_getD, h]
section
variable {W W' : World} {v : Value} {xs : List Int}
theorem IR.cell (h : IR W v xs) {i : Nat} (hi : i < xs.length) : ∃ g cap, v = .slice (some ⟨g, 0, none⟩) xs.length cap ∧ xs.length ≤ cap ∧ v.ownBlock = some g ∧ W.cell? ⟨g, i, none⟩ = some (.int .i64 (xs.getD i 0)) ∧ W.frozen? ⟨g, i, none⟩ = false ∧ g < W.heap.size := by
  rcases h.2 with ⟨_, h0⟩ | ⟨g, cap, cur, rfl, _, hg, hnc, _, hcs, ht⟩
  · omega
  · refine ⟨g, cap, rfl, hnc, rfl, ?_, by simp [World.frozen?, hg], (Array.getElem?_eq_some_iff.1 hg).1⟩
    have h1 := ints_getD hi
    rw [← ht, List.getElem?_take] at h1
    rw [if_pos (by omega)] at h1
    simpa [World.cell?, hg] using h1
theorem IR.slice (h : IR W v xs) : ∃ A cap, v = .slice A xs.length cap ∧ xs.length ≤ cap := by
  rcases h.2 with ⟨rfl, h0⟩ | ⟨g, cap, cur, rfl, _, _, hnc, _⟩
  · exact ⟨none, 0, by rw [h0], by omega⟩
  · exact ⟨_, cap, rfl, hnc⟩
theorem IR.lt (h : IR W v xs) {k : Nat} (hk : v.ownBlock = some k) : k < W.heap.size := own_lt h k hk
theorem IR.typed (h : IR W v xs) {k : Nat} (hk : v.ownBlock = some k) : ∃ cs, W.heap[k]? = some (.cells cs 2 (0, 0)) := own_typed h k hk
theorem IR.move (h : IR W v xs) (hm : ∀ k, v.ownBlock = some k → W'.heap[k]? = W.heap[k]?) : IR W' v xs := own_move h hm
theorem IR.take (h : IR W v xs) : ∀ A cap, v = .slice A xs.length cap → 0 < xs.length → IR W (.slice A (xs.length - 1) cap) (xs.take (xs.length - 1)) ∧ (Value.slice A (xs.length - 1) cap).ownBlock = v.ownBlock := by
  rintro A cap rfl hp
  rcases h.2 with ⟨_, h0⟩ | ⟨g, cap', cur, he, h0, hg, hnc, hcm, hcs, ht⟩
  · omega
  · simp only [Value.slice.injEq] at he
    obtain ⟨rfl, _, rfl⟩ := he
    have hl : (xs.take (xs.length - 1)).length = xs.length - 1 := by simp
    refine ⟨⟨by rw [ints_length, hl]; omega, .inr ⟨g, cap, cur, by rw [hl], h0, hg, by omega, hcm, hcs, ?_⟩⟩, rfl⟩
    rw [hl]
    have e : ints (xs.take (xs.length - 1)) = (ints xs).take (xs.length - 1) := by simp [ints, List.map_take]
    rw [e, ← ht, List.take_take]
    congr 1
    omega
theorem IR.set (h : IR W v xs) {g i : Nat} (hg : v.ownBlock = some g) (hi : i < xs.length) (y : Int) : IR (W.setCell ⟨g, i, none⟩ (.int .i64 y)) v (xs.set i y) := by
  rcases h.2 with ⟨rfl, h0⟩ | ⟨g', cap, cur, rfl, h0, hg', hnc, hcm, hcs, ht⟩
  · omega
  · have : g' = g := by simpa [Value.ownBlock] using hg
    subst this
    refine ⟨by rw [ints_length, List.length_set]; omega, .inr ⟨g', cap, cur.setIfInBounds i (.int .i64 y), by rw [List.length_set], h0, by simp [World.setCell, Array.getElem?_modify, hg'], by rw [List.length_set]; exact hnc, hcm, by simpa using hcs, ?_⟩⟩
    rw [List.length_set, Array.toList_setIfInBounds, List.take_set, ht]
    simp [ints, List.map_set]
theorem IR.nil (W : World) : IR W (.slice none 0 0) [] := ⟨rfl, .inl ⟨rfl, rfl⟩⟩
end
def fnR : Value → Option (DataW Unit × List MemPlace)
  | .nilFunc => some (.nil, [])
  | .func (.func f) a b => if a.size = 0 ∧ b.size = 0 then some (.lit (.int .i64 (f : Int)), []) else none
  | _ => none
theorem fnR_inv {v : Value} {f : Nat} {ps : List MemPlace} (h : fnR v = some (.lit (.int .i64 (f : Int)), ps)) : v = .func (.func f) #[] #[] := by
  unfold fnR at h
  split at h
  · simp at h
  · rename_i f' a b
    split at h
    · rename_i hab
      simp at h
      obtain ⟨h, _⟩ := h
      have e : f' = f := Int.ofNat_inj.1 h
      rw [e, Array.eq_empty_of_size_eq_zero hab.1, Array.eq_empty_of_size_eq_zero hab.2]
    · simp at h
  · simp at h
theorem key5 : Keyed Try.prog 5 := int_keyed (q := .u8) Try.underlying5
theorem under67 : Try.prog.underlying 67 = some (.map 5 104) := by kernel_rfl
theorem zero104 (w : World) : (zeroValue 104).run Try.prog w = .ok .nilFunc w := by kernel_rfl
theorem key_u8 (k : Int) (h0 : 0 ≤ k) (h1 : k ≤ 255) : keyOf Try.prog 5 (.int .u8 k) = some (.int .u8 k) :=
  keyOf_int_mk (q := .u8) Try.underlying5 (by simp [Lit.wf, IntKind.min, IntKind.max, IntKind.bits, IntKind.signed]; omega)
def PM (W : World) (M : Nat) : Prop := ∃ (D : DataW Unit) (n : Nat), W.ownsMap Try.prog 5 fnR M n D ∧ ∀ op : Int, 8 ≤ op → op ≤ 20 → D.atKey (.int .u8 op) .nil = .lit (.int .i64 (fnOf op : Int))
theorem PM.lt {W : World} {M : Nat} (h : PM W M) : M < W.heap.size := by
  obtain ⟨D, n, hD, _⟩ := h
  exact hD.lt
theorem PM.move {W W' : World} {M : Nat} (h : PM W M) (hm : W'.heap[M]? = W.heap[M]?) : PM W' M := by
  obtain ⟨D, n, ⟨es, c, hb, r⟩, hD⟩ := h
  exact ⟨D, n, ⟨es, c, hm.trans hb, r⟩, hD⟩
theorem PM.look {W : World} {M : Nat} (h : PM W M) {op : Int} (h0 : 8 ≤ op) (h1 : op ≤ 20) : (Instr.lookup 67 (.map (some M)) (.int .u8 op) false).run Try.prog W = .ok (.func (.func (fnOf op)) #[] #[]) W := by
  obtain ⟨D, n, hD, hat⟩ := h
  obtain ⟨v, ps, hrun, hv⟩ := hD.lookup key5 under67 (zero104 W) (zd := .nil) (zp := []) rfl (key_u8 op (by omega) (by omega))
  rw [hat op h0 h1] at hv
  rw [hrun, fnR_inv hv]
theorem PM.apart {W : World} {M k : Nat} {cs : Array Value} {t : TypeId} {f : Nat × Nat} (h : PM W M) (hk : W.heap[k]? = some (.cells cs t f)) : k ≠ M := by
  rintro rfl
  obtain ⟨D, n, ⟨es, c, hb, _⟩, _⟩ := h
  rw [hb] at hk
  cases hk
def vmA (c : Cf) (x : Ctx) (M : Nat) (cv sv tv iv ov : Value) : Array Value :=
  #[cv, .int .i64 c.slots, .int .i64 c.reads, .int .i64 c.writes, .int .i64 c.stack, .int .i64 (x.at_ : Int), sv, tv, iv, ov, .int .i64 x.spent, .bool x.ended, .map (some M)]
structure VA (W : World) (P : Nat → Prop) (b : Nat) (c : Cf) (l : List S53) (x : Ctx) (M : Nat) (cv sv tv iv ov : Value) : Prop where
  vb : W.heap[b]? = some (.cells (vmA c x M cv sv tv iv ov) 70 (0, 0))
  code : Kd.R k53 53 W 0 P cv l
  st : IR W sv x.stack
  sl : IR W tv x.slots
  inn : IR W iv x.ins
  ou : IR W ov x.outs
  mp : PM W M
  d1 : ∀ k, sv.ownBlock = some k → tv.ownBlock ≠ some k ∧ iv.ownBlock ≠ some k ∧ ov.ownBlock ≠ some k
  d2 : ∀ k, tv.ownBlock = some k → iv.ownBlock ≠ some k ∧ ov.ownBlock ≠ some k
  d3 : ∀ k, iv.ownBlock = some k → ov.ownBlock ≠ some k
  zb : P b
  zM : P M
  zs : ∀ k, (sv.ownBlock = some k ∨ tv.ownBlock = some k ∨ iv.ownBlock = some k ∨ ov.ownBlock = some k) → P k
def VMem (W : World) (P : Nat → Prop) (b : Nat) (c : Cf) (l : List S53) (x : Ctx) : Prop := ∃ M cv sv tv iv ov, VA W P b c l x M cv sv tv iv ov
structure Kept2 (W W' : World) (P : Nat → Prop) : Prop where
  os : W'.os = W.os
  tape : W'.tape = W.tape
  output : W'.output = W.output
  size : W.heap.size ≤ W'.heap.size
  block : ∀ k, k < W.heap.size → ¬ P k → W'.heap[k]? = W.heap[k]?
def Zn (P : Nat → Prop) (W W' : World) : Nat → Prop := fun k => P k ∨ (W.heap.size ≤ k ∧ k < W'.heap.size)
section
variable {W W1 W2 : World} {P P' : Nat → Prop} {b : Nat} {c : Cf} {l : List S53} {x : Ctx} {M : Nat} {cv sv tv iv ov : Value}
theorem Kept2.refl (W : World) (P : Nat → Prop) : Kept2 W W P := ⟨rfl, rfl, rfl, Nat.le_refl _, fun _ _ _ => rfl⟩
theorem Kept2.trans (h : Kept2 W W1 P) (k : Kept2 W1 W2 (Zn P W W1)) : Kept2 W W2 P :=
  ⟨k.os.trans h.os, k.tape.trans h.tape, k.output.trans h.output, Nat.le_trans h.size k.size, fun i hi hP => (k.block i (Nat.lt_of_lt_of_le hi h.size) (fun hz => hz.elim hP (fun hh => by omega))).trans (h.block i hi hP)⟩
theorem Kept2.mono (h : Kept2 W W1 P) (hp : ∀ k, P k → P' k) : Kept2 W W1 P' := ⟨h.os, h.tape, h.output, h.size, fun k hk hn => h.block k hk (fun hP => hn (hp k hP))⟩
theorem Kept2.below {w : World} (h : Kept2 W W1 P) (hb : Below w.heap.size w W) (hp : ∀ k, P k → w.heap.size ≤ k) : Below w.heap.size w W1 :=
  ⟨h.os.trans hb.os, h.tape.trans hb.tape, h.output.trans hb.output, Nat.le_trans hb.size h.size, fun k hk => (h.block k (Nat.lt_of_lt_of_le hk hb.size) (fun hP => by have := hp k hP; omega)).trans (hb.block k hk)⟩
theorem Kept2.of_below (h : Below W.heap.size W W1) : Kept2 W W1 P := ⟨h.os, h.tape, h.output, h.size, fun k hk _ => h.block k hk⟩
theorem Zn.trans {Pz : Nat → Prop} (hs : W.heap.size ≤ W1.heap.size) (hs2 : W1.heap.size ≤ W2.heap.size) (k : Nat) : Zn (Zn Pz W W1) W1 W2 k ↔ Zn Pz W W2 k := by
  unfold Zn
  constructor
  · rintro ((h | ⟨h1, h2⟩) | ⟨h1, h2⟩)
    · exact .inl h
    · exact .inr ⟨h1, by omega⟩
    · exact .inr ⟨by omega, h2⟩
  · rintro (h | ⟨h1, h2⟩)
    · exact .inl (.inl h)
    · by_cases e : k < W1.heap.size
      · exact .inl (.inr ⟨h1, e⟩)
      · exact .inr ⟨by omega, h2⟩
theorem VA.mono (h : VA W P b c l x M cv sv tv iv ov) (hp : ∀ k, P k → P' k) : VA W P' b c l x M cv sv tv iv ov :=
  ⟨h.vb, Kd.R_mono h.code hp, h.st, h.sl, h.inn, h.ou, h.mp, h.d1, h.d2, h.d3, hp _ h.zb, hp _ h.zM, fun k hk => hp k (h.zs k hk)⟩
theorem VA.move (h : VA W P b c l x M cv sv tv iv ov) (hm : ∀ k, P k → k < W.heap.size → W1.heap[k]? = W.heap[k]?) : VA W1 P b c l x M cv sv tv iv ov :=
  ⟨(hm b h.zb (Array.getElem?_eq_some_iff.1 h.vb).1).trans h.vb, Kd.R_step h.code hm,
    h.st.move (fun k hk => hm k (h.zs k (.inl hk)) (h.st.lt hk)), h.sl.move (fun k hk => hm k (h.zs k (.inr (.inl hk))) (h.sl.lt hk)), h.inn.move (fun k hk => hm k (h.zs k (.inr (.inr (.inl hk)))) (h.inn.lt hk)), h.ou.move (fun k hk => hm k (h.zs k (.inr (.inr (.inr hk)))) (h.ou.lt hk)),
    h.mp.move (hm M h.zM h.mp.lt), h.d1, h.d2, h.d3, h.zb, h.zM, h.zs⟩
theorem VMem.move (h : VMem W P b c l x) (hm : ∀ k, P k → k < W.heap.size → W1.heap[k]? = W.heap[k]?) : VMem W1 P b c l x := by
  obtain ⟨M, cv, sv, tv, iv, ov, h⟩ := h
  exact ⟨M, cv, sv, tv, iv, ov, h.move hm⟩
theorem VMem.mono (h : VMem W P b c l x) (hp : ∀ k, P k → P' k) : VMem W P' b c l x := by
  obtain ⟨M, cv, sv, tv, iv, ov, h⟩ := h
  exact ⟨M, cv, sv, tv, iv, ov, h.mono hp⟩
theorem VMem.below (h : VMem W P b c l x) (hb : Below W.heap.size W W1) : VMem W1 P b c l x := h.move (fun k _ hk => hb.block k hk)
theorem VMem.other {Pv : Nat → Prop} (h : VMem W P b c l x) (hk : Kept2 W W1 Pv) (hd : ∀ k, P k → k < W.heap.size → ¬ Pv k) : VMem W1 P b c l x := h.move (fun k hP hlt => hk.block k hlt (hd k hP hlt))
theorem VA.cell (h : VA W P b c l x M cv sv tv iv ov) {j : Nat} {v : Value} (hv : (vmA c x M cv sv tv iv ov)[j]? = some v) : W.cell? ⟨b, j, none⟩ = some v := by simp [World.cell?, h.vb, hv]
theorem VA.froz (h : VA W P b c l x M cv sv tv iv ov) (j : Nat) : W.frozen? ⟨b, j, none⟩ = false := by simp [World.frozen?, h.vb]
theorem VA.neM (h : VA W P b c l x M cv sv tv iv ov) : b ≠ M := h.mp.apart h.vb
theorem VA.neI (h : VA W P b c l x M cv sv tv iv ov) {v : Value} {xs : List Int} (hv : IR W v xs) : v.ownBlock ≠ some b := fun e => by
  obtain ⟨cs, hc⟩ := hv.typed e
  rw [h.vb] at hc
  injection hc with hc
  injection hc with _ hc
  exact absurd hc (by decide)
theorem VA.neMI (h : VA W P b c l x M cv sv tv iv ov) {v : Value} {xs : List Int} (hv : IR W v xs) : v.ownBlock ≠ some M := fun e => by
  obtain ⟨cs, hc⟩ := hv.typed e
  exact h.mp.apart hc rfl
theorem VA.codeR (h : VA W P b c l x M cv sv tv iv ov) (hm : ∀ (k : Nat) (cs : Array Value), W.heap[k]? = some (Obj.cells cs 53 (0, 0)) → W1.heap[k]? = W.heap[k]?) : Kd.R k53 53 W1 0 P cv l := by
  refine Kd.R_mono (Kd.R_move (Kd.R_bound h.code) (fun k hk => ?_)) (fun _ hk => hk.1)
  obtain ⟨_, _, _, q, hq, cs, hc⟩ := hk
  have e : q = 53 := by
    have : q ∈ [53] := hq
    simpa using this
  subst e
  exact hm k cs hc
theorem VA.put (h : VA W P b c l x M cv sv tv iv ov) {x' : Ctx} {sv' : Value} {j : Nat} {u : Value} (hs : IR W sv' x'.stack) (hsl : x'.slots = x.slots) (hin : x'.ins = x.ins) (hou : x'.outs = x.outs) (hown : sv'.ownBlock = sv.ownBlock)
    (he : (vmA c x M cv sv tv iv ov).setIfInBounds j u = vmA c x' M cv sv' tv iv ov) : VA (W.setCell ⟨b, j, none⟩ u) P b c l x' M cv sv' tv iv ov := by
  have hne : ∀ {v : Value} {xs : List Int}, IR W v xs → IR (W.setCell ⟨b, j, none⟩ u) v xs := fun hv => hv.move (fun k hk => Below.heap_setCell W ⟨b, j, none⟩ u k (fun e => h.neI hv (by rw [hk, e])))
  refine ⟨by simp [World.setCell, Array.getElem?_modify, h.vb, he], h.codeR (fun k cs hk => Below.heap_setCell W ⟨b, j, none⟩ u k (fun e => ?_)), hne hs, by rw [hsl]; exact hne h.sl, by rw [hin]; exact hne h.inn, by rw [hou]; exact hne h.ou,
    h.mp.move (Below.heap_setCell W ⟨b, j, none⟩ u M (fun e => h.neM e.symm)), by rw [hown]; exact h.d1, h.d2, h.d3, h.zb, h.zM, by rw [hown]; exact h.zs⟩
  subst e
  rw [h.vb] at hk
  injection hk with hk
  injection hk with _ hk
  exact absurd hk (by decide)
end
end Go.Proofs.Ytlmpoojpbdmmfaa.H
set_option linter.unusedVariables false
set_option linter.unusedSimpArgs false
namespace Go.Proofs.Ytlmpoojpbdmmfaa.H
open Go.RowKit Go.Proofs.YtlmpoojpbdmmfaaW.PrintWords Go.Proofs.YtlmpoojpbdmmfaaW.PrintLast Go.Proofs.YtlmpoojpbdmmfaaW.PrintMore Go.Maps
theorem info2' : ∃ i, Try.prog.info? 2 = some i ∧ i.zero = some (.int .i64 0) ∧ i.size = 1 ∧ i.bytes = 8 := by
  have h := info2
  cases hi : Try.prog.info? 2 with
  | none => simp [hi] at h
  | some i => simp [hi] at h; exact ⟨i, rfl, h.1, h.2.1, h.2.2⟩
theorem run_more {W : World} {v : Value} {xs ys : List Int} (hv : IR W v xs) (ty : TypeId) (ad : Addr) (c : Nat) (hc : ∀ j y, ys[j]? = some y → W.cell? (ad.add j) = some (.int .i64 y)) (hlen : xs.length + ys.length ≤ 1000000) :
    ∃ v' W', (Builtin.append_ #[25, 25] ty #[v, .slice (some ad) ys.length c]).run Try.prog W = .ok v' W' ∧ IR W' v' (xs ++ ys) ∧ W.grownBy W' v.ownBlock ∧ (v'.ownBlock = v.ownBlock ∨ ∃ k, v'.ownBlock = some k ∧ W.heap.size ≤ k) := by
  obtain ⟨i, hi, hz, hsz, hby⟩ := info2'
  have ht : Try.prog.underlying 25 = some (.slice 2) := Try.underlying25
  have hl : (ints ys).length = ys.length * i.size := by rw [hsz, ints_length]; omega
  have hnews : ∀ j u, (ints ys)[j]? = some u → W.cell? (ad.add j) = some u := fun j u hj => by
    have hlt : j < ys.length := by have := (List.getElem?_eq_some_iff.1 hj).1; rwa [ints_length] at this
    have h1 : ys[j]? = some ys[j] := List.getElem?_eq_getElem hlt
    rw [hc j _ h1]
    have h2 : (ints ys)[j]? = some (.int .i64 ys[j]) := by simp [ints, h1]
    rw [h2] at hj
    exact hj
  have h1c : ∀ u ∈ ints ys, u.oneCell' = true := fun u hu => by
    obtain ⟨y, _, rfl⟩ := List.mem_map.1 hu
    rfl
  have happ : ints (xs ++ ys) = ints xs ++ ints ys := by simp [ints]
  have hll : (xs ++ ys).length = xs.length + ys.length := by simp
  rcases hv.2 with ⟨rfl, h0⟩ | ⟨g, cap, cur, rfl, hbg, hg, hnc, hcm, hcs, htake⟩
  · have hx : xs = [] := List.eq_nil_of_length_eq_zero h0
    subst hx
    by_cases hm : ys.length = 0
    · have hy : ys = [] := List.eq_nil_of_length_eq_zero hm
      subst hy
      refine ⟨.slice none 0 0, W, ?_, IR.nil W, ⟨rfl, rfl, rfl, Nat.le_refl _, fun _ _ _ => rfl⟩, .inl rfl⟩
      simp [Builtin.append_, run_underlying ht, sizeOf, typeInfo, hi, Builtin.lenOf, Builtin.firstCells, loadCells, loadCellsFrom]
    · obtain ⟨v', W', hr, ho, hgr, _⟩ := run_append_own (P := Try.prog) W W.heap.size 25 ty 2 i (.int .i64 0) 1 8 ht hi hz hsz hby rfl (by decide) (.slice none 0 0) 0 [] (World.ownsRow_nil W _ 2 1) ad ys.length c (ints ys) (by rw [ints_length]; omega) hnews h1c (by simp only [maxLen]; simp at hlen; omega) (by simp at hlen; omega) (Nat.le_refl _)
      refine ⟨v', W', hr, ?_, hgr, ?_⟩
      · have := own_weaken ho (Nat.zero_le _)
        simpa [IR, ints] using this
      · rcases ho.2 with ⟨rfl, hn⟩ | ⟨g, cap, cur, rfl, hbg, _⟩
        · omega
        · exact .inr ⟨g, rfl, hbg⟩
  · have hown : W.ownsRow 0 2 i.size (.slice (some ⟨g, 0, none⟩) xs.length cap) xs.length (ints xs) := by rw [hsz]; exact hv
    by_cases hroom : xs.length + ys.length ≤ cap
    · have hr := run_append_room (P := Try.prog) W 25 ty 2 i ht hi g xs.length cap cur hg ad ys.length c (ints ys) hl hnews h1c hroom (by rw [hl, hsz, hcs]; omega)
      refine ⟨_, _, hr, ⟨by rw [ints_length]; omega, .inr ⟨g, cap, _, by rw [hll], hbg, setRow_heap W g cur _ 2 _ hg, by rw [hll]; exact hroom, hcm, ?_, ?_⟩⟩, ⟨rfl, rfl, rfl, by simp, fun k _ hk => setRow_other W g k _ (fun e => hk (by simp [Value.ownBlock, e]))⟩, .inl rfl⟩
      · simp only [List.size_toArray, List.length_append, List.length_take, List.length_drop, Array.length_toList, ints_length, hsz]
        omega
      · rw [happ, hll, hsz]
        rw [Nat.mul_one] at htake ⊢
        rw [Nat.mul_one] at *
        rw [htake]
        have : (ints xs ++ ints ys).length = xs.length + ys.length := by simp [ints_length]
        rw [← this, List.take_left']
        rfl
    · have holds : ∀ j u, (ints xs)[j]? = some u → W.cell? ((⟨g, 0, none⟩ : Addr).add j) = some u := hown.cells (g := g) rfl
      obtain ⟨v', W', hr, ho, hgr⟩ := run_append_arg_grows (P := Try.prog) W 25 ty 2 i (.int .i64 0) 1 8 ht hi hz hsz hby rfl (by decide) ⟨g, 0, none⟩ xs.length cap (ints xs) (by rw [ints_length]; omega) holds ad ys.length c (ints ys) (by rw [ints_length]; omega) hnews (by omega) (by simp only [maxLen]; omega) (by omega)
      refine ⟨v', W', hr, ?_, ⟨hgr.os, hgr.tape, hgr.output, hgr.size, fun k hk _ => hgr.block k hk (by simp)⟩, ?_⟩
      · have := own_weaken ho (Nat.zero_le _)
        unfold IR
        rw [hll, happ]
        exact this
      · rcases ho.2 with ⟨rfl, hn⟩ | ⟨g', cap', cur', rfl, hbg', _⟩
        · omega
        · exact .inr ⟨g', rfl, hbg'⟩
theorem wpList_more {ops : Array Oper} {rest : List Oper} {o : Oper} {a : Act} {W : World} {Q : Exit → Act → World → Prop} (hgd : o.guard = none) (s x : Operand) (ho : o.op = .call { callee := .builtin .append, args := #[s, x], argTypes := #[25, 25] })
    {v : Value} {xs : List Int} (ys : List Int) {c : Nat} {ad : Addr} (hs : a.eval s = v) (hv : IR W v xs) (hx : a.eval x = .slice (some ad) ys.length c) (hc : ∀ j y, ys[j]? = some y → W.cell? (ad.add j) = some (.int .i64 y)) (hlen : xs.length + ys.length ≤ 1000000)
    (h : ∀ v' W', IR W' v' (xs ++ ys) → W.grownBy W' v.ownBlock → (v'.ownBlock = v.ownBlock ∨ ∃ k, v'.ownBlock = some k ∧ W.heap.size ≤ k) → wpList Try.prog ops Q rest (a.put o.dst v') W') : wpList Try.prog ops Q (o :: rest) a W := by
  refine wpList_plain hgd fun K hK => ?_
  obtain ⟨v', W', hr, h1, h2, h3⟩ := run_more hv o.type ad c hc hlen
  unfold Oper.wp execOp
  simp only [ho, resolve, invoke, builtin, Sem.run_bind, Sem.run_pure, Result.andThen_ok, List.map_toArray, List.map_cons, List.map_nil, hs, hx, hr]
  exact hK _ _ (h v' W' h1 h2 h3)
theorem VA.grow {W W1 : World} {P : Nat → Prop} {b : Nat} {c : Cf} {l : List S53} {x : Ctx} {M : Nat} {cv sv tv iv ov : Value} (h : VA W P b c l x M cv sv tv iv ov) (hg : W.grownBy W1 sv.ownBlock) :
    W1.heap[b]? = W.heap[b]? ∧ IR W1 tv x.slots ∧ IR W1 iv x.ins ∧ IR W1 ov x.outs ∧ PM W1 M ∧ Kd.R k53 53 W1 0 P cv l := by
  refine ⟨hg.block b (Array.getElem?_eq_some_iff.1 h.vb).1 (fun e => h.neI h.st e.symm), h.sl.move (fun k hk => hg.block k (h.sl.lt hk) (fun e => (h.d1 k e.symm).1 hk)), h.inn.move (fun k hk => hg.block k (h.inn.lt hk) (fun e => (h.d1 k e.symm).2.1 hk)),
    h.ou.move (fun k hk => hg.block k (h.ou.lt hk) (fun e => (h.d1 k e.symm).2.2 hk)), h.mp.move (hg.block M h.mp.lt (fun e => h.neMI h.st e.symm)), h.codeR (fun k cs hk => hg.block k (Array.getElem?_eq_some_iff.1 hk).1 (fun e => ?_))⟩
  obtain ⟨cs', hc'⟩ := h.st.typed e.symm
  rw [hk] at hc'
  injection hc' with hc'
  injection hc' with _ hc'
  exact absurd hc' (by decide)
theorem VA.pushed {W W1 : World} {P : Nat → Prop} {b : Nat} {c : Cf} {l : List S53} {x : Ctx} {M : Nat} {cv sv tv iv ov : Value} (h : VA W P b c l x M cv sv tv iv ov) {t : Int} {sv' : Value} (hb : W.heap.size ≤ W1.heap.size) (hz : ∀ k, k < W.heap.size → some k ≠ sv.ownBlock → W1.heap[k]? = W.heap[k]?)
    (ho : W1.os = W.os ∧ W1.tape = W.tape ∧ W1.output = W.output) (hs : IR W1 sv' (x.stack ++ [t])) (hn : sv'.ownBlock = sv.ownBlock ∨ ∃ k, sv'.ownBlock = some k ∧ W.heap.size ≤ k) :
    VA (W1.setCell ⟨b, 6, none⟩ sv') (Zn P W (W1.setCell ⟨b, 6, none⟩ sv')) b c l (x.push t) M cv sv' tv iv ov ∧ Kept2 W (W1.setCell ⟨b, 6, none⟩ sv') P := by
  have hg : W.grownBy W1 sv.ownBlock := ⟨ho.1, ho.2.1, ho.2.2, hb, hz⟩
  obtain ⟨g1, g2, g3, g4, g5, g6⟩ := h.grow hg
  have hblt : b < W.heap.size := (Array.getElem?_eq_some_iff.1 h.vb).1
  have hnb : ∀ {v : Value} {xs : List Int}, IR W1 v xs → IR (W1.setCell ⟨b, 6, none⟩ sv') v xs := fun hv => hv.move (fun k hk => Below.heap_setCell W1 ⟨b, 6, none⟩ sv' k (fun e => by
    obtain ⟨cs, hc⟩ := hv.typed hk
    rw [e, g1, h.vb] at hc
    injection hc with hc
    injection hc with _ hc
    exact absurd hc (by decide)))
  have hsz : (W1.setCell ⟨b, 6, none⟩ sv').heap.size = W1.heap.size := by simp [World.setCell]
  have hzn : ∀ k, P k → Zn P W (W1.setCell ⟨b, 6, none⟩ sv') k := fun k hk => .inl hk
  refine ⟨⟨by simp [World.setCell, Array.getElem?_modify, g1, h.vb, vmA, Ctx.push], ?_, hnb hs, hnb g2, hnb g3, hnb g4, g5.move (Below.heap_setCell W1 ⟨b, 6, none⟩ sv' M (fun e => h.neM e.symm)), ?_, h.d2, h.d3, hzn _ h.zb, hzn _ h.zM, ?_⟩, ?_⟩
  · refine Kd.R_mono (Kd.R_move (Kd.R_bound g6) (fun k hk => Below.heap_setCell W1 ⟨b, 6, none⟩ sv' k (fun e => ?_))) (fun k hk => hzn k hk.1)
    obtain ⟨_, _, _, q, hq, cs, hc⟩ := hk
    have e2 : q = 53 := by
      have : q ∈ [53] := hq
      simpa using this
    subst e2
    rw [e, g1, h.vb] at hc
    injection hc with hc
    injection hc with _ hc
    exact absurd hc (by decide)
  · intro k hk
    rcases hn with hn | ⟨k', hn, hlt⟩
    · exact h.d1 k (by rw [← hn, hk])
    · have e : k' = k := by rw [hn] at hk; exact Option.some.inj hk
      subst e
      exact ⟨fun e => by have := h.sl.lt e; omega, fun e => by have := h.inn.lt e; omega, fun e => by have := h.ou.lt e; omega⟩
  · rintro k (hk | hk)
    · rcases hn with hn | ⟨k', hn, hlt⟩
      · exact .inl (h.zs k (.inl (by rw [← hn, hk])))
      · have e : k' = k := by rw [hn] at hk; exact Option.some.inj hk
        subst e
        exact .inr ⟨hlt, by rw [hsz]; exact hs.lt hk⟩
    · exact .inl (h.zs k (.inr hk))
  · refine ⟨ho.1, ho.2.1, ho.2.2, by rw [hsz]; exact hb, fun k hk hP => ?_⟩
    rw [Below.heap_setCell W1 ⟨b, 6, none⟩ sv' k (fun e => hP (by rw [e]; exact h.zb))]
    exact hz k hk (fun e => hP (h.zs k (.inl e.symm)))
theorem box_cell {W : World} {g : Nat} {v : Value} {t : TypeId} (h : W.heap[g]? = some (.cells #[v] t (0, 0))) : W.cell? ⟨g, 0, none⟩ = some v := by simp [World.cell?, h]
theorem kept2_set {W : World} {P : Nat → Prop} {b : Nat} (hP : P b) (j : Nat) (u : Value) : Kept2 W (W.setCell ⟨b, j, none⟩ u) P := ⟨rfl, rfl, rfl, by simp [World.setCell], fun k hk hn => Below.heap_setCell W ⟨b, j, none⟩ u k (fun e => hn (by rw [e]; exact hP))⟩
def Stop (p : Prop) : Prop := p
theorem stop_here {p : Prop} (h : Stop p) : p := h
set_option maxHeartbeats 4000000 in
set_option maxRecDepth 100000 in
theorem push_calls {W : World} {P : Nat → Prop} {b : Nat} {c : Cf} {l : List S53} {x : Ctx} {M : Nat} {cv sv tv iv ov : Value} (h : VA W P b c l x M cv sv tv iv ov) (hlen : x.stack.length ≤ 100000) (t : Int) :
    Calls Try.prog 66 #[.pointer (some ⟨b, 0, none⟩), .int .i64 t] W fun e W' => e = .returned (.tuple #[]) ∧ (∃ sv', VA W' (Zn P W W') b c l (x.push t) M cv sv' tv iv ov) ∧ Kept2 W W' P := by
  have H := Aside0.mk h
  clear h
  have x6 : W.cell? ⟨b, 6, none⟩ = some sv := H.out.cell rfl
  have HL := Aside0.mk hlen
  have H1 : Aside0 (VA (W.alloc (.cells #[.int .i64 t] (2 : Nat))) P b c l x M cv sv tv iv ov) := ⟨H.out.move (fun k _ hk => heap_alloc_old _ _ hk)⟩
  have y6 : (W.alloc (.cells #[.int .i64 t] (2 : Nat))).heap[W.heap.size]? = some (.cells #[.int .i64 t] (2 : Nat) (0, 0)) := heap_alloc_new _ _
  have Y6 := Aside0.mk y6
  clear y6 hlen
  go_enter Try.func66, Try.ntmps66
  go_wp2_with ((with_reducible refine gate_builtin (b := .append) (xs := #[.tmp 9, .tmp 11]) rfl ?_); refine stop_here ?_)
  unfold Stop
  refine wpList_more rfl (.tmp 9) (.tmp 11) rfl [t] rfl H1.out.st rfl ?hc ?hl ?_
  case hc =>
    intro j y hj
    have hj0 : j = 0 := by have := (List.getElem?_eq_some_iff.1 hj).1; simpa using this
    subst hj0
    have hy : t = y := by simpa using hj
    subst hy
    rw [show (⟨W.heap.size, 0, none⟩ : Addr).add 0 = ⟨W.heap.size, 0, none⟩ by simp [Addr.add]]
    exact box_cell Y6.out
  case hl =>
    have := HL.out
    simp only [List.length_singleton]
    omega
  intro v' W' hv' hg' ho'
  have hb' := hg'.block b (Array.getElem?_eq_some_iff.1 H1.out.vb).1 (fun e => H1.out.neI H1.out.st e.symm)
  have f6 : W'.frozen? ⟨b, 6, none⟩ = false := by
    rw [World.frozen?_of_block (a := ⟨b, 6, none⟩) hb']
    exact H1.out.froz 6
  have c6 : W'.cell? ⟨b, 6, none⟩ = some sv := by
    rw [World.cell?_of_block (a := ⟨b, 6, none⟩) hb']
    exact H1.out.cell rfl
  have one1 : v'.oneCell' = true := by
    obtain ⟨A, cap, e, _⟩ := hv'.slice
    rw [e]
    rfl
  have hsz : W.heap.size ≤ (W.alloc (.cells #[.int .i64 t] (2 : Nat))).heap.size := by simp
  have F := Aside0.mk (H.out.pushed (t := t) (sv' := v') (Nat.le_trans hsz hg'.size) (fun k hk hn => (hg'.block k (Nat.lt_of_lt_of_le hk hsz) hn).trans (heap_alloc_old _ _ hk)) ⟨hg'.os, hg'.tape, hg'.output⟩ hv' (ho'.imp id (fun ⟨k, h1, h2⟩ => ⟨k, h1, Nat.le_trans hsz h2⟩)))
  obtain ⟨A', cap', hsl', _⟩ := hv'.slice
  rw [show (x.stack ++ [t]).length = x.stack.length + 1 by simp] at hsl'
  subst hsl'
  clear hv' hg' ho' hb' H H1 HL hsz
  go_wp2
  go_end0
  exact ⟨rfl, ⟨_, F.out.1⟩, F.out.2⟩
set_option maxHeartbeats 4000000 in
set_option maxRecDepth 100000 in
theorem pop_calls {W : World} {P : Nat → Prop} {b : Nat} {c : Cf} {l : List S53} {x : Ctx} {M : Nat} {cv sv tv iv ov : Value} (h : VA W P b c l x M cv sv tv iv ov) (hne : 0 < x.stack.length) (hlen : x.stack.length ≤ 100000) :
    Calls Try.prog 67 #[.pointer (some ⟨b, 0, none⟩)] W fun e W' => e = .returned (.int .i64 x.top) ∧ (∃ sv', VA W' P b c l x.pop M cv sv' tv iv ov) ∧ Kept2 W W' P ∧ W'.heap.size = W.heap.size := by
  obtain ⟨g, cap, hsv, hcap, hown, hc, _, _⟩ := h.st.cell (i := x.stack.length - 1) (by omega)
  obtain ⟨ht1, ht2⟩ := h.st.take _ cap hsv hne
  have F := h.put (x' := x.pop) (sv' := .slice (some ⟨g, 0, none⟩) (x.stack.length - 1) cap) (j := 6) (u := .slice (some ⟨g, 0, none⟩) (x.stack.length - 1) cap) (by rw [show x.pop.stack = x.stack.take (x.stack.length - 1) from rfl]; exact ht1) rfl rfl rfl ht2 (by simp [vmA, Ctx.pop])
  have F := Aside0.mk F
  have x6 : W.cell? ⟨b, 6, none⟩ = some sv := h.cell rfl
  have f6 := h.froz 6
  have B := Aside0.mk (And.intro h.zb (Array.getElem?_eq_some_iff.1 h.vb).1)
  have htop : x.stack.getD (x.stack.length - 1) 0 = x.top := rfl
  rw [htop] at hc
  rw [hsv] at x6
  clear hsv ht1 ht2 hown h htop
  generalize x.top = tp at hc ⊢
  obtain ⟨m, hm⟩ : ∃ m, x.stack.length = m + 1 := ⟨x.stack.length - 1, by omega⟩
  rw [hm] at hc F x6 hcap hlen
  simp only [Nat.add_sub_cancel] at hc F
  have hm1 : (m : Int) < 100000 := by omega
  have hm2 : (m : Int) + 1 < 100001 := by omega
  have hcap2 : m ≤ cap := by omega
  clear hm hne
  go_enter Try.func67, Try.ntmps67
  go_wp2
  go_ret
  exact ⟨rfl, ⟨_, F.out⟩, kept2_set B.out.1 _ _, by simp [World.setCell]⟩
end Go.Proofs.Ytlmpoojpbdmmfaa.H
end
section
set_option linter.unusedVariables false
set_option linter.unusedSimpArgs false
namespace Go.Proofs.Ytlmpoojpbdmmfaa.H
open Go.RowKit Go.Proofs.YtlmpoojpbdmmfaaW.PrintWords Go.Proofs.YtlmpoojpbdmmfaaW.PrintLast Go.Proofs.YtlmpoojpbdmmfaaW.PrintMore Go.Maps
theorem truth_val (b : Bool) : vm_truth.f b = some (tr b) := by cases b <;> rfl
theorem drawn_below {w w' : World} (h : Drawn0 w w') : Below w.heap.size w w' := h.below
section
variable (d t : Int) (w : World)
set_option maxHeartbeats 4000000 in
theorem c52 : Calls Try.prog 52 #[.int .i64 d, .int .i64 t] w fun e w' => e = .returned (.int .i64 (wrap64 (d + t))) ∧ Below w.heap.size w w' := by
  go_enter Try.func52, Try.ntmps52
  go_wp2
  go_ret
  exact ⟨rfl, Below.refl _ _⟩
set_option maxHeartbeats 4000000 in
theorem c53 : Calls Try.prog 53 #[.int .i64 d, .int .i64 t] w fun e w' => e = .returned (.int .i64 (wrap64 (d - t))) ∧ Below w.heap.size w w' := by
  go_enter Try.func53, Try.ntmps53
  go_wp2
  go_ret
  exact ⟨rfl, Below.refl _ _⟩
set_option maxHeartbeats 4000000 in
theorem c54 : Calls Try.prog 54 #[.int .i64 d, .int .i64 t] w fun e w' => e = .returned (.int .i64 (wrap64 (d * t))) ∧ Below w.heap.size w w' := by
  go_enter Try.func54, Try.ntmps54
  go_wp2
  go_ret
  exact ⟨rfl, Below.refl _ _⟩
set_option maxHeartbeats 4000000 in
theorem c57 : Calls Try.prog 57 #[.int .i64 d, .int .i64 t] w fun e w' => e = .returned (.int .i64 (tr (decide (d = t)))) ∧ Below w.heap.size w w' := by
  go_enter Try.func57, Try.ntmps57
  go_wp2_with fail
  refine (vm_truth.calls _ _ _ (truth_val _)).mono ?_
  rintro e w' ⟨rfl, hd⟩
  go_wp2
  go_ret
  refine ⟨?_, drawn_below hd⟩
  simp [tr]
set_option maxHeartbeats 4000000 in
theorem c59 : Calls Try.prog 59 #[.int .i64 d, .int .i64 t] w fun e w' => e = .returned (.int .i64 (tr (decide (d ≠ t)))) ∧ Below w.heap.size w w' := by
  go_enter Try.func59, Try.ntmps59
  go_wp2_with fail
  refine (vm_truth.calls _ _ _ (truth_val _)).mono ?_
  rintro e w' ⟨rfl, hd⟩
  go_wp2
  go_ret
  refine ⟨?_, drawn_below hd⟩
  simp [tr]
set_option maxHeartbeats 4000000 in
theorem c60 : Calls Try.prog 60 #[.int .i64 d, .int .i64 t] w fun e w' => e = .returned (.int .i64 (tr (decide (d < t)))) ∧ Below w.heap.size w w' := by
  go_enter Try.func60, Try.ntmps60
  go_wp2_with fail
  refine (vm_truth.calls _ _ _ (truth_val _)).mono ?_
  rintro e w' ⟨rfl, hd⟩
  go_wp2
  go_ret
  refine ⟨?_, drawn_below hd⟩
  simp [tr]
set_option maxHeartbeats 4000000 in
theorem c61 : Calls Try.prog 61 #[.int .i64 d, .int .i64 t] w fun e w' => e = .returned (.int .i64 (tr (decide (d ≤ t)))) ∧ Below w.heap.size w w' := by
  go_enter Try.func61, Try.ntmps61
  go_wp2_with fail
  refine (vm_truth.calls _ _ _ (truth_val _)).mono ?_
  rintro e w' ⟨rfl, hd⟩
  go_wp2
  go_ret
  refine ⟨?_, drawn_below hd⟩
  simp [tr]
set_option maxHeartbeats 4000000 in
theorem c62 : Calls Try.prog 62 #[.int .i64 d, .int .i64 t] w fun e w' => e = .returned (.int .i64 (tr (decide (t < d)))) ∧ Below w.heap.size w w' := by
  go_enter Try.func62, Try.ntmps62
  go_wp2_with fail
  refine (vm_truth.calls _ _ _ (truth_val _)).mono ?_
  rintro e w' ⟨rfl, hd⟩
  go_wp2
  go_ret
  refine ⟨?_, drawn_below hd⟩
  simp [tr]
set_option maxHeartbeats 4000000 in
theorem c63 : Calls Try.prog 63 #[.int .i64 d, .int .i64 t] w fun e w' => e = .returned (.int .i64 (tr (decide (t ≤ d)))) ∧ Below w.heap.size w w' := by
  go_enter Try.func63, Try.ntmps63
  go_wp2_with fail
  refine (vm_truth.calls _ _ _ (truth_val _)).mono ?_
  rintro e w' ⟨rfl, hd⟩
  go_wp2
  go_ret
  refine ⟨?_, drawn_below hd⟩
  simp [tr]
set_option maxHeartbeats 4000000 in
theorem c64 : Calls Try.prog 64 #[.int .i64 d, .int .i64 t] w fun e w' => e = .returned (.int .i64 (tr (decide (d ≠ 0) && decide (t ≠ 0)))) ∧ Below w.heap.size w w' := by
  by_cases h : d = 0
  · subst h
    go_enter Try.func64, Try.ntmps64
    go_wp2_with fail
    refine (vm_truth.calls _ _ _ (truth_val _)).mono ?_
    rintro e w' ⟨rfl, hd⟩
    go_wp2
    go_ret
    exact ⟨by simp [tr], drawn_below hd⟩
  · have h1 : (d != 0) = true := by simp [h]
    have H := Aside0.mk h
    clear h
    go_enter Try.func64, Try.ntmps64
    go_wp2_with fail
    refine (vm_truth.calls _ _ _ (truth_val _)).mono ?_
    rintro e w' ⟨rfl, hd⟩
    go_wp2
    go_ret
    exact ⟨by have := H.out; simp [tr, this], drawn_below hd⟩
set_option maxHeartbeats 4000000 in
theorem c65 : Calls Try.prog 65 #[.int .i64 d, .int .i64 t] w fun e w' => e = .returned (.int .i64 (tr (decide (d ≠ 0) || decide (t ≠ 0)))) ∧ Below w.heap.size w w' := by
  by_cases h : d = 0
  · subst h
    go_enter Try.func65, Try.ntmps65
    go_wp2_with fail
    refine (vm_truth.calls _ _ _ (truth_val _)).mono ?_
    rintro e w' ⟨rfl, hd⟩
    go_wp2
    go_ret
    exact ⟨by simp [tr], drawn_below hd⟩
  · have h1 : (d != 0) = true := by simp [h]
    have H := Aside0.mk h
    clear h
    go_enter Try.func65, Try.ntmps65
    go_wp2_with fail
    refine (vm_truth.calls _ _ _ (truth_val _)).mono ?_
    rintro e w' ⟨rfl, hd⟩
    go_wp2
    go_ret
    exact ⟨by have := H.out; simp [tr, this], drawn_below hd⟩
theorem div_val : num_Div.f d t = some (divv d t) := by
  unfold num_Div.f divv
  repeat' split
  all_goals rfl
theorem mod_val : num_Mod.f d t = some (modv d t) := by
  unfold num_Mod.f modv
  repeat' split
  all_goals rfl
theorem pr_calls {op : Int} (h0 : 8 ≤ op) (h1 : op ≤ 20) : Calls Try.prog (fnOf op) #[.int .i64 d, .int .i64 t] w fun e w' => e = .returned (.int .i64 (pr op d t)) ∧ Below w.heap.size w w' := by
  have h : op = 8 ∨ op = 9 ∨ op = 10 ∨ op = 11 ∨ op = 12 ∨ op = 13 ∨ op = 14 ∨ op = 15 ∨ op = 16 ∨ op = 17 ∨ op = 18 ∨ op = 19 ∨ op = 20 := by omega
  rcases h with rfl | rfl | rfl | rfl | rfl | rfl | rfl | rfl | rfl | rfl | rfl | rfl | rfl
  · exact c52 d t w
  · exact c53 d t w
  · exact c54 d t w
  · exact (num_Div.calls d t _ w (div_val d t)).mono fun e w' h => ⟨h.1, drawn_below h.2⟩
  · exact (num_Mod.calls d t _ w (mod_val d t)).mono fun e w' h => ⟨h.1, drawn_below h.2⟩
  · exact c57 d t w
  · exact c59 d t w
  · exact c60 d t w
  · exact c61 d t w
  · exact c62 d t w
  · exact c63 d t w
  · exact c64 d t w
  · exact c65 d t w
end
theorem pm_put {W : World} {M n : Nat} {D : DataW Unit} (h : W.ownsMap Try.prog 5 fnR M n D) (hn : n < 1000) (op : Int) (h0 : 0 ≤ op) (h1 : op ≤ 255) (f : Nat) :
    ∃ W', (Instr.mapUpdate 67 (.map (some M)) (.int .u8 op) (.func (.func f) #[] #[])).run Try.prog W = .ok () W' ∧ W'.ownsMap Try.prog 5 fnR M (n + 1) (D.put (.int .u8 op) (.lit (.int .i64 (f : Int)))) ∧ W.grownBy W' (some M) :=
  h.update key5 under67 (by unfold maxLen; omega) (key_u8 op h0 h1) rfl
theorem lit_ne {a b : Int} (h : a ≠ b) : Lit.int .u8 a ≠ Lit.int .u8 b := by simpa using h
theorem grown_trans {w1 w2 w3 : World} {r : Option Nat} (h : w1.grownBy w2 r) (k : w2.grownBy w3 r) : w1.grownBy w3 r :=
  ⟨k.os.trans h.os, k.tape.trans h.tape, k.output.trans h.output, Nat.le_trans h.size k.size, fun i hi hn => (k.block i (Nat.lt_of_lt_of_le hi h.size) hn).trans (h.block i hi hn)⟩
set_option maxHeartbeats 8000000 in
theorem pairs_calls (w : World) : Calls Try.prog 30 #[] w fun e w' => ∃ M, e = .returned (.map (some M)) ∧ PM w' M ∧ w.heap.size ≤ M ∧ Below w.heap.size w w' := by
  have hmm := @run_makeMap Try.prog
  have O0 := World.ownsMap_made w Try.prog 5 fnR
  have G0 : w.grownBy (w.alloc (.map #[] 0)) (some w.heap.size) := World.grownBy_alloc w (.map #[] 0) _
  obtain ⟨W1, r1, O1, g1⟩ := pm_put O0 (by decide) 8 (by decide) (by decide) 52
  have G1 := grown_trans G0 g1
  obtain ⟨W2, r2, O2, g2⟩ := pm_put O1 (by decide) 9 (by decide) (by decide) 53
  have G2 := grown_trans G1 g2
  obtain ⟨W3, r3, O3, g3⟩ := pm_put O2 (by decide) 10 (by decide) (by decide) 54
  have G3 := grown_trans G2 g3
  obtain ⟨W4, r4, O4, g4⟩ := pm_put O3 (by decide) 11 (by decide) (by decide) 55
  have G4 := grown_trans G3 g4
  obtain ⟨W5, r5, O5, g5⟩ := pm_put O4 (by decide) 12 (by decide) (by decide) 56
  have G5 := grown_trans G4 g5
  obtain ⟨W6, r6, O6, g6⟩ := pm_put O5 (by decide) 13 (by decide) (by decide) 57
  have G6 := grown_trans G5 g6
  obtain ⟨W7, r7, O7, g7⟩ := pm_put O6 (by decide) 14 (by decide) (by decide) 59
  have G7 := grown_trans G6 g7
  obtain ⟨W8, r8, O8, g8⟩ := pm_put O7 (by decide) 15 (by decide) (by decide) 60
  have G8 := grown_trans G7 g8
  obtain ⟨W9, r9, O9, g9⟩ := pm_put O8 (by decide) 16 (by decide) (by decide) 61
  have G9 := grown_trans G8 g9
  obtain ⟨W10, r10, O10, g10⟩ := pm_put O9 (by decide) 17 (by decide) (by decide) 62
  have G10 := grown_trans G9 g10
  obtain ⟨W11, r11, O11, g11⟩ := pm_put O10 (by decide) 18 (by decide) (by decide) 63
  have G11 := grown_trans G10 g11
  obtain ⟨W12, r12, O12, g12⟩ := pm_put O11 (by decide) 19 (by decide) (by decide) 64
  have G12 := grown_trans G11 g12
  obtain ⟨W13, r13, O13, g13⟩ := pm_put O12 (by decide) 20 (by decide) (by decide) 65
  have G13 := grown_trans G12 g13
  have HP : Aside0 (PM W13 w.heap.size) := ⟨by
    refine ⟨_, 13, O13, fun op h0 h1 => ?_⟩
    have h : op = 8 ∨ op = 9 ∨ op = 10 ∨ op = 11 ∨ op = 12 ∨ op = 13 ∨ op = 14 ∨ op = 15 ∨ op = 16 ∨ op = 17 ∨ op = 18 ∨ op = 19 ∨ op = 20 := by omega
    rcases h with rfl | rfl | rfl | rfl | rfl | rfl | rfl | rfl | rfl | rfl | rfl | rfl | rfl
    · rw [atKey_put_other (lit_ne (by decide)), atKey_put_other (lit_ne (by decide)), atKey_put_other (lit_ne (by decide)), atKey_put_other (lit_ne (by decide)), atKey_put_other (lit_ne (by decide)), atKey_put_other (lit_ne (by decide)), atKey_put_other (lit_ne (by decide)), atKey_put_other (lit_ne (by decide)), atKey_put_other (lit_ne (by decide)), atKey_put_other (lit_ne (by decide)), atKey_put_other (lit_ne (by decide)), atKey_put_other (lit_ne (by decide)), atKey_put_same O0.isMap (key5.key (key_u8 8 (by decide) (by decide)))]; rfl
    · rw [atKey_put_other (lit_ne (by decide)), atKey_put_other (lit_ne (by decide)), atKey_put_other (lit_ne (by decide)), atKey_put_other (lit_ne (by decide)), atKey_put_other (lit_ne (by decide)), atKey_put_other (lit_ne (by decide)), atKey_put_other (lit_ne (by decide)), atKey_put_other (lit_ne (by decide)), atKey_put_other (lit_ne (by decide)), atKey_put_other (lit_ne (by decide)), atKey_put_other (lit_ne (by decide)), atKey_put_same O1.isMap (key5.key (key_u8 9 (by decide) (by decide)))]; rfl
    · rw [atKey_put_other (lit_ne (by decide)), atKey_put_other (lit_ne (by decide)), atKey_put_other (lit_ne (by decide)), atKey_put_other (lit_ne (by decide)), atKey_put_other (lit_ne (by decide)), atKey_put_other (lit_ne (by decide)), atKey_put_other (lit_ne (by decide)), atKey_put_other (lit_ne (by decide)), atKey_put_other (lit_ne (by decide)), atKey_put_other (lit_ne (by decide)), atKey_put_same O2.isMap (key5.key (key_u8 10 (by decide) (by decide)))]; rfl
    · rw [atKey_put_other (lit_ne (by decide)), atKey_put_other (lit_ne (by decide)), atKey_put_other (lit_ne (by decide)), atKey_put_other (lit_ne (by decide)), atKey_put_other (lit_ne (by decide)), atKey_put_other (lit_ne (by decide)), atKey_put_other (lit_ne (by decide)), atKey_put_other (lit_ne (by decide)), atKey_put_other (lit_ne (by decide)), atKey_put_same O3.isMap (key5.key (key_u8 11 (by decide) (by decide)))]; rfl
    · rw [atKey_put_other (lit_ne (by decide)), atKey_put_other (lit_ne (by decide)), atKey_put_other (lit_ne (by decide)), atKey_put_other (lit_ne (by decide)), atKey_put_other (lit_ne (by decide)), atKey_put_other (lit_ne (by decide)), atKey_put_other (lit_ne (by decide)), atKey_put_other (lit_ne (by decide)), atKey_put_same O4.isMap (key5.key (key_u8 12 (by decide) (by decide)))]; rfl
    · rw [atKey_put_other (lit_ne (by decide)), atKey_put_other (lit_ne (by decide)), atKey_put_other (lit_ne (by decide)), atKey_put_other (lit_ne (by decide)), atKey_put_other (lit_ne (by decide)), atKey_put_other (lit_ne (by decide)), atKey_put_other (lit_ne (by decide)), atKey_put_same O5.isMap (key5.key (key_u8 13 (by decide) (by decide)))]; rfl
    · rw [atKey_put_other (lit_ne (by decide)), atKey_put_other (lit_ne (by decide)), atKey_put_other (lit_ne (by decide)), atKey_put_other (lit_ne (by decide)), atKey_put_other (lit_ne (by decide)), atKey_put_other (lit_ne (by decide)), atKey_put_same O6.isMap (key5.key (key_u8 14 (by decide) (by decide)))]; rfl
    · rw [atKey_put_other (lit_ne (by decide)), atKey_put_other (lit_ne (by decide)), atKey_put_other (lit_ne (by decide)), atKey_put_other (lit_ne (by decide)), atKey_put_other (lit_ne (by decide)), atKey_put_same O7.isMap (key5.key (key_u8 15 (by decide) (by decide)))]; rfl
    · rw [atKey_put_other (lit_ne (by decide)), atKey_put_other (lit_ne (by decide)), atKey_put_other (lit_ne (by decide)), atKey_put_other (lit_ne (by decide)), atKey_put_same O8.isMap (key5.key (key_u8 16 (by decide) (by decide)))]; rfl
    · rw [atKey_put_other (lit_ne (by decide)), atKey_put_other (lit_ne (by decide)), atKey_put_other (lit_ne (by decide)), atKey_put_same O9.isMap (key5.key (key_u8 17 (by decide) (by decide)))]; rfl
    · rw [atKey_put_other (lit_ne (by decide)), atKey_put_other (lit_ne (by decide)), atKey_put_same O10.isMap (key5.key (key_u8 18 (by decide) (by decide)))]; rfl
    · rw [atKey_put_other (lit_ne (by decide)), atKey_put_same O11.isMap (key5.key (key_u8 19 (by decide) (by decide)))]; rfl
    · rw [atKey_put_same O12.isMap (key5.key (key_u8 20 (by decide) (by decide)))]; rfl⟩
  have HB : Aside0 (Below w.heap.size w W13) := ⟨⟨G13.os, G13.tape, G13.output, G13.size, fun k hk => G13.block k hk (by simp; omega)⟩⟩
  clear O0 O1 O2 O3 O4 O5 O6 O7 O8 O9 O10 O11 O12 O13 G0 G1 G2 G3 G4 G5 G6 G7 G8 G9 G10 G11 G12 G13 g1 g2 g3 g4 g5 g6 g7 g8 g9 g10 g11 g12 g13
  go_enter Try.func30, Try.ntmps30
  go_wp2
  go_ret
  exact ⟨_, rfl, HP.out, Nat.le_refl _, HB.out⟩
end Go.Proofs.Ytlmpoojpbdmmfaa.H
set_option linter.unusedVariables false
set_option linter.unusedSimpArgs false
namespace Go.Proofs.Ytlmpoojpbdmmfaa.H
open Go.RowKit Go.Proofs.YtlmpoojpbdmmfaaW.PrintWords Go.Proofs.YtlmpoojpbdmmfaaW.PrintLast Go.Proofs.YtlmpoojpbdmmfaaW.PrintMore Go.Maps
def RdI (W : World) (A : Option Addr) (xs : List Int) : Prop := (A = none → xs = []) ∧ ∀ ad, A = some ad → ∀ j y, xs[j]? = some y → W.cell? (ad.add j) = some (.int .i64 y)
theorem IR.rd {W : World} {v : Value} {xs : List Int} (h : IR W v xs) : ∃ A cap, v = .slice A xs.length cap ∧ xs.length ≤ cap ∧ RdI W A xs ∧ (A = none → cap = 0) := by
  rcases h.2 with ⟨rfl, h0⟩ | ⟨g, cap, cur, rfl, _, hg, hnc, _, hcs, ht⟩
  · have : xs = [] := List.eq_nil_of_length_eq_zero h0
    subst this
    exact ⟨none, 0, rfl, Nat.le_refl _, ⟨fun _ => rfl, fun ad e => (by cases e)⟩, fun _ => rfl⟩
  · refine ⟨_, cap, rfl, hnc, ⟨fun e => (by cases e), fun ad e j y hj => ?_⟩, fun e => (by cases e)⟩
    cases e
    have hlt : j < xs.length := (List.getElem?_eq_some_iff.1 hj).1
    obtain ⟨g', cap', he, _, _, hc, _, _⟩ := h.cell hlt
    simp only [Value.slice.injEq, Option.some.injEq, Addr.mk.injEq] at he
    obtain ⟨⟨rfl, _, _⟩, _, _⟩ := he
    rw [Addr.add_lit, Nat.zero_add, hc]
    simp [List.getD_eq_getElem?_getD, hj]
theorem RdI.below {W W' : World} {A : Option Addr} {xs : List Int} (h : RdI W A xs) (hb : Below W.heap.size W W') : RdI W' A xs := ⟨h.1, fun ad e j y hj => pw_cell_below hb (h.2 ad e j y hj)⟩
set_option maxHeartbeats 4000000 in
set_option maxRecDepth 100000 in
theorem clone_ints {W : World} {A : Option Addr} {xs : List Int} {cap : Nat} (h : RdI W A xs) (hA : A = none → cap = 0) (hlen : xs.length ≤ 500000) :
    Calls Try.prog 28 #[.slice A xs.length cap] W fun e W' => ∃ v', e = .returned v' ∧ IR W' v' xs ∧ (∀ k, v'.ownBlock = some k → W.heap.size ≤ k) ∧ Below W.heap.size W W' := by
  cases A with
  | none =>
    have hx := h.1 rfl
    subst hx
    obtain rfl := hA rfl
    clear h hA hlen
    simp only [List.length_nil]
    have hq := Lib.run_eql_slice_nil (P := Try.prog) W 25 2 none 0 0 0 0 Try.underlying25
    go_enter Try.func28, Try.ntmps28
    go_wp2
    go_ret
    exact ⟨_, rfl, IR.nil _, fun k hk => by simp [Value.ownBlock] at hk, Below.refl _ _⟩
  | some ad =>
    have H := Aside0.mk h
    have HL := Aside0.mk hlen
    have O : Aside0 (IR (W.alloc (.cells #[] (2 : Nat))) (.slice (some ⟨W.heap.size, 0, none⟩) 0 0) []) := ⟨⟨rfl, .inr ⟨W.heap.size, 0, #[], rfl, Nat.zero_le _, heap_alloc_new _ _, Nat.le_refl _, by decide, rfl, rfl⟩⟩⟩
    clear h hA hlen
    have hq := Lib.run_eql_slice_nil (P := Try.prog) W 25 2 (some ad) xs.length cap 0 0 Try.underlying25
    go_enter Try.func28, Try.ntmps28
    go_wp2_with ((with_reducible refine gate_builtin (b := .append) (xs := #[.tmp 5, .tmp 6]) rfl ?_); refine stop_here ?_)
    unfold Stop
    refine wpList_more rfl (.tmp 5) (.tmp 6) rfl xs rfl O.out rfl ?hc ?hl ?_
    case hc => exact fun j y hj => pw_cell_below ((Below.refl _ _).alloc (Nat.le_refl _) _) (H.out.2 ad rfl j y hj)
    case hl => have := HL.out; simp only [List.length_nil]; omega
    intro v' W' hv' hg' ho'
    have V := Aside0.mk hv'
    have G : Aside0 (Below W.heap.size W W') := ⟨((Below.refl _ _).alloc (Nat.le_refl _) (.cells #[] (2 : Nat))).grown hg' (by simp) (fun k e => by have e2 : some W.heap.size = some k := e; have := Option.some.inj e2; omega)⟩
    have N : Aside0 (∀ k, v'.ownBlock = some k → W.heap.size ≤ k) := ⟨fun k hk => by
      rcases ho' with ho' | ⟨k', h1, h2⟩
      · rw [hk] at ho'; have e2 : some k = some W.heap.size := ho'; have := Option.some.inj e2; omega
      · rw [hk] at h1; cases h1; simp at h2; omega⟩
    clear hv' hg' ho'
    go_wp2
    go_ret
    exact ⟨_, rfl, V.out, N.out, G.out⟩
theorem k53_M {w : World} {base : Nat} {ok : Nat → Prop} {x : S53} {cs : List Value} (h : k53.K w x cs) : k53.M w base ok x cs := h
set_option maxHeartbeats 4000000 in
set_option maxRecDepth 100000 in
theorem clone_code {W : World} {A : Option Addr} {l : List S53} {cap : Nat} (h : Kd.C k53 W A l.length l) (hA : A = none → cap = 0) (hlen : l.length ≤ 500000) :
    Calls Try.prog 29 #[.slice A l.length cap] W fun e W' => ∃ v', e = .returned v' ∧ Kd.R k53 53 W' 0 (fun k => W.heap.size ≤ k) v' l ∧ Below W.heap.size W W' := by
  cases A with
  | none =>
    have hx : l = [] := by
      by_cases h0 : l.length = 0
      · exact List.eq_nil_of_length_eq_zero h0
      · obtain ⟨ad, h1, _⟩ := at_T53 h 0 (by omega) (by omega)
        cases h1
    subst hx
    obtain rfl := hA rfl
    clear h hA hlen
    simp only [List.length_nil]
    have hq := Lib.run_eql_slice_nil (P := Try.prog) W 22 53 none 0 0 0 0 Try.underlying22
    go_enter Try.func29, Try.ntmps29
    go_wp2
    go_ret
    exact ⟨_, rfl, Kd.R_nil _ _ _ _ _, Below.refl _ _⟩
  | some ad =>
    have H := Aside0.mk h
    have HL := Aside0.mk hlen
    have O : Aside0 (Kd.R k53 53 (W.alloc (.cells #[] (53 : Nat))) 0 (fun k => W.heap.size ≤ k) (.slice (some ⟨W.heap.size, 0, none⟩) 0 0) []) := ⟨⟨fun k hk => by simp [Value.ownBlock] at hk; omega, [], ⟨rfl, .inr ⟨W.heap.size, 0, #[], rfl, Nat.zero_le _, heap_alloc_new _ _, Nat.le_refl _, by decide, rfl, rfl⟩⟩, Reps.none _ _⟩⟩
    clear h hA hlen
    have hq := Lib.run_eql_slice_nil (P := Try.prog) W 22 53 (some ad) l.length cap 0 0 Try.underlying22
    go_enter Try.func29, Try.ntmps29
    go_wp2_with ((with_reducible refine gate_builtin (b := .append) (xs := #[.tmp 5, .tmp 6]) rfl ?_); refine stop_here ?_)
    unfold Stop
    refine Kd.R_append_rows k53 (Rr := k53.K (W.alloc (.cells #[] (53 : Nat)))) (w0 := W.alloc (.cells #[] (53 : Nat))) 0 rfl (.tmp 5) (.tmp 6) 22 53 (.agg #[(.int .u8 0), (.int .i64 0)]) 16 rfl Try.underlying22 info53 rfl (by decide) (by decide) (.slice (some ⟨W.heap.size, 0, none⟩) 0 0) [] l (some ad) l.length cap _ (fun _ => False) rfl rfl O.out ?hR (fun _ _ h => k53_M h) (fun _ h => h.elim) ?hf (Below.refl _ _) (Nat.zero_le _) ?hl ?_
    case hR => exact Kd.C_below H.out ((Below.refl _ _).alloc (Nat.le_refl _) _)
    case hf => intro k hk; simp at hk; omega
    case hl => have := HL.out; simp only [List.length_nil]; omega
    intro v' W' hv' _ hg' ho'
    have V := Aside0.mk hv'
    have G : Aside0 (Below W.heap.size W W') := ⟨((Below.refl _ _).alloc (Nat.le_refl _) (.cells #[] (53 : Nat))).grown hg' (by simp) (fun k e => by have e2 : some W.heap.size = some k := e; have := Option.some.inj e2; omega)⟩
    clear hv' hg' ho'
    go_wp2
    go_ret
    exact ⟨_, rfl, V.out, G.out⟩
end Go.Proofs.Ytlmpoojpbdmmfaa.H
end
