/- Part 20 of the proof of the law L. The conditions: none. (Its parts: Rstates19.) -/
import Derived.LoopTactic
import Derived.BigQuiet
import Derived.Deep.QuietTactic
import Derived.StillTailTactics
import Derived.KernelRfl
import Derived.OwnWalk
import Derived.Lib.MinMax
import Derived.Test.YtlmpoojpbdmmfaaKL16
import Derived.Test.YtlmpoojpbdmmfaaKL17
import Derived.Test.YtlmpoojpbdmmfaaKL18
import Derived.Test.YtlmpoojpbdmmfaaKL19
section
set_option linter.unusedVariables false
set_option linter.unusedSimpArgs false
namespace Go.Proofs.Ytlmpoojpbdmmfaa.H
open Go.RowKit Go.Proofs.YtlmpoojpbdmmfaaW.PrintWords Go.Proofs.YtlmpoojpbdmmfaaW.PrintLast Go.Proofs.YtlmpoojpbdmmfaaW.PrintMore
theorem may_val (a b c d : Int) : carillonref19_May.f a b c d = some (mayC a b c d) := by
  unfold carillonref19_May.f mayC
  repeat' split
  all_goals simp_all
  all_goals omega
def sgoL (l : List S53) (c : Cf) : Nat → Nat → List Rst → List Rst
  | 0, _, all => all
  | n + 1, k, all => sgoL l c n (k + 1) (rput l k (rstep (all.getD k rst0) (rd_T53 l k) c).1 (folI l k) 0 all).2
def srefL (l : List S53) (c : Cf) : List Rst := sgoL l c l.length 0 (all0 l.length)
def StPost (l : List S53) (c : Cf) (w : World) (e : Ending) (w' : World) : Prop :=
  (∃ v, e = .returned (.tuple #[v, .int .i64 (sref l c).1, .int .i64 (sref l c).2]) ∧ ((sref l c).2 = 0 → ∃ ab, v = .slice (some ⟨ab, 0, none⟩) l.length l.length ∧ RowsAt w' ab (srefL l c) ∧ (srefL l c).length = l.length)) ∧ Below w.heap.size w w'
structure RtM (w : World) (l : List S53) (c : Cf) (lb ab : Nat) (all : List Rst) (W : World) : Prop where
  cb : W.heap[lb]? = some (.cells #[.int .i64 c.slots, .int .i64 c.reads, .int .i64 c.writes, .int .i64 c.stack] (24 : Nat) (0, 0))
  rows : RowsAt W ab all
  len : all.length = l.length
  hi : ∀ s ∈ all, 0 ≤ s.h ∧ s.h ≤ 256
  lo : w.heap.size ≤ lb ∧ lb < ab ∧ ab < W.heap.size
  bel : Below w.heap.size w W
section
variable {w : World} {l : List S53} {c : Cf} {lb ab : Nat} {all : List Rst} {W W' : World}
theorem RtM.same (h : RtM w l c lb ab all W) (hs : ∀ b, b ≤ ab → W'.heap[b]? = W.heap[b]?) (hb : Below w.heap.size w W') (hz : W.heap.size ≤ W'.heap.size) : RtM w l c lb ab all W' :=
  ⟨(hs _ (by have := h.lo; omega)).trans h.cb, h.rows.same (hs _ (Nat.le_refl _)), h.len, h.hi, ⟨h.lo.1, h.lo.2.1, by have := h.lo; omega⟩, hb⟩
theorem RtM.moved (h : RtM w l c lb ab all W) (hb : Below W.heap.size W W') : RtM w l c lb ab all W' :=
  h.same (fun b hb2 => hb.block b (by have := h.lo; omega)) (h.bel.trans (hb.mono h.bel.size)) hb.size
theorem setCells_size (g : Nat) : ∀ (vs : List Value) (o : Nat) (W : World), (W.setCells g o vs).heap.size = W.heap.size
  | [], _, _ => rfl
  | v :: r, o, W => by rw [World.setCells, setCells_size g r]; simp [World.setCell]
theorem RtM.put (h : RtM w l c lb ab all W) {k : Nat} (hk : k < l.length) {s : Rst} (hs : OKR s) (hh : 0 ≤ s.h ∧ s.h ≤ 256) : RtM w l c lb ab (all.set k s) (W.setCells ab (k * 578) (rca s).toList) :=
  ⟨(setCells_other ab _ _ _ _ (by have := h.lo; omega)).trans h.cb, h.rows.put (by rw [h.len]; exact hk) hs, by rw [List.length_set]; exact h.len,
    fun x hx => by rcases List.mem_or_eq_of_mem_set hx with e | e; exact h.hi x e; subst e; exact hh,
    ⟨h.lo.1, h.lo.2.1, by rw [setCells_size]; exact h.lo.2.2⟩, setCells_below (by have := h.lo; omega) _ _ _ h.bel⟩
theorem RtM.drew (h : RtM w l c lb ab all W) : RtM w l c lb ab all W.drew := h.moved (below_drew1 (Below.refl _ _))
theorem RtM.get (h : RtM w l c lb ab all W) {k : Nat} (hk : k < l.length) : all[k]? = some (all.getD k rst0) := by
  rw [List.getD_eq_getElem?_getD, List.getElem?_eq_getElem (by rw [h.len]; exact hk)]; rfl
theorem RtM.okr (h : RtM w l c lb ab all W) {k : Nat} (hk : k < l.length) : OKR (all.getD k rst0) := h.rows.ok _ (List.mem_of_getElem? (h.get hk))
theorem RtM.hgt (h : RtM w l c lb ab all W) {k : Nat} (hk : k < l.length) : 0 ≤ (all.getD k rst0).h ∧ (all.getD k rst0).h ≤ 256 := h.hi _ (List.mem_of_getElem? (h.get hk))
theorem RtM.kn (h : RtM w l c lb ab all W) {k : Nat} (hk : k < l.length) : W.cell? ⟨ab, k * 578, none⟩ = some (.bool (all.getD k rst0).kn) := by
  have := h.rows.r k _ (h.get hk) 0 (.bool (all.getD k rst0).kn) rfl
  simpa using this
end
structure MdM (w : World) (l : List S53) (c : Cf) (lb ab : Nat) (all : List Rst) (s : Rst) (sb lo hi : Nat) (A : Option Addr) (f : List Int) (W : World) : Prop where
  rt : RtM w l c lb ab all W
  sk : W.heap[sb]? = some (.cells (rca s) (81 : Nat) (0, 0))
  fl : FL W lo hi A f
  od : ab < sb ∧ sb < lo ∧ lo ≤ hi ∧ hi ≤ W.heap.size
section
variable {w : World} {l : List S53} {c : Cf} {lb ab : Nat} {all : List Rst} {s : Rst} {sb lo hi : Nat} {A : Option Addr} {f : List Int} {W W' : World}
theorem MdM.same (h : MdM w l c lb ab all s sb lo hi A f W) (hs : ∀ b, b < hi → W'.heap[b]? = W.heap[b]?) (hb : Below w.heap.size w W') (hz : W.heap.size ≤ W'.heap.size) : MdM w l c lb ab all s sb lo hi A f W' :=
  ⟨h.rt.same (fun b hb2 => hs b (by have := h.od; omega)) hb hz, (hs _ (by have := h.od; omega)).trans h.sk, h.fl.moved (fun b _ h2 => hs b h2), by have := h.od; omega⟩
theorem MdM.moved (h : MdM w l c lb ab all s sb lo hi A f W) (hb : Below W.heap.size W W') : MdM w l c lb ab all s sb lo hi A f W' :=
  h.same (fun b hb2 => hb.block b (by have := h.od; omega)) (h.rt.bel.trans (hb.mono h.rt.bel.size)) hb.size
theorem MdM.drew (h : MdM w l c lb ab all s sb lo hi A f W) : MdM w l c lb ab all s sb lo hi A f W.drew := h.moved (below_drew1 (Below.refl _ _))
theorem MdM.put (h : MdM w l c lb ab all s sb lo hi A f W) {k : Nat} (hk : k < l.length) {x : Rst} (hx : OKR x) (hh : 0 ≤ x.h ∧ x.h ≤ 256) : MdM w l c lb ab (all.set k x) s sb lo hi A f (W.setCells ab (k * 578) (rca x).toList) :=
  ⟨h.rt.put hk hx hh, (setCells_other ab _ _ _ _ (by have := h.od; omega)).trans h.sk, h.fl.moved (fun b h1 _ => setCells_other ab _ _ _ _ (by have := h.od; omega)), by rw [setCells_size]; exact h.od⟩
theorem MdM.tb (h : MdM w l c lb ab all s sb lo hi A f W) (t : Rst) : MdM w l c lb ab all s sb lo hi A f ((W.alloc (.cells (rca rst0) (81 : Nat))).setRow W.heap.size (rca t)) :=
  h.moved (setRow_below ((Below.refl _ _).alloc (Nat.le_refl _) _) (Nat.le_refl _) _)
theorem MdM.set (h : MdM w l c lb ab all s sb lo hi A f W) {tb : Nat} (ht : hi ≤ tb) (j : Nat) (v : Value) : MdM w l c lb ab all s sb lo hi A f (W.setCell ⟨tb, j, none⟩ v) :=
  h.same (fun b hb => by simp [World.setCell, Array.getElem?_modify, show ¬ tb = b by omega]) (h.rt.bel.setCell (p := ⟨tb, j, none⟩) (by have := h.od; have := h.rt.lo; show w.heap.size ≤ tb; omega) v) (by simp [World.setCell])
end
theorem aload_run {oi : Oper} {a : Act} {W : World} (x : Operand) (ho : oi.op = .load 81 x) {ab k : Nat} (hx : a.eval x = .pointer (some ⟨ab, k * 578, none⟩)) {all : List Rst} {s : Rst} (H : RowsAt W ab all) (hk : all[k]? = some s) :
    (execOp a.eval oi).run Try.prog W = .ok (.value (.agg (rca s))) W := by
  obtain ⟨d, h1⟩ := under81
  have hr := run_loadAt_mid (P := Try.prog) W ab (k * 578) 81 (rcl s) (.struct d) (H.r k s hk) h1 rfl (by rw [info81, rcl_length (H.ok s (List.mem_of_getElem? hk))])
  unfold execOp
  simp only [ho, hx, Sem.run_bind, Result.andThen_ok, hr, Sem.run_pure]
  rfl
theorem rstore_run {oi : Oper} {a : Act} {W : World} (x y : Operand) (ho : oi.op = .store 81 x y) {b : Nat} (hx : a.eval x = .pointer (some ⟨b, 0, none⟩)) {s s' : Rst} {t : TypeId} (hy : a.eval y = .agg (rca s')) (hb : W.heap[b]? = some (.cells (rca s) t (0, 0))) (hs : OKR s) (hs' : OKR s') :
    (execOp a.eval oi).run Try.prog W = .ok .skip (W.setRow b (rca s')) := by
  unfold execOp
  simp only [ho, hx, hy, Sem.run_bind, Result.andThen_ok, rs_store hb hs hs', Sem.run_pure]
theorem RtM.row {w : World} {l : List S53} {c : Cf} {lb ab : Nat} {all : List Rst} {W : World} (h : RtM w l c lb ab all W) {sb : Nat} (hs : ab < sb) (cs : Array Value) : RtM w l c lb ab all (W.setRow sb cs) :=
  h.same (fun b hb => setRow_other W sb b cs (by omega)) (setRow_below h.bel (by have := h.lo; omega) cs) (by simp)
theorem wpList_neq79b {ops : Array Oper} {rest : List Oper} {op : Oper} {a : Act} {w : World} {Q : Exit → Act → World → Prop} {b : Bool} {xs ys : List Bool} (hb : (!(xs == ys)) = b) (hgd : op.guard = none) (x y : Operand) (ho : op.op = .binOp .neq 79 x y 79)
    (hx : a.eval x = .agg (xs.map Value.bool).toArray) (hy : a.eval y = .agg (ys.map Value.bool).toArray) (hl : xs.length = 64) (hl2 : ys.length = 64)
    (h : wpList Try.prog ops Q rest (a.put op.dst (.bool b)) w) : wpList Try.prog ops Q (op :: rest) a w := by
  subst hb
  exact wpList_neq79 hgd x y ho hx hy hl hl2 h
def RI (pre : Nat → Int → (Nat → Value) → List Value) (w : World) (l : List S53) (c : Cf) (lb ab : Nat) (res : Int × Int) (fi : List Rst) (n : Nat) (a : Act) (W : World) : Prop :=
  ∃ (k : Nat) (all : List Rst) (high : Int) (v : Nat → Value) (us : List Value), us.length = 135 ∧ a.tmps = (pre k high v ++ us).toArray ∧ a.defers = [] ∧ Aside0 (k + n = l.length) ∧ Aside0 (sgo l c n k all high = res) ∧ Aside0 (sgoL l c n k all = fi) ∧ Aside0 (RtM w l c lb ab all W)
theorem RI.intro {pre : Nat → Int → (Nat → Value) → List Value} {w : World} {l : List S53} {c : Cf} {lb ab : Nat} {res : Int × Int} {fi : List Rst} {n : Nat} {a : Act} {W : World} (k : Nat) (all : List Rst) (high : Int) (us : List Value) (h0 : us.length = 135) (h1 : a.tmps = (pre k high (fun j => a.tmps.getD j undef) ++ us).toArray) (h2 : a.defers = [])
    (h3 : k + n = l.length) (h4 : sgo l c n k all high = res) (hL : sgoL l c n k all = fi) (h5 : RtM w l c lb ab all W) : RI pre w l c lb ab res fi n a W := ⟨k, all, high, _, us, h0, h1, h2, ⟨h3⟩, ⟨h4⟩, ⟨hL⟩, ⟨h5⟩⟩
def RM (pre : Nat → (Nat → Value) → List Value) (w : World) (l : List S53) (c : Cf) (lb ab k : Nat) (s : Rst) (sb lo hi : Nat) (A : Option Addr) (f : List Int) (res : Int × List Rst) (n : Nat) (a : Act) (W : World) : Prop :=
  ∃ (m : Nat) (all : List Rst) (v : Nat → Value) (us : List Value), us.length = 135 ∧ a.tmps = (pre m v ++ us).toArray ∧ a.defers = [] ∧ Aside0 (m + n = f.length) ∧ Aside0 (rput l k s (f.drop m) m all = res) ∧ Aside0 (MdM w l c lb ab all s sb lo hi A f W)
theorem RM.intro {pre : Nat → (Nat → Value) → List Value} {w : World} {l : List S53} {c : Cf} {lb ab k : Nat} {s : Rst} {sb lo hi : Nat} {A : Option Addr} {f : List Int} {res : Int × List Rst} {n : Nat} {a : Act} {W : World} (m : Nat) (all : List Rst) (us : List Value) (h0 : us.length = 135) (h1 : a.tmps = (pre m (fun j => a.tmps.getD j undef) ++ us).toArray) (h2 : a.defers = [])
    (h3 : m + n = f.length) (h4 : rput l k s (f.drop m) m all = res) (h5 : MdM w l c lb ab all s sb lo hi A f W) : RM pre w l c lb ab k s sb lo hi A f res n a W := ⟨m, all, _, us, h0, h1, h2, ⟨h3⟩, ⟨h4⟩, ⟨h5⟩⟩
def RX (pre : Nat → (Nat → Value) → List Value) (w : World) (l : List S53) (c : Cf) (lb ab : Nat) (all : List Rst) (s t : Rst) (sb lo hi tb : Nat) (A : Option Addr) (f : List Int) (n : Nat) (a : Act) (W : World) : Prop :=
  ∃ (i : Nat) (v : Nat → Value) (us : List Value), us.length = 135 ∧ a.tmps = (pre i v ++ us).toArray ∧ a.defers = [] ∧ Aside0 (i + n = 512) ∧ Aside0 (MdM w l c lb ab all s sb lo hi A f W) ∧ Aside0 (W.heap[tb]? = some (.cells (rca (mixR t s i)) (81 : Nat) (0, 0)))
theorem RX.intro {pre : Nat → (Nat → Value) → List Value} {w : World} {l : List S53} {c : Cf} {lb ab : Nat} {all : List Rst} {s t : Rst} {sb lo hi tb : Nat} {A : Option Addr} {f : List Int} {n : Nat} {a : Act} {W : World} (i : Nat) (us : List Value) (h0 : us.length = 135) (h1 : a.tmps = (pre i (fun j => a.tmps.getD j undef) ++ us).toArray) (h2 : a.defers = [])
    (h3 : i + n = 512) (h4 : MdM w l c lb ab all s sb lo hi A f W) (h5 : W.heap[tb]? = some (.cells (rca (mixR t s i)) (81 : Nat) (0, 0))) : RX pre w l c lb ab all s t sb lo hi tb A f n a W := ⟨i, _, us, h0, h1, h2, ⟨h3⟩, ⟨h4⟩, ⟨h5⟩⟩
theorem folI_len (l : List S53) (k : Nat) : (folI l k).length ≤ 2 := by
  unfold folI
  repeat' split
  all_goals simp
set_option maxHeartbeats 40000000 in
set_option maxRecDepth 100000 in
theorem rstates_calls (A0 : Option Addr) (c0 : Nat) (l0 : List S53) (c : Cf) (w : World) (hr0 : Kd.C k53 w A0 l0.length l0) (hc0 : l0.length ≤ c0) :
    Calls Try.prog 22 #[.slice A0 l0.length c0, cfVal c] w (StPost l0 c w) := by
  obtain ⟨cs, cr, cw, ck⟩ := c
  simp only [cfVal]
  have HR := Aside0.mk hr0
  have HC := Aside0.mk hc0
  clear hr0 hc0
  have e1 : (w.alloc (.cells #[.int .i64 cs, .int .i64 cr, .int .i64 cw, .int .i64 ck] (24 : Nat))).heap[w.heap.size]? = some (.cells #[.int .i64 cs, .int .i64 cr, .int .i64 cw, .int .i64 ck] (24 : Nat) (0, 0)) := heap_alloc_new _ _
  have E1 := Aside0.mk e1
  have E2 := Aside0.mk ((Below.refl w.heap.size w).alloc (Nat.le_refl _) (.cells #[.int .i64 cs, .int .i64 cr, .int .i64 cw, .int .i64 ck] (24 : Nat)))
  have E3 : Aside0 (w.heap.size < (w.alloc (.cells #[.int .i64 cs, .int .i64 cr, .int .i64 cw, .int .i64 ck] (24 : Nat))).heap.size) := ⟨by simp⟩
  clear e1
  have hu48 := Try.underlying24
  go_enter Try.func22, Try.ntmps22
  go_wp2_with fail
  generalize w.alloc (.cells #[.int .i64 cs, .int .i64 cr, .int .i64 cw, .int .i64 ck] (24 : Nat)) = W at E1 E2 E3 ⊢
  generalize hlb : w.heap.size = lb at E1 E3 ⊢
  have hmv := may_val cs cr cw ck
  generalize hmc : mayC cs cr cw ck = mc at hmv
  refine (carillonref19_May.calls cs cr cw ck mc _ hmv).mono ?_
  rintro e W1 ⟨rfl, hb1⟩
  have F1 : Aside0 (W1.heap[lb]? = some (.cells #[.int .i64 cs, .int .i64 cr, .int .i64 cw, .int .i64 ck] (24 : Nat) (0, 0))) := ⟨(hb1.block _ (Array.getElem?_eq_some_iff.1 E1.out).1).trans E1.out⟩
  have F2 := Aside0.mk (E2.out.trans (hb1.mono E2.out.size))
  have F3 : Aside0 (lb < W1.heap.size) := ⟨(Array.getElem?_eq_some_iff.1 F1.out).1⟩
  clear hb1 E1 E2 E3 hmv
  have HM := Aside0.mk hmc
  clear hmc
  cases mc with
  | false =>
    go_wp2
    go_ret3
    have e0 : sref l0 ⟨cs, cr, cw, ck⟩ = (0, 2) := by simp [sref, HM.out]
    unfold StPost
    rw [e0]
    exact ⟨⟨_, rfl, fun h => absurd h (by decide)⟩, F2.out⟩
  | true =>
    by_cases hlong : 4096 < l0.length
    · have d1 : decide (4096 < (l0.length : Int)) = true := decide_eq_true (by omega)
      have e0 : Aside0 (sref l0 ⟨cs, cr, cw, ck⟩ = (0, 4)) := ⟨by simp [sref, HM.out, hlong]⟩
      go_wp2
      go_ret3
      unfold StPost
      rw [e0.out]
      exact ⟨⟨_, rfl, fun h => absurd h (by decide)⟩, F2.out⟩
    have d1 : decide (4096 < (l0.length : Int)) = false := decide_eq_false (by omega)
    by_cases h0 : l0.length = 0
    · have d2 : decide (((l0.length : Nat) : Int) = 0) = true := decide_eq_true (by omega)
      have e0 : Aside0 (sref l0 ⟨cs, cr, cw, ck⟩ = (0, 195)) := ⟨by simp [sref, HM.out, h0]⟩
      go_wp2
      go_ret3
      unfold StPost
      rw [e0.out]
      exact ⟨⟨_, rfl, fun h => absurd h (by decide)⟩, F2.out⟩
    · have d2 : decide (((l0.length : Nat) : Int) = 0) = false := decide_eq_false (by omega)
      have hn0 : 0 < l0.length := by omega
      have hn1 : l0.length ≤ 4096 := by omega
      have hmk := make55 l0.length hn1 W1
      have G0 := rows_made l0.length W1
      have G1 := Aside0.mk (G0.first hn0)
      have G2 : Aside0 ((W1.alloc (.cells (madeCells (rca rst0) (l0.length * 578)) 81)).heap[lb]? = some (.cells #[.int .i64 cs, .int .i64 cr, .int .i64 cw, .int .i64 ck] (24 : Nat) (0, 0))) := ⟨by rw [heap_alloc_old _ _ F3.out]; exact F1.out⟩
      have G3 := Aside0.mk (F2.out.alloc F2.out.size (.cells (madeCells (rca rst0) (l0.length * 578)) 81))
      have hx0 := (G0.t 0 (by simp; omega)).2
      have hx1 := (G0.t 0 (by simp; omega)).1
      clear G0
      generalize W1.alloc (.cells (madeCells (rca rst0) (l0.length * 578)) 81) = W2 at *
      generalize W1.heap.size = ab at *
      obtain ⟨v0, hx1⟩ := Option.isSome_iff_exists.1 hx1
      simp only [Nat.add_zero] at hx0 hx1
      have D0 : Aside0 (RtM w l0 ⟨cs, cr, cw, ck⟩ lb ab (all0 l0.length) (W2.setCell ⟨ab, 0, none⟩ (.bool true))) := ⟨by
        refine ⟨?_, G1.out, by simp [all0], fun s hs => ?_, ⟨by omega, F3.out, ?_⟩, G3.out.setCell (p := ⟨ab, 0, none⟩) (by show w.heap.size ≤ ab; have := F3.out; omega) _⟩
        · simp only [World.setCell, Array.getElem?_modify]
          rw [if_neg (by have := F3.out; omega)]
          exact G2.out
        · rcases List.mem_or_eq_of_mem_set hs with h | h
          · rw [List.eq_of_mem_replicate h]; exact ⟨by decide, by decide⟩
          · subst h; exact ⟨by decide, by decide⟩
        · obtain ⟨z, hz⟩ := Option.isSome_iff_exists.1 (G1.out.t 0 (by simp [all0]; omega)).1
          have h2 : (W2.setCell ⟨ab, 0, none⟩ (.bool true)).heap[ab]? ≠ none := by
            intro h
            simp [World.cell?, h] at hz
          exact (Array.getElem?_eq_some_iff.1 (Option.ne_none_iff_exists'.1 h2).choose_spec).1⟩
      have hres : sgo l0 ⟨cs, cr, cw, ck⟩ l0.length 0 (all0 l0.length) 0 = sref l0 ⟨cs, cr, cw, ck⟩ := by simp [sref, HM.out, show ¬ 4096 < l0.length from hlong, h0]
      have HRES := Aside0.mk hres
      clear hres
      obtain ⟨hcw, hck⟩ : (0 ≤ cw ∧ cw ≤ 64) ∧ ck ≤ 256 := by
        have := HM.out
        simp [mayC] at this
        omega
      have HCW := Aside0.mk hcw
      have HCK := Aside0.mk hck
      have hz95 := zero81
      clear hlb
      go_wp2
      refine wp_loop_ghost_k (RI (fun (k : Nat) (high : Int) (v : Nat → Value) => [.slice A0 l0.length c0, v 1, v 2, .pointer (some ⟨lb, 0, none⟩), v 4, v 5, v 6, .slice (some ⟨ab, 0, none⟩) l0.length l0.length, .int .i64 high, .int .i64 (k : Int), v 10, v 11, v 12, v 13, v 14, v 15]) w l0 ⟨cs, cr, cw, ck⟩ lb ab (sref l0 ⟨cs, cr, cw, ck⟩) (srefL l0 ⟨cs, cr, cw, ck⟩)) l0.length ?start ?round
      case start => exact RI.intro 0 _ 0 _ rfl rfl rfl (by omega) HRES.out rfl D0.out
      case round =>
        clear D0 G1 G2 G3 F1 F2 hx0 hx1 hmk HRES hcw hck
        rintro n ⟨tm, df⟩ W ⟨k, all, high, v, us, hus, ht, hdf, HK, HG, HL, HS⟩ J K hJ hK
        have hus2 := us_of hus
        generalize (fun j => us.getD j undef) = u at hus2
        rw [range135] at hus2
        subst hus2
        simp only [List.cons_append, List.nil_append] at ht hdf
        subst ht hdf
        clear hus
        obtain ⟨res, hres⟩ : ∃ r, sref l0 ⟨cs, cr, cw, ck⟩ = r := ⟨_, rfl⟩
        have HRES := Aside0.mk hres
        rw [hres] at HG hJ
        clear hres
        by_cases hk : k < l0.length
        · obtain ⟨n, rfl⟩ : ∃ m, n = m + 1 := ⟨n - 1, by have := HK.out; omega⟩
          have hkc : W.cell? ⟨ab, k * 578, none⟩ = some (.bool (all.getD k rst0).kn) := HS.out.kn hk
          have dlk : decide ((k : Int) < (l0.length : Int)) = true := decide_eq_true (by omega)
          have hlk : (k : Int) < (l0.length : Int) := by omega
          have hsg := HG.out
          rw [sgo] at hsg
          have hsl := HL.out
          rw [sgoL] at hsl
          have HR0 := Aside0.mk (HS.out.okr hk)
          have HR1 := Aside0.mk (HS.out.hgt hk)
          have HR2 := Aside0.mk (HS.out.get hk)
          generalize all.getD k rst0 = s0 at hkc hsg hsl HR0 HR1 HR2
          obtain ⟨kn, hkn⟩ : ∃ b, s0.kn = b := ⟨_, rfl⟩
          rw [hkn] at hkc hsg
          have HKN := Aside0.mk hkn
          clear hkn
          cases kn with
          | false =>
            rw [if_pos rfl] at hsg
            subst hsg
            go_wp2
            go_ret3
            unfold StPost
            rw [HRES.out]
            exact ⟨⟨_, rfl, fun h => absurd h (by decide)⟩, HS.out.bel⟩
          | true =>
            rw [if_neg (by decide)] at hsg
            obtain ⟨ad, e, hc1, hc2⟩ := at_T53 (Kd.C_below HR.out HS.out.bel) (k : Int) (by omega) (by omega)
            subst e
            simp only [Int.toNat_natCast] at hc1 hc2
            obtain ⟨i, hi⟩ : ∃ i, rd_T53 l0 (k : Int) = i := ⟨_, rfl⟩
            rw [hi] at hc1 hc2 hsg hsl
            have HI := Aside0.mk hi
            have HSG := Aside0.mk hsg
            have HSL := Aside0.mk hsl
            have xc0 : W.cell? ⟨lb, 0, none⟩ = some (.int .i64 cs) := by simp [World.cell?, HS.out.cb]
            have xc1 : W.cell? ⟨lb, 1, none⟩ = some (.int .i64 cr) := by simp [World.cell?, HS.out.cb]
            have xc2 : W.cell? ⟨lb, 2, none⟩ = some (.int .i64 cw) := by simp [World.cell?, HS.out.cb]
            have xc3 : W.cell? ⟨lb, 3, none⟩ = some (.int .i64 ck) := by simp [World.cell?, HS.out.cb]
            clear hi hsg HG hsl HL
            go_wp2
            clear hc1 hc2 hkc xc0 xc1 xc2 xc3
            refine start_ (n := 16) (S := fun w' => RtM w l0 ⟨cs, cr, cw, ck⟩ lb ab all w') (ds := []) #[false, false, false, false, false, false, false, false, false, false, false, false, false, false, false, false] (by kernel_rfl) rfl rfl HS.out.drew (fun hHeld => ?_)
            generalize W.drew = W1 at hHeld ⊢
            clear HS
            refine pure_ (i := 0) (N := some 44) (v := ?_) (a' := ?_) #[true, false, false, false, false, false, false, false, false, false, false, false, false, false, false, false] rfl rfl (by kernel_rfl) (fun _ _ _ h => h) (Or.inl ⟨by rfl, ?_⟩) ?_ ?_
            rotate_left
            · intro w'
              go_simp
              with_reducible rfl
            rotate_left
            · simp only [Act.put, List.setIfInBounds_toArray, List.set_cons_zero, List.set_cons_succ, i64_w, i32_w]
              rfl
            refine pure_ (i := 1) (N := some 45) (v := ?_) (a' := ?_) #[true, true, false, false, false, false, false, false, false, false, false, false, false, false, false, false] rfl rfl (by kernel_rfl) (fun _ _ _ h => h) (Or.inl ⟨by rfl, ?_⟩) ?_ ?_
            rotate_left
            · intro w'
              go_simp
              with_reducible rfl
            rotate_left
            · simp only [Act.put, List.setIfInBounds_toArray, List.set_cons_zero, List.set_cons_succ, i64_w, i32_w]
              rfl
            refine pure_ (i := 2) (N := some 46) (v := ?_) (a' := ?_) #[true, true, true, false, false, false, false, false, false, false, false, false, false, false, false, false] rfl rfl (by kernel_rfl) (fun _ _ _ h => h) (Or.inl ⟨by rfl, ?_⟩) ?_ ?_
            rotate_left
            · intro w'
              go_simp
              with_reducible rfl
            rotate_left
            · simp only [Act.put, List.setIfInBounds_toArray, List.set_cons_zero, List.set_cons_succ, i64_w, i32_w]
              rfl
            refine take_ (i := 3) (N := some 47) (v := ?_) (a' := ?_) #[true, true, true, true, false, false, false, false, false, false, false, false, false, false, false, false] rfl rfl (by kernel_rfl) (fun _ _ _ h => h) (Or.inl ⟨by rfl, ?_⟩) hHeld ?_ ?_
            rotate_left
            · rintro w' s
              obtain ⟨ad2, e2, hc1, hc2⟩ := at_T53 (Kd.C_below HR.out s.bel) (k : Int) (by omega) (by omega)
              obtain rfl := Option.some.inj e2
              simp only [Int.toNat_natCast, HI.out] at hc1 hc2
              go_simp
              with_reducible rfl
            rotate_left
            · simp only [Act.put, List.setIfInBounds_toArray, List.set_cons_zero, List.set_cons_succ, i64_w, i32_w]
              rfl
            refine pure_ (i := 4) (N := some 48) (v := ?_) (a' := ?_) #[true, true, true, true, true, false, false, false, false, false, false, false, false, false, false, false] rfl rfl (by kernel_rfl) (fun _ _ _ h => h) (Or.inl ⟨by rfl, ?_⟩) ?_ ?_
            rotate_left
            · intro w'
              go_simp
              with_reducible rfl
            rotate_left
            · simp only [Act.put, List.setIfInBounds_toArray, List.set_cons_zero, List.set_cons_succ, i64_w, i32_w]
              rfl
            refine pure_ (i := 5) (N := some 49) (v := ?_) (a' := ?_) #[true, true, true, true, true, true, false, false, false, false, false, false, false, false, false, false] rfl rfl (by kernel_rfl) (fun _ _ _ h => h) (Or.inl ⟨by rfl, ?_⟩) ?_ ?_
            rotate_left
            · intro w'
              go_simp
              with_reducible rfl
            rotate_left
            · simp only [Act.put, List.setIfInBounds_toArray, List.set_cons_zero, List.set_cons_succ, i64_w, i32_w]
              rfl
            refine pure_ (i := 6) (N := some 50) (v := ?_) (a' := ?_) #[true, true, true, true, true, true, true, false, false, false, false, false, false, false, false, false] rfl rfl (by kernel_rfl) (fun _ _ _ h => h) (Or.inl ⟨by rfl, ?_⟩) ?_ ?_
            rotate_left
            · intro w'
              go_simp
              with_reducible rfl
            rotate_left
            · simp only [Act.put, List.setIfInBounds_toArray, List.set_cons_zero, List.set_cons_succ, i64_w, i32_w]
              rfl
            refine take_ (i := 7) (N := some 51) (v := ?_) (a' := ?_) #[true, true, true, true, true, true, true, true, false, false, false, false, false, false, false, false] rfl rfl (by kernel_rfl) (fun _ _ _ h => h) (Or.inl ⟨by rfl, ?_⟩) hHeld ?_ ?_
            rotate_left
            · rintro w' s
              refine aload_run (.tmp 50) ?_ ?_ s.rows HR2.out
              · rfl
              · rfl
            rotate_left
            · simp only [Act.put, List.setIfInBounds_toArray, List.set_cons_zero, List.set_cons_succ, i64_w, i32_w]
              rfl
            refine take_ (i := 8) (N := some 52) (v := ?_) (a' := ?_) #[true, true, true, true, true, true, true, true, true, false, false, false, false, false, false, false] rfl rfl (by kernel_rfl) (fun _ _ _ h => h) (Or.inl ⟨by rfl, ?_⟩) hHeld ?_ ?_
            rotate_left
            · rintro w' s
              have xc0 : w'.cell? ⟨lb, 0, none⟩ = some (.int .i64 cs) := by simp [World.cell?, s.cb]
              have xc1 : w'.cell? ⟨lb, 1, none⟩ = some (.int .i64 cr) := by simp [World.cell?, s.cb]
              have xc2 : w'.cell? ⟨lb, 2, none⟩ = some (.int .i64 cw) := by simp [World.cell?, s.cb]
              have xc3 : w'.cell? ⟨lb, 3, none⟩ = some (.int .i64 ck) := by simp [World.cell?, s.cb]
              go_simp
              with_reducible rfl
            rotate_left
            · simp only [Act.put, List.setIfInBounds_toArray, List.set_cons_zero, List.set_cons_succ, i64_w, i32_w]
              rfl
            have hst : ∀ w, _ := fun w => rstep_calls s0 HR0.out i ⟨cs, cr, cw, ck⟩ w ⟨HR1.out.1, by have := HR1.out.2; omega⟩ HCW.out
            have hok' := rstep_ok (i := i) (c := ⟨cs, cr, cw, ck⟩) HR0.out
            have hh' := rstep_h (i := i) (c := ⟨cs, cr, cw, ck⟩) HR1.out HCK.out
            have hmay := rstep_may (s := s0) (i := i) (c := ⟨cs, cr, cw, ck⟩)
            have hsg := HSG.out
            have hsl := HSL.out
            clear HSG HSL
            generalize rstep s0 i ⟨cs, cr, cw, ck⟩ = st at hst hok' hh' hmay hsg hsl
            obtain ⟨s', e'⟩ := st
            simp only at hst hok' hh' hmay hsg hsl
            have HST := Aside0.mk hst
            have HOK' := Aside0.mk hok'
            have HH' := Aside0.mk hh'
            have HMAY := Aside0.mk hmay
            have HSG := Aside0.mk hsg
            have HSL := Aside0.mk hsl
            clear hst hok' hh' hmay hsg hsl
            refine join_ (σ := Nat) 2 #[true, true, true, true, true, true, true, true, true, true, true, true, true, true, false, false] (fun sb => [(53, .tuple #[.agg (rca s'), .int .i64 e']), (43, .tuple #[.agg (rca s'), .int .i64 e']), (54, .agg (rca s')), (55, .int .i64 e'), (10, .pointer (some ⟨sb, 0, none⟩))]) (fun sb w' => RtM w l0 ⟨cs, cr, cw, ck⟩ lb ab all w' ∧ w'.heap[sb]? = some (.cells (rca rst0) (81 : Nat) (0, 0)) ∧ ab < sb) ?cont (fun hcont => ?_)
            case cont =>
              rintro sb W2 ⟨h1, h2, h3⟩
              have HS2 := Aside0.mk h1
              have HB2 := Aside0.mk h2
              clear h1 h2
              refine norm_ (a' := ?_) ?_ ?_
              rotate_left
              · simp only [putAll, Act.put, List.setIfInBounds_toArray, List.set_cons_zero, List.set_cons_succ]
                rfl
              refine one_ (i := 14) (N := none) #[true, true, true, true, true, true, true, true, true, true, true, true, true, true, true, false] rfl rfl (by kernel_rfl) (by decide) (fun K2 hK2 => ?_)
              refine skip_ (w1 := W2.setRow sb (rca s')) (by rfl) rfl ?_ ?_
              · refine rstore_run (.tmp 10) (.tmp 54) ?_ ?_ ?_ HB2.out okr0 HOK'.out
                · rfl
                · rfl
                · rfl
              have HS3 := Aside0.mk (HS2.out.row h3 (rca s'))
              have HB3 := Aside0.mk (setRow_heap W2 sb _ (rca s') _ _ HB2.out)
              clear HS2 HB2
              generalize W2.setRow sb (rca s') = W3 at HS3 HB3 ⊢
              refine hK2.out _ _ HS3.out (fun hHeld2 => ?_)
              clear hHeld2 hHeld hK2 K2
              refine pure_ (i := 15) (N := some 11) (v := ?_) (a' := ?_) #[true, true, true, true, true, true, true, true, true, true, true, true, true, true, true, true] rfl rfl (by kernel_rfl) (fun _ _ _ h => h) (Or.inl ⟨by rfl, ?_⟩) ?_ ?_
              rotate_left
              · intro w'
                go_simp
                with_reducible rfl
              rotate_left
              · simp only [Act.put, List.setIfInBounds_toArray, List.set_cons_zero, List.set_cons_succ, i64_w, i32_w]
                rfl
              refine done_ (by kernel_rfl) ?_
              by_cases he : e' = 0
              · subst he
                have hsg := HSG.out
                rw [if_neg (by decide)] at hsg
                have xh := rs_h HB3.out
                have HSG2 := Aside0.mk hsg
                clear hsg HSG HST
                have HMB := Aside0.mk (HMAY.out rfl)
                have HF0 : Aside0 (carillonref19_Follows.f l0 (k : Int) = some (folI l0 k)) := ⟨follows_folI hk hn1 (by rw [HI.out]; exact HMB.out)⟩
                have HFP : Aside0 (∀ x ∈ folI l0 k, (k : Int) + 1 ≤ x ∧ x ≤ k + 4096) := ⟨fun x hx => folI_pos (by rw [HI.out]; exact HMB.out) hx⟩
                have hlf : (folI l0 k).length ≤ 2 := folI_len l0 k
                generalize folI l0 k = f at HSG2 HSL HF0 HFP hlf
                generalize hrp : rput l0 k s' f 0 all = rp at HSG2 HSL
                have HRP := Aside0.mk hrp
                clear hrp
                go_wp2_with fail
                refine (carillonref19_Follows.calls (some ad) c0 l0 (k : Int) f _ (Kd.C_below HR.out HS3.out.bel) HC.out HF0.out).mono ?_
                rintro e W4 ⟨v0, rfl, hR, hb4⟩
                obtain ⟨Af, cf, rfl, hcf, hFL⟩ := FL_of (w := w) hR
                have M4 : Aside0 (MdM w l0 ⟨cs, cr, cw, ck⟩ lb ab all s' sb W3.heap.size W4.heap.size Af f W4) := ⟨⟨HS3.out.moved hb4, (hb4.block _ (Array.getElem?_eq_some_iff.1 HB3.out).1).trans HB3.out, hFL, ⟨h3, (Array.getElem?_eq_some_iff.1 HB3.out).1, hb4.size, Nat.le_refl _⟩⟩⟩
                clear hR hb4 hFL HS3 HB3 xh
                generalize W3.heap.size = lo at M4
                generalize W4.heap.size = hi at M4
                go_wp2
                refine wp_loop_ghost_k (RM (fun (m : Nat) (v : Nat → Value) => [.slice (some ad) l0.length c0, v 1, v 2, .pointer (some ⟨lb, 0, none⟩), v 4, v 5, v 6, .slice (some ⟨ab, 0, none⟩) l0.length l0.length, .int .i64 (max high s'.h), .int .i64 (k : Int), .pointer (some ⟨sb, 0, none⟩), v 11, .slice Af f.length cf, .int .i64 (m : Int), v 14, v 15]) w l0 ⟨cs, cr, cw, ck⟩ lb ab k s' sb lo hi Af f rp) f.length ?startm ?roundm
                case startm => exact RM.intro 0 all _ rfl rfl rfl (by omega) HRP.out M4.out
                case roundm =>
                  clear M4 HRP HF0 HR2 HKN
                  rintro n2 ⟨tm2, df2⟩ W5 ⟨m, all2, v2, us2, hus2, ht2, hdf2, HK2, HP2, HM2⟩ J2 K2 hJ2 hK2
                  have hus3 := us_of hus2
                  generalize (fun j => us2.getD j undef) = u2 at hus3
                  rw [range135] at hus3
                  subst hus3
                  simp only [List.cons_append, List.nil_append] at ht2 hdf2
                  subst ht2 hdf2
                  clear hus2
                  by_cases hm : m < f.length
                  · obtain ⟨n2, rfl⟩ : ∃ q, n2 = q + 1 := ⟨n2 - 1, by have := HK2.out; omega⟩
                    obtain ⟨x, hx⟩ : ∃ x, f[m]? = some x := ⟨_, List.getElem?_eq_getElem hm⟩
                    have hxb := HFP.out x (List.mem_of_getElem? hx)
                    obtain ⟨adf, rfl, _, _, hcx⟩ := HM2.out.fl m x hx
                    have hp2 := HP2.out
                    have hdr : f.drop m = x :: f.drop (m + 1) := by
                      rw [List.drop_eq_getElem_cons hm]
                      rw [List.getElem?_eq_getElem hm] at hx
                      rw [Option.some.inj hx]
                    rw [hdr, rput, HI.out] at hp2
                    have HP3 := Aside0.mk hp2
                    have dm : decide ((m : Int) < (f.length : Int)) = true := decide_eq_true (by omega)
                    have hmi : (m : Int) < (f.length : Int) := by omega
                    have HX := Aside0.mk hx
                    clear hp2 hdr HP2 hx
                    by_cases hlx : (l0.length : Int) ≤ x
                    · have dx : decide ((l0.length : Int) ≤ x) = true := decide_eq_true hlx
                      obtain ⟨ad2, e2, hc1, hc2⟩ := at_T53 (Kd.C_below HR.out HM2.out.rt.bel) (k : Int) (by omega) (by omega)
                      obtain rfl := Option.some.inj e2
                      simp only [Int.toNat_natCast, HI.out] at hc1 hc2
                      have hp3 := HP3.out
                      rw [if_pos hlx] at hp3
                      clear HP3 HX HI
                      obtain ⟨op, ar⟩ := i
                      simp only at hc1 hc2 hp3
                      have hk9 : (k : Int) < 4096 := by omega
                      have fin : ∀ (z : Int) (W : World), (z, all2) = rp → z ≠ 0 → res = (0, z) := by
                        intro z W e1 e2
                        have hsg := HSG2.out
                        subst e1
                        rw [if_pos e2] at hsg
                        exact hsg.symm
                      by_cases h1 : x = (k : Int) + 1
                      · subst h1
                        by_cases h2 : m = 0
                        · subst h2
                          have hcx0 : W5.cell? adf = some (.int .i64 ((k : Int) + 1)) := by simpa [Addr.add] using hcx
                          by_cases h3 : op = 21
                          · subst h3
                            rw [if_neg (by simp)] at hp3
                            have HF := Aside0.mk (fin _ W5 hp3 (by decide))
                            clear hp3 fin hlx
                            go_wp2
                            go_ret3
                            unfold StPost
                            rw [HRES.out, HF.out]
                            exact ⟨⟨_, rfl, fun h => absurd h (by decide)⟩, HM2.out.rt.bel⟩
                          · rw [if_pos ⟨rfl, rfl, h3⟩] at hp3
                            have HF := Aside0.mk (fin _ W5 hp3 (by decide))
                            have q3 : (op != 21) = true := by simp [h3]
                            clear hp3 fin hlx h3
                            go_wp2
                            go_ret3
                            unfold StPost
                            rw [HRES.out, HF.out]
                            exact ⟨⟨_, rfl, fun h => absurd h (by decide)⟩, HM2.out.rt.bel⟩
                        · rw [if_neg (by simp [h2])] at hp3
                          have HF := Aside0.mk (fin _ W5 hp3 (by decide))
                          have q2 : ((m : Int) == 0) = false := by simp; omega
                          clear hp3 fin hlx
                          go_wp2
                          go_ret3
                          unfold StPost
                          rw [HRES.out, HF.out]
                          exact ⟨⟨_, rfl, fun h => absurd h (by decide)⟩, HM2.out.rt.bel⟩
                      · rw [if_neg (by simp [h1])] at hp3
                        have HF := Aside0.mk (fin _ W5 hp3 (by decide))
                        have q1 : (x == (k : Int) + 1) = false := by simpa using h1
                        clear hp3 fin hlx h1
                        go_wp2
                        go_ret3
                        unfold StPost
                        rw [HRES.out, HF.out]
                        exact ⟨⟨_, rfl, fun h => absurd h (by decide)⟩, HM2.out.rt.bel⟩
                    · obtain ⟨xn, rfl⟩ : ∃ xn : Nat, x = xn := ⟨x.toNat, by omega⟩
                      have hxn : xn < l0.length := by omega
                      have dx : decide ((l0.length : Int) ≤ (xn : Int)) = false := decide_eq_false (by omega)
                      have hxl : (xn : Int) < (l0.length : Int) := by omega
                      have hp3 := HP3.out
                      rw [if_neg hlx, Int.toNat_natCast] at hp3
                      have HT0 := Aside0.mk (HM2.out.rt.okr hxn)
                      have HT1 := Aside0.mk (HM2.out.rt.hgt hxn)
                      have HT2 := Aside0.mk (HM2.out.rt.get hxn)
                      generalize all2.getD xn rst0 = t at hp3 HT0 HT1 HT2
                      have HP4 := Aside0.mk hp3
                      clear hp3 HP3
                      have B6 := Aside0.mk (heap_alloc_new W5 (.cells (rca rst0) (81 : Nat)))
                      have M6 := Aside0.mk (HM2.out.tb t)
                      have B7 := Aside0.mk (setRow_heap (W5.alloc (.cells (rca rst0) (81 : Nat))) W5.heap.size _ (rca t) _ _ B6.out)
                      have hsb5 : hi ≤ W5.heap.size := HM2.out.od.2.2.2
                      have y0 := rs_kn B7.out
                      obtain ⟨tkn, htk⟩ : ∃ b, t.kn = b := ⟨_, rfl⟩
                      rw [htk] at y0
                      have hp4 := HP4.out
                      rw [htk] at hp4
                      clear htk HP4
                      cases tkn with
                      | false =>
                        rw [if_pos rfl] at hp4
                        have HP4 := Aside0.mk hp4
                        clear hp4
                        go_wp2_with (first | ((with_reducible refine gate_dst (N := 104) rfl ?_); refine wpList_aload rfl (.tmp 103) rfl ab xn rfl HM2.out.rt.rows HT2.out ?_) | ((with_reducible refine gate_store (t := 81) (p := 14) rfl ?_); refine wpList_rstore rfl (.tmp 14) (.tmp 104) rfl W5.heap.size rfl rfl B6.out okr0 HT0.out ?_) | ((with_reducible refine gate_dst (N := 121) rfl ?_); refine wpList_wload rfl (.tmp 120) rfl W5.heap.size rfl B7.out HT0.out ?_) | ((with_reducible refine gate_dst (N := 123) rfl ?_); refine wpList_wload rfl (.tmp 122) rfl sb rfl M6.out.sk HOK'.out ?_) | ((with_reducible refine gate_dst (N := 124) rfl ?_); refine wpList_neq79b Q3.out rfl (.tmp 121) (.tmp 123) rfl rfl rfl HT0.out.l2 HOK'.out.l2 ?_))
                        clear y0
                        generalize (W5.alloc (.cells (rca rst0) (81 : Nat))).setRow W5.heap.size (rca t) = W6 at M6 B7 ⊢
                        obtain ⟨adf2, e2, _, _, hcx6⟩ := M6.out.fl m _ HX.out
                        obtain rfl := Option.some.inj e2
                        have M7 := Aside0.mk M6.out.drew
                        refine wp_region_still_tail 7 (by kernel_rfl) (by kernel_rfl) ?_
                        simp only [List.take_succ_cons, List.take_zero, List.drop_succ_cons, List.drop_zero]
                        repeat (first | (refine wpStill_rload rfl (.tmp 10) rfl sb rfl M7.out.sk HOK'.out ?_) | still_step)
                        try refine wpStill_nil ?_
                        change wpList _ _ _ _ _ W6.drew
                        generalize W6.drew = W7 at M7 ⊢
                        go_wp2_with (first | ((with_reducible refine gate_store (t := 81) (p := 114) rfl ?_); refine wpList_astore rfl (.tmp 114) (.tmp 113) rfl ab xn rfl rfl M7.out.rt.rows (by rw [M7.out.rt.len]; exact hxn) HOK'.out ?_))
                        exact Handed.intro n2 (by omega) (hJ2 _ _ _ (RM.intro (m + 1) (all2.set xn s') _ rfl rfl rfl (by have := HK2.out; omega) HP4.out (M7.out.put hxn HOK'.out HH'.out)))
                      | true =>
                        rw [if_neg (by decide)] at hp4
                        have y1 := rs_h B7.out
                        have y2 := rs_h M6.out.sk
                        by_cases hth : t.h = s'.h
                        · rw [if_neg (by simpa using hth)] at hp4
                          by_cases htw : t.wr = s'.wr
                          · rw [if_neg (by simpa using htw)] at hp4
                            have HP4 := Aside0.mk hp4
                            have Q3 : Aside0 ((!(t.wr == s'.wr)) = false) := ⟨by simp [htw]⟩
                            have HTH := Aside0.mk hth
                            have q4 : (t.h != s'.h) = false := by simp [hth]
                            clear hp4 htw hth
                            go_wp2_with (first | ((with_reducible refine gate_dst (N := 104) rfl ?_); refine wpList_aload rfl (.tmp 103) rfl ab xn rfl HM2.out.rt.rows HT2.out ?_) | ((with_reducible refine gate_store (t := 81) (p := 14) rfl ?_); refine wpList_rstore rfl (.tmp 14) (.tmp 104) rfl W5.heap.size rfl rfl B6.out okr0 HT0.out ?_) | ((with_reducible refine gate_dst (N := 121) rfl ?_); refine wpList_wload rfl (.tmp 120) rfl W5.heap.size rfl B7.out HT0.out ?_) | ((with_reducible refine gate_dst (N := 123) rfl ?_); refine wpList_wload rfl (.tmp 122) rfl sb rfl M6.out.sk HOK'.out ?_) | ((with_reducible refine gate_dst (N := 124) rfl ?_); refine wpList_neq79b Q3.out rfl (.tmp 121) (.tmp 123) rfl rfl rfl HT0.out.l2 HOK'.out.l2 ?_))
                            clear y0 y1 y2
                            generalize (W5.alloc (.cells (rca rst0) (81 : Nat))).setRow W5.heap.size (rca t) = W6 at M6 B7 ⊢
                            generalize W5.heap.size = tb at hsb5 B7 ⊢
                            refine wp_loop_ghost_k (RX (fun (i : Nat) (v : Nat → Value) => [.slice (some ad) l0.length c0, v 1, v 2, .pointer (some ⟨lb, 0, none⟩), v 4, v 5, v 6, .slice (some ⟨ab, 0, none⟩) l0.length l0.length, .int .i64 (max high s'.h), .int .i64 (k : Int), .pointer (some ⟨sb, 0, none⟩), v 11, .slice (some adf) f.length cf, .int .i64 (m : Int), .pointer (some ⟨tb, 0, none⟩), .int .i64 (i : Int)]) w l0 ⟨cs, cr, cw, ck⟩ lb ab all2 s' t sb lo hi tb (some adf) f) 512 ?startx ?roundx
                            case startx => exact RX.intro 0 _ rfl rfl rfl (by omega) M6.out (by rw [mixR_zero]; exact B7.out)
                            case roundx =>
                              clear M6 B7 B6 HM2
                              rintro n3 ⟨tm3, df3⟩ W7 ⟨i3, v3, us3, hus3, ht3, hdf3, HK3, HM3, HB3⟩ J3 K3 hJ3 hK3
                              have hus4 := us_of hus3
                              generalize (fun j => us3.getD j undef) = u3 at hus4
                              rw [range135] at hus4
                              subst hus4
                              simp only [List.cons_append, List.nil_append] at ht3 hdf3
                              subst ht3 hdf3
                              clear hus3
                              by_cases hi3 : i3 < 512
                              · obtain ⟨n3, rfl⟩ : ∃ q, n3 = q + 1 := ⟨n3 - 1, by have := HK3.out; omega⟩
                                have hmx := mixR_ok (i := i3) HT0.out HOK'.out (by omega)
                                have hle : t.has.length = s'.has.length := by rw [HT0.out.l1, HOK'.out.l1]
                                have hit : i3 < t.has.length := by rw [HT0.out.l1]; exact hi3
                                have z1 := rs_has HB3.out hmx hi3
                                have z2 := rs_has HM3.out.sk HOK'.out hi3
                                have zf := rs_frozen (2 + i3) HB3.out
                                have hg1 : (mixR t s' i3).has.getD i3 false = t.has.getD i3 false := mixB_getD hle hit
                                rw [hg1] at z1
                                have hput := rs_put HB3.out (rca_has _ hmx hi3 (t.has.getD i3 false && s'.has.getD i3 false))
                                have hnx : ({ mixR t s' i3 with has := (mixR t s' i3).has.set i3 (t.has.getD i3 false && s'.has.getD i3 false) } : Rst) = mixR t s' (i3 + 1) := by
                                  simp only [mixR]
                                  rw [mixB_succ hle hit]
                                rw [hnx] at hput
                                have hmv := HM3.out.set hsb5 (2 + i3) (.bool (t.has.getD i3 false && s'.has.getD i3 false))
                                obtain ⟨p, hp⟩ : ∃ p, t.has.getD i3 false = p := ⟨_, rfl⟩
                                obtain ⟨q, hq⟩ : ∃ q, s'.has.getD i3 false = q := ⟨_, rfl⟩
                                rw [hp, hq] at hput hmv
                                rw [hp] at z1
                                rw [hq] at z2
                                have HPUT := Aside0.mk hput
                                have HMV := Aside0.mk hmv
                                have di : decide ((i3 : Int) < 512) = true := decide_eq_true (by omega)
                                have hi4 : (i3 : Int) < 512 := by omega
                                clear hmx hle hit hg1 hput hnx hmv hp hq
                                cases p with
                                | false =>
                                  go_wp2
                                  exact Handed.intro n3 (by omega) (hJ3 _ _ _ (RX.intro (i3 + 1) _ rfl rfl rfl (by have := HK3.out; omega) HMV.out HPUT.out))
                                | true =>
                                  go_wp2
                                  exact Handed.intro n3 (by omega) (hJ3 _ _ _ (RX.intro (i3 + 1) _ rfl rfl rfl (by have := HK3.out; omega) HMV.out HPUT.out))
                              · have hi5 : i3 = 512 := by have := HK3.out; omega
                                subst hi5
                                have hB4 := HB3.out
                                rw [mixR_all HT0.out HOK'.out] at hB4
                                obtain ⟨adf2, e2, _, _, hcx6⟩ := HM3.out.fl m _ HX.out
                                obtain rfl := Option.some.inj e2
                                have HME := Aside0.mk (meetR_ok HT0.out HOK'.out)
                                have HB4 := Aside0.mk hB4
                                have M7 := Aside0.mk HM3.out.drew
                                clear hB4 HB3
                                go_wp2_with fail
                                refine wp_region_still_tail 7 (by kernel_rfl) (by kernel_rfl) ?_
                                simp only [List.take_succ_cons, List.take_zero, List.drop_succ_cons, List.drop_zero]
                                repeat (first | (refine wpStill_rload rfl (.tmp 14) rfl tb rfl HB4.out HME.out ?_) | still_step)
                                try refine wpStill_nil ?_
                                change wpList _ _ _ _ _ W7.drew
                                generalize W7.drew = W8 at M7 ⊢
                                go_wp2_with (first | ((with_reducible refine gate_store (t := 81) (p := 148) rfl ?_); refine wpList_astore rfl (.tmp 148) (.tmp 147) rfl ab xn rfl rfl M7.out.rt.rows (by rw [M7.out.rt.len]; exact hxn) HME.out ?_))
                                exact Handed.intro n2 (by omega) (hJ2 _ _ _ (RM.intro (m + 1) (all2.set xn (meetR t s')) _ rfl rfl rfl (by have := HK2.out; omega) HP4.out (M7.out.put hxn HME.out HT1.out)))
                          · rw [if_pos htw] at hp4
                            subst hp4
                            have Q3 : Aside0 ((!(t.wr == s'.wr)) = true) := ⟨by simpa using htw⟩
                            have q4 : (t.h != s'.h) = false := by simp [hth]
                            clear htw hth
                            go_wp2_with (first | ((with_reducible refine gate_dst (N := 104) rfl ?_); refine wpList_aload rfl (.tmp 103) rfl ab xn rfl HM2.out.rt.rows HT2.out ?_) | ((with_reducible refine gate_store (t := 81) (p := 14) rfl ?_); refine wpList_rstore rfl (.tmp 14) (.tmp 104) rfl W5.heap.size rfl rfl B6.out okr0 HT0.out ?_) | ((with_reducible refine gate_dst (N := 121) rfl ?_); refine wpList_wload rfl (.tmp 120) rfl W5.heap.size rfl B7.out HT0.out ?_) | ((with_reducible refine gate_dst (N := 123) rfl ?_); refine wpList_wload rfl (.tmp 122) rfl sb rfl M6.out.sk HOK'.out ?_) | ((with_reducible refine gate_dst (N := 124) rfl ?_); refine wpList_neq79b Q3.out rfl (.tmp 121) (.tmp 123) rfl rfl rfl HT0.out.l2 HOK'.out.l2 ?_))
                            have hsg := HSG2.out
                            rw [if_pos (by decide)] at hsg
                            subst hsg
                            go_ret3
                            unfold StPost
                            rw [HRES.out]
                            exact ⟨⟨_, rfl, fun h => absurd h (by decide)⟩, M6.out.rt.bel⟩
                        · rw [if_pos hth] at hp4
                          subst hp4
                          have q4 : (t.h != s'.h) = true := by simp [hth]
                          clear hth
                          go_wp2_with (first | ((with_reducible refine gate_dst (N := 104) rfl ?_); refine wpList_aload rfl (.tmp 103) rfl ab xn rfl HM2.out.rt.rows HT2.out ?_) | ((with_reducible refine gate_store (t := 81) (p := 14) rfl ?_); refine wpList_rstore rfl (.tmp 14) (.tmp 104) rfl W5.heap.size rfl rfl B6.out okr0 HT0.out ?_) | ((with_reducible refine gate_dst (N := 121) rfl ?_); refine wpList_wload rfl (.tmp 120) rfl W5.heap.size rfl B7.out HT0.out ?_) | ((with_reducible refine gate_dst (N := 123) rfl ?_); refine wpList_wload rfl (.tmp 122) rfl sb rfl M6.out.sk HOK'.out ?_) | ((with_reducible refine gate_dst (N := 124) rfl ?_); refine wpList_neq79b Q3.out rfl (.tmp 121) (.tmp 123) rfl rfl rfl HT0.out.l2 HOK'.out.l2 ?_))
                          have hsg := HSG2.out
                          rw [if_pos (by decide)] at hsg
                          subst hsg
                          go_ret3
                          unfold StPost
                          rw [HRES.out]
                          exact ⟨⟨_, rfl, fun h => absurd h (by decide)⟩, M6.out.rt.bel⟩
                  · have hm2 : m = f.length := by have := HK2.out; omega
                    have dm : decide ((m : Int) < (f.length : Int)) = false := decide_eq_false (by omega)
                    have hp2 := HP2.out
                    rw [List.drop_eq_nil_of_le (by omega), rput] at hp2
                    subst hp2
                    have hsg := HSG2.out
                    rw [if_neg (by simp)] at hsg
                    have HSG3 := Aside0.mk hsg
                    have hk9 : (k : Int) < 4096 := by omega
                    clear hsg hm2
                    go_wp2
                    exact Handed.intro n (by omega) (hJ _ _ _ (RI.intro (k + 1) all2 (max high s'.h) _ rfl rfl rfl (by have := HK.out; omega) HSG3.out HSL.out HM2.out.rt))
              · have q5 : (e' != 0) = true := by simp [he]
                have hsg := HSG.out
                rw [if_pos he] at hsg
                subst hsg
                clear he
                go_wp2
                go_ret3
                unfold StPost
                rw [HRES.out]
                exact ⟨⟨_, rfl, fun h => absurd h (by simpa using q5)⟩, HS3.out.bel⟩
            refine two_ (i := 9) (j := 13) (Ni := some 53) (Nj := some 10) #[true, true, true, true, true, true, true, true, true, true, false, false, false, false, false, false] #[true, true, true, true, true, true, true, true, true, false, false, false, false, true, false, false] rfl rfl rfl rfl (by kernel_rfl) (by decide) (by decide) (fun K2 hK2 => ?_) (fun K2 hK2 => ?_)
            · refine goes_ Try.func41 (by kernel_rfl) rfl #[.agg #[.int .u8 i.f0, .int .i64 i.f1], .agg (rca s0), cfVal ⟨cs, cr, cw, ck⟩] (by rfl) rfl rfl (by simp only [List.map_toArray, List.map_cons, List.map_nil]; rfl) ?_
              refine (HST.out _).mono ?_
              rintro e W2 ⟨rfl, hb2⟩
              refine ⟨_, rfl, ?_⟩
              have HS2 := Aside0.mk (hHeld.moved hb2)
              refine hK2.out _ _ HS2.out (fun hHeld2 => ?_)
              refine norm_ (a' := ?_) ?_ ?_
              rotate_left
              · show Act.put _ (some 53) _ = _
                simp only [Act.put, List.setIfInBounds_toArray, List.set_cons_zero, List.set_cons_succ, i64_w, i32_w]
                rfl
              refine pure_ (i := 10) (N := some 43) (v := ?_) (a' := ?_) #[true, true, true, true, true, true, true, true, true, true, true, false, false, false, false, false] rfl rfl (by kernel_rfl) (fun _ _ _ h => h) (Or.inl ⟨by rfl, ?_⟩) ?_ ?_
              rotate_left
              · intro w'
                go_simp
                with_reducible rfl
              rotate_left
              · simp only [Act.put, List.setIfInBounds_toArray, List.set_cons_zero, List.set_cons_succ, i64_w, i32_w]
                rfl
              refine pure_ (i := 11) (N := some 54) (v := ?_) (a' := ?_) #[true, true, true, true, true, true, true, true, true, true, true, true, false, false, false, false] rfl rfl (by kernel_rfl) (fun _ _ _ h => h) (Or.inl ⟨by rfl, ?_⟩) ?_ ?_
              rotate_left
              · intro w'
                go_simp
                with_reducible rfl
              rotate_left
              · simp only [Act.put, List.setIfInBounds_toArray, List.set_cons_zero, List.set_cons_succ, i64_w, i32_w]
                rfl
              refine pure_ (i := 12) (N := some 55) (v := ?_) (a' := ?_) #[true, true, true, true, true, true, true, true, true, true, true, true, true, false, false, false] rfl rfl (by kernel_rfl) (fun _ _ _ h => h) (Or.inl ⟨by rfl, ?_⟩) ?_ ?_
              rotate_left
              · intro w'
                go_simp
                with_reducible rfl
              rotate_left
              · simp only [Act.put, List.setIfInBounds_toArray, List.set_cons_zero, List.set_cons_succ, i64_w, i32_w]
                rfl
              refine one_ (i := 13) (N := some 10) #[true, true, true, true, true, true, true, true, true, true, true, true, true, true, false, false] rfl rfl (by kernel_rfl) (by decide) (fun K3 hK3 => ?_)
              refine value_ (v := .pointer (some ⟨W2.heap.size, 0, none⟩)) (w1 := W2.alloc (.cells (rca rst0) (81 : Nat))) (by rfl) rfl ?_ ?_
              · go_simp
              refine hK3.out _ _ (HS2.out.moved ((Below.refl _ _).alloc (Nat.le_refl _) _)) (fun hHeld3 => ?_)
              exact hcont W2.heap.size _ ⟨hHeld3, heap_alloc_new _ _, HS2.out.lo.2.2⟩
            · refine value_ (v := .pointer (some ⟨W1.heap.size, 0, none⟩)) (w1 := W1.alloc (.cells (rca rst0) (81 : Nat))) (by rfl) rfl ?_ ?_
              · go_simp
              have HS2 := Aside0.mk (hHeld.moved ((Below.refl _ _).alloc (Nat.le_refl _) (.cells (rca rst0) (81 : Nat))))
              have HA2 := Aside0.mk (heap_alloc_new W1 (.cells (rca rst0) (81 : Nat)))
              have hab1 := hHeld.lo.2.2
              refine hK2.out _ _ HS2.out (fun hHeld2 => ?_)
              generalize W1.alloc (.cells (rca rst0) (81 : Nat)) = W2 at HS2 HA2 ⊢
              generalize W1.heap.size = sb at HA2 hab1 ⊢
              refine norm_ (a' := ?_) ?_ ?_
              rotate_left
              · show Act.put _ (some 10) _ = _
                simp only [Act.put, List.setIfInBounds_toArray, List.set_cons_zero, List.set_cons_succ, i64_w, i32_w]
                rfl
              refine one_ (i := 9) (N := some 53) #[true, true, true, true, true, true, true, true, true, true, false, false, false, true, false, false] rfl rfl (by kernel_rfl) (by decide) (fun K3 hK3 => ?_)
              refine goes_ Try.func41 (by kernel_rfl) rfl #[.agg #[.int .u8 i.f0, .int .i64 i.f1], .agg (rca s0), cfVal ⟨cs, cr, cw, ck⟩] (by rfl) rfl rfl (by simp only [List.map_toArray, List.map_cons, List.map_nil]; rfl) ?_
              refine (HST.out _).mono ?_
              rintro e W4 ⟨rfl, hb4⟩
              refine ⟨_, rfl, ?_⟩
              have HS4 := Aside0.mk (HS2.out.moved hb4)
              have HA4 := Aside0.mk ((hb4.block _ (Array.getElem?_eq_some_iff.1 HA2.out).1).trans HA2.out)
              refine hK3.out _ _ HS4.out (fun hHeld4 => ?_)
              refine norm_ (a' := ?_) ?_ ?_
              rotate_left
              · show Act.put _ (some 53) _ = _
                simp only [Act.put, List.setIfInBounds_toArray, List.set_cons_zero, List.set_cons_succ, i64_w, i32_w]
                rfl
              refine pure_ (i := 10) (N := some 43) (v := ?_) (a' := ?_) #[true, true, true, true, true, true, true, true, true, true, true, false, false, true, false, false] rfl rfl (by kernel_rfl) (fun _ _ _ h => h) (Or.inl ⟨by rfl, ?_⟩) ?_ ?_
              rotate_left
              · intro w'
                go_simp
                with_reducible rfl
              rotate_left
              · simp only [Act.put, List.setIfInBounds_toArray, List.set_cons_zero, List.set_cons_succ, i64_w, i32_w]
                rfl
              refine pure_ (i := 11) (N := some 54) (v := ?_) (a' := ?_) #[true, true, true, true, true, true, true, true, true, true, true, true, false, true, false, false] rfl rfl (by kernel_rfl) (fun _ _ _ h => h) (Or.inl ⟨by rfl, ?_⟩) ?_ ?_
              rotate_left
              · intro w'
                go_simp
                with_reducible rfl
              rotate_left
              · simp only [Act.put, List.setIfInBounds_toArray, List.set_cons_zero, List.set_cons_succ, i64_w, i32_w]
                rfl
              refine pure_ (i := 12) (N := some 55) (v := ?_) (a' := ?_) #[true, true, true, true, true, true, true, true, true, true, true, true, true, true, false, false] rfl rfl (by kernel_rfl) (fun _ _ _ h => h) (Or.inl ⟨by rfl, ?_⟩) ?_ ?_
              rotate_left
              · intro w'
                go_simp
                with_reducible rfl
              rotate_left
              · simp only [Act.put, List.setIfInBounds_toArray, List.set_cons_zero, List.set_cons_succ, i64_w, i32_w]
                rfl
              exact hcont sb _ ⟨hHeld4, HA4.out, hab1⟩
        · have hk2 : k = l0.length := by have := HK.out; omega
          have hn2 : n = 0 := by have := HK.out; omega
          subst hk2 hn2
          have dlk : decide (((l0.length : Nat) : Int) < (l0.length : Int)) = false := decide_eq_false (by omega)
          have hsg := HG.out
          rw [sgo] at hsg
          subst hsg
          go_wp2
          go_ret3
          unfold StPost
          rw [HRES.out]
          exact ⟨⟨_, rfl, fun _ => ⟨ab, rfl, by rw [← HL.out, sgoL]; exact HS.out.rows, by rw [← HL.out, sgoL]; exact HS.out.len⟩⟩, HS.out.bel⟩
end Go.Proofs.Ytlmpoojpbdmmfaa.H
end
