/- Part 15 of the proof of the law L. The conditions: none. (Its parts: Rst19.) -/
import Derived.Deep.MidRow
import Derived.Deep.WholeRow
import Derived.KernelRfl
import Derived.Laws.StructEq
import Derived.Test.YtlmpoojpbdmmfaaKL03
section
set_option linter.unusedVariables false
set_option linter.unusedSimpArgs false
namespace Go.Proofs.Ytlmpoojpbdmmfaa.H
open Go.RowKit Go.Proofs.YtlmpoojpbdmmfaaW.PrintWords Go.Proofs.YtlmpoojpbdmmfaaW.PrintLast Go.Proofs.YtlmpoojpbdmmfaaW.PrintMore
structure Rst where
  kn : Bool
  h : Int
  has : List Bool
  wr : List Bool
def rcl (s : Rst) : List Value := .bool s.kn :: .int .i64 s.h :: (s.has.map Value.bool ++ s.wr.map Value.bool)
def rca (s : Rst) : Array Value := (rcl s).toArray
structure OKR (s : Rst) : Prop where
  l1 : s.has.length = 512
  l2 : s.wr.length = 64
theorem rcl_length {s : Rst} (h : OKR s) : (rcl s).length = 578 := by simp [rcl, h.l1, h.l2]
theorem rca_size {s : Rst} (h : OKR s) : (rca s).size = 578 := by simp [rca, rcl_length h]
def rst0 : Rst := ⟨false, 0, List.replicate 512 false, List.replicate 64 false⟩
theorem okr0 : OKR rst0 := ⟨List.length_replicate, List.length_replicate⟩
def rstep2 (s : Rst) (i : S53) (c : Cf) : Rst × Int :=
  if i.f0 = 2 ∨ i.f0 = 3 then
    (if c.slots ≤ i.f1 then (s, 192) else if i.f0 = 2 ∧ s.has.getD i.f1.toNat false = false then (s, 192) else ({ s with has := s.has.set i.f1.toNat true }, 0))
  else if i.f0 = 4 then (s, if c.reads ≤ i.f1 then 193 else 0)
  else if i.f0 = 5 then (if c.writes ≤ i.f1 then (s, 193) else if s.wr.getD i.f1.toNat false = true then (s, 193) else ({ s with wr := s.wr.set i.f1.toNat true }, 0))
  else if i.f0 = 23 then (s, if 0 < s.h then 191 else if (s.wr.take c.writes.toNat).all id = true then 0 else 193)
  else (s, 0)
def rstep (s : Rst) (i : S53) (c : Cf) : Rst × Int :=
  if mayB i.f0 i.f1 = false then (s, 180)
  else if s.h < tks i.f0 ∨ c.stack < s.h - tks i.f0 + gvs i.f0 then (s, 191)
  else rstep2 { s with h := s.h - tks i.f0 + gvs i.f0 } i c
theorem under81 : ∃ fs, Try.prog.underlying 81 = some (.struct fs) := by
  have h : (Try.prog.underlying 81).map (fun d => match d with | .struct _ => true | _ => false) = some true := by kernel_rfl
  cases hd : Try.prog.underlying 81 with
  | none => rw [hd] at h; cases h
  | some d =>
    rw [hd] at h
    cases d <;> simp at h
    exact ⟨_, rfl⟩
theorem info81 : (Try.prog.info? 81).map (·.size) = some 578 := by kernel_rfl
theorem zero81 (w : World) : (zeroValue 81).run Try.prog w = .ok (.agg (rca rst0)) w := (zero_of_info (P := Try.prog) (t := 81) (v := .agg (rca rst0)) (n := 578) (by kernel_rfl)).1 w
section
variable {w : World} {b : Nat} {s : Rst} {t : TypeId}
theorem rs_load (h : w.heap[b]? = some (.cells (rca s) t (0, 0))) (hs : OKR s) : (Instr.loadAt 81 (.pointer (some ⟨b, 0, none⟩))).run Try.prog w = .ok (.agg (rca s)) w := by
  obtain ⟨d, h1⟩ := under81
  have := run_loadAt_mid (P := Try.prog) w b 0 81 (rcl s) (.struct d) (fun j v hv => by simp [World.cell?, h, rca]; exact hv) h1 rfl (by rw [info81, rcl_length hs])
  exact this
theorem rs_store {s' : Rst} (h : w.heap[b]? = some (.cells (rca s) t (0, 0))) (hs : OKR s) (hs' : OKR s') : (Instr.storeAt 81 (.pointer (some ⟨b, 0, none⟩)) (.agg (rca s'))).run Try.prog w = .ok () (w.setRow b (rca s')) := by
  have := run_storeVar_row (P := Try.prog) w b t 81 (rca s) (rca s') h (by rw [info81, rca_size hs']) (by rw [rca_size hs, rca_size hs']) (by
    rw [Array.all_eq_true_iff_forall_mem]
    intro x hx
    have hx2 : x ∈ rcl s' := by simpa [rca] using hx
    simp only [rcl, List.mem_cons, List.mem_append, List.mem_map] at hx2
    rcases hx2 with rfl | rfl | ⟨y, _, rfl⟩ | ⟨y, _, rfl⟩ <;> rfl)
  simp only [Instr.storeAt, Instr.sureAddr, Sem.run_bind, Sem.run_pure, Result.andThen]
  exact this
theorem rs_kn (h : w.heap[b]? = some (.cells (rca s) t (0, 0))) : w.cell? ⟨b, 0, none⟩ = some (.bool s.kn) := by simp [World.cell?, h, rca, rcl]
theorem rs_h (h : w.heap[b]? = some (.cells (rca s) t (0, 0))) : w.cell? ⟨b, 1, none⟩ = some (.int .i64 s.h) := by simp [World.cell?, h, rca, rcl]
theorem rs_has (h : w.heap[b]? = some (.cells (rca s) t (0, 0))) (hs : OKR s) {k : Nat} (hk : k < 512) : w.cell? ⟨b, 2 + k, none⟩ = some (.bool (s.has.getD k false)) := by
  have hl : k < s.has.length := by rw [hs.l1]; exact hk
  rw [Nat.add_comm]
  simp [World.cell?, h, rca, rcl, List.getElem?_append, hl, List.getD_eq_getElem?_getD]
theorem rs_wr (h : w.heap[b]? = some (.cells (rca s) t (0, 0))) (hs : OKR s) {k : Nat} (hk : k < 64) : w.cell? ⟨b, 514 + k, none⟩ = some (.bool (s.wr.getD k false)) := by
  have hl : k < s.wr.length := by rw [hs.l2]; exact hk
  have e : 514 + k = (512 + k) + 1 + 1 := by omega
  rw [e]
  simp [World.cell?, h, rca, rcl, List.getElem?_append, hs.l1, hl, List.getD_eq_getElem?_getD]
theorem rs_frozen (j : Nat) (h : w.heap[b]? = some (.cells (rca s) t (0, 0))) : w.frozen? ⟨b, j, none⟩ = false := by simp [World.frozen?, h]
theorem rs_put {s' : Rst} {j : Nat} {v : Value} (h : w.heap[b]? = some (.cells (rca s) t (0, 0))) (he : (rca s).setIfInBounds j v = rca s') : (w.setCell ⟨b, j, none⟩ v).heap[b]? = some (.cells (rca s') t (0, 0)) := by
  simp [World.setCell, Array.getElem?_modify, h, he]
end
theorem wpList_rload {ops : Array Oper} {rest : List Oper} {op : Oper} {a : Act} {w : World} {Q : Exit → Act → World → Prop} (hgd : op.guard = none) (x : Operand) (ho : op.op = .load 81 x) (b : Nat) (hx : a.eval x = .pointer (some ⟨b, 0, none⟩)) {s : Rst} {t : TypeId}
    (hb : w.heap[b]? = some (.cells (rca s) t (0, 0))) (hs : OKR s) (h : wpList Try.prog ops Q rest (a.put op.dst (.agg (rca s))) w) : wpList Try.prog ops Q (op :: rest) a w := by
  refine wpList_plain hgd fun _ hK => ?_
  unfold Oper.wp execOp
  simp only [ho, hx, Sem.run_bind, Result.andThen_ok, rs_load hb hs]
  exact hK _ _ h
theorem wpList_rstore {ops : Array Oper} {rest : List Oper} {op : Oper} {a : Act} {w : World} {Q : Exit → Act → World → Prop} (hgd : op.guard = none) (x y : Operand) (ho : op.op = .store 81 x y) (b : Nat) (hx : a.eval x = .pointer (some ⟨b, 0, none⟩)) {s s' : Rst} {t : TypeId}
    (hy : a.eval y = .agg (rca s')) (hb : w.heap[b]? = some (.cells (rca s) t (0, 0))) (hs : OKR s) (hs' : OKR s') (h : wpList Try.prog ops Q rest (a.put op.dst undef) (w.setRow b (rca s'))) : wpList Try.prog ops Q (op :: rest) a w := by
  refine wpList_plain hgd fun _ hK => ?_
  unfold Oper.wp execOp
  simp only [ho, hx, hy, Sem.run_bind, Result.andThen_ok, rs_store hb hs hs']
  exact hK _ _ h
theorem setRow_below {B g : Nat} {w0 w : World} (hb : Below B w0 w) (hBg : B ≤ g) (cs : Array Value) : Below B w0 (w.setRow g cs) :=
  ⟨hb.os, hb.tape, hb.output, by simpa using hb.size, fun k hk => (setRow_other w g k cs (by omega)).trans (hb.block k hk)⟩
theorem rca_h (s : Rst) (x : Int) : (rca s).setIfInBounds 1 (.int .i64 x) = rca { s with h := x } := by simp [rca, rcl]
theorem rca_has (s : Rst) (hs : OKR s) {k : Nat} (hk : k < 512) (x : Bool) : (rca s).setIfInBounds (2 + k) (.bool x) = rca { s with has := s.has.set k x } := by
  have hl : k < s.has.length := by rw [hs.l1]; exact hk
  rw [Nat.add_comm]
  simp [rca, rcl, List.set_append, hl, List.map_set]
theorem rca_wr (s : Rst) (hs : OKR s) {k : Nat} (hk : k < 64) (x : Bool) : (rca s).setIfInBounds (514 + k) (.bool x) = rca { s with wr := s.wr.set k x } := by
  have e : 514 + k = (512 + k) + 1 + 1 := by omega
  rw [e]
  simp [rca, rcl, List.set_append, hs.l1, List.map_set]
theorem rstep_ok {s : Rst} {i : S53} {c : Cf} (hs : OKR s) : OKR (rstep s i c).1 := by
  unfold rstep
  split
  · exact hs
  split
  · exact hs
  unfold rstep2
  repeat' split
  all_goals (first | exact ⟨hs.l1, hs.l2⟩ | exact ⟨by simpa using hs.l1, hs.l2⟩ | exact ⟨hs.l1, by simpa using hs.l2⟩)
theorem under79 : Try.prog.underlying 79 = some (.array 64 4) := by kernel_rfl
theorem under4 : Try.prog.underlying 4 = some .bool := by kernel_rfl
theorem inf4 : (Try.prog.info? 4).map (·.size) = some 1 := by kernel_rfl
theorem guard79 : Try.prog.eqGuardType Try.prog.depth 79 = false := by kernel_rfl
def agree (xs ys : List Bool) : List Nat → Bool
  | [] => true
  | i :: l => if xs.getD i false = ys.getD i false then agree xs ys l else false
theorem agree_range (xs ys : List Bool) : ∀ (n k : Nat), agree xs ys (List.range' k n) = true ↔ ∀ i, k ≤ i → i < k + n → xs.getD i false = ys.getD i false
  | 0, k => by simp [agree]; omega
  | n + 1, k => by
    rw [List.range'_succ, agree]
    split
    · rename_i h
      rw [agree_range]
      exact ⟨fun H i h1 h2 => by
        by_cases e : i = k
        · subst e; exact h
        · exact H i (by omega) (by omega), fun H i h1 h2 => H i (by omega) (by omega)⟩
    · rename_i h
      exact ⟨fun h' => (by cases h'), fun H => absurd (H k (by omega) (by omega)) h⟩
theorem part_bool (xs : List Bool) (i : Nat) (hi : i < xs.length) (w : World) : (part 4 (xs.map Value.bool).toArray i).run Try.prog w = .ok (.bool (xs.getD i false)) w := by
  have h4 : (isAgg 4).run Try.prog w = .ok false w := by
    unfold isAgg; rw [Sem.run_bind, run_underlying under4 w]; rfl
  simp [part, Sem.run_bind, h4, hi, List.getD_eq_getElem?_getD]
theorem run_equal79 (xs ys : List Bool) (hx : xs.length = 64) (hy : ys.length = 64) (d : Nat) (w : World) :
    (Op.equalIn (d+2) 79 (.agg (xs.map Value.bool).toArray) (.agg (ys.map Value.bool).toArray)).run Try.prog w = .ok (xs == ys) w := by
  rw [Op.equalIn]
  simp only [Sem.run_bind, run_underlying under79, Result.andThen_ok]
  have hs : (Go.sizeOf 4).run Try.prog w = .ok 1 w := by
    cases hq : Try.prog.info? 4 with
    | none => have := inf4; simp [hq] at this
    | some i => have := inf4; simp [hq] at this; simp [sizeOf, typeInfo, hq, this]
  simp only [hs, Result.andThen_ok, Nat.mul_one]
  rw [Std.Legacy.Range.forIn_eq_forIn_range']
  simp only [Std.Legacy.Range.size, Nat.sub_zero, Nat.add_sub_cancel, Nat.div_one]
  have key : ∀ l : List Nat, (∀ i ∈ l, i < 64) → ∀ u : Unit, (forIn l ((none : Option Bool), u) (fun i __s => do
              let __do_lift ← part 4 (xs.map Value.bool).toArray i
              let __do_lift_1 ← part 4 (ys.map Value.bool).toArray i
              let __do_lift ← Op.equalIn (d + 1) 4 __do_lift __do_lift_1
              if (!__do_lift) = true then pure (ForInStep.done (some false, ())) else pure (ForInStep.yield (none, ())))).run Try.prog w = .ok (if agree xs ys l then none else some false, ()) w := by
    intro l
    induction l with
    | nil => intro _ u; simp [agree]
    | cons i l ih =>
      intro hl u
      have hi := hl i (by simp)
      simp only [List.forIn_cons, Sem.run_bind, part_bool xs i (by omega), part_bool ys i (by omega), Result.andThen_ok, run_equalIn_bool w d 4 _ _ under4, agree]
      by_cases e : xs.getD i false = ys.getD i false
      · simp only [e, beq_self_eq_true, Bool.not_true, Bool.false_eq_true, if_false, Sem.run_pure, Result.andThen_ok, if_true]
        exact ih (fun j hj => hl j (by simp [hj])) ()
      · have e2 : (xs.getD i false == ys.getD i false) = false := by simpa using e
        simp only [e2, Bool.not_false, if_true, Sem.run_pure, Result.andThen_ok, if_neg e, Bool.false_eq_true, if_false]
  rw [key _ (by intro i hi; simp [List.mem_range'] at hi; omega)]
  simp only [Result.andThen_ok]
  have ha := agree_range xs ys 64 0
  by_cases e : xs = ys
  · subst e
    have : agree xs xs (List.range' 0 64) = true := ha.2 (fun _ _ _ => rfl)
    simp [this]
  · have : agree xs ys (List.range' 0 64) = false := by
      rw [Bool.eq_false_iff]
      intro h
      have h2 := ha.1 h
      apply e
      apply List.ext_getElem (by omega)
      intro i h3 h4
      have := h2 i (by omega) (by omega)
      simpa [List.getD_eq_getElem?_getD, h3, h4] using this
    have e2 : (xs == ys) = false := by simpa using e
    simp [this, e2]
theorem info79 : (Try.prog.info? 79).map (·.size) = some 64 := by kernel_rfl
theorem rca_one (s : Rst) : (rca s).all (·.oneCell') = true := by
  rw [Array.all_eq_true_iff_forall_mem]
  intro x hx
  have hx2 : x ∈ rcl s := by simpa [rca] using hx
  simp only [rcl, List.mem_cons, List.mem_append, List.mem_map] at hx2
  rcases hx2 with rfl | rfl | ⟨y, _, rfl⟩ | ⟨y, _, rfl⟩ <;> rfl
theorem wpList_neq79 {ops : Array Oper} {rest : List Oper} {op : Oper} {a : Act} {w : World} {Q : Exit → Act → World → Prop} (hgd : op.guard = none) (x y : Operand) (ho : op.op = .binOp .neq 79 x y 79) {xs ys : List Bool}
    (hx : a.eval x = .agg (xs.map Value.bool).toArray) (hy : a.eval y = .agg (ys.map Value.bool).toArray) (hl : xs.length = 64) (hl2 : ys.length = 64)
    (h : wpList Try.prog ops Q rest (a.put op.dst (.bool (!(xs == ys)))) w) : wpList Try.prog ops Q (op :: rest) a w := by
  refine wpList_plain hgd fun _ hK => ?_
  unfold Oper.wp execOp
  have hg := run_eqGuard_agg (P := Try.prog) w .neq 79 x y (xs.map Value.bool).toArray (ys.map Value.bool).toArray guard79
  have he : (binOp .neq 79 (.agg (xs.map Value.bool).toArray) (.agg (ys.map Value.bool).toArray)).run Try.prog w = .ok (.bool (!(xs == ys))) w := by
    simp only [binOp, Op.equal, Sem.run_bind]
    rw [show Op.maxDepth = 9998 + 2 from rfl, run_equal79 xs ys hl hl2]
    rfl
  simp only [ho, hx, hy, Sem.run_bind, hg, Result.andThen_ok, he]
  exact hK _ _ h
structure RowsAt (W : World) (ab : Nat) (all : List Rst) : Prop where
  r : ∀ k s, all[k]? = some s → W.rangeAt ab (k * 578) (rcl s)
  t : W.there ab 0 (all.length * 578)
  ok : ∀ s ∈ all, OKR s
theorem cell_same {W W' : World} {b : Nat} (h : W'.heap[b]? = W.heap[b]?) (o : Nat) : W'.cell? ⟨b, o, none⟩ = W.cell? ⟨b, o, none⟩ := by simp [World.cell?, h]
theorem frozen_same {W W' : World} {b : Nat} (h : W'.heap[b]? = W.heap[b]?) (o : Nat) : W'.frozen? ⟨b, o, none⟩ = W.frozen? ⟨b, o, none⟩ := by simp [World.frozen?, h]
theorem RowsAt.same {W W' : World} {ab : Nat} {all : List Rst} (H : RowsAt W ab all) (h : W'.heap[ab]? = W.heap[ab]?) : RowsAt W' ab all :=
  ⟨fun k s hk j v hv => (cell_same h _).trans (H.r k s hk j v hv), fun j hj => ⟨by rw [cell_same h]; exact (H.t j hj).1, by rw [frozen_same h]; exact (H.t j hj).2⟩, H.ok⟩
theorem RowsAt.sub {W : World} {ab : Nat} {all : List Rst} (H : RowsAt W ab all) {k : Nat} (hk : k < all.length) : W.there ab (k * 578) 578 := fun j hj => by
  have h2 : k * 578 + j < all.length * 578 := by
    have : (k + 1) * 578 ≤ all.length * 578 := Nat.mul_le_mul_right _ hk
    omega
  have := H.t (k * 578 + j) h2
  simpa using this
theorem RowsAt.put {W : World} {ab : Nat} {all : List Rst} (H : RowsAt W ab all) {k : Nat} (hk : k < all.length) {s : Rst} (hs : OKR s) : RowsAt (W.setCells ab (k * 578) (rca s).toList) ab (all.set k s) := by
  have e : (rca s).toList = rcl s := rfl
  rw [e]
  refine ⟨fun j s' hj => ?_, ?_, fun x hx => ?_⟩
  · by_cases e : j = k
    · subst e
      have h1 : s' = s := by simpa [hk] using hj.symm
      subst h1
      exact World.rangeAt_setCells_same W ab (j * 578) (rcl s') (by rw [rcl_length hs]; exact H.sub hk)
    · have h1 : all[j]? = some s' := by simpa [Ne.symm e] using hj
      have hl := rcl_length (H.ok s' (List.mem_of_getElem? h1))
      refine World.rangeAt_setCells_apart (H.r j s' h1) ab (k * 578) (rcl s) (.inr ?_)
      rw [hl, rcl_length hs]
      rcases Nat.lt_or_gt_of_ne e with h | h
      · left; have : (j + 1) * 578 ≤ k * 578 := Nat.mul_le_mul_right _ h; omega
      · right; have : (k + 1) * 578 ≤ j * 578 := Nat.mul_le_mul_right _ h; omega
  · rw [List.length_set]; exact World.there_setCells H.t ab (k * 578) (rcl s)
  · rcases List.mem_or_eq_of_mem_set hx with h | h
    · exact H.ok x h
    · subst h; exact hs
theorem setCells_other (b : Nat) : ∀ (vs : List Value) (o : Nat) (W : World) (k : Nat), k ≠ b → (W.setCells b o vs).heap[k]? = W.heap[k]?
  | [], _, _, _, _ => rfl
  | v :: r, o, W, k, hk => by
    rw [World.setCells, setCells_other b r (o + 1) _ k hk]
    simp [World.setCell, Array.getElem?_modify, Ne.symm hk]
theorem setCells_below {B g : Nat} {w0 : World} (hBg : B ≤ g) : ∀ (vs : List Value) (o : Nat) (W : World), Below B w0 W → Below B w0 (W.setCells g o vs)
  | [], _, _, h => h
  | v :: r, o, W, h => by
    rw [World.setCells]
    exact setCells_below hBg r (o + 1) _ (h.setCell (p := ⟨g, o, none⟩) hBg v)
theorem wpList_aload {ops : Array Oper} {rest : List Oper} {op : Oper} {a : Act} {W : World} {Q : Exit → Act → World → Prop} (hgd : op.guard = none) (x : Operand) (ho : op.op = .load 81 x) (ab k : Nat) (hx : a.eval x = .pointer (some ⟨ab, k * 578, none⟩)) {all : List Rst} {s : Rst}
    (H : RowsAt W ab all) (hk : all[k]? = some s) (h : wpList Try.prog ops Q rest (a.put op.dst (.agg (rca s))) W) : wpList Try.prog ops Q (op :: rest) a W := by
  obtain ⟨d, h1⟩ := under81
  exact wpList_load_mid hgd 81 x ho ab (k * 578) hx (rcl s) (.struct d) (H.r k s hk) h1 rfl (by rw [info81, rcl_length (H.ok s (List.mem_of_getElem? hk))]) h
theorem wpList_astore {ops : Array Oper} {rest : List Oper} {op : Oper} {a : Act} {W : World} {Q : Exit → Act → World → Prop} (hgd : op.guard = none) (x y : Operand) (ho : op.op = .store 81 x y) (ab k : Nat) (hx : a.eval x = .pointer (some ⟨ab, k * 578, none⟩)) {all : List Rst} {s : Rst}
    (hy : a.eval y = .agg (rca s)) (H : RowsAt W ab all) (hk : k < all.length) (hs : OKR s) (h : wpList Try.prog ops Q rest (a.put op.dst undef) (W.setCells ab (k * 578) (rca s).toList)) : wpList Try.prog ops Q (op :: rest) a W :=
  wpList_store_mid hgd 81 x y ho ab (k * 578) (rca s) hx hy (by rw [rca_size hs]; exact H.sub hk) (by rw [info81, rca_size hs]) (rca_one s) h
theorem wpList_wload {ops : Array Oper} {rest : List Oper} {op : Oper} {a : Act} {W : World} {Q : Exit → Act → World → Prop} (hgd : op.guard = none) (x : Operand) (ho : op.op = .load 79 x) (b : Nat) (hx : a.eval x = .pointer (some ⟨b, 514, none⟩)) {s : Rst} {t : TypeId}
    (hb : W.heap[b]? = some (.cells (rca s) t (0, 0))) (hs : OKR s) (h : wpList Try.prog ops Q rest (a.put op.dst (.agg (s.wr.map Value.bool).toArray)) W) : wpList Try.prog ops Q (op :: rest) a W := by
  refine wpList_load_mid hgd 79 x ho b 514 hx (s.wr.map Value.bool) _ (fun j v hv => ?_) under79 rfl (by rw [info79, List.length_map, hs.l2]) h
  have hj : j < 64 := by have := (List.getElem?_eq_some_iff.1 hv).1; simpa [hs.l2] using this
  rw [rs_wr hb hs hj, ← hv]
  have : j < s.wr.length := by rw [hs.l2]; exact hj
  simp [List.getD_eq_getElem?_getD, this]
theorem wpStill_rload {ops : Array Oper} {rest : List Oper} {op : Oper} {a : Act} {w : World} {Q : Act → Prop} (hw : Region.wanted op (yielded ops a.tmps) = true) (x : Operand) (ho : op.op = .load 81 x) (b : Nat) (hx : a.eval x = .pointer (some ⟨b, 0, none⟩)) {s : Rst} {t : TypeId}
    (hb : w.heap[b]? = some (.cells (rca s) t (0, 0))) (hs : OKR s) (h : wpStill Try.prog ops w Q rest (a.put op.dst (.agg (rca s)))) : wpStill Try.prog ops w Q (op :: rest) a := by
  unfold wpStill
  rw [if_pos hw]
  unfold Oper.still execOp
  simp only [ho, hx, Sem.run_bind, Result.andThen_ok, rs_load hb hs]
  simp only [Sem.run_pure, Oper.stillUpon]
  exact ⟨trivial, h⟩
end Go.Proofs.Ytlmpoojpbdmmfaa.H
end
