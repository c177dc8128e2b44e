/- Layer 19 as plain functions: the state at an instruction, what an instruction asks of it, and how two states meet. The conditions: what each names. -/
import Derived.Test.YtlmpoojpbdmmfaaD18
set_option linter.unusedVariables false
set_option linter.unusedSimpArgs false
namespace Go.Proofs.Ytlmpoojpbdmmfaa.H
open Go.RowKit Go.Proofs.YtlmpoojpbdmmfaaW.PrintWords Go.Proofs.YtlmpoojpbdmmfaaW.PrintLast Go.Proofs.YtlmpoojpbdmmfaaW.PrintMore

/-- The state at an instruction: how high the stack is, eight words of slots, one of outputs. -/
structure Vst where
  h : Int
  has : List Int
  wr : Int
def stArr (s : Vst) : Array Value := (.int .i64 s.h :: (s.has.map (Value.int .u64) ++ [.int .u64 s.wr])).toArray
def stVal (s : Vst) : Value := .agg (stArr s)
def st0 : Vst := ⟨0, List.replicate 8 0, 0⟩
def andL (a b : List Int) : List Int := List.zipWith (fun x y => Go.bits .and .u64 x y) a b
/-- The first i words met. -/
def mixL (a b : List Int) (i : Nat) : List Int := (andL a b).take i ++ a.drop i
theorem mixL_zero (a b : List Int) : mixL a b 0 = a := by simp [mixL]
theorem mixL_length {a b : List Int} (h : a.length = b.length) {i : Nat} (hi : i ≤ a.length) : (mixL a b i).length = a.length := by simp [mixL, andL, h]; omega
theorem mixL_all {a b : List Int} (h : a.length = b.length) : mixL a b a.length = andL a b := by
  have : (andL a b).length = a.length := by simp [andL, h]
  rw [mixL, List.take_of_length_le (by omega), List.drop_length, List.append_nil]
theorem mixL_getD {a b : List Int} (h : a.length = b.length) {i : Nat} (hi : i < a.length) : (mixL a b i).getD i 0 = a.getD i 0 := by
  have : (List.take i (andL a b)).length = i := by simp [andL, h]; omega
  simp [mixL, List.getD_eq_getElem?_getD, List.getElem?_append, this]
theorem mixL_succ {a b : List Int} (h : a.length = b.length) {i : Nat} (hi : i < a.length) : (mixL a b i).set i (Go.bits .and .u64 (a.getD i 0) (b.getD i 0)) = mixL a b (i + 1) := by
  have hl : (List.take i (andL a b)).length = i := by simp [andL, h]; omega
  have hb : i < b.length := by omega
  have hz : (andL a b)[i]? = some (Go.bits .and .u64 (a.getD i 0) (b.getD i 0)) := by simp [andL, List.getElem?_zipWith, hi, hb, List.getD_eq_getElem?_getD]
  unfold mixL
  rw [List.set_append, if_neg (by omega), hl, Nat.sub_self, List.drop_eq_getElem_cons hi, List.set_cons_zero, List.take_add_one, hz]
  simp
/-- How two states meet. -/
def meetS (s t : Vst) : Vst × Int := if s.h ≠ t.h then (s, 191) else if s.wr ≠ t.wr then (s, 193) else ({ s with has := andL s.has t.has }, 0)
/-- What an op takes and gives. -/
def tks (op : Int) : Int := if 8 ≤ op ∧ op ≤ 20 then 2 else if op = 3 ∨ op = 5 ∨ op = 6 ∨ op = 7 ∨ op = 22 then 1 else 0
def gvs (op : Int) : Int := if 6 ≤ op ∧ op ≤ 20 then 1 else if op = 1 ∨ op = 2 ∨ op = 4 then 1 else 0
structure Cf where
  slots : Int
  reads : Int
  writes : Int
  stack : Int
def cfVal (c : Cf) : Value := .agg #[.int .i64 c.slots, .int .i64 c.reads, .int .i64 c.writes, .int .i64 c.stack]
/-- What an instruction asks of the state behind its effect on the stack, and does to it. -/
def chk2 (s : Vst) (i : S53) (c : Cf) : Vst × Int :=
  if i.f0 = 2 ∨ i.f0 = 3 then
    (if c.slots ≤ i.f1 then (s, 192) else if i.f0 = 2 ∧ Go.bits .and .u64 (s.has.getD (i.f1 / 64).toNat 0) (shl .u64 1 (i.f1 % 64)) = 0 then (s, 192)
     else ({ s with has := s.has.set (i.f1 / 64).toNat (Go.bits .or .u64 (s.has.getD (i.f1 / 64).toNat 0) (shl .u64 1 (i.f1 % 64))) }, 0))
  else if i.f0 = 4 then (s, if c.reads ≤ i.f1 then 193 else 0)
  else if i.f0 = 5 then
    (if c.writes ≤ i.f1 then (s, 193) else if Go.bits .and .u64 s.wr (shl .u64 1 i.f1) = 0 then ({ s with wr := Go.bits .or .u64 s.wr (shl .u64 1 i.f1) }, 0) else (s, 193))
  else if i.f0 = 23 then (s, if 0 < s.h then 191 else if s.wr = IntKind.u64.wrap (shl .u64 1 c.writes - 1) then 0 else 193)
  else (s, 0)
/-- What an instruction asks of the state, and does to it. -/
def chk (s : Vst) (i : S53) (c : Cf) : Vst × Int :=
  if mayB i.f0 i.f1 = false then (s, 180)
  else if s.h < tks i.f0 ∨ c.stack < s.h - tks i.f0 + gvs i.f0 then (s, 191)
  else chk2 { s with h := s.h + (gvs i.f0 - tks i.f0) } i c
section
variable {w : World} {b : Nat} {s : Vst}
theorem st_cell {j : Nat} {v : Value} (h : w.heap[b]? = some (.cells (stArr s) 98 (0, 0))) (hj : (stArr s)[j]? = some v) : w.cell? ⟨b, j, none⟩ = some v := by
  simp [World.cell?, h, hj]
theorem st_frozen (j : Nat) (h : w.heap[b]? = some (.cells (stArr s) 98 (0, 0))) : w.frozen? ⟨b, j, none⟩ = false := by
  simp [World.frozen?, h]
theorem st_h (h : w.heap[b]? = some (.cells (stArr s) 98 (0, 0))) : w.cell? ⟨b, 0, none⟩ = some (.int .i64 s.h) := st_cell h (by simp [stArr])
theorem st_wr (h : w.heap[b]? = some (.cells (stArr s) 98 (0, 0))) (hl : s.has.length = 8) : w.cell? ⟨b, 9, none⟩ = some (.int .u64 s.wr) := st_cell h (by simp [stArr, List.getElem?_append, hl])
theorem st_has (h : w.heap[b]? = some (.cells (stArr s) 98 (0, 0))) {k : Nat} (hk : k < s.has.length) : w.cell? ⟨b, 1 + k, none⟩ = some (.int .u64 (s.has.getD k 0)) := st_cell h (by
  rw [Nat.add_comm]
  simp [stArr, List.getElem?_append, hk, List.getD_eq_getElem?_getD])
theorem st_put {s' : Vst} {j : Nat} {v : Value} (h : w.heap[b]? = some (.cells (stArr s) 98 (0, 0))) (he : (stArr s).setIfInBounds j v = stArr s') : (w.setCell ⟨b, j, none⟩ v).heap[b]? = some (.cells (stArr s') 98 (0, 0)) := by
  simp [World.setCell, Array.getElem?_modify, h, he]
end
theorem grown_drewN {w W : World} {r : Option Nat} (h : w.grownBy W r) (n : Nat) : w.grownBy (W.drewN n) r := ⟨h.os, h.tape, h.output, h.size, h.block⟩
theorem grown_drew {w W : World} {r : Option Nat} (h : w.grownBy W r) : w.grownBy W.drew r := ⟨h.os, h.tape, h.output, h.size, h.block⟩
theorem grown_set {w W : World} {b : Nat} (h : w.grownBy W (some b)) (j : Nat) (v : Value) : w.grownBy (W.setCell ⟨b, j, none⟩ v) (some b) :=
  ⟨h.os, h.tape, h.output, by simpa [World.setCell] using h.size, fun k hk hne => (Below.heap_setCell W ⟨b, j, none⟩ v k (fun e => hne (by rw [e]))).trans (h.block k hk hne)⟩
theorem set_far {W : World} {b k j : Nat} {o : Obj} (h : W.heap[k]? = some o) (hne : k ≠ b) (v : Value) : (W.setCell ⟨b, j, none⟩ v).heap[k]? = some o := (Below.heap_setCell W ⟨b, j, none⟩ v k hne).trans h
theorem stArr_h (s : Vst) (x : Int) : (stArr s).setIfInBounds 0 (.int .i64 x) = stArr { s with h := x } := by simp [stArr]
theorem stArr_wr (s : Vst) (x : Int) (hl : s.has.length = 8) : (stArr s).setIfInBounds 9 (.int .u64 x) = stArr { s with wr := x } := by
  simp [stArr, List.set_append, hl]
theorem stArr_has (s : Vst) (k : Nat) (x : Int) (hk : k < s.has.length) : (stArr s).setIfInBounds (1 + k) (.int .u64 x) = stArr { s with has := s.has.set k x } := by
  rw [Nat.add_comm]
  simp [stArr, List.set_append, hk, List.map_set]
end Go.Proofs.Ytlmpoojpbdmmfaa.H
