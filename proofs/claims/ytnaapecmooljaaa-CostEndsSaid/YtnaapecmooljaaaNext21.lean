/- cost.Path's closure 'next': it tells a turn and goes on behind it. The conditions: the box holds what is left of the turns. -/
import Derived.Test.YtnaapecmooljaaaBst21
import Derived.LoopTactic
import Derived.Sort.QuietIn
set_option linter.unusedVariables false
set_option linter.unusedSimpArgs false
namespace Go.Proofs.Ytnaapecmooljaaa.H
open Go.RowKit Go.Proofs.YtnaapecmooljaaaW.PrintWords Go.Shelf

/-- What a walk through the code costs, d steps at most. -/
def pathGo (l : List S26) : Nat → Nat → List Bool → Int → Int
  | 0, _, _, s => s
  | d + 1, k, ts, s =>
    if (rd_T26 l k).f0 = 23 then wrap64 (s + cyc (rd_T26 l k).f0) else if (rd_T26 l k).f0 = 21 then pathGo l d (k + (rd_T26 l k).f1.toNat) ts (wrap64 (s + cyc (rd_T26 l k).f0))
    else if (rd_T26 l k).f0 = 22 then (if ts.headD false = true then pathGo l d (k + (rd_T26 l k).f1.toNat) ts.tail (wrap64 (s + cyc (rd_T26 l k).f0)) else pathGo l d (k + 1) ts.tail (wrap64 (s + cyc (rd_T26 l k).f0)))
    else pathGo l d (k + 1) ts (wrap64 (s + cyc (rd_T26 l k).f0))
def path (l : List S26) (ts : List Bool) : Int × Int := if (bound l).2.2 = 0 then (pathGo l l.length 0 ts 0, 0) else (0, (bound l).2.2)
/-- Nothing has turned but one block. -/
structure Turned (bx : Nat) (w w' : World) : Prop where
  os : w'.os = w.os
  tape : w'.tape = w.tape
  output : w'.output = w.output
  size : w.heap.size ≤ w'.heap.size
  block : ∀ k, k ≠ bx → w'.heap[k]? = w.heap[k]?
theorem Turned.below {bx B : Nat} {w0 w w' : World} (h : Turned bx w w') (hb : Below B w0 w) (hB : B ≤ bx) : Below B w0 w' :=
  hb.trans ⟨h.os, h.tape, h.output, h.size, fun k hk => h.block k (by omega)⟩
set_option maxHeartbeats 2000000 in
set_option maxRecDepth 100000 in
theorem next_calls (bx : Nat) (A : Option Addr) (c : Nat) (ts : List Bool) (w0 w : World) (hb : w.heap[bx]? = some (.cells #[.slice A ts.length c] 39 (0, 0))) (hr : Kd.bool.C w0 A ts.length ts) (hw0 : Below w0.heap.size w0 w) (hc : ts.length ≤ c) :
    Calls Try.prog 44 #[.pointer (some ⟨bx, 0, none⟩)] w fun e w' => e = .returned (.bool (ts.headD false)) ∧ ∃ A', ∃ c', ts.tail.length ≤ c' ∧ Turned bx w w' ∧ w'.heap[bx]? = some (.cells #[.slice A' ts.tail.length c'] 39 (0, 0)) ∧ Kd.bool.C w0 A' ts.tail.length ts.tail := by
  have hcell := box_cell hb
  have hfz := box_frozen hb
  have HR := Aside0.mk hr
  have HB := Aside0.mk hb
  cases ts with
  | nil =>
    clear hr hb
    simp only [List.length_nil] at hcell
    go_enter Try.func44, Try.ntmps44
    go_wp2
    go_ret
    exact ⟨rfl, A, c, hc, ⟨rfl, rfl, rfl, Nat.le_refl _, fun _ _ => rfl⟩, HB.out, HR.out⟩
  | cons t r =>
    obtain ⟨ad, rfl, hc0⟩ := Kd.at_bool (Kd.C_below hr hw0) 0 (by omega) (by simp)
    have hlen : (0 : Int) < ((r.length + 1 : Nat) : Int) := by omega
    simp only [List.length_cons] at hcell
    have hc1 : w.cell? ad = some (.bool t) := hc0
    have hcc : (1 : Int) ≤ ((r.length + 1 : Nat) : Int) := by omega
    have hcc2 : ((r.length + 1 : Nat) : Int) ≤ c := by simp at hc; omega
    clear hr hb hc0
    go_enter Try.func44, Try.ntmps44
    go_wp2
    go_region
    have HC := Kd.C_drop (m := 1) (c := c) HR.out (by simp) hc
    have HD := Aside0.mk HC
    clear HC
    by_cases h1 : c = 1
    · subst h1
      go_wp2
      go_ret
      have HC := HD.out
      rw [if_pos trivial] at HC
      refine ⟨rfl, some ad, 0, ?_, ⟨rfl, rfl, rfl, ?_, fun k hk => Below.heap_setCell w ⟨bx, 0, none⟩ _ k hk⟩, ?_, HC⟩
      · simp at hc ⊢; omega
      · show w.heap.size ≤ (w.setCell ⟨bx, 0, none⟩ _).heap.size
        simp
      · show (w.setCell ⟨bx, 0, none⟩ _).heap[bx]? = _
        simp [World.setCell, Array.getElem?_modify, HB.out]
    · rw [if_neg h1]
      go_wp2
      go_ret
      have HC := HD.out
      rw [if_neg h1] at HC
      refine ⟨rfl, _, c - 1, ?_, ⟨rfl, rfl, rfl, ?_, fun k hk => Below.heap_setCell w ⟨bx, 0, none⟩ _ k hk⟩, ?_, HC⟩
      · simp at hc ⊢; omega
      · show w.heap.size ≤ (w.setCell ⟨bx, 0, none⟩ _).heap.size
        simp
      · show (w.setCell ⟨bx, 0, none⟩ _).heap[bx]? = _
        simp [World.setCell, Array.getElem?_modify, HB.out]
        rfl
end Go.Proofs.Ytnaapecmooljaaa.H
