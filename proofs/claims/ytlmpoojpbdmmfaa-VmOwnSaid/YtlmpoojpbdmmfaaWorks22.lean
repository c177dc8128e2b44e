/- A run's beginning keeps the invariant; the run of the sample. Plain. The sample run of the laws of layer 22: carillonlaw22.works. -/
import Derived.Test.YtlmpoojpbdmmfaaTell22
import Derived.Test.YtlmpoojpbdmmfaaNew22
set_option linter.unusedVariables false
set_option linter.unusedSimpArgs false
namespace Go.Proofs.Ytlmpoojpbdmmfaa.H
open Go.RowKit Go.Proofs.YtlmpoojpbdmmfaaW.PrintWords
theorem wfx0 {l : List S53} {c : Cf} {ins : List Int} (h : (ver l c).2 = 0) (hn : (ins.length : Int) = c.reads) : ∃ A, Wfx l c (ver l c).1 A (ctx0 c ins) ∧ Spo l (ctx0 c ins) ∧ l.length ≤ 4096 := by
  obtain ⟨hm, hl0, hl1, _⟩ := ver_ok h
  obtain ⟨A, hg, hle⟩ := ver_good h
  have hmc : (0 ≤ c.slots ∧ c.slots ≤ 512) ∧ (0 ≤ c.reads ∧ c.reads ≤ 64) ∧ (0 ≤ c.writes ∧ c.writes ≤ 64) ∧ (1 ≤ c.stack ∧ c.stack ≤ 256) := by simpa [mayC, and_assoc] using hm
  refine ⟨A, ⟨hg, hl0, ?_, ?_, hn, ?_, fun he => by cases he⟩, ⟨Int.le_refl _, ?_⟩, hl1⟩
  · have := hle.1
    simp [ctx0, st0] at this ⊢
    omega
  · simp [ctx0]; omega
  · simp [ctx0]; omega
  · simp [ctx0]; omega
def wl : List S53 := [⟨4, 0⟩, ⟨1, 2⟩, ⟨10, 0⟩, ⟨5, 0⟩, ⟨23, 0⟩]
def wc : Cf := ⟨0, 1, 1, 2⟩
theorem w_ver : (ver wl wc).2 = 0 := by kernel_rfl
theorem w_new : newE wl wc 1 = 0 := by kernel_rfl
theorem w_run1 : (runN wl 1 6 0 (ctx0 wc [21])).1 = 2 ∧ (runN wl 1 6 0 (ctx0 wc [21])).2.ended = false := ⟨by kernel_rfl, by kernel_rfl⟩
def wx1 : Ctx := (runN wl 1 6 0 (ctx0 wc [21])).2
theorem w_run2 : (runN wl 100 6 0 wx1).1 = 7 ∧ (runN wl 100 6 0 wx1).2.ended = true := ⟨by kernel_rfl, by kernel_rfl⟩
def wx2 : Ctx := (runN wl 100 6 0 wx1).2
theorem w_end : wx2.outs = [42] ∧ wx2.spent = 9 := ⟨by kernel_rfl, by kernel_rfl⟩
theorem w_one : wx1 = stp wl (ctx0 wc [21]) := by kernel_rfl
theorem w_wfx : ∃ A, Wfx wl wc (ver wl wc).1 A (ctx0 wc [21]) ∧ Spo wl (ctx0 wc [21]) ∧ Wfx wl wc (ver wl wc).1 A wx1 ∧ Spo wl wx1 := by
  obtain ⟨A, h1, h2, _⟩ := wfx0 (ins := [21]) w_ver (by rfl)
  refine ⟨A, h1, h2, ?_, ?_⟩
  · rw [w_one]; exact (h1.stp rfl).1
  · rw [w_one]; exact (h2.stp h1 rfl).2.2 (by rw [← w_one]; exact w_run1.2)
end Go.Proofs.Ytlmpoojpbdmmfaa.H
set_option linter.unusedVariables false
set_option linter.unusedSimpArgs false
namespace Go.Proofs.Ytlmpoojpbdmmfaa.H
open Go.RowKit Go.Proofs.YtlmpoojpbdmmfaaW.PrintWords Go.Proofs.YtlmpoojpbdmmfaaW.PrintLast Go.Proofs.YtlmpoojpbdmmfaaW.PrintMore Go.Maps
theorem wl_C {W : World} {g : Nat} {t : TypeId} (h : W.heap[g]? = some (.cells #[.int .u8 4, .int .i64 0, .int .u8 1, .int .i64 2, .int .u8 10, .int .i64 0, .int .u8 5, .int .i64 0, .int .u8 23, .int .i64 0] t (0, 0))) : Kd.C k53 W (some ⟨g, 0, none⟩) wl.length wl := by
  refine ⟨rfl, by decide, fun _ => ⟨_, rfl, fun j p hp => ?_⟩⟩
  show ∃ c : List Value, c.length = 2 ∧ k53.K W p c ∧ ∀ (i : Nat) u, c[i]? = some u → W.cell? ((⟨g, 0, none⟩ : Addr).add (j * 2 + i)) = some u
  rcases j with _ | _ | _ | _ | _ | j
  · cases hp
    refine ⟨[.int .u8 4, .int .i64 0], rfl, ⟨_, _, rfl, rfl, rfl⟩, fun i u hu => ?_⟩
    rcases i with _ | _ | i <;> simp at hu <;> subst hu <;> simp [World.cell?, Addr.add, h]
  · cases hp
    refine ⟨[.int .u8 1, .int .i64 2], rfl, ⟨_, _, rfl, rfl, rfl⟩, fun i u hu => ?_⟩
    rcases i with _ | _ | i <;> simp at hu <;> subst hu <;> simp [World.cell?, Addr.add, h]
  · cases hp
    refine ⟨[.int .u8 10, .int .i64 0], rfl, ⟨_, _, rfl, rfl, rfl⟩, fun i u hu => ?_⟩
    rcases i with _ | _ | i <;> simp at hu <;> subst hu <;> simp [World.cell?, Addr.add, h]
  · cases hp
    refine ⟨[.int .u8 5, .int .i64 0], rfl, ⟨_, _, rfl, rfl, rfl⟩, fun i u hu => ?_⟩
    rcases i with _ | _ | i <;> simp at hu <;> subst hu <;> simp [World.cell?, Addr.add, h]
  · cases hp
    refine ⟨[.int .u8 23, .int .i64 0], rfl, ⟨_, _, rfl, rfl, rfl⟩, fun i u hu => ?_⟩
    rcases i with _ | _ | i <;> simp at hu <;> subst hu <;> simp [World.cell?, Addr.add, h]
  · simp [wl] at hp
theorem w_I {W : World} {g : Nat} {t : TypeId} (h : W.heap[g]? = some (.cells #[.int .i64 21] t (0, 0))) : RdI W (some ⟨g, 0, none⟩) [21] := by
  refine ⟨(fun e => by cases e), fun ad e j y hj => ?_⟩
  cases e
  rcases j with _ | j
  · cases hj
    simp [World.cell?, Addr.add, h]
  · simp at hj
theorem w_new_calls {W : World} {g f : Nat} {t u : TypeId} (h : W.heap[g]? = some (.cells #[.int .u8 4, .int .i64 0, .int .u8 1, .int .i64 2, .int .u8 10, .int .i64 0, .int .u8 5, .int .i64 0, .int .u8 23, .int .i64 0] t (0, 0))) (h2 : W.heap[f]? = some (.cells #[.int .i64 21] u (0, 0))) :
    Calls Try.prog 9 #[.slice (some ⟨g, 0, none⟩) 5 5, .agg #[.int .i64 0, .int .i64 1, .int .i64 1, .int .i64 2], .slice (some ⟨f, 0, none⟩) 1 1] W fun e W' => ∃ b, e = .returned (.tuple #[.pointer (some ⟨b, 0, none⟩), .int .i64 0]) ∧ VMem W' (fun k => W.heap.size ≤ k ∧ k < W'.heap.size) b wc wl (ctx0 wc [21]) ∧ Below W.heap.size W W' :=
  new_calls (cap := 5) (ci := 1) (wl_C h) (by decide) (fun e => by cases e) wc (w_I h2) (fun e => by cases e) w_new
theorem w_run1_calls {W : World} {P : Nat → Prop} {b : Nat} (h : VMem W P b wc wl (ctx0 wc [21])) (hP : ∀ k, P k → k < W.heap.size) :
    Calls Try.prog 18 #[.pointer (some ⟨b, 0, none⟩), .int .i64 1] W fun e W' => e = .returned (.tuple #[.int .i64 2, .bool false, .int .i64 0]) ∧ VMem W' (Zn P W W') b wc wl wx1 ∧ Kept2 W W' P := by
  obtain ⟨A, h1, h2, _, _⟩ := w_wfx
  have hc := run_calls h hP h1 (by decide) rfl h2 (cy := 1) (by decide)
  have e1 : (runN wl 1 (wl.length + 1) 0 (ctx0 wc [21])).1 = 2 := w_run1.1
  have e2 : (runN wl 1 (wl.length + 1) 0 (ctx0 wc [21])).2.ended = false := w_run1.2
  rw [e1, e2] at hc
  exact hc
theorem w_run2_calls {W : World} {P : Nat → Prop} {b : Nat} (h : VMem W P b wc wl wx1) (hP : ∀ k, P k → k < W.heap.size) :
    Calls Try.prog 18 #[.pointer (some ⟨b, 0, none⟩), .int .i64 100] W fun e W' => e = .returned (.tuple #[.int .i64 7, .bool true, .int .i64 0]) ∧ VMem W' (Zn P W W') b wc wl wx2 ∧ Kept2 W W' P := by
  obtain ⟨A, _, _, h1, h2⟩ := w_wfx
  have hc := run_calls h hP h1 (by decide) w_run1.2 h2 (cy := 100) (by decide)
  have e1 : (runN wl 100 (wl.length + 1) 0 wx1).1 = 7 := w_run2.1
  have e2 : (runN wl 100 (wl.length + 1) 0 wx1).2.ended = true := w_run2.2
  rw [e1, e2] at hc
  exact hc
theorem w_outs_calls {W : World} {P : Nat → Prop} {b : Nat} (h : VMem W P b wc wl wx2) : Calls Try.prog 16 #[.pointer (some ⟨b, 0, none⟩)] W fun e W' => (∃ g cap, e = .returned (.tuple #[.slice (some ⟨g, 0, none⟩) 1 cap, .bool true]) ∧ W'.cell? ⟨g, 0, none⟩ = some (.int .i64 42)) ∧ Below W.heap.size W W' := by
  refine (outs_calls h w_run2.2 (by rw [w_end.1]; decide)).mono ?_
  rintro e W' ⟨⟨v, rfl, hi, _⟩, hb⟩
  rw [w_end.1] at hi
  obtain ⟨g, cap, rfl, _, _, hc, _⟩ := hi.cell (i := 0) (by decide)
  exact ⟨⟨g, cap, rfl, hc⟩, hb⟩
set_option maxHeartbeats 8000000 in
set_option maxRecDepth 100000 in
theorem works_calls (W : World) : Calls Try.prog 8 #[] W fun e W' => e = .returned (.bool true) ∧ Below W.heap.size W W' := by
  have hu24 := Try.underlying24
  go_enter Try.func8, Try.ntmps8
  go_wp2_with fail
  generalize hWa : (((W.alloc (Obj.cells #[Value.int IntKind.u8 4, Value.int IntKind.i64 0, Value.int IntKind.u8 1, Value.int IntKind.i64 2, Value.int IntKind.u8 10, Value.int IntKind.i64 0, Value.int IntKind.u8 5, Value.int IntKind.i64 0, Value.int IntKind.u8 23, Value.int IntKind.i64 0] (53 : Nat))).alloc (Obj.cells #[Value.int IntKind.i64 0, Value.int IntKind.i64 1, Value.int IntKind.i64 1, Value.int IntKind.i64 2] (24 : Nat))).alloc (Obj.cells #[Value.int IntKind.i64 21] (2 : Nat))) = Wa
  have Xa : Wa.heap[W.heap.size]? = some (.cells #[Value.int IntKind.u8 4, Value.int IntKind.i64 0, Value.int IntKind.u8 1, Value.int IntKind.i64 2, Value.int IntKind.u8 10, Value.int IntKind.i64 0, Value.int IntKind.u8 5, Value.int IntKind.i64 0, Value.int IntKind.u8 23, Value.int IntKind.i64 0] (53 : Nat) (0, 0)) := by
    rw [← hWa, heap_alloc_old _ _ (by simp; omega), heap_alloc_old _ _ (by simp)]
    exact heap_alloc_new _ _
  have Ya : Wa.heap[W.heap.size + 1 + 1]? = some (.cells #[Value.int IntKind.i64 21] (2 : Nat) (0, 0)) := by
    rw [← hWa]
    have := heap_alloc_new ((W.alloc (Obj.cells #[Value.int IntKind.u8 4, Value.int IntKind.i64 0, Value.int IntKind.u8 1, Value.int IntKind.i64 2, Value.int IntKind.u8 10, Value.int IntKind.i64 0, Value.int IntKind.u8 5, Value.int IntKind.i64 0, Value.int IntKind.u8 23, Value.int IntKind.i64 0] (53 : Nat))).alloc (Obj.cells #[Value.int IntKind.i64 0, Value.int IntKind.i64 1, Value.int IntKind.i64 1, Value.int IntKind.i64 2] (24 : Nat))) (Obj.cells #[Value.int IntKind.i64 21] (2 : Nat))
    simpa using this
  have Ba : Aside0 (Below W.heap.size W Wa ∧ W.heap.size ≤ Wa.heap.size) := ⟨by rw [← hWa]; exact ⟨(((Below.refl _ _).alloc (Nat.le_refl _) _).alloc (by simp) _).alloc (by simp; omega) _, by simp; omega⟩⟩
  clear hWa
  refine (w_new_calls Xa Ya).mono ?_
  clear Xa Ya
  rintro e W2 ⟨b, rfl, hv, hb⟩
  have V2 := Aside0.mk hv
  have B2 : Aside0 (Below W.heap.size W W2 ∧ ∀ k, (Wa.heap.size ≤ k ∧ k < W2.heap.size) → W.heap.size ≤ k) := ⟨Ba.out.1.trans (hb.mono Ba.out.2), fun k hk => Nat.le_trans Ba.out.2 hk.1⟩
  clear hv hb Ba
  go_wp2_with fail
  refine (w_run1_calls V2.out (fun k hk => hk.2)).mono ?_
  rintro e W3 ⟨rfl, hv, hk⟩
  have V3 := Aside0.mk hv
  have B3 : Aside0 (Below W.heap.size W W3 ∧ (∀ k, Zn (fun k => Wa.heap.size ≤ k ∧ k < W2.heap.size) W2 W3 k → W.heap.size ≤ k ∧ k < W3.heap.size)) := ⟨hk.below B2.out.1 B2.out.2, fun k h => by
    have h1 := B2.out.1.size
    have h2 := hk.size
    rcases h with h | h
    · have := B2.out.2 k h; omega
    · omega⟩
  clear hv hk V2 B2
  go_wp2_with fail
  refine (w_run2_calls V3.out (fun k hk => (B3.out.2 k hk).2)).mono ?_
  rintro e W4 ⟨rfl, hv, hk⟩
  have V4 := Aside0.mk hv
  have B4 : Aside0 (Below W.heap.size W W4) := ⟨hk.below B3.out.1 (fun k h => (B3.out.2 k h).1)⟩
  clear hv hk V3 B3
  go_wp2_with fail
  refine (w_outs_calls V4.out).mono ?_
  rintro e W5 ⟨⟨g, cap, rfl, hc⟩, hb⟩
  have V5 := Aside0.mk (V4.out.below hb)
  have B5 : Aside0 (Below W.heap.size W W5) := ⟨B4.out.trans (hb.mono B4.out.size)⟩
  have C5 := Aside0.mk hc
  clear hb hc V4 B4
  go_wp2_with fail
  refine (step_ended V5.out w_run2.2).mono ?_
  rintro e W6 ⟨rfl, hb⟩
  have V6 := Aside0.mk (V5.out.below hb)
  have B6 : Aside0 (Below W.heap.size W W6) := ⟨B5.out.trans (hb.mono B5.out.size)⟩
  have hc := pw_cell_below hb C5.out
  clear hb V5 B5 C5
  go_wp2_with fail
  refine (spent_calls V6.out).mono ?_
  rintro e W7 ⟨rfl, hb⟩
  have B7 : Aside0 (Below W.heap.size W W7) := ⟨B6.out.trans (hb.mono B6.out.size)⟩
  have hsp := w_end.2
  rw [hsp]
  clear hb V6 B6 hc hsp
  go_wp2
  go_ret
  exact ⟨rfl, B7.out⟩
end Go.Proofs.Ytlmpoojpbdmmfaa.H
