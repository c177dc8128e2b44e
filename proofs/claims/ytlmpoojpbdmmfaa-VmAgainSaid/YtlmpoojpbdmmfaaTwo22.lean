/- A run's beginning keeps the invariant; the run of the sample. Plain. The sample run of the laws of layer 22: carillonlaw22.works. A run of verified code, wherever it is: its contracts without parting on its end. The conditions: what each names. What the laws of layer 22 do with lists: copies, equality; two runs side by side in memory. The conditions: what each names. New, whatever it is given; the parts of a region 'vm.New(copied(l), c, numbers(ins))'. The conditions: what each names. -/
import Derived.Test.YtlmpoojpbdmmfaaTell22
import Derived.Test.YtlmpoojpbdmmfaaNew22
import Derived.Laws.MakeOwn
import Derived.Test.YtlmpoojpbdmmfaaHx1
import Derived.Test.YtlmpoojpbdmmfaaHx2
import Derived.Test.YtlmpoojpbdmmfaaHx5
set_option linter.unusedVariables false
set_option linter.unusedSimpArgs false
namespace Go.Proofs.Ytlmpoojpbdmmfaa.H
open Go.RowKit Go.Proofs.YtlmpoojpbdmmfaaW.PrintWords
theorem wfx0 {l : List S53} {c : Cf} {ins : List Int} (h : (ver l c).2 = 0) (hn : (ins.length : Int) = c.reads) : ∃ A, Wfx l c (ver l c).1 A (ctx0 c ins) ∧ Spo l (ctx0 c ins) ∧ l.length ≤ 4096 := by
  obtain ⟨hm, hl0, hl1, _⟩ := ver_ok h
  obtain ⟨A, hg, hle⟩ := ver_good h
  have hmc : (0 ≤ c.slots ∧ c.slots ≤ 512) ∧ (0 ≤ c.reads ∧ c.reads ≤ 64) ∧ (0 ≤ c.writes ∧ c.writes ≤ 64) ∧ (1 ≤ c.stack ∧ c.stack ≤ 256) := by simpa [mayC, and_assoc] using hm
  refine ⟨A, ⟨hg, hl0, ?_, ?_, hn, ?_, fun he => by cases he⟩, ⟨Int.le_refl _, ?_⟩, hl1⟩
  · have := hle.1
    simp [ctx0, st0] at this ⊢
    omega
  · simp [ctx0]; omega
  · simp [ctx0]; omega
  · simp [ctx0]; omega
def wl : List S53 := [⟨4, 0⟩, ⟨1, 2⟩, ⟨10, 0⟩, ⟨5, 0⟩, ⟨23, 0⟩]
def wc : Cf := ⟨0, 1, 1, 2⟩
theorem w_ver : (ver wl wc).2 = 0 := by kernel_rfl
theorem w_new : newE wl wc 1 = 0 := by kernel_rfl
theorem w_run1 : (runN wl 1 6 0 (ctx0 wc [21])).1 = 2 ∧ (runN wl 1 6 0 (ctx0 wc [21])).2.ended = false := ⟨by kernel_rfl, by kernel_rfl⟩
def wx1 : Ctx := (runN wl 1 6 0 (ctx0 wc [21])).2
theorem w_run2 : (runN wl 100 6 0 wx1).1 = 7 ∧ (runN wl 100 6 0 wx1).2.ended = true := ⟨by kernel_rfl, by kernel_rfl⟩
def wx2 : Ctx := (runN wl 100 6 0 wx1).2
theorem w_end : wx2.outs = [42] ∧ wx2.spent = 9 := ⟨by kernel_rfl, by kernel_rfl⟩
theorem w_one : wx1 = stp wl (ctx0 wc [21]) := by kernel_rfl
theorem w_wfx : ∃ A, Wfx wl wc (ver wl wc).1 A (ctx0 wc [21]) ∧ Spo wl (ctx0 wc [21]) ∧ Wfx wl wc (ver wl wc).1 A wx1 ∧ Spo wl wx1 := by
  obtain ⟨A, h1, h2, _⟩ := wfx0 (ins := [21]) w_ver (by rfl)
  refine ⟨A, h1, h2, ?_, ?_⟩
  · rw [w_one]; exact (h1.stp rfl).1
  · rw [w_one]; exact (h2.stp h1 rfl).2.2 (by rw [← w_one]; exact w_run1.2)
end Go.Proofs.Ytlmpoojpbdmmfaa.H
set_option linter.unusedVariables false
set_option linter.unusedSimpArgs false
namespace Go.Proofs.Ytlmpoojpbdmmfaa.H
open Go.RowKit Go.Proofs.YtlmpoojpbdmmfaaW.PrintWords Go.Proofs.YtlmpoojpbdmmfaaW.PrintLast Go.Proofs.YtlmpoojpbdmmfaaW.PrintMore Go.Maps
theorem wl_C {W : World} {g : Nat} {t : TypeId} (h : W.heap[g]? = some (.cells #[.int .u8 4, .int .i64 0, .int .u8 1, .int .i64 2, .int .u8 10, .int .i64 0, .int .u8 5, .int .i64 0, .int .u8 23, .int .i64 0] t (0, 0))) : Kd.C k53 W (some ⟨g, 0, none⟩) wl.length wl := by
  refine ⟨rfl, by decide, fun _ => ⟨_, rfl, fun j p hp => ?_⟩⟩
  show ∃ c : List Value, c.length = 2 ∧ k53.K W p c ∧ ∀ (i : Nat) u, c[i]? = some u → W.cell? ((⟨g, 0, none⟩ : Addr).add (j * 2 + i)) = some u
  rcases j with _ | _ | _ | _ | _ | j
  · cases hp
    refine ⟨[.int .u8 4, .int .i64 0], rfl, ⟨_, _, rfl, rfl, rfl⟩, fun i u hu => ?_⟩
    rcases i with _ | _ | i <;> simp at hu <;> subst hu <;> simp [World.cell?, Addr.add, h]
  · cases hp
    refine ⟨[.int .u8 1, .int .i64 2], rfl, ⟨_, _, rfl, rfl, rfl⟩, fun i u hu => ?_⟩
    rcases i with _ | _ | i <;> simp at hu <;> subst hu <;> simp [World.cell?, Addr.add, h]
  · cases hp
    refine ⟨[.int .u8 10, .int .i64 0], rfl, ⟨_, _, rfl, rfl, rfl⟩, fun i u hu => ?_⟩
    rcases i with _ | _ | i <;> simp at hu <;> subst hu <;> simp [World.cell?, Addr.add, h]
  · cases hp
    refine ⟨[.int .u8 5, .int .i64 0], rfl, ⟨_, _, rfl, rfl, rfl⟩, fun i u hu => ?_⟩
    rcases i with _ | _ | i <;> simp at hu <;> subst hu <;> simp [World.cell?, Addr.add, h]
  · cases hp
    refine ⟨[.int .u8 23, .int .i64 0], rfl, ⟨_, _, rfl, rfl, rfl⟩, fun i u hu => ?_⟩
    rcases i with _ | _ | i <;> simp at hu <;> subst hu <;> simp [World.cell?, Addr.add, h]
  · simp [wl] at hp
theorem w_I {W : World} {g : Nat} {t : TypeId} (h : W.heap[g]? = some (.cells #[.int .i64 21] t (0, 0))) : RdI W (some ⟨g, 0, none⟩) [21] := by
  refine ⟨(fun e => by cases e), fun ad e j y hj => ?_⟩
  cases e
  rcases j with _ | j
  · cases hj
    simp [World.cell?, Addr.add, h]
  · simp at hj
theorem w_new_calls {W : World} {g f : Nat} {t u : TypeId} (h : W.heap[g]? = some (.cells #[.int .u8 4, .int .i64 0, .int .u8 1, .int .i64 2, .int .u8 10, .int .i64 0, .int .u8 5, .int .i64 0, .int .u8 23, .int .i64 0] t (0, 0))) (h2 : W.heap[f]? = some (.cells #[.int .i64 21] u (0, 0))) :
    Calls Try.prog 9 #[.slice (some ⟨g, 0, none⟩) 5 5, .agg #[.int .i64 0, .int .i64 1, .int .i64 1, .int .i64 2], .slice (some ⟨f, 0, none⟩) 1 1] W fun e W' => ∃ b, e = .returned (.tuple #[.pointer (some ⟨b, 0, none⟩), .int .i64 0]) ∧ VMem W' (fun k => W.heap.size ≤ k ∧ k < W'.heap.size) b wc wl (ctx0 wc [21]) ∧ Below W.heap.size W W' :=
  new_calls (cap := 5) (ci := 1) (wl_C h) (by decide) (fun e => by cases e) wc (w_I h2) (fun e => by cases e) w_new
theorem w_run1_calls {W : World} {P : Nat → Prop} {b : Nat} (h : VMem W P b wc wl (ctx0 wc [21])) (hP : ∀ k, P k → k < W.heap.size) :
    Calls Try.prog 18 #[.pointer (some ⟨b, 0, none⟩), .int .i64 1] W fun e W' => e = .returned (.tuple #[.int .i64 2, .bool false, .int .i64 0]) ∧ VMem W' (Zn P W W') b wc wl wx1 ∧ Kept2 W W' P := by
  obtain ⟨A, h1, h2, _, _⟩ := w_wfx
  have hc := run_calls h hP h1 (by decide) rfl h2 (cy := 1) (by decide)
  have e1 : (runN wl 1 (wl.length + 1) 0 (ctx0 wc [21])).1 = 2 := w_run1.1
  have e2 : (runN wl 1 (wl.length + 1) 0 (ctx0 wc [21])).2.ended = false := w_run1.2
  rw [e1, e2] at hc
  exact hc
theorem w_run2_calls {W : World} {P : Nat → Prop} {b : Nat} (h : VMem W P b wc wl wx1) (hP : ∀ k, P k → k < W.heap.size) :
    Calls Try.prog 18 #[.pointer (some ⟨b, 0, none⟩), .int .i64 100] W fun e W' => e = .returned (.tuple #[.int .i64 7, .bool true, .int .i64 0]) ∧ VMem W' (Zn P W W') b wc wl wx2 ∧ Kept2 W W' P := by
  obtain ⟨A, _, _, h1, h2⟩ := w_wfx
  have hc := run_calls h hP h1 (by decide) w_run1.2 h2 (cy := 100) (by decide)
  have e1 : (runN wl 100 (wl.length + 1) 0 wx1).1 = 7 := w_run2.1
  have e2 : (runN wl 100 (wl.length + 1) 0 wx1).2.ended = true := w_run2.2
  rw [e1, e2] at hc
  exact hc
theorem w_outs_calls {W : World} {P : Nat → Prop} {b : Nat} (h : VMem W P b wc wl wx2) : Calls Try.prog 16 #[.pointer (some ⟨b, 0, none⟩)] W fun e W' => (∃ g cap, e = .returned (.tuple #[.slice (some ⟨g, 0, none⟩) 1 cap, .bool true]) ∧ W'.cell? ⟨g, 0, none⟩ = some (.int .i64 42)) ∧ Below W.heap.size W W' := by
  refine (outs_calls h w_run2.2 (by rw [w_end.1]; decide)).mono ?_
  rintro e W' ⟨⟨v, rfl, hi, _⟩, hb⟩
  rw [w_end.1] at hi
  obtain ⟨g, cap, rfl, _, _, hc, _⟩ := hi.cell (i := 0) (by decide)
  exact ⟨⟨g, cap, rfl, hc⟩, hb⟩
set_option maxHeartbeats 8000000 in
set_option maxRecDepth 100000 in
theorem works_calls (W : World) : Calls Try.prog 8 #[] W fun e W' => e = .returned (.bool true) ∧ Below W.heap.size W W' := by
  have hu24 := Try.underlying24
  go_enter Try.func8, Try.ntmps8
  go_wp2_with fail
  generalize hWa : (((W.alloc (Obj.cells #[Value.int IntKind.u8 4, Value.int IntKind.i64 0, Value.int IntKind.u8 1, Value.int IntKind.i64 2, Value.int IntKind.u8 10, Value.int IntKind.i64 0, Value.int IntKind.u8 5, Value.int IntKind.i64 0, Value.int IntKind.u8 23, Value.int IntKind.i64 0] (53 : Nat))).alloc (Obj.cells #[Value.int IntKind.i64 0, Value.int IntKind.i64 1, Value.int IntKind.i64 1, Value.int IntKind.i64 2] (24 : Nat))).alloc (Obj.cells #[Value.int IntKind.i64 21] (2 : Nat))) = Wa
  have Xa : Wa.heap[W.heap.size]? = some (.cells #[Value.int IntKind.u8 4, Value.int IntKind.i64 0, Value.int IntKind.u8 1, Value.int IntKind.i64 2, Value.int IntKind.u8 10, Value.int IntKind.i64 0, Value.int IntKind.u8 5, Value.int IntKind.i64 0, Value.int IntKind.u8 23, Value.int IntKind.i64 0] (53 : Nat) (0, 0)) := by
    rw [← hWa, heap_alloc_old _ _ (by simp; omega), heap_alloc_old _ _ (by simp)]
    exact heap_alloc_new _ _
  have Ya : Wa.heap[W.heap.size + 1 + 1]? = some (.cells #[Value.int IntKind.i64 21] (2 : Nat) (0, 0)) := by
    rw [← hWa]
    have := heap_alloc_new ((W.alloc (Obj.cells #[Value.int IntKind.u8 4, Value.int IntKind.i64 0, Value.int IntKind.u8 1, Value.int IntKind.i64 2, Value.int IntKind.u8 10, Value.int IntKind.i64 0, Value.int IntKind.u8 5, Value.int IntKind.i64 0, Value.int IntKind.u8 23, Value.int IntKind.i64 0] (53 : Nat))).alloc (Obj.cells #[Value.int IntKind.i64 0, Value.int IntKind.i64 1, Value.int IntKind.i64 1, Value.int IntKind.i64 2] (24 : Nat))) (Obj.cells #[Value.int IntKind.i64 21] (2 : Nat))
    simpa using this
  have Ba : Aside0 (Below W.heap.size W Wa ∧ W.heap.size ≤ Wa.heap.size) := ⟨by rw [← hWa]; exact ⟨(((Below.refl _ _).alloc (Nat.le_refl _) _).alloc (by simp) _).alloc (by simp; omega) _, by simp; omega⟩⟩
  clear hWa
  refine (w_new_calls Xa Ya).mono ?_
  clear Xa Ya
  rintro e W2 ⟨b, rfl, hv, hb⟩
  have V2 := Aside0.mk hv
  have B2 : Aside0 (Below W.heap.size W W2 ∧ ∀ k, (Wa.heap.size ≤ k ∧ k < W2.heap.size) → W.heap.size ≤ k) := ⟨Ba.out.1.trans (hb.mono Ba.out.2), fun k hk => Nat.le_trans Ba.out.2 hk.1⟩
  clear hv hb Ba
  go_wp2_with fail
  refine (w_run1_calls V2.out (fun k hk => hk.2)).mono ?_
  rintro e W3 ⟨rfl, hv, hk⟩
  have V3 := Aside0.mk hv
  have B3 : Aside0 (Below W.heap.size W W3 ∧ (∀ k, Zn (fun k => Wa.heap.size ≤ k ∧ k < W2.heap.size) W2 W3 k → W.heap.size ≤ k ∧ k < W3.heap.size)) := ⟨hk.below B2.out.1 B2.out.2, fun k h => by
    have h1 := B2.out.1.size
    have h2 := hk.size
    rcases h with h | h
    · have := B2.out.2 k h; omega
    · omega⟩
  clear hv hk V2 B2
  go_wp2_with fail
  refine (w_run2_calls V3.out (fun k hk => (B3.out.2 k hk).2)).mono ?_
  rintro e W4 ⟨rfl, hv, hk⟩
  have V4 := Aside0.mk hv
  have B4 : Aside0 (Below W.heap.size W W4) := ⟨hk.below B3.out.1 (fun k h => (B3.out.2 k h).1)⟩
  clear hv hk V3 B3
  go_wp2_with fail
  refine (w_outs_calls V4.out).mono ?_
  rintro e W5 ⟨⟨g, cap, rfl, hc⟩, hb⟩
  have V5 := Aside0.mk (V4.out.below hb)
  have B5 : Aside0 (Below W.heap.size W W5) := ⟨B4.out.trans (hb.mono B4.out.size)⟩
  have C5 := Aside0.mk hc
  clear hb hc V4 B4
  go_wp2_with fail
  refine (step_ended V5.out w_run2.2).mono ?_
  rintro e W6 ⟨rfl, hb⟩
  have V6 := Aside0.mk (V5.out.below hb)
  have B6 : Aside0 (Below W.heap.size W W6) := ⟨B5.out.trans (hb.mono B5.out.size)⟩
  have hc := pw_cell_below hb C5.out
  clear hb V5 B5 C5
  go_wp2_with fail
  refine (spent_calls V6.out).mono ?_
  rintro e W7 ⟨rfl, hb⟩
  have B7 : Aside0 (Below W.heap.size W W7) := ⟨B6.out.trans (hb.mono B6.out.size)⟩
  have hsp := w_end.2
  rw [hsp]
  clear hb V6 B6 hc hsp
  go_wp2
  go_ret
  exact ⟨rfl, B7.out⟩
end Go.Proofs.Ytlmpoojpbdmmfaa.H
set_option linter.unusedVariables false
set_option linter.unusedSimpArgs false
namespace Go.Proofs.Ytlmpoojpbdmmfaa.H
open Go.RowKit Go.Proofs.YtlmpoojpbdmmfaaW.PrintWords Go.Proofs.YtlmpoojpbdmmfaaW.PrintLast Go.Proofs.YtlmpoojpbdmmfaaW.PrintMore Go.Maps
/-- A context that a run of verified code may have. -/
structure Rn (l : List S53) (c : Cf) (x : Ctx) : Prop where
  ver : (ver l c).2 = 0
  wf : ∃ m A, Wfx l c m A x ∧ (A 0).h = 0
  sp : x.ended = false → Spo l x
  s0 : 0 ≤ x.spent ∧ x.spent ≤ 2199023255552
section
variable {l : List S53} {c : Cf} {x : Ctx}
theorem ver_mc (h : (ver l c).2 = 0) : (0 ≤ c.slots ∧ c.slots ≤ 512) ∧ (0 ≤ c.reads ∧ c.reads ≤ 64) ∧ (0 ≤ c.writes ∧ c.writes ≤ 64) ∧ (1 ≤ c.stack ∧ c.stack ≤ 256) := by
  obtain ⟨hm, _⟩ := ver_ok h
  simpa [mayC, and_assoc] using hm
theorem Rn.lens (h : Rn l c x) : (x.stack.length ≤ 256 ∧ x.slots.length ≤ 512 ∧ x.ins.length ≤ 64 ∧ x.outs.length ≤ 64) ∧ (0 < l.length ∧ l.length ≤ 4096) ∧ x.at_ < l.length := by
  obtain ⟨_, h0, h1, _⟩ := ver_ok h.ver
  have := ver_mc h.ver
  obtain ⟨m, A, w, _⟩ := h.wf
  have h1 := w.st
  have h2 := w.sl
  have h3 := w.inn
  have h4 := w.ou
  have hk := (w.good x.at_ w.lt).ok
  have := hk.2.2
  refine ⟨⟨?_, ?_, ?_, ?_⟩, ⟨h0, by assumption⟩, w.lt⟩ <;> omega
theorem Rn.start {ins : List Int} (h : (Go.Proofs.Ytlmpoojpbdmmfaa.H.ver l c).2 = 0) (hn : (ins.length : Int) = c.reads) : Rn l c (ctx0 c ins) := by
  obtain ⟨A, h1, h2, _⟩ := wfx0 h hn
  exact ⟨h, ⟨_, A, h1, h1.st.symm⟩, fun _ => h2, by simp [ctx0]⟩
theorem Rn.stp (h : Rn l c x) (he : x.ended = false) : Rn l c (stp l x) ∧ ((Go.Proofs.Ytlmpoojpbdmmfaa.H.stp l x).ended = true ∨ ((Go.Proofs.Ytlmpoojpbdmmfaa.H.stp l x).ended = false ∧ x.at_ < (Go.Proofs.Ytlmpoojpbdmmfaa.H.stp l x).at_)) ∧ x.spent ≤ (Go.Proofs.Ytlmpoojpbdmmfaa.H.stp l x).spent ∧ (Go.Proofs.Ytlmpoojpbdmmfaa.H.stp l x).spent ≤ x.spent + 8 := by
  obtain ⟨m, A, w, w0⟩ := h.wf
  have h1 := w.stp he
  have h2 := (h.sp he).stp w he
  have h3 := cyc_range (rd_T53 l (x.at_ : Int)).f0
  have h4 := stp_spent l x
  exact ⟨⟨h.ver, ⟨m, A, h1.1, w0⟩, h2.2.2, ⟨h2.1, h2.2.1⟩⟩, h1.2, by omega, by omega⟩
theorem Rn.runN {cy : Int} : ∀ (n : Nat) (sum : Int) (x : Ctx), Rn l c x → Rn l c (runN l cy n sum x).2
  | 0, sum, x, h => h
  | n + 1, sum, x, h => by
    rw [Go.Proofs.Ytlmpoojpbdmmfaa.H.runN]
    by_cases e : sum < cy ∧ x.ended = false
    · rw [if_pos e]
      exact Rn.runN n _ _ (h.stp e.2).1
    · rw [if_neg e]
      exact h
theorem runN_end {cy : Int} : ∀ (n : Nat) (sum : Int) (x : Ctx), Rn l c x → l.length + 1 ≤ n + x.at_ → sum + 8 * (n : Int) ≤ cy → 0 < n → (runN l cy n sum x).2.ended = true
  | 0, sum, x, h, h1, h2, h3 => by omega
  | n + 1, sum, x, h, h1, h2, _ => by
    rw [Go.Proofs.Ytlmpoojpbdmmfaa.H.runN]
    cases he : x.ended with
    | true => rw [if_neg (by simp)]; exact he
    | false =>
      rw [if_pos ⟨by omega, rfl⟩]
      obtain ⟨r1, r2, r3, r4⟩ := h.stp he
      have hc := stp_spent l x
      rcases r2 with r2 | ⟨r2, r5⟩
      · have : (runN l cy n (sum + cyc (rd_T53 l (x.at_ : Int)).f0) (Go.Proofs.Ytlmpoojpbdmmfaa.H.stp l x)).2 = Go.Proofs.Ytlmpoojpbdmmfaa.H.stp l x := by rw [runN_stop _ _ _ _ _ (by rw [r2]; simp)]
        rw [this]; exact r2
      · have hl := r1.lens
        exact runN_end n _ _ r1 (by omega) (by omega) (by omega)
end
/-- What a run of so many cycles tells. -/
def res18 (l : List S53) (cy : Int) (x : Ctx) : Int × Bool × Int := if x.ended = true then (0, false, 3) else if cy < 0 then (0, false, 2) else ((runN l cy (l.length + 1) 0 x).1, (runN l cy (l.length + 1) 0 x).2.ended, 0)
def to18 (l : List S53) (cy : Int) (x : Ctx) : Ctx := if x.ended = true then x else if cy < 0 then x else (runN l cy (l.length + 1) 0 x).2
theorem Rn.to18 {l : List S53} {c : Cf} {x : Ctx} (h : Rn l c x) (cy : Int) : Rn l c (to18 l cy x) := by
  unfold Go.Proofs.Ytlmpoojpbdmmfaa.H.to18
  split
  · exact h
  split
  · exact h
  · exact h.runN _ _ _
theorem to18_ended {l : List S53} {c : Cf} {x : Ctx} (h : Rn l c x) : (to18 l 1099511627776 x).ended = true := by
  unfold to18
  have := h.lens
  split
  · assumption
  rw [if_neg (by omega)]
  exact runN_end _ _ _ h (by omega) (by omega) (by omega)
theorem run_full {W : World} {P : Nat → Prop} {b : Nat} {c : Cf} {l : List S53} {x : Ctx} (h : VMem W P b c l x) (hP : ∀ k, P k → k < W.heap.size) (hr : Rn l c x) (cy : Int) :
    Calls Try.prog 18 #[.pointer (some ⟨b, 0, none⟩), .int .i64 cy] W fun e W' => e = .returned (.tuple #[.int .i64 (res18 l cy x).1, .bool (res18 l cy x).2.1, .int .i64 (res18 l cy x).2.2]) ∧ VMem W' (Zn P W W') b c l (to18 l cy x) ∧ Kept2 W W' P := by
  have hl := hr.lens
  by_cases he : x.ended = true
  · have e1 : res18 l cy x = (0, false, 3) := by simp [res18, he]
    have e2 : to18 l cy x = x := by simp [to18, he]
    rw [e1, e2]
    refine (run_ended h he cy).mono ?_
    rintro e W' ⟨rfl, hb⟩
    exact ⟨rfl, (h.below hb).mono (fun k hk => .inl hk), Kept2.of_below hb⟩
  have he' : x.ended = false := by simpa using he
  by_cases hc : cy < 0
  · have e1 : res18 l cy x = (0, false, 2) := by simp [res18, he', hc]
    have e2 : to18 l cy x = x := by simp [to18, he', hc]
    rw [e1, e2]
    refine (run_arg h he' hc).mono ?_
    rintro e W' ⟨rfl, hb⟩
    exact ⟨rfl, (h.below hb).mono (fun k hk => .inl hk), Kept2.of_below hb⟩
  have e1 : res18 l cy x = ((runN l cy (l.length + 1) 0 x).1, (runN l cy (l.length + 1) 0 x).2.ended, 0) := by simp [res18, he', hc]
  have e2 : to18 l cy x = (runN l cy (l.length + 1) 0 x).2 := by simp [to18, he', hc]
  rw [e1, e2]
  obtain ⟨m, A, w, _⟩ := hr.wf
  exact run_calls h hP w hl.2.1.2 he' (hr.sp he') (by omega)
def out16 (x : Ctx) : List Int := if x.ended = true then x.outs else []
theorem outs_full {W : World} {P : Nat → Prop} {b : Nat} {c : Cf} {l : List S53} {x : Ctx} (h : VMem W P b c l x) (hr : Rn l c x) : Calls Try.prog 16 #[.pointer (some ⟨b, 0, none⟩)] W fun e W' => (∃ v', e = .returned (.tuple #[v', .bool x.ended]) ∧ IR W' v' (out16 x) ∧ ∀ k, v'.ownBlock = some k → W.heap.size ≤ k) ∧ Below W.heap.size W W' := by
  have hl := hr.lens
  cases he : x.ended with
  | true =>
    have e : out16 x = x.outs := by simp [out16, he]
    rw [e]
    exact outs_calls h he (by omega)
  | false =>
    have e : out16 x = [] := by simp [out16, he]
    rw [e]
    refine (outs_not h he).mono ?_
    rintro e W' ⟨rfl, hb⟩
    exact ⟨⟨_, rfl, IR.nil _, fun k hk => by cases hk⟩, hb⟩
theorem save_full {W : World} {P : Nat → Prop} {b : Nat} {c : Cf} {l : List S53} {x : Ctx} (h : VMem W P b c l x) (hr : Rn l c x) :
    Calls Try.prog 13 #[.pointer (some ⟨b, 0, none⟩)] W fun e W' => (∃ sv' tv' iv' ov', e = .returned (.tuple #[.agg (cxA x sv' tv' iv' ov'), .int .i64 0]) ∧ CxAt W' W.heap.size x sv' tv' iv' ov') ∧ Below W.heap.size W W' := by
  have hl := hr.lens
  exact save_calls h (by omega) (by omega) (by omega) (by omega)
def res20 (l : List S53) (x : Ctx) : Int × Bool × Int := if x.ended = true then (0, false, 3) else (cyc (rd_T53 l (x.at_ : Int)).f0, (stp l x).ended, 0)
def to20 (l : List S53) (x : Ctx) : Ctx := if x.ended = true then x else stp l x
theorem Rn.to20 {l : List S53} {c : Cf} {x : Ctx} (h : Rn l c x) : Rn l c (to20 l x) := by
  unfold Go.Proofs.Ytlmpoojpbdmmfaa.H.to20
  split
  · exact h
  · rename_i he
    exact (h.stp (by simpa using he)).1
theorem step_full {W : World} {P : Nat → Prop} {b : Nat} {c : Cf} {l : List S53} {x : Ctx} (h : VMem W P b c l x) (hP : ∀ k, P k → k < W.heap.size) (hr : Rn l c x) :
    Calls Try.prog 20 #[.pointer (some ⟨b, 0, none⟩)] W fun e W' => e = .returned (.tuple #[.int .i64 (res20 l x).1, .bool (res20 l x).2.1, .int .i64 (res20 l x).2.2]) ∧ VMem W' (Zn P W W') b c l (to20 l x) ∧ Kept2 W W' P := by
  have hl := hr.lens
  by_cases he : x.ended = true
  · have e1 : res20 l x = (0, false, 3) := by simp [res20, he]
    have e2 : to20 l x = x := by simp [to20, he]
    rw [e1, e2]
    refine (step_ended h he).mono ?_
    rintro e W' ⟨rfl, hb⟩
    exact ⟨rfl, (h.below hb).mono (fun k hk => .inl hk), Kept2.of_below hb⟩
  have he' : x.ended = false := by simpa using he
  have e1 : res20 l x = (cyc (rd_T53 l (x.at_ : Int)).f0, (stp l x).ended, 0) := by simp [res20, he']
  have e2 : to20 l x = stp l x := by simp [to20, he']
  rw [e1, e2]
  obtain ⟨m, A, w, _⟩ := hr.wf
  exact step_calls h hP w.lt hl.2.1.2 he' w.pre hr.s0
end Go.Proofs.Ytlmpoojpbdmmfaa.H
set_option linter.unusedVariables false
set_option linter.unusedSimpArgs false
namespace Go.Proofs.Ytlmpoojpbdmmfaa.H
open Go.RowKit Go.Proofs.YtlmpoojpbdmmfaaW.PrintWords Go.Proofs.YtlmpoojpbdmmfaaW.PrintLast Go.Proofs.YtlmpoojpbdmmfaaW.PrintMore Go.Maps
/-! ### rows -/
theorem R53_rd {W : World} {lo : Nat} {P : Nat → Prop} {v : Value} {l : List S53} (h : Kd.R k53 53 W lo P v l) : ∃ A cap, v = .slice A l.length cap ∧ l.length ≤ cap ∧ (A = none → cap = 0) ∧ Kd.C k53 W A l.length l := by
  obtain ⟨A, cap, he, hc, hC⟩ := Kd.R_reads h
  obtain ⟨inner, ho⟩ := Kd.R_own h
  refine ⟨A, cap, he, hc, fun e => ?_, hC⟩
  rcases ho.2 with ⟨h1, _⟩ | ⟨g, cap', cur, h1, _⟩
  · rw [he] at h1; injection h1
  · rw [he] at h1; injection h1 with h1; rw [e] at h1; cases h1
theorem R53_block {W : World} {lo : Nat} {P : Nat → Prop} {v : Value} {l : List S53} (h : Kd.R k53 53 W lo P v l) (hp : 0 < l.length) : ∃ g cap cur, v = .slice (some ⟨g, 0, none⟩) l.length cap ∧ lo ≤ g ∧ W.heap[g]? = some (.cells cur 53 (0, 0)) ∧ l.length ≤ cap ∧ cur.size = cap * 2 := by
  obtain ⟨inner, ho⟩ := Kd.R_own h
  rcases ho.2 with ⟨_, h1⟩ | ⟨g, cap', cur, h1, h2, h3, h4, _, h5, _⟩
  · omega
  · exact ⟨g, cap', cur, h1, h2, h3, h4, h5⟩
theorem IR_of_R {W : World} {lo : Nat} {P : Nat → Prop} {v : Value} {xs : List Int} (h : Kd.R (Kd.int .i64) 2 W lo P v xs) : IR W v xs ∧ ∀ k, v.ownBlock = some k → lo ≤ k ∧ k < W.heap.size :=
  ⟨own_weaken (Kd.own_of_R h) (Nat.zero_le _), fun k hk => ⟨Kd.R_base h k hk, Kd.R_lt h k hk⟩⟩
theorem IR.C {W : World} {v : Value} {xs : List Int} (h : IR W v xs) : ∃ A cap, v = .slice A xs.length cap ∧ xs.length ≤ cap ∧ (A = none → cap = 0) ∧ Kd.C (Kd.int .i64) W A xs.length xs := by
  have hR : Kd.R (Kd.int .i64) 2 W 0 (fun _ => True) v xs := Kd.R_of_own h (fun _ _ => trivial)
  obtain ⟨A, cap, he, hc, hC⟩ := Kd.R_reads hR
  refine ⟨A, cap, he, hc, fun e => ?_, hC⟩
  rcases h.2 with ⟨h1, _⟩ | ⟨g, cap', cur, h1, _⟩
  · rw [he] at h1; injection h1
  · rw [he] at h1; injection h1 with h1; rw [e] at h1; cases h1
theorem copied_made {A : Option Addr} {cap : Nat} {l : List S53} {w : World} (h : Kd.C k53 w A l.length l) (hc : l.length ≤ cap) (hl : l.length ≤ 200) :
    Calls Try.prog 10 #[.slice A l.length cap] w fun e w' => ∃ v, e = .returned v ∧ Kd.R k53 53 w' w.heap.size (fun _ => True) v l ∧ Below w.heap.size w w' := by
  refine carillonlaw22_copied.calls A cap l l w h hc ?_
  unfold carillonlaw22_copied.f
  rw [if_pos (by simp; omega)]
  simp
theorem numbers_made {A : Option Addr} {cap : Nat} {l : List Int} {w : World} (h : Kd.C (Kd.int .i64) w A l.length l) (hc : l.length ≤ cap) (hl : l.length ≤ 100) :
    Calls Try.prog 11 #[.slice A l.length cap] w fun e w' => ∃ v, e = .returned v ∧ (IR w' v l ∧ ∀ k, v.ownBlock = some k → w.heap.size ≤ k ∧ k < w'.heap.size) ∧ Below w.heap.size w w' := by
  refine (carillonlaw22_numbers.calls A cap l l w h hc ?_).mono ?_
  · unfold carillonlaw22_numbers.f
    rw [if_pos (by simp; omega)]
    simp
  · rintro e w' ⟨v, rfl, hv, hb⟩
    exact ⟨v, rfl, IR_of_R hv, hb⟩
theorem equal_l0 (xs : List Int) (hx : xs.length ≤ 1000000) : ∀ (d i : Nat), d + i = xs.length → carillonlaw22_equal.l0 (d + 1) xs xs (i : Int) = some true
  | 0, i, h => by
    rw [carillonlaw22_equal.l0, if_neg (by omega)]
  | d + 1, i, h => by
    rw [carillonlaw22_equal.l0, if_pos (by omega), if_pos (by omega), if_pos (by omega), if_pos rfl]
    have e : wrap64 ((i : Int) + 1) = ((i + 1 : Nat) : Int) := by unfold wrap64; omega
    rw [e]
    exact equal_l0 xs hx d (i + 1) (by omega)
theorem equal_same {v v' : Value} {xs : List Int} {w : World} (h : IR w v xs) (h' : IR w v' xs) (hx : xs.length ≤ 1000000) :
    Calls Try.prog 17 #[v, v'] w fun e w' => e = .returned (.bool true) ∧ Below w.heap.size w w' := by
  obtain ⟨A, c, rfl, hc, _, hC⟩ := h.C
  obtain ⟨A', c', rfl, hc', _, hC'⟩ := h'.C
  refine (carillonlaw22_equal.calls (xs.length + 1) A c xs A' c' xs true w hC hc hC' hc' ?_).mono ?_
  · unfold carillonlaw22_equal.f
    rw [if_pos rfl]
    exact equal_l0 xs hx xs.length 0 (by omega)
  · rintro e w' ⟨rfl, hd⟩
    exact ⟨rfl, hd.below⟩
/-! ### two runs -/
structure Two (w wr : World) (c : Cf) (l : List S53) (bv bw : Nat) (xv xw : Ctx) (Pv Pw F : Nat → Prop) : Prop where
  mv : VMem wr Pv bv c l xv
  mw : VMem wr Pw bw c l xw
  ap : ∀ k, Pv k → ¬ Pw k
  fv : ∀ k, F k → ¬ Pv k ∧ ¬ Pw k
  lv : ∀ k, Pv k → w.heap.size ≤ k ∧ k < wr.heap.size
  lw : ∀ k, Pw k → w.heap.size ≤ k ∧ k < wr.heap.size
  lf : ∀ k, F k → w.heap.size ≤ k ∧ k < wr.heap.size
  bel : Below w.heap.size w wr
section
variable {w wr W' : World} {c : Cf} {l : List S53} {bv bw : Nat} {xv xw x' : Ctx} {Pv Pw F : Nat → Prop}
theorem Two.run1 (h : Two w wr c l bv bw xv xw Pv Pw F) (hv : VMem W' (Zn Pv wr W') bv c l x') (hk : Kept2 wr W' Pv) : Two w W' c l bv bw x' xw (Zn Pv wr W') Pw F := by
  have hs := hk.size
  refine ⟨hv, h.mw.other hk (fun k h1 _ h2 => h.ap k h2 h1), fun k h1 h2 => ?_, fun k hf => ⟨fun h1 => ?_, (h.fv k hf).2⟩, fun k h1 => ?_, fun k h1 => ?_, fun k h1 => ?_, hk.below h.bel (fun k h1 => (h.lv k h1).1)⟩
  · have := h.lw k h2
    rcases h1 with h1 | h1
    · exact h.ap k h1 h2
    · omega
  · have := h.lf k hf
    rcases h1 with h1 | h1
    · exact (h.fv k hf).1 h1
    · omega
  · have := h.bel.size
    rcases h1 with h1 | h1
    · have := h.lv k h1; omega
    · omega
  · have := h.lw k h1; omega
  · have := h.lf k h1; omega
theorem Two.run2 (h : Two w wr c l bv bw xv xw Pv Pw F) (hv : VMem W' (Zn Pw wr W') bw c l x') (hk : Kept2 wr W' Pw) : Two w W' c l bv bw xv x' Pv (Zn Pw wr W') F := by
  have hs := hk.size
  refine ⟨h.mv.other hk (fun k h1 _ h2 => h.ap k h1 h2), hv, fun k h1 h2 => ?_, fun k hf => ⟨(h.fv k hf).1, fun h1 => ?_⟩, fun k h1 => ?_, fun k h1 => ?_, fun k h1 => ?_, hk.below h.bel (fun k h1 => (h.lw k h1).1)⟩
  · have := h.lv k h1
    rcases h2 with h2 | h2
    · exact h.ap k h1 h2
    · omega
  · have := h.lf k hf
    rcases h1 with h1 | h1
    · exact (h.fv k hf).2 h1
    · omega
  · have := h.lv k h1; omega
  · have := h.bel.size
    rcases h1 with h1 | h1
    · have := h.lw k h1; omega
    · omega
  · have := h.lf k h1; omega
theorem Two.keep1 (h : Two w wr c l bv bw xv xw Pv Pw F) (hk : Kept2 wr W' Pv) {k : Nat} (hf : F k) : W'.heap[k]? = wr.heap[k]? := hk.block k (h.lf k hf).2 (h.fv k hf).1
theorem Two.keep2 (h : Two w wr c l bv bw xv xw Pv Pw F) (hk : Kept2 wr W' Pw) {k : Nat} (hf : F k) : W'.heap[k]? = wr.heap[k]? := hk.block k (h.lf k hf).2 (h.fv k hf).2
/-- What is made anew is of neither. -/
theorem Two.more (h : Two w wr c l bv bw xv xw Pv Pw F) (hb : Below wr.heap.size wr W') : Two w W' c l bv bw xv xw Pv Pw (fun k => F k ∨ (wr.heap.size ≤ k ∧ k < W'.heap.size)) := by
  have hs := hb.size
  have hs0 := h.bel.size
  refine ⟨h.mv.below hb, h.mw.below hb, h.ap, fun k hf => ?_, fun k h1 => ?_, fun k h1 => ?_, fun k h1 => ?_, h.bel.trans (hb.mono hs0)⟩
  · rcases hf with hf | hf
    · exact h.fv k hf
    · refine ⟨fun h1 => ?_, fun h1 => ?_⟩
      · have := h.lv k h1; omega
      · have := h.lw k h1; omega
  · have := h.lv k h1; omega
  · have := h.lw k h1; omega
  · rcases h1 with h1 | h1
    · have := h.lf k h1; omega
    · omega
theorem Two.below (h : Two w wr c l bv bw xv xw Pv Pw F) (hb : Below wr.heap.size wr W') : Two w W' c l bv bw xv xw Pv Pw F := by
  have g := h.more hb
  exact ⟨g.mv, g.mw, g.ap, fun k hf => g.fv k (.inl hf), g.lv, g.lw, fun k hf => g.lf k (.inl hf), g.bel⟩
/-- A block that is of neither has turned. -/
theorem Two.put (h : Two w wr c l bv bw xv xw Pv Pw F) {g : Nat} (hg : F g) (hk : Kept2 wr W' (fun k => k = g)) : Two w W' c l bv bw xv xw Pv Pw F := by
  have hs := hk.size
  refine ⟨h.mv.other hk (fun k h1 _ h2 => (h.fv g hg).1 (h2 ▸ h1)), h.mw.other hk (fun k h1 _ h2 => (h.fv g hg).2 (h2 ▸ h1)), h.ap, h.fv, fun k h1 => ?_, fun k h1 => ?_, fun k h1 => ?_, hk.below h.bel (fun k h1 => h1 ▸ (h.lf g hg).1)⟩
  · have := h.lv k h1; omega
  · have := h.lw k h1; omega
  · have := h.lf k h1; omega
theorem Two.free (h : Two w wr c l bv bw xv xw Pv Pw F) {F' : Nat → Prop} (hf : ∀ k, F' k → F k) : Two w wr c l bv bw xv xw Pv Pw F' := ⟨h.mv, h.mw, h.ap, fun k hk => h.fv k (hf k hk), h.lv, h.lw, fun k hk => h.lf k (hf k hk), h.bel⟩
end
theorem kept_cell (W : World) (g j : Nat) (u : Value) : Kept2 W (W.setCell ⟨g, j, none⟩ u) (fun k => k = g) := ⟨rfl, rfl, rfl, by simp [World.setCell], fun k _ hn => Below.heap_setCell W ⟨g, j, none⟩ u k hn⟩
theorem kept_setRow (W : World) (g : Nat) (cs : Array Value) : Kept2 W (W.setRow g cs) (fun k => k = g) := ⟨rfl, rfl, rfl, by simp, fun k _ hn => setRow_other W g k cs hn⟩
theorem kept_two (W : World) (g j : Nat) (u u' : Value) : Kept2 W (W.setCells g j [u, u']) (fun k => k = g) := by
  have h1 := kept_cell W g j u
  have h2 := kept_cell (W.setCell ⟨g, j, none⟩ u) g (j + 1) u'
  exact ⟨rfl, rfl, rfl, Nat.le_trans h1.size h2.size, fun k hk hn => (h2.block k (Nat.lt_of_lt_of_le hk h1.size) hn).trans (h1.block k hk hn)⟩
theorem at_two {W : World} {g : Nat} {cur : Array Value} {n i : Nat} (h : W.heap[g]? = some (.cells cur 53 (0, 0))) (hs : cur.size = n * 2) (hi : i < n) : W.there g (i * 2) 2 := by
  intro j hj
  have : i * 2 + j < cur.size := by omega
  refine ⟨?_, by simp [World.frozen?, h]⟩
  simp [World.cell?, h, this]
theorem at_two2 {W : World} {g : Nat} {cur : Array Value} {n i : Nat} (h : W.heap[g]? = some (.cells cur 53 (0, 0))) (hs : cur.size = n * 2) (hi : i < n) : (∃ u, W.cell? ⟨g, i * 2, none⟩ = some u) ∧ (∃ u, W.cell? ⟨g, i * 2 + 1, none⟩ = some u) ∧ W.frozen? ⟨g, i * 2, none⟩ = false ∧ W.frozen? ⟨g, i * 2 + 1, none⟩ = false := by
  have h0 : i * 2 < cur.size := by omega
  have h1 : i * 2 + 1 < cur.size := by omega
  refine ⟨⟨cur[i * 2], by simp [World.cell?, h, h0]⟩, ⟨cur[i * 2 + 1], by simp [World.cell?, h, h1]⟩, by simp [World.frozen?, h], by simp [World.frozen?, h]⟩
theorem two_put {W : World} {g : Nat} {cur : Array Value} (h : W.heap[g]? = some (.cells cur 53 (0, 0))) (i : Nat) (u u' : Value) : (W.setCells g i [u, u']).heap[g]? = some (.cells ((cur.setIfInBounds i u).setIfInBounds (i + 1) u') 53 (0, 0)) := by
  simp [World.setCells, World.setCell, Array.getElem?_modify, h]
end Go.Proofs.Ytlmpoojpbdmmfaa.H
set_option linter.unusedVariables false
set_option linter.unusedSimpArgs false
namespace Go.Proofs.Ytlmpoojpbdmmfaa.H
open Go.RowKit Go.Proofs.YtlmpoojpbdmmfaaW.PrintWords Go.Proofs.YtlmpoojpbdmmfaaW.PrintLast Go.Proofs.YtlmpoojpbdmmfaaW.PrintMore Go.Maps
/-- What New has made. -/
def NewIs (W W' : World) (pv : Option Addr) (l : List S53) (c : Cf) (ins : List Int) : Prop :=
  (newE l c ins.length ≠ 0 → pv = none) ∧ (newE l c ins.length = 0 → ∃ b, pv = some ⟨b, 0, none⟩ ∧ VMem W' (fun k => W.heap.size ≤ k ∧ k < W'.heap.size) b c l (ctx0 c ins) ∧ Rn l c (ctx0 c ins))
theorem newE_ok {l : List S53} {c : Cf} {n : Nat} (h : newE l c n = 0) : (ver l c).2 = 0 ∧ (n : Int) = c.reads := by
  unfold newE at h
  by_cases h1 : (ver l c).2 ≠ 0
  · rw [if_pos h1] at h; exact absurd h h1
  · rw [if_neg h1] at h
    by_cases h2 : (n : Int) ≠ c.reads
    · rw [if_pos h2] at h; simp at h
    · exact ⟨by simpa using h1, by simpa using h2⟩
theorem new_any {W : World} {v iv : Value} {l : List S53} {ins : List Int} {c : Cf} (h : ∃ A cap, v = .slice A l.length cap ∧ l.length ≤ cap ∧ (A = none → cap = 0) ∧ Kd.C k53 W A l.length l) (hI : IR W iv ins) :
    Calls Try.prog 9 #[v, .agg #[.int .i64 c.slots, .int .i64 c.reads, .int .i64 c.writes, .int .i64 c.stack], iv] W fun e W' => ∃ pv, e = .returned (.tuple #[.pointer pv, .int .i64 (newE l c ins.length)]) ∧ NewIs W W' pv l c ins ∧ Below W.heap.size W W' := by
  obtain ⟨A, cap, rfl, hcap, hA, hC⟩ := h
  obtain ⟨Ai, ci, rfl, hci, hRd, hAi⟩ := hI.rd
  by_cases he : newE l c ins.length = 0
  · rw [he]
    refine (new_calls hC hcap hA c hRd hAi he).mono ?_
    rintro e W' ⟨b, rfl, hv, hb⟩
    obtain ⟨h1, h2⟩ := newE_ok he
    exact ⟨_, rfl, ⟨fun hn => absurd he hn, fun _ => ⟨b, rfl, hv, Rn.start h1 h2⟩⟩, hb⟩
  · refine (new_err hC hcap c Ai ins.length ci he).mono ?_
    rintro e W' ⟨rfl, hb⟩
    exact ⟨none, rfl, ⟨fun _ => rfl, fun h0 => absurd h0 he⟩, hb⟩
theorem cf_load {w : World} {g : Nat} {x0 x1 x2 x3 : Int} (h : w.heap[g]? = some (.cells #[.int .i64 x0, .int .i64 x1, .int .i64 x2, .int .i64 x3] 24 (0, 0))) :
    (Instr.loadAt 24 (.pointer (some ⟨g, 0, none⟩))).run Try.prog w = .ok (.agg #[.int .i64 x0, .int .i64 x1, .int .i64 x2, .int .i64 x3]) w := by
  obtain ⟨fs, hu⟩ : ∃ fs, Try.prog.underlying 24 = some (.struct fs) := ⟨_, Try.underlying24⟩
  have := run_loadAt_mid (P := Try.prog) w g 0 24 [.int .i64 x0, .int .i64 x1, .int .i64 x2, .int .i64 x3] (.struct fs) (fun j v hv => by
    rcases j with _ | _ | _ | _ | j
    · cases hv; simp [World.cell?, h]
    · cases hv; simp [World.cell?, h]
    · cases hv; simp [World.cell?, h]
    · cases hv; simp [World.cell?, h]
    · simp at hv) hu rfl (by kernel_rfl)
  exact this
theorem wpList_cfload {ops : Array Oper} {rest : List Oper} {op : Oper} {a : Act} {w : World} {Q : Exit → Act → World → Prop} (hgd : op.guard = none) (x : Operand) (ho : op.op = .load 24 x) {g : Nat} (hx : a.eval x = .pointer (some ⟨g, 0, none⟩)) {x0 x1 x2 x3 : Int}
    (hb : w.heap[g]? = some (.cells #[.int .i64 x0, .int .i64 x1, .int .i64 x2, .int .i64 x3] 24 (0, 0))) (h : wpList Try.prog ops Q rest (a.put op.dst (.agg #[.int .i64 x0, .int .i64 x1, .int .i64 x2, .int .i64 x3])) w) : wpList Try.prog ops Q (op :: rest) a w := by
  refine wpList_plain hgd fun _ hK => ?_
  unfold Oper.wp execOp
  simp only [ho, hx, Sem.run_bind, Result.andThen_ok, cf_load hb]
  exact hK _ _ h
theorem IR.below {W W' : World} {v : Value} {xs : List Int} (h : IR W v xs) (hb : Below W.heap.size W W') : IR W' v xs := h.move (fun k hk => hb.block k (h.lt hk))
theorem cx_cells {W : World} {g : Nat} {x : Ctx} {sv tv iv ov : Value} (h : W.heap[g]? = some (.cells (cxA x sv tv iv ov) 37 (0, 0))) : W.cell? ⟨g, 1, none⟩ = some sv ∧ W.cell? ⟨g, 2, none⟩ = some tv := by simp [World.cell?, h, cxA]
theorem cx_keep {W : World} {bx g j : Nat} {u : Value} {cs : Array Value} (h : W.heap[bx]? = some (.cells cs 37 (0, 0))) {v : Value} {xs : List Int} (hv : IR W v xs) (hg : v.ownBlock = some g) : (W.setCell ⟨g, j, none⟩ u).heap[bx]? = some (.cells cs 37 (0, 0)) := by
  refine (Below.heap_setCell W ⟨g, j, none⟩ u bx (fun e => ?_)).trans h
  obtain ⟨cs', hc⟩ := hv.typed hg
  have e' : bx = g := e
  rw [← e', h] at hc
  simp at hc
theorem IR.other {W : World} {g j : Nat} {u v v' : Value} {xs : List Int} (h : IR W v' xs) (hg : v.ownBlock = some g) (ap : ∀ k, v.ownBlock = some k → v'.ownBlock ≠ some k) : IR (W.setCell ⟨g, j, none⟩ u) v' xs :=
  h.move (fun k hk => Below.heap_setCell W ⟨g, j, none⟩ u k (fun e => ap g hg (by rw [hk]; exact congrArg some e)))
/-- The lists that a region of two copies leaves. -/
def NR (w' W3 : World) (l : List S53) (xs : List Int) (v v' : Value) : Prop := (∃ A cap, v = .slice A l.length cap ∧ l.length ≤ cap ∧ (A = none → cap = 0) ∧ Kd.C k53 w' A l.length l) ∧ IR w' v' xs ∧ Below W3.heap.size W3 w'
end Go.Proofs.Ytlmpoojpbdmmfaa.H
