/- Part 12 of the proof of the law L. The conditions: none. (Its parts: Two22 Hx7.) -/
import Derived.Laws.MakeOwn
import Derived.Test.YtlmpoojpbdmmfaaKL02
import Derived.Test.YtlmpoojpbdmmfaaKL03
import Derived.Test.YtlmpoojpbdmmfaaKL08
import Derived.Test.YtlmpoojpbdmmfaaKL10
import Derived.Test.YtlmpoojpbdmmfaaKL11
section
set_option linter.unusedVariables false
set_option linter.unusedSimpArgs false
namespace Go.Proofs.Ytlmpoojpbdmmfaa.H
open Go.RowKit Go.Proofs.YtlmpoojpbdmmfaaW.PrintWords
theorem wfx0 {l : List S53} {c : Cf} {ins : List Int} (h : (ver l c).2 = 0) (hn : (ins.length : Int) = c.reads) : ∃ A, Wfx l c (ver l c).1 A (ctx0 c ins) ∧ Spo l (ctx0 c ins) ∧ l.length ≤ 4096 := by
  obtain ⟨hm, hl0, hl1, _⟩ := ver_ok h
  obtain ⟨A, hg, hle⟩ := ver_good h
  have hmc : (0 ≤ c.slots ∧ c.slots ≤ 512) ∧ (0 ≤ c.reads ∧ c.reads ≤ 64) ∧ (0 ≤ c.writes ∧ c.writes ≤ 64) ∧ (1 ≤ c.stack ∧ c.stack ≤ 256) := by simpa [mayC, and_assoc] using hm
  refine ⟨A, ⟨hg, hl0, ?_, ?_, hn, ?_, fun he => by cases he⟩, ⟨Int.le_refl _, ?_⟩, hl1⟩
  · have := hle.1
    simp [ctx0, st0] at this ⊢
    omega
  · simp [ctx0]; omega
  · simp [ctx0]; omega
  · simp [ctx0]; omega
def wl : List S53 := [⟨4, 0⟩, ⟨1, 2⟩, ⟨10, 0⟩, ⟨5, 0⟩, ⟨23, 0⟩]
def wc : Cf := ⟨0, 1, 1, 2⟩
theorem w_ver : (ver wl wc).2 = 0 := by kernel_rfl
theorem w_new : newE wl wc 1 = 0 := by kernel_rfl
theorem w_run1 : (runN wl 1 6 0 (ctx0 wc [21])).1 = 2 ∧ (runN wl 1 6 0 (ctx0 wc [21])).2.ended = false := ⟨by kernel_rfl, by kernel_rfl⟩
def wx1 : Ctx := (runN wl 1 6 0 (ctx0 wc [21])).2
theorem w_run2 : (runN wl 100 6 0 wx1).1 = 7 ∧ (runN wl 100 6 0 wx1).2.ended = true := ⟨by kernel_rfl, by kernel_rfl⟩
def wx2 : Ctx := (runN wl 100 6 0 wx1).2
theorem w_end : wx2.outs = [42] ∧ wx2.spent = 9 := ⟨by kernel_rfl, by kernel_rfl⟩
theorem w_one : wx1 = stp wl (ctx0 wc [21]) := by kernel_rfl
theorem w_wfx : ∃ A, Wfx wl wc (ver wl wc).1 A (ctx0 wc [21]) ∧ Spo wl (ctx0 wc [21]) ∧ Wfx wl wc (ver wl wc).1 A wx1 ∧ Spo wl wx1 := by
  obtain ⟨A, h1, h2, _⟩ := wfx0 (ins := [21]) w_ver (by rfl)
  refine ⟨A, h1, h2, ?_, ?_⟩
  · rw [w_one]; exact (h1.stp rfl).1
  · rw [w_one]; exact (h2.stp h1 rfl).2.2 (by rw [← w_one]; exact w_run1.2)
end Go.Proofs.Ytlmpoojpbdmmfaa.H
set_option linter.unusedVariables false
set_option linter.unusedSimpArgs false
namespace Go.Proofs.Ytlmpoojpbdmmfaa.H
open Go.RowKit Go.Proofs.YtlmpoojpbdmmfaaW.PrintWords Go.Proofs.YtlmpoojpbdmmfaaW.PrintLast Go.Proofs.YtlmpoojpbdmmfaaW.PrintMore Go.Maps
theorem wl_C {W : World} {g : Nat} {t : TypeId} (h : W.heap[g]? = some (.cells #[.int .u8 4, .int .i64 0, .int .u8 1, .int .i64 2, .int .u8 10, .int .i64 0, .int .u8 5, .int .i64 0, .int .u8 23, .int .i64 0] t (0, 0))) : Kd.C k53 W (some ⟨g, 0, none⟩) wl.length wl := by
  refine ⟨rfl, by decide, fun _ => ⟨_, rfl, fun j p hp => ?_⟩⟩
  show ∃ c : List Value, c.length = 2 ∧ k53.K W p c ∧ ∀ (i : Nat) u, c[i]? = some u → W.cell? ((⟨g, 0, none⟩ : Addr).add (j * 2 + i)) = some u
  rcases j with _ | _ | _ | _ | _ | j
  · cases hp
    refine ⟨[.int .u8 4, .int .i64 0], rfl, ⟨_, _, rfl, rfl, rfl⟩, fun i u hu => ?_⟩
    rcases i with _ | _ | i <;> simp at hu <;> subst hu <;> simp [World.cell?, Addr.add, h]
  · cases hp
    refine ⟨[.int .u8 1, .int .i64 2], rfl, ⟨_, _, rfl, rfl, rfl⟩, fun i u hu => ?_⟩
    rcases i with _ | _ | i <;> simp at hu <;> subst hu <;> simp [World.cell?, Addr.add, h]
  · cases hp
    refine ⟨[.int .u8 10, .int .i64 0], rfl, ⟨_, _, rfl, rfl, rfl⟩, fun i u hu => ?_⟩
    rcases i with _ | _ | i <;> simp at hu <;> subst hu <;> simp [World.cell?, Addr.add, h]
  · cases hp
    refine ⟨[.int .u8 5, .int .i64 0], rfl, ⟨_, _, rfl, rfl, rfl⟩, fun i u hu => ?_⟩
    rcases i with _ | _ | i <;> simp at hu <;> subst hu <;> simp [World.cell?, Addr.add, h]
  · cases hp
    refine ⟨[.int .u8 23, .int .i64 0], rfl, ⟨_, _, rfl, rfl, rfl⟩, fun i u hu => ?_⟩
    rcases i with _ | _ | i <;> simp at hu <;> subst hu <;> simp [World.cell?, Addr.add, h]
  · simp [wl] at hp
theorem w_I {W : World} {g : Nat} {t : TypeId} (h : W.heap[g]? = some (.cells #[.int .i64 21] t (0, 0))) : RdI W (some ⟨g, 0, none⟩) [21] := by
  refine ⟨(fun e => by cases e), fun ad e j y hj => ?_⟩
  cases e
  rcases j with _ | j
  · cases hj
    simp [World.cell?, Addr.add, h]
  · simp at hj
theorem w_new_calls {W : World} {g f : Nat} {t u : TypeId} (h : W.heap[g]? = some (.cells #[.int .u8 4, .int .i64 0, .int .u8 1, .int .i64 2, .int .u8 10, .int .i64 0, .int .u8 5, .int .i64 0, .int .u8 23, .int .i64 0] t (0, 0))) (h2 : W.heap[f]? = some (.cells #[.int .i64 21] u (0, 0))) :
    Calls Try.prog 9 #[.slice (some ⟨g, 0, none⟩) 5 5, .agg #[.int .i64 0, .int .i64 1, .int .i64 1, .int .i64 2], .slice (some ⟨f, 0, none⟩) 1 1] W fun e W' => ∃ b, e = .returned (.tuple #[.pointer (some ⟨b, 0, none⟩), .int .i64 0]) ∧ VMem W' (fun k => W.heap.size ≤ k ∧ k < W'.heap.size) b wc wl (ctx0 wc [21]) ∧ Below W.heap.size W W' :=
  new_calls (cap := 5) (ci := 1) (wl_C h) (by decide) (fun e => by cases e) wc (w_I h2) (fun e => by cases e) w_new
theorem w_run1_calls {W : World} {P : Nat → Prop} {b : Nat} (h : VMem W P b wc wl (ctx0 wc [21])) (hP : ∀ k, P k → k < W.heap.size) :
    Calls Try.prog 18 #[.pointer (some ⟨b, 0, none⟩), .int .i64 1] W fun e W' => e = .returned (.tuple #[.int .i64 2, .bool false, .int .i64 0]) ∧ VMem W' (Zn P W W') b wc wl wx1 ∧ Kept2 W W' P := by
  obtain ⟨A, h1, h2, _, _⟩ := w_wfx
  have hc := run_calls h hP h1 (by decide) rfl h2 (cy := 1) (by decide)
  have e1 : (runN wl 1 (wl.length + 1) 0 (ctx0 wc [21])).1 = 2 := w_run1.1
  have e2 : (runN wl 1 (wl.length + 1) 0 (ctx0 wc [21])).2.ended = false := w_run1.2
  rw [e1, e2] at hc
  exact hc
theorem w_run2_calls {W : World} {P : Nat → Prop} {b : Nat} (h : VMem W P b wc wl wx1) (hP : ∀ k, P k → k < W.heap.size) :
    Calls Try.prog 18 #[.pointer (some ⟨b, 0, none⟩), .int .i64 100] W fun e W' => e = .returned (.tuple #[.int .i64 7, .bool true, .int .i64 0]) ∧ VMem W' (Zn P W W') b wc wl wx2 ∧ Kept2 W W' P := by
  obtain ⟨A, _, _, h1, h2⟩ := w_wfx
  have hc := run_calls h hP h1 (by decide) w_run1.2 h2 (cy := 100) (by decide)
  have e1 : (runN wl 100 (wl.length + 1) 0 wx1).1 = 7 := w_run2.1
  have e2 : (runN wl 100 (wl.length + 1) 0 wx1).2.ended = true := w_run2.2
  rw [e1, e2] at hc
  exact hc
theorem w_outs_calls {W : World} {P : Nat → Prop} {b : Nat} (h : VMem W P b wc wl wx2) : Calls Try.prog 16 #[.pointer (some ⟨b, 0, none⟩)] W fun e W' => (∃ g cap, e = .returned (.tuple #[.slice (some ⟨g, 0, none⟩) 1 cap, .bool true]) ∧ W'.cell? ⟨g, 0, none⟩ = some (.int .i64 42)) ∧ Below W.heap.size W W' := by
  refine (outs_calls h w_run2.2 (by rw [w_end.1]; decide)).mono ?_
  rintro e W' ⟨⟨v, rfl, hi, _⟩, hb⟩
  rw [w_end.1] at hi
  obtain ⟨g, cap, rfl, _, _, hc, _⟩ := hi.cell (i := 0) (by decide)
  exact ⟨⟨g, cap, rfl, hc⟩, hb⟩
set_option maxHeartbeats 8000000 in
set_option maxRecDepth 100000 in
theorem works_calls (W : World) : Calls Try.prog 8 #[] W fun e W' => e = .returned (.bool true) ∧ Below W.heap.size W W' := by
  have hu24 := Try.underlying24
  go_enter Try.func8, Try.ntmps8
  go_wp2_with fail
  generalize hWa : (((W.alloc (Obj.cells #[Value.int IntKind.u8 4, Value.int IntKind.i64 0, Value.int IntKind.u8 1, Value.int IntKind.i64 2, Value.int IntKind.u8 10, Value.int IntKind.i64 0, Value.int IntKind.u8 5, Value.int IntKind.i64 0, Value.int IntKind.u8 23, Value.int IntKind.i64 0] (53 : Nat))).alloc (Obj.cells #[Value.int IntKind.i64 0, Value.int IntKind.i64 1, Value.int IntKind.i64 1, Value.int IntKind.i64 2] (24 : Nat))).alloc (Obj.cells #[Value.int IntKind.i64 21] (2 : Nat))) = Wa
  have Xa : Wa.heap[W.heap.size]? = some (.cells #[Value.int IntKind.u8 4, Value.int IntKind.i64 0, Value.int IntKind.u8 1, Value.int IntKind.i64 2, Value.int IntKind.u8 10, Value.int IntKind.i64 0, Value.int IntKind.u8 5, Value.int IntKind.i64 0, Value.int IntKind.u8 23, Value.int IntKind.i64 0] (53 : Nat) (0, 0)) := by
    rw [← hWa, heap_alloc_old _ _ (by simp; omega), heap_alloc_old _ _ (by simp)]
    exact heap_alloc_new _ _
  have Ya : Wa.heap[W.heap.size + 1 + 1]? = some (.cells #[Value.int IntKind.i64 21] (2 : Nat) (0, 0)) := by
    rw [← hWa]
    have := heap_alloc_new ((W.alloc (Obj.cells #[Value.int IntKind.u8 4, Value.int IntKind.i64 0, Value.int IntKind.u8 1, Value.int IntKind.i64 2, Value.int IntKind.u8 10, Value.int IntKind.i64 0, Value.int IntKind.u8 5, Value.int IntKind.i64 0, Value.int IntKind.u8 23, Value.int IntKind.i64 0] (53 : Nat))).alloc (Obj.cells #[Value.int IntKind.i64 0, Value.int IntKind.i64 1, Value.int IntKind.i64 1, Value.int IntKind.i64 2] (24 : Nat))) (Obj.cells #[Value.int IntKind.i64 21] (2 : Nat))
    simpa using this
  have Ba : Aside0 (Below W.heap.size W Wa ∧ W.heap.size ≤ Wa.heap.size) := ⟨by rw [← hWa]; exact ⟨(((Below.refl _ _).alloc (Nat.le_refl _) _).alloc (by simp) _).alloc (by simp; omega) _, by simp; omega⟩⟩
  clear hWa
  refine (w_new_calls Xa Ya).mono ?_
  clear Xa Ya
  rintro e W2 ⟨b, rfl, hv, hb⟩
  have V2 := Aside0.mk hv
  have B2 : Aside0 (Below W.heap.size W W2 ∧ ∀ k, (Wa.heap.size ≤ k ∧ k < W2.heap.size) → W.heap.size ≤ k) := ⟨Ba.out.1.trans (hb.mono Ba.out.2), fun k hk => Nat.le_trans Ba.out.2 hk.1⟩
  clear hv hb Ba
  go_wp2_with fail
  refine (w_run1_calls V2.out (fun k hk => hk.2)).mono ?_
  rintro e W3 ⟨rfl, hv, hk⟩
  have V3 := Aside0.mk hv
  have B3 : Aside0 (Below W.heap.size W W3 ∧ (∀ k, Zn (fun k => Wa.heap.size ≤ k ∧ k < W2.heap.size) W2 W3 k → W.heap.size ≤ k ∧ k < W3.heap.size)) := ⟨hk.below B2.out.1 B2.out.2, fun k h => by
    have h1 := B2.out.1.size
    have h2 := hk.size
    rcases h with h | h
    · have := B2.out.2 k h; omega
    · omega⟩
  clear hv hk V2 B2
  go_wp2_with fail
  refine (w_run2_calls V3.out (fun k hk => (B3.out.2 k hk).2)).mono ?_
  rintro e W4 ⟨rfl, hv, hk⟩
  have V4 := Aside0.mk hv
  have B4 : Aside0 (Below W.heap.size W W4) := ⟨hk.below B3.out.1 (fun k h => (B3.out.2 k h).1)⟩
  clear hv hk V3 B3
  go_wp2_with fail
  refine (w_outs_calls V4.out).mono ?_
  rintro e W5 ⟨⟨g, cap, rfl, hc⟩, hb⟩
  have V5 := Aside0.mk (V4.out.below hb)
  have B5 : Aside0 (Below W.heap.size W W5) := ⟨B4.out.trans (hb.mono B4.out.size)⟩
  have C5 := Aside0.mk hc
  clear hb hc V4 B4
  go_wp2_with fail
  refine (step_ended V5.out w_run2.2).mono ?_
  rintro e W6 ⟨rfl, hb⟩
  have V6 := Aside0.mk (V5.out.below hb)
  have B6 : Aside0 (Below W.heap.size W W6) := ⟨B5.out.trans (hb.mono B5.out.size)⟩
  have hc := pw_cell_below hb C5.out
  clear hb V5 B5 C5
  go_wp2_with fail
  refine (spent_calls V6.out).mono ?_
  rintro e W7 ⟨rfl, hb⟩
  have B7 : Aside0 (Below W.heap.size W W7) := ⟨B6.out.trans (hb.mono B6.out.size)⟩
  have hsp := w_end.2
  rw [hsp]
  clear hb V6 B6 hc hsp
  go_wp2
  go_ret
  exact ⟨rfl, B7.out⟩
end Go.Proofs.Ytlmpoojpbdmmfaa.H
set_option linter.unusedVariables false
set_option linter.unusedSimpArgs false
namespace Go.Proofs.Ytlmpoojpbdmmfaa.H
open Go.RowKit Go.Proofs.YtlmpoojpbdmmfaaW.PrintWords Go.Proofs.YtlmpoojpbdmmfaaW.PrintLast Go.Proofs.YtlmpoojpbdmmfaaW.PrintMore Go.Maps
structure Rn (l : List S53) (c : Cf) (x : Ctx) : Prop where
  ver : (ver l c).2 = 0
  wf : ∃ m A, Wfx l c m A x ∧ (A 0).h = 0
  sp : x.ended = false → Spo l x
  s0 : 0 ≤ x.spent ∧ x.spent ≤ 2199023255552
section
variable {l : List S53} {c : Cf} {x : Ctx}
theorem ver_mc (h : (ver l c).2 = 0) : (0 ≤ c.slots ∧ c.slots ≤ 512) ∧ (0 ≤ c.reads ∧ c.reads ≤ 64) ∧ (0 ≤ c.writes ∧ c.writes ≤ 64) ∧ (1 ≤ c.stack ∧ c.stack ≤ 256) := by
  obtain ⟨hm, _⟩ := ver_ok h
  simpa [mayC, and_assoc] using hm
theorem Rn.lens (h : Rn l c x) : (x.stack.length ≤ 256 ∧ x.slots.length ≤ 512 ∧ x.ins.length ≤ 64 ∧ x.outs.length ≤ 64) ∧ (0 < l.length ∧ l.length ≤ 4096) ∧ x.at_ < l.length := by
  obtain ⟨_, h0, h1, _⟩ := ver_ok h.ver
  have := ver_mc h.ver
  obtain ⟨m, A, w, _⟩ := h.wf
  have h1 := w.st
  have h2 := w.sl
  have h3 := w.inn
  have h4 := w.ou
  have hk := (w.good x.at_ w.lt).ok
  have := hk.2.2
  refine ⟨⟨?_, ?_, ?_, ?_⟩, ⟨h0, by assumption⟩, w.lt⟩ <;> omega
theorem Rn.start {ins : List Int} (h : (Go.Proofs.Ytlmpoojpbdmmfaa.H.ver l c).2 = 0) (hn : (ins.length : Int) = c.reads) : Rn l c (ctx0 c ins) := by
  obtain ⟨A, h1, h2, _⟩ := wfx0 h hn
  exact ⟨h, ⟨_, A, h1, h1.st.symm⟩, fun _ => h2, by simp [ctx0]⟩
theorem Rn.stp (h : Rn l c x) (he : x.ended = false) : Rn l c (stp l x) ∧ ((Go.Proofs.Ytlmpoojpbdmmfaa.H.stp l x).ended = true ∨ ((Go.Proofs.Ytlmpoojpbdmmfaa.H.stp l x).ended = false ∧ x.at_ < (Go.Proofs.Ytlmpoojpbdmmfaa.H.stp l x).at_)) ∧ x.spent ≤ (Go.Proofs.Ytlmpoojpbdmmfaa.H.stp l x).spent ∧ (Go.Proofs.Ytlmpoojpbdmmfaa.H.stp l x).spent ≤ x.spent + 8 := by
  obtain ⟨m, A, w, w0⟩ := h.wf
  have h1 := w.stp he
  have h2 := (h.sp he).stp w he
  have h3 := cyc_range (rd_T53 l (x.at_ : Int)).f0
  have h4 := stp_spent l x
  exact ⟨⟨h.ver, ⟨m, A, h1.1, w0⟩, h2.2.2, ⟨h2.1, h2.2.1⟩⟩, h1.2, by omega, by omega⟩
theorem Rn.runN {cy : Int} : ∀ (n : Nat) (sum : Int) (x : Ctx), Rn l c x → Rn l c (runN l cy n sum x).2
  | 0, sum, x, h => h
  | n + 1, sum, x, h => by
    rw [Go.Proofs.Ytlmpoojpbdmmfaa.H.runN]
    by_cases e : sum < cy ∧ x.ended = false
    · rw [if_pos e]
      exact Rn.runN n _ _ (h.stp e.2).1
    · rw [if_neg e]
      exact h
end
def res18 (l : List S53) (cy : Int) (x : Ctx) : Int × Bool × Int := if x.ended = true then (0, false, 3) else if cy < 0 then (0, false, 2) else ((runN l cy (l.length + 1) 0 x).1, (runN l cy (l.length + 1) 0 x).2.ended, 0)
def to18 (l : List S53) (cy : Int) (x : Ctx) : Ctx := if x.ended = true then x else if cy < 0 then x else (runN l cy (l.length + 1) 0 x).2
theorem Rn.to18 {l : List S53} {c : Cf} {x : Ctx} (h : Rn l c x) (cy : Int) : Rn l c (to18 l cy x) := by
  unfold Go.Proofs.Ytlmpoojpbdmmfaa.H.to18
  split
  · exact h
  split
  · exact h
  · exact h.runN _ _ _
theorem run_full {W : World} {P : Nat → Prop} {b : Nat} {c : Cf} {l : List S53} {x : Ctx} (h : VMem W P b c l x) (hP : ∀ k, P k → k < W.heap.size) (hr : Rn l c x) (cy : Int) :
    Calls Try.prog 18 #[.pointer (some ⟨b, 0, none⟩), .int .i64 cy] W fun e W' => e = .returned (.tuple #[.int .i64 (res18 l cy x).1, .bool (res18 l cy x).2.1, .int .i64 (res18 l cy x).2.2]) ∧ VMem W' (Zn P W W') b c l (to18 l cy x) ∧ Kept2 W W' P := by
  have hl := hr.lens
  by_cases he : x.ended = true
  · have e1 : res18 l cy x = (0, false, 3) := by simp [res18, he]
    have e2 : to18 l cy x = x := by simp [to18, he]
    rw [e1, e2]
    refine (run_ended h he cy).mono ?_
    rintro e W' ⟨rfl, hb⟩
    exact ⟨rfl, (h.below hb).mono (fun k hk => .inl hk), Kept2.of_below hb⟩
  have he' : x.ended = false := by simpa using he
  by_cases hc : cy < 0
  · have e1 : res18 l cy x = (0, false, 2) := by simp [res18, he', hc]
    have e2 : to18 l cy x = x := by simp [to18, he', hc]
    rw [e1, e2]
    refine (run_arg h he' hc).mono ?_
    rintro e W' ⟨rfl, hb⟩
    exact ⟨rfl, (h.below hb).mono (fun k hk => .inl hk), Kept2.of_below hb⟩
  have e1 : res18 l cy x = ((runN l cy (l.length + 1) 0 x).1, (runN l cy (l.length + 1) 0 x).2.ended, 0) := by simp [res18, he', hc]
  have e2 : to18 l cy x = (runN l cy (l.length + 1) 0 x).2 := by simp [to18, he', hc]
  rw [e1, e2]
  obtain ⟨m, A, w, _⟩ := hr.wf
  exact run_calls h hP w hl.2.1.2 he' (hr.sp he') (by omega)
theorem save_full {W : World} {P : Nat → Prop} {b : Nat} {c : Cf} {l : List S53} {x : Ctx} (h : VMem W P b c l x) (hr : Rn l c x) :
    Calls Try.prog 13 #[.pointer (some ⟨b, 0, none⟩)] W fun e W' => (∃ sv' tv' iv' ov', e = .returned (.tuple #[.agg (cxA x sv' tv' iv' ov'), .int .i64 0]) ∧ CxAt W' W.heap.size x sv' tv' iv' ov') ∧ Below W.heap.size W W' := by
  have hl := hr.lens
  exact save_calls h (by omega) (by omega) (by omega) (by omega)
end Go.Proofs.Ytlmpoojpbdmmfaa.H
set_option linter.unusedVariables false
set_option linter.unusedSimpArgs false
namespace Go.Proofs.Ytlmpoojpbdmmfaa.H
open Go.RowKit Go.Proofs.YtlmpoojpbdmmfaaW.PrintWords Go.Proofs.YtlmpoojpbdmmfaaW.PrintLast Go.Proofs.YtlmpoojpbdmmfaaW.PrintMore Go.Maps
theorem R53_rd {W : World} {lo : Nat} {P : Nat → Prop} {v : Value} {l : List S53} (h : Kd.R k53 53 W lo P v l) : ∃ A cap, v = .slice A l.length cap ∧ l.length ≤ cap ∧ (A = none → cap = 0) ∧ Kd.C k53 W A l.length l := by
  obtain ⟨A, cap, he, hc, hC⟩ := Kd.R_reads h
  obtain ⟨inner, ho⟩ := Kd.R_own h
  refine ⟨A, cap, he, hc, fun e => ?_, hC⟩
  rcases ho.2 with ⟨h1, _⟩ | ⟨g, cap', cur, h1, _⟩
  · rw [he] at h1; injection h1
  · rw [he] at h1; injection h1 with h1; rw [e] at h1; cases h1
theorem IR_of_R {W : World} {lo : Nat} {P : Nat → Prop} {v : Value} {xs : List Int} (h : Kd.R (Kd.int .i64) 2 W lo P v xs) : IR W v xs ∧ ∀ k, v.ownBlock = some k → lo ≤ k ∧ k < W.heap.size :=
  ⟨own_weaken (Kd.own_of_R h) (Nat.zero_le _), fun k hk => ⟨Kd.R_base h k hk, Kd.R_lt h k hk⟩⟩
theorem IR.C {W : World} {v : Value} {xs : List Int} (h : IR W v xs) : ∃ A cap, v = .slice A xs.length cap ∧ xs.length ≤ cap ∧ (A = none → cap = 0) ∧ Kd.C (Kd.int .i64) W A xs.length xs := by
  have hR : Kd.R (Kd.int .i64) 2 W 0 (fun _ => True) v xs := Kd.R_of_own h (fun _ _ => trivial)
  obtain ⟨A, cap, he, hc, hC⟩ := Kd.R_reads hR
  refine ⟨A, cap, he, hc, fun e => ?_, hC⟩
  rcases h.2 with ⟨h1, _⟩ | ⟨g, cap', cur, h1, _⟩
  · rw [he] at h1; injection h1
  · rw [he] at h1; injection h1 with h1; rw [e] at h1; cases h1
theorem copied_made {A : Option Addr} {cap : Nat} {l : List S53} {w : World} (h : Kd.C k53 w A l.length l) (hc : l.length ≤ cap) (hl : l.length ≤ 200) :
    Calls Try.prog 10 #[.slice A l.length cap] w fun e w' => ∃ v, e = .returned v ∧ Kd.R k53 53 w' w.heap.size (fun _ => True) v l ∧ Below w.heap.size w w' := by
  refine carillonlaw22_copied.calls A cap l l w h hc ?_
  unfold carillonlaw22_copied.f
  rw [if_pos (by simp; omega)]
  simp
structure Two (w wr : World) (c : Cf) (l : List S53) (bv bw : Nat) (xv xw : Ctx) (Pv Pw F : Nat → Prop) : Prop where
  mv : VMem wr Pv bv c l xv
  mw : VMem wr Pw bw c l xw
  ap : ∀ k, Pv k → ¬ Pw k
  fv : ∀ k, F k → ¬ Pv k ∧ ¬ Pw k
  lv : ∀ k, Pv k → w.heap.size ≤ k ∧ k < wr.heap.size
  lw : ∀ k, Pw k → w.heap.size ≤ k ∧ k < wr.heap.size
  lf : ∀ k, F k → w.heap.size ≤ k ∧ k < wr.heap.size
  bel : Below w.heap.size w wr
section
variable {w wr W' : World} {c : Cf} {l : List S53} {bv bw : Nat} {xv xw x' : Ctx} {Pv Pw F : Nat → Prop}
theorem Two.run1 (h : Two w wr c l bv bw xv xw Pv Pw F) (hv : VMem W' (Zn Pv wr W') bv c l x') (hk : Kept2 wr W' Pv) : Two w W' c l bv bw x' xw (Zn Pv wr W') Pw F := by
  have hs := hk.size
  refine ⟨hv, h.mw.other hk (fun k h1 _ h2 => h.ap k h2 h1), fun k h1 h2 => ?_, fun k hf => ⟨fun h1 => ?_, (h.fv k hf).2⟩, fun k h1 => ?_, fun k h1 => ?_, fun k h1 => ?_, hk.below h.bel (fun k h1 => (h.lv k h1).1)⟩
  · have := h.lw k h2
    rcases h1 with h1 | h1
    · exact h.ap k h1 h2
    · omega
  · have := h.lf k hf
    rcases h1 with h1 | h1
    · exact (h.fv k hf).1 h1
    · omega
  · have := h.bel.size
    rcases h1 with h1 | h1
    · have := h.lv k h1; omega
    · omega
  · have := h.lw k h1; omega
  · have := h.lf k h1; omega
theorem Two.run2 (h : Two w wr c l bv bw xv xw Pv Pw F) (hv : VMem W' (Zn Pw wr W') bw c l x') (hk : Kept2 wr W' Pw) : Two w W' c l bv bw xv x' Pv (Zn Pw wr W') F := by
  have hs := hk.size
  refine ⟨h.mv.other hk (fun k h1 _ h2 => h.ap k h1 h2), hv, fun k h1 h2 => ?_, fun k hf => ⟨(h.fv k hf).1, fun h1 => ?_⟩, fun k h1 => ?_, fun k h1 => ?_, fun k h1 => ?_, hk.below h.bel (fun k h1 => (h.lw k h1).1)⟩
  · have := h.lv k h1
    rcases h2 with h2 | h2
    · exact h.ap k h1 h2
    · omega
  · have := h.lf k hf
    rcases h1 with h1 | h1
    · exact (h.fv k hf).2 h1
    · omega
  · have := h.lv k h1; omega
  · have := h.bel.size
    rcases h1 with h1 | h1
    · have := h.lw k h1; omega
    · omega
  · have := h.lf k h1; omega
theorem Two.more (h : Two w wr c l bv bw xv xw Pv Pw F) (hb : Below wr.heap.size wr W') : Two w W' c l bv bw xv xw Pv Pw (fun k => F k ∨ (wr.heap.size ≤ k ∧ k < W'.heap.size)) := by
  have hs := hb.size
  have hs0 := h.bel.size
  refine ⟨h.mv.below hb, h.mw.below hb, h.ap, fun k hf => ?_, fun k h1 => ?_, fun k h1 => ?_, fun k h1 => ?_, h.bel.trans (hb.mono hs0)⟩
  · rcases hf with hf | hf
    · exact h.fv k hf
    · refine ⟨fun h1 => ?_, fun h1 => ?_⟩
      · have := h.lv k h1; omega
      · have := h.lw k h1; omega
  · have := h.lv k h1; omega
  · have := h.lw k h1; omega
  · rcases h1 with h1 | h1
    · have := h.lf k h1; omega
    · omega
theorem Two.below (h : Two w wr c l bv bw xv xw Pv Pw F) (hb : Below wr.heap.size wr W') : Two w W' c l bv bw xv xw Pv Pw F := by
  have g := h.more hb
  exact ⟨g.mv, g.mw, g.ap, fun k hf => g.fv k (.inl hf), g.lv, g.lw, fun k hf => g.lf k (.inl hf), g.bel⟩
theorem Two.put (h : Two w wr c l bv bw xv xw Pv Pw F) {g : Nat} (hg : F g) (hk : Kept2 wr W' (fun k => k = g)) : Two w W' c l bv bw xv xw Pv Pw F := by
  have hs := hk.size
  refine ⟨h.mv.other hk (fun k h1 _ h2 => (h.fv g hg).1 (h2 ▸ h1)), h.mw.other hk (fun k h1 _ h2 => (h.fv g hg).2 (h2 ▸ h1)), h.ap, h.fv, fun k h1 => ?_, fun k h1 => ?_, fun k h1 => ?_, hk.below h.bel (fun k h1 => h1 ▸ (h.lf g hg).1)⟩
  · have := h.lv k h1; omega
  · have := h.lw k h1; omega
  · have := h.lf k h1; omega
theorem Two.free (h : Two w wr c l bv bw xv xw Pv Pw F) {F' : Nat → Prop} (hf : ∀ k, F' k → F k) : Two w wr c l bv bw xv xw Pv Pw F' := ⟨h.mv, h.mw, h.ap, fun k hk => h.fv k (hf k hk), h.lv, h.lw, fun k hk => h.lf k (hf k hk), h.bel⟩
end
end Go.Proofs.Ytlmpoojpbdmmfaa.H
set_option linter.unusedVariables false
set_option linter.unusedSimpArgs false
namespace Go.Proofs.Ytlmpoojpbdmmfaa.H
open Go.RowKit Go.Proofs.YtlmpoojpbdmmfaaW.PrintWords Go.Proofs.YtlmpoojpbdmmfaaW.PrintLast Go.Proofs.YtlmpoojpbdmmfaaW.PrintMore Go.Maps
theorem cf_load {w : World} {g : Nat} {x0 x1 x2 x3 : Int} (h : w.heap[g]? = some (.cells #[.int .i64 x0, .int .i64 x1, .int .i64 x2, .int .i64 x3] 24 (0, 0))) :
    (Instr.loadAt 24 (.pointer (some ⟨g, 0, none⟩))).run Try.prog w = .ok (.agg #[.int .i64 x0, .int .i64 x1, .int .i64 x2, .int .i64 x3]) w := by
  obtain ⟨fs, hu⟩ : ∃ fs, Try.prog.underlying 24 = some (.struct fs) := ⟨_, Try.underlying24⟩
  have := run_loadAt_mid (P := Try.prog) w g 0 24 [.int .i64 x0, .int .i64 x1, .int .i64 x2, .int .i64 x3] (.struct fs) (fun j v hv => by
    rcases j with _ | _ | _ | _ | j
    · cases hv; simp [World.cell?, h]
    · cases hv; simp [World.cell?, h]
    · cases hv; simp [World.cell?, h]
    · cases hv; simp [World.cell?, h]
    · simp at hv) hu rfl (by kernel_rfl)
  exact this
theorem wpList_cfload {ops : Array Oper} {rest : List Oper} {op : Oper} {a : Act} {w : World} {Q : Exit → Act → World → Prop} (hgd : op.guard = none) (x : Operand) (ho : op.op = .load 24 x) {g : Nat} (hx : a.eval x = .pointer (some ⟨g, 0, none⟩)) {x0 x1 x2 x3 : Int}
    (hb : w.heap[g]? = some (.cells #[.int .i64 x0, .int .i64 x1, .int .i64 x2, .int .i64 x3] 24 (0, 0))) (h : wpList Try.prog ops Q rest (a.put op.dst (.agg #[.int .i64 x0, .int .i64 x1, .int .i64 x2, .int .i64 x3])) w) : wpList Try.prog ops Q (op :: rest) a w := by
  refine wpList_plain hgd fun _ hK => ?_
  unfold Oper.wp execOp
  simp only [ho, hx, Sem.run_bind, Result.andThen_ok, cf_load hb]
  exact hK _ _ h
theorem IR.below {W W' : World} {v : Value} {xs : List Int} (h : IR W v xs) (hb : Below W.heap.size W W') : IR W' v xs := h.move (fun k hk => hb.block k (h.lt hk))
theorem IR.other {W : World} {g j : Nat} {u v v' : Value} {xs : List Int} (h : IR W v' xs) (hg : v.ownBlock = some g) (ap : ∀ k, v.ownBlock = some k → v'.ownBlock ≠ some k) : IR (W.setCell ⟨g, j, none⟩ u) v' xs :=
  h.move (fun k hk => Below.heap_setCell W ⟨g, j, none⟩ u k (fun e => ap g hg (by rw [hk]; exact congrArg some e)))
end Go.Proofs.Ytlmpoojpbdmmfaa.H
end
section
namespace Go.Proofs.Ytlmpoojpbdmmfaa.H
open Go.RowKit Go.Proofs.YtlmpoojpbdmmfaaW.PrintWords Go.Proofs.YtlmpoojpbdmmfaaW.PrintLast Go.Proofs.YtlmpoojpbdmmfaaW.PrintMore
attribute [local go_sem] max2_int min2_int max_two min_two max_three min_three max_four min_four   -- for this text's walks alone
set_option linter.unusedVariables false
set_option linter.unusedSimpArgs false
def carillonref22_copied.f (l0 : List Int) : Option (List Int) := if ([] : List Int).length + l0.length < 17592186044416 then (some (([] : List Int) ++ l0)) else (none)
set_option maxHeartbeats 8000000 in
set_option maxRecDepth 100000 in
theorem carillonref22_copied.calls (A0 : Option Addr) (c0 : Nat) (l0 : List Int) (r : List Int) (w : World) (hr0 : Kd.C (Kd.int .i64) w A0 l0.length l0) (hc0 : l0.length ≤ c0) (h : carillonref22_copied.f l0 = some r) :
    Calls Try.prog 37 #[.slice A0 l0.length c0] w fun e w' => ∃ v0_ : Value, e = .returned (v0_) ∧ Kd.R (Kd.int .i64) 2 w' w.heap.size (fun _ => True) v0_ r ∧ Below w.heap.size w w' := by
  have HR0 := Aside0.mk hr0
  have HC0 := Aside0.mk hc0
  clear hr0 hc0
  have HB := Aside0.mk (Below.refl w.heap.size w)
  have H : (if ([] : List Int).length + l0.length < 17592186044416 then (some (([] : List Int) ++ l0)) else (none)) = some r := h
  clear h
  by_cases c2 : ([] : List Int).length + l0.length < 17592186044416
  · rw [if_pos c2] at H
    have LMc2 := Aside0.mk c2
    clear c2
    obtain ⟨y146, hy146⟩ : ∃ y_ : List Int, y_ = (([] : List Int) ++ l0) := ⟨_, rfl⟩
    replace H : (some y146) = some r := by first | (rw [hy146]; with_reducible exact H) | (have H2_ := (Option.bind_some _ _).symm.trans H; rw [hy146]; with_reducible exact H2_) | (have H2_ := (Option.bind_some _ _).symm.trans H; with_reducible exact H2_) | with_reducible exact H | (rw [hy146]; exact H) | exact H
    have Ny146 := Aside0.mk hy146
    clear hy146
    obtain rfl := Option.some.inj H
    go_enter Try.func37, Try.ntmps37
    go_wp2_with (first | ((with_reducible refine gate_builtin (b := .append) (xs := #[.const (.slice none 0 0), .tmp 3]) rfl ?_); at_builtin; refine Kd.R_append_rows (Kd.int .i64) (w0 := w) w.heap.size rfl (.const (.slice none 0 0)) (.tmp 3) 25 2 (.int .i64 0) 8 rfl Try.underlying25 info2 rfl (by decide) (by omega) (.slice none 0 0) ([] : List Int) l0 _ _ _ (fun _ => True) (fun _ => False) rfl rfl ?aO ?aR (fun _ _ h => h) (fun _ h => h.elim) ?aF ?aB ?aS ?aL ?_; (case aR => repeat (first | exact HR0.out | (with_reducible refine Kd.C_alloc ?_ _) | (with_reducible refine Kd.C_drewN ?_ _) | (with_reducible refine Kd.C_drew ?_))); (case aB => exact (by repeat (first | (with_reducible first | exact HB.out | apply below_alloc | apply pw_below_drewN | apply below_drew1) | exact HB.out))); (case aF => exact (fun _ _ => trivial)); (case aO => exact ((Kd.R_nil _ _ _ _ (fun _ => True)))); (case aS => exact (below_size (by repeat (first | (with_reducible first | exact HB.out | apply below_alloc | apply pw_below_drewN | apply below_drew1) | exact HB.out)))); (case aL => have := LMc2.out; omega); intro v147 w3 ho hb hg hat; rw [← Ny146.out] at ho; have n0_ := Aside0.mk (hb); have n1_ := Aside0.mk (ho); clear HB; have HB := n0_; have HO148 := n1_; clear n0_ n1_; clear ho hb hg hat))
    go_ret
    exact ⟨_, by first | rfl | (simp [errW_none, errW_some] <;> rfl) | (simp [*, errW_none, errW_some] <;> rfl), by (with_reducible repeat (first | apply Kd.R_alloc | apply Kd.R_drewN | apply Kd.R_drew)); exact HO148.out, by repeat (first | (with_reducible first | exact HB.out | apply below_alloc | apply pw_below_drewN | apply below_drew1) | exact HB.out)⟩
  · rw [if_neg c2] at H
    exact absurd H (by simp)
def carillonref22_truth.f (a0 : Bool) : Option (Int) := if a0 = true then (some 1) else (some 0)
set_option maxHeartbeats 8000000 in
set_option maxRecDepth 100000 in
theorem carillonref22_truth.calls (a0 : Bool) (r : Int) (w : World) (h : carillonref22_truth.f a0 = some r) :
    Calls Try.prog 70 #[.bool a0] w fun e w' => e = .returned (.int .i64 r) ∧ Drawn0 w w' := by
  have H : (if a0 = true then (some 1) else (some 0)) = some r := h
  clear h
  by_cases c2 : a0 = true
  · subst c2
    have H1 : (some 1) = some r := by rw [if_pos rfl] at H; exact H
    clear H
    have H := H1
    clear H1
    obtain rfl := Option.some.inj H
    go_enter Try.func70, Try.ntmps70
    go_wp2
    go_ret
    exact ⟨by first | rfl | (simp; done) | (simp [*]; done), by repeat (first | exact Drawn0.refl _ | apply Drawn0.step)⟩
  · replace c2 := Bool.eq_false_iff.mpr c2
    subst c2
    have H1 : (some 0) = some r := by rw [if_neg (show ¬ (false = true) by decide)] at H; exact H
    clear H
    have H := H1
    clear H1
    obtain rfl := Option.some.inj H
    go_enter Try.func70, Try.ntmps70
    go_wp2
    go_ret
    exact ⟨by first | rfl | (simp; done) | (simp [*]; done), by repeat (first | exact Drawn0.refl _ | apply Drawn0.step)⟩
def carillonref22_one.f (a0 : Int) (a1 : Int) : Option (Int) := if a0 = 7 then ((carillonref22_truth.f (a1 == 0)).bind fun t149 => (some t149)) else (some (wrap64 (-a1)))
set_option maxHeartbeats 8000000 in
set_option maxRecDepth 100000 in
theorem carillonref22_one.calls (a0 : Int) (a1 : Int) (r : Int) (w : World) (h : carillonref22_one.f a0 a1 = some r) :
    Calls Try.prog 38 #[.int .u8 a0, .int .i64 a1] w fun e w' => e = .returned (.int .i64 r) ∧ Drawn0 w w' := by
  have H : (if a0 = 7 then ((carillonref22_truth.f (a1 == 0)).bind fun t149 => (some t149)) else (some (wrap64 (-a1)))) = some r := h
  clear h
  by_cases c3 : a0 = 7
  · rw [if_pos c3] at H
    have c3b0 : (a0 == 7) = true := beq_iff_eq.mpr c3
    have c3b1 : (a0 != 7) = false := bne_eq_false_iff_eq.mpr c3
    clear c3
    replace H := Option.bind_eq_some_iff.mp H
    obtain ⟨t149, A40, H⟩ := H
    replace H : (some t149) = some r := H
    have A4 := Aside0.mk A40
    clear A40
    obtain rfl := Option.some.inj H
    go_enter Try.func38, Try.ntmps38
    go_wp2_with (first | ((with_reducible refine gate_callee (f := 70) rfl ?_); refine goesL_ (some 9) rfl rfl Try.func70 (by kernel_rfl) rfl #[.bool (a1 == 0)] rfl (by (try simp only [List.map_toArray, List.map_cons, List.map_nil]); first | done | rfl | (simp only [List.length_drop, List.length_take]; rfl)) ?_; (with_reducible refine (carillonref22_truth.calls (a1 == 0) t149 _ A4.out).mono ?_); rintro e w' ⟨rfl, ⟨nd, rfl⟩⟩; refine ⟨_, rfl, ?_⟩))
    go_ret
    exact ⟨by first | rfl | (simp; done) | (simp [*]; done), by repeat (first | exact Drawn0.refl _ | apply Drawn0.step)⟩
  · rw [if_neg c3] at H
    have c3b0 : (a0 == 7) = false := beq_eq_false_iff_ne.mpr c3
    have c3b1 : (a0 != 7) = true := bne_iff_ne.mpr c3
    obtain rfl := Option.some.inj H
    go_enter Try.func38, Try.ntmps38
    go_wp2
    go_ret
    exact ⟨by first | rfl | (simp; done) | (simp [*]; done), by repeat (first | exact Drawn0.refl _ | apply Drawn0.step)⟩
end Go.Proofs.Ytlmpoojpbdmmfaa.H
end
