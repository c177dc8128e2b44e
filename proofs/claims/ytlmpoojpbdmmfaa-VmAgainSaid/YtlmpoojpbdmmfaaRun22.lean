/- Code that is verified runs: what holds of a run's context at each step. Plain. The conditions: what each names. Running, and what a run tells: (*Vm).Run, Outs, Spent. The conditions: the code is verified. -/
import Derived.Test.YtlmpoojpbdmmfaaStep22
import Derived.Test.YtlmpoojpbdmmfaaSafe19
set_option linter.unusedVariables false
set_option linter.unusedSimpArgs false
namespace Go.Proofs.Ytlmpoojpbdmmfaa.H
open Go.RowKit Go.Proofs.YtlmpoojpbdmmfaaW.PrintWords

/-- A context of code that is verified; A: the states at its instructions. -/
structure Wfx (l : List S53) (c : Cf) (m : Int) (A : Nat → Vst) (x : Ctx) : Prop where
  good : ∀ p, p < l.length → Good l c m A p
  lt : x.at_ < l.length
  st : (x.stack.length : Int) = (A x.at_).h
  sl : (x.slots.length : Int) = c.slots
  inn : (x.ins.length : Int) = c.reads
  ou : (x.outs.length : Int) = c.writes
  en : x.ended = true → (rd_T53 l (x.at_ : Int)).f0 = 23
theorem chk_slot {s : Vst} {i : S53} {c : Cf} (h : (chk s i c).2 = 0) (e : i.f0 = 2 ∨ i.f0 = 3) : i.f1 < c.slots := by
  obtain ⟨_, _, _, h4⟩ := chk_good h
  rw [h4] at h
  unfold chk2 at h
  rw [if_pos e] at h
  by_cases h5 : c.slots ≤ i.f1
  · rw [if_pos h5] at h; simp at h
  · omega
theorem chk_read {s : Vst} {i : S53} {c : Cf} (h : (chk s i c).2 = 0) (e : i.f0 = 4) : i.f1 < c.reads := by
  obtain ⟨_, _, _, h4⟩ := chk_good h
  rw [h4] at h
  unfold chk2 at h
  rw [if_neg (by omega), if_pos e] at h
  by_cases h5 : c.reads ≤ i.f1
  · simp [h5] at h
  · omega
theorem chk_write {s : Vst} {i : S53} {c : Cf} (h : (chk s i c).2 = 0) (e : i.f0 = 5) : i.f1 < c.writes := by
  obtain ⟨_, _, _, h4⟩ := chk_good h
  rw [h4] at h
  unfold chk2 at h
  rw [if_neg (by omega), if_neg (by omega), if_pos e] at h
  by_cases h5 : c.writes ≤ i.f1
  · rw [if_pos h5] at h; simp at h
  · omega
section
variable {l : List S53} {c : Cf} {m : Int} {A : Nat → Vst} {x : Ctx}
theorem Wfx.pre (h : Wfx l c m A x) : PreOne (rd_T53 l (x.at_ : Int)) x := by
  have g := h.good x.at_ h.lt
  obtain ⟨h1, h2, h3, _⟩ := chk_good g.chk
  have hk := g.ok
  refine ⟨h1, by rw [h.st]; exact h2, ?_, fun e => ?_, fun e => ?_, fun e => ?_⟩
  · have := hk.2.2; have := h.st; omega
  · rw [h.sl]; exact chk_slot g.chk e
  · rw [h.inn]; exact chk_read g.chk e
  · rw [h.ou]; exact chk_write g.chk e
theorem one_len {i : S53} (hm : mayB i.f0 i.f1 = true) (ht : tks i.f0 ≤ (x.stack.length : Int)) : ((one i x).1.stack.length : Int) = x.stack.length - tks i.f0 + gvs i.f0 ∧ (one i x).1.slots.length = x.slots.length ∧ (one i x).1.ins.length = x.ins.length ∧ (one i x).1.outs.length = x.outs.length := by
  have hop : 1 ≤ i.f0 ∧ i.f0 ≤ 23 := by simpa [isOp] using may_op hm
  have hpl := pop_len x
  have hpl2 := pop_len x.pop
  have push_len : ∀ (y : Ctx) (t : Int), (y.push t).stack.length = y.stack.length + 1 := fun y t => by simp [Ctx.push]
  unfold one
  by_cases h1 : i.f0 = 1
  · rw [if_pos h1]; simp only [push_len, tks, gvs, h1] at ht ⊢; refine ⟨by simp, by first | rfl | trivial, by first | rfl | trivial, by first | rfl | trivial⟩
  rw [if_neg h1]
  by_cases h2 : i.f0 = 2
  · rw [if_pos h2]; simp only [push_len, tks, gvs, h2] at ht ⊢; refine ⟨by simp, by first | rfl | trivial, by first | rfl | trivial, by first | rfl | trivial⟩
  rw [if_neg h2]
  by_cases h3 : i.f0 = 3
  · rw [if_pos h3]; simp only [tks, gvs, h3] at ht ⊢; refine ⟨?_, by simp, rfl, rfl⟩; simp at ht ⊢; omega
  rw [if_neg h3]
  by_cases h4 : i.f0 = 4
  · rw [if_pos h4]; simp only [push_len, tks, gvs, h4] at ht ⊢; refine ⟨by simp, by first | rfl | trivial, by first | rfl | trivial, by first | rfl | trivial⟩
  rw [if_neg h4]
  by_cases h5 : i.f0 = 5
  · rw [if_pos h5]; simp only [tks, gvs, h5] at ht ⊢; refine ⟨?_, rfl, rfl, by simp⟩; simp at ht ⊢; omega
  rw [if_neg h5]
  by_cases h6 : i.f0 = 6
  · rw [if_pos h6]; simp only [push_len, tks, gvs, h6] at ht ⊢; refine ⟨?_, rfl, rfl, rfl⟩; simp at ht ⊢; omega
  rw [if_neg h6]
  by_cases h7 : i.f0 = 7
  · rw [if_pos h7]; simp only [push_len, tks, gvs, h7] at ht ⊢; refine ⟨?_, rfl, rfl, rfl⟩; simp at ht ⊢; omega
  rw [if_neg h7]
  by_cases h22 : i.f0 = 22
  · rw [if_pos h22]; simp only [tks, gvs, h22] at ht ⊢; refine ⟨?_, rfl, rfl, rfl⟩; simp at ht ⊢; omega
  rw [if_neg h22]
  by_cases h21 : i.f0 = 21
  · rw [if_pos h21]; simp only [tks, gvs, h21] at ht ⊢; refine ⟨by simp, by first | rfl | trivial, by first | rfl | trivial, by first | rfl | trivial⟩
  rw [if_neg h21]
  by_cases h23 : i.f0 = 23
  · rw [if_pos h23]; simp only [tks, gvs, h23] at ht ⊢; refine ⟨by simp, by first | rfl | trivial, by first | rfl | trivial, by first | rfl | trivial⟩
  rw [if_neg h23]
  have e1 : tks i.f0 = 2 := by unfold tks; rw [if_pos (by omega)]
  have e2 : gvs i.f0 = 1 := by unfold gvs; rw [if_pos (by omega)]
  rw [e1] at ht
  rw [e1, e2]
  simp only [push_len]
  refine ⟨?_, rfl, rfl, rfl⟩
  omega
/-- Where it goes on. -/
theorem one_next {i : S53} {p : Nat} (hm : mayB i.f0 i.f1 = true) (h23 : i.f0 ≠ 23) : ((p : Int) + (one i x).2).toNat ∈ tg19 i p ∧ (one i x).1.ended = x.ended := by
  unfold one tg19
  rw [if_neg h23]
  by_cases h21 : i.f0 = 21
  · have hb : 1 ≤ i.f1 ∧ i.f1 ≤ 4096 := by simpa [mayB, h21] using hm
    simp only [h21]
    refine ⟨?_, rfl⟩
    simp
    omega
  rw [if_neg h21]
  by_cases h22 : i.f0 = 22
  · have hb : 1 ≤ i.f1 ∧ i.f1 ≤ 4096 := by simpa [mayB, h22] using hm
    simp only [h22]
    refine ⟨?_, rfl⟩
    by_cases ht : x.top = 0
    · simp [ht]; omega
    · simp [ht]
  rw [if_neg h22, if_neg h22, if_neg h21, if_neg h23]
  have e1 : ((p : Int) + 1).toNat = p + 1 := by omega
  by_cases h1 : i.f0 = 1
  · rw [if_pos h1]; exact ⟨by simp, rfl⟩
  rw [if_neg h1]
  by_cases h2 : i.f0 = 2
  · rw [if_pos h2]; exact ⟨by simp, rfl⟩
  rw [if_neg h2]
  by_cases h3 : i.f0 = 3
  · rw [if_pos h3]; exact ⟨by simp, rfl⟩
  rw [if_neg h3]
  by_cases h4 : i.f0 = 4
  · rw [if_pos h4]; exact ⟨by simp, rfl⟩
  rw [if_neg h4]
  by_cases h5 : i.f0 = 5
  · rw [if_pos h5]; exact ⟨by simp, rfl⟩
  rw [if_neg h5]
  by_cases h6 : i.f0 = 6
  · rw [if_pos h6]; exact ⟨by simp, rfl⟩
  rw [if_neg h6]
  by_cases h7 : i.f0 = 7
  · rw [if_pos h7]; exact ⟨by simp, rfl⟩
  rw [if_neg h7]
  exact ⟨by simp, rfl⟩
theorem one_end {i : S53} (h23 : i.f0 = 23) : one i x = ({ x with ended := true }, 0) := by simp [one, h23]
/-- A step keeps it, and goes forward, or ends. -/
theorem Wfx.stp (h : Wfx l c m A x) (he : x.ended = false) : Wfx l c m A (stp l x) ∧ ((stp l x).ended = true ∨ ((stp l x).ended = false ∧ x.at_ < (Go.Proofs.Ytlmpoojpbdmmfaa.H.stp l x).at_)) := by
  have g := h.good x.at_ h.lt
  have hp := h.pre
  obtain ⟨hl1, hl2, hl3, hl4⟩ := one_len hp.may hp.tk
  by_cases h23 : (rd_T53 l (x.at_ : Int)).f0 = 23
  · have e := one_end (x := x) h23
    have hat : (Go.Proofs.Ytlmpoojpbdmmfaa.H.stp l x).at_ = x.at_ := by simp [Go.Proofs.Ytlmpoojpbdmmfaa.H.stp, e]
    have hen : (Go.Proofs.Ytlmpoojpbdmmfaa.H.stp l x).ended = true := by simp [Go.Proofs.Ytlmpoojpbdmmfaa.H.stp, e]
    refine ⟨⟨h.good, by rw [hat]; exact h.lt, ?_, ?_, ?_, ?_, fun _ => by rw [hat]; exact h23⟩, .inl hen⟩
    · rw [hat]
      have : (Go.Proofs.Ytlmpoojpbdmmfaa.H.stp l x).stack = x.stack := by simp [Go.Proofs.Ytlmpoojpbdmmfaa.H.stp, e]
      rw [this]; exact h.st
    · have : (Go.Proofs.Ytlmpoojpbdmmfaa.H.stp l x).slots = x.slots := by simp [Go.Proofs.Ytlmpoojpbdmmfaa.H.stp, e]
      rw [this]; exact h.sl
    · have : (Go.Proofs.Ytlmpoojpbdmmfaa.H.stp l x).ins = x.ins := by simp [Go.Proofs.Ytlmpoojpbdmmfaa.H.stp, e]
      rw [this]; exact h.inn
    · have : (Go.Proofs.Ytlmpoojpbdmmfaa.H.stp l x).outs = x.outs := by simp [Go.Proofs.Ytlmpoojpbdmmfaa.H.stp, e]
      rw [this]; exact h.ou
  · obtain ⟨hn1, hn2⟩ := one_next (x := x) (p := x.at_) hp.may h23
    obtain ⟨q1, q2, q3⟩ := g.next _ hn1
    have hen : (Go.Proofs.Ytlmpoojpbdmmfaa.H.stp l x).ended = false := by simp only [Go.Proofs.Ytlmpoojpbdmmfaa.H.stp]; rw [hn2]; exact he
    have hat : (Go.Proofs.Ytlmpoojpbdmmfaa.H.stp l x).at_ = ((x.at_ : Int) + (one (rd_T53 l (x.at_ : Int)) x).2).toNat := rfl
    refine ⟨⟨h.good, by rw [hat]; exact q2, ?_, ?_, ?_, ?_, fun e => by rw [hen] at e; cases e⟩, .inr ⟨hen, by rw [hat]; exact q1⟩⟩
    · rw [hat, q3.h, chk_h g.chk, ← h.st]
      exact hl1
    · show (((one (rd_T53 l (x.at_ : Int)) x).1.slots.length : Nat) : Int) = c.slots
      rw [hl2]; exact h.sl
    · show (((one (rd_T53 l (x.at_ : Int)) x).1.ins.length : Nat) : Int) = c.reads
      rw [hl3]; exact h.inn
    · show (((one (rd_T53 l (x.at_ : Int)) x).1.outs.length : Nat) : Int) = c.writes
      rw [hl4]; exact h.ou
theorem stp_spent (l : List S53) (x : Ctx) : (Go.Proofs.Ytlmpoojpbdmmfaa.H.stp l x).spent = x.spent + cyc (rd_T53 l (x.at_ : Int)).f0 := by
  simp only [Go.Proofs.Ytlmpoojpbdmmfaa.H.stp, (one_at _ x).2]
end
/-- The cycles that are spent stay small. -/
def Spo (l : List S53) (x : Ctx) : Prop := 0 ≤ x.spent ∧ x.spent + 8 * ((l.length : Int) - x.at_ + 1) ≤ 2199023255552
theorem Spo.stp {l : List S53} {c : Cf} {m : Int} {A : Nat → Vst} {x : Ctx} (h : Spo l x) (hw : Wfx l c m A x) (he : x.ended = false) : 0 ≤ (stp l x).spent ∧ (stp l x).spent ≤ 2199023255552 ∧ ((Go.Proofs.Ytlmpoojpbdmmfaa.H.stp l x).ended = false → Spo l (Go.Proofs.Ytlmpoojpbdmmfaa.H.stp l x)) := by
  obtain ⟨h0, h1⟩ := h
  obtain ⟨c0, c1⟩ := cyc_range (rd_T53 l (x.at_ : Int)).f0
  have hlt := hw.lt
  have hs := stp_spent l x
  refine ⟨by omega, by omega, fun hn => ⟨by omega, ?_⟩⟩
  rcases (hw.stp he).2 with e | ⟨_, e⟩
  · rw [hn] at e; cases e
  · omega
end Go.Proofs.Ytlmpoojpbdmmfaa.H
set_option linter.unusedVariables false
set_option linter.unusedSimpArgs false
namespace Go.Proofs.Ytlmpoojpbdmmfaa.H
open Go.RowKit Go.Proofs.YtlmpoojpbdmmfaaW.PrintWords Go.Proofs.YtlmpoojpbdmmfaaW.PrintLast Go.Proofs.YtlmpoojpbdmmfaaW.PrintMore Go.Maps
set_option maxHeartbeats 4000000 in
theorem run_nil (W : World) (cy : Int) : Calls Try.prog 18 #[.pointer none, .int .i64 cy] W fun e W' => e = .returned (.tuple #[.int .i64 0, .bool false, .int .i64 1]) ∧ Below W.heap.size W W' := by
  go_enter Try.func18, Try.ntmps18
  go_wp2
  go_ret3
  exact ⟨rfl, Below.refl _ _⟩
set_option maxHeartbeats 4000000 in
theorem run_ended {W : World} {P : Nat → Prop} {b : Nat} {c : Cf} {l : List S53} {x : Ctx} (h : VMem W P b c l x) (he : x.ended = true) (cy : Int) : Calls Try.prog 18 #[.pointer (some ⟨b, 0, none⟩), .int .i64 cy] W fun e W' => e = .returned (.tuple #[.int .i64 0, .bool false, .int .i64 3]) ∧ Below W.heap.size W W' := by
  obtain ⟨M, cv, sv, tv, iv, ov, h⟩ := h
  have c11 : W.cell? ⟨b, 11, none⟩ = some (.bool true) := by rw [← he]; exact h.cell rfl
  clear h he
  go_enter Try.func18, Try.ntmps18
  go_wp2
  go_ret3
  exact ⟨rfl, Below.refl _ _⟩
set_option maxHeartbeats 4000000 in
theorem run_arg {W : World} {P : Nat → Prop} {b : Nat} {c : Cf} {l : List S53} {x : Ctx} (h : VMem W P b c l x) (he : x.ended = false) {cy : Int} (hc : cy < 0) : Calls Try.prog 18 #[.pointer (some ⟨b, 0, none⟩), .int .i64 cy] W fun e W' => e = .returned (.tuple #[.int .i64 0, .bool false, .int .i64 2]) ∧ Below W.heap.size W W' := by
  obtain ⟨M, cv, sv, tv, iv, ov, h⟩ := h
  have c11 : W.cell? ⟨b, 11, none⟩ = some (.bool false) := by rw [← he]; exact h.cell rfl
  have hd : decide (cy < 0) = true := decide_eq_true hc
  clear h he
  go_enter Try.func18, Try.ntmps18
  go_wp2
  go_ret3
  exact ⟨rfl, Below.refl _ _⟩
theorem vm_ended {W : World} {P : Nat → Prop} {b : Nat} {c : Cf} {l : List S53} {x : Ctx} (h : VMem W P b c l x) : W.cell? ⟨b, 11, none⟩ = some (.bool x.ended) := by
  obtain ⟨M, cv, sv, tv, iv, ov, h⟩ := h
  exact h.cell rfl
theorem VMem.zn {W W1 W2 : World} {P : Nat → Prop} {b : Nat} {c : Cf} {l : List S53} {x : Ctx} (h : VMem W2 (Zn (Zn P W W1) W1 W2) b c l x) (h1 : W.heap.size ≤ W1.heap.size) (h2 : W1.heap.size ≤ W2.heap.size) : VMem W2 (Zn P W W2) b c l x := h.mono (fun k hk => (Zn.trans h1 h2 k).1 hk)
theorem Zn.lt {W W1 : World} {P : Nat → Prop} (hP : ∀ k, P k → k < W.heap.size) (hs : W.heap.size ≤ W1.heap.size) (k : Nat) (hk : Zn P W W1 k) : k < W1.heap.size := hk.elim (fun h => Nat.lt_of_lt_of_le (hP k h) hs) (fun h => h.2)
theorem runN_stop (l : List S53) (cy : Int) (n : Nat) (sum : Int) (x : Ctx) (h : ¬ (sum < cy ∧ x.ended = false)) : runN l cy n sum x = (sum, x) := by
  cases n with
  | zero => rfl
  | succ n => rw [runN, if_neg h]
set_option maxHeartbeats 8000000 in
set_option maxRecDepth 100000 in
theorem run_calls {W : World} {P : Nat → Prop} {b : Nat} {c : Cf} {l : List S53} {x : Ctx} {m : Int} {A : Nat → Vst} (h : VMem W P b c l x) (hP : ∀ k, P k → k < W.heap.size) (hw : Wfx l c m A x) (hl : l.length ≤ 4096) (he : x.ended = false) (hs : Spo l x) {cy : Int} (hc : 0 ≤ cy) :
    Calls Try.prog 18 #[.pointer (some ⟨b, 0, none⟩), .int .i64 cy] W fun e W' => e = .returned (.tuple #[.int .i64 (runN l cy (l.length + 1) 0 x).1, .bool (runN l cy (l.length + 1) 0 x).2.ended, .int .i64 0]) ∧ VMem W' (Zn P W W') b c l (runN l cy (l.length + 1) 0 x).2 ∧ Kept2 W W' P := by
  have c11 : W.cell? ⟨b, 11, none⟩ = some (.bool false) := by rw [← he]; exact vm_ended h
  have hd : decide (cy < 0) = false := decide_eq_false (by omega)
  have H := Aside0.mk (h.mono (P' := Zn P W W) (fun k hk => .inl hk))
  have HP := Aside0.mk hP
  have HW := Aside0.mk hw
  have HL := Aside0.mk hl
  have HE := Aside0.mk he
  have HS := Aside0.mk hs
  obtain ⟨res, hres⟩ : ∃ r, runN l cy (l.length + 1) 0 x = r := ⟨_, rfl⟩
  rw [hres]
  have HR := Aside0.mk hres
  clear h hP hw he hs hres hc
  go_enter Try.func18, Try.ntmps18
  go_wp2_with fail
  go_loopg [7] (l.length + 1) (fun kq v7 wr => ∃ (sum : Int) (y : Ctx), v7 = .int .i64 sum ∧ Aside0 (runN l cy kq sum y = res) ∧ Aside0 (VMem wr (Zn P W wr) b c l y) ∧ Aside0 (Kept2 W wr P) ∧ Aside0 (Wfx l c m A y) ∧ Aside0 (y.ended = false → l.length + 1 ≤ kq + y.at_ ∧ Spo l y) ∧ Aside0 (0 ≤ sum ∧ sum + 8 * (kq : Int) ≤ 8 * 5000))
  case atStart =>
    exact ⟨0, x, rfl, HR, H, ⟨Kept2.refl _ _⟩, HW, ⟨fun _ => ⟨by omega, HS.out⟩⟩, ⟨by omega, by have := HL.out; omega⟩⟩
  case round =>
    obtain ⟨sum, y, rfl, HR2, H2, HK2, HW2, HN2, HB2⟩ := hrel
    have d11 : wr.cell? ⟨b, 11, none⟩ = some (.bool y.ended) := vm_ended H2.out
    obtain ⟨en, hen⟩ : ∃ en, y.ended = en := ⟨_, rfl⟩
    rw [hen] at d11
    have HEN := Aside0.mk hen
    clear hen c11
    by_cases h1 : sum < cy
    · have dl : decide (sum < cy) = true := decide_eq_true h1
      cases en with
      | true =>
        have hr : res = (sum, y) := by rw [← HR2.out]; exact runN_stop _ _ _ _ _ (by rw [HEN.out]; simp)
        have HRR := Aside0.mk hr
        clear hr
        go_wp2_with fail
        go_quiet (fail)
        go_wp2
        go_ret3
        rw [HRR.out]
        refine ⟨by rw [HEN.out]; rfl, ?_, ?_⟩
        · exact H2.out.move (fun k _ _ => rfl)
        · exact HK2.out.trans ⟨rfl, rfl, rfl, Nat.le_refl _, fun _ _ _ => rfl⟩
      | false =>
        obtain ⟨go, rfl⟩ : ∃ go, gk = go + 1 := ⟨gk - 1, by have := (HN2.out HEN.out).1; have := HW2.out.lt; omega⟩
        have hr := HR2.out
        rw [runN, if_pos ⟨h1, HEN.out⟩] at hr
        have hsp := HN2.out HEN.out
        have hst := HW2.out.stp HEN.out
        have hss := hsp.2.stp HW2.out HEN.out
        have HR3 := Aside0.mk hr
        have HST := Aside0.mk hst
        have HSS := Aside0.mk hss
        have HSP := Aside0.mk hsp
        clear hr hst hss hsp
        go_wp2_with fail
        refine (step_calls H2.out (Zn.lt HP.out HK2.out.size) HW2.out.lt HL.out HEN.out HW2.out.pre ⟨HSP.out.2.1, by have := HSP.out.2; have := this.2; have := HW2.out.lt; omega⟩).mono ?_
        rintro e W5 ⟨rfl, hv, hk⟩
        obtain ⟨hcy0, hcy1⟩ := cyc_range (rd_T53 l (y.at_ : Int)).f0
        have K5 := Aside0.mk (HK2.out.trans hk)
        have V5 := Aside0.mk (hv.zn HK2.out.size hk.size)
        obtain ⟨cyv, hcyv⟩ : ∃ v, cyc (rd_T53 l (y.at_ : Int)).f0 = v := ⟨_, rfl⟩
        rw [hcyv] at HR3 hcy0 hcy1 ⊢
        have hb0 : 0 ≤ sum := HB2.out.1
        have hb1 : sum < 40000 := by have := HB2.out.2; omega
        clear hv hk hcyv d11
        go_wp2
        go_roundg go
        case measure => omega
        case rel =>
          refine ⟨sum + cyv, _, rfl, HR3, V5, K5, ⟨HST.out.1⟩, ⟨fun hn => ⟨?_, HSS.out.2.2 hn⟩⟩, ⟨by omega, by have := HB2.out.2; omega⟩⟩
          rcases HST.out.2 with h | ⟨_, h⟩
          · rw [hn] at h; cases h
          · have := HSP.out.1; omega
    · have dl : decide (sum < cy) = false := decide_eq_false h1
      have hr : res = (sum, y) := by rw [← HR2.out]; exact runN_stop _ _ _ _ _ (by intro e; exact h1 e.1)
      have HRR := Aside0.mk hr
      clear hr
      go_wp2_with fail
      go_quiet (fail)
      go_wp2
      go_ret3
      rw [HRR.out]
      refine ⟨by rw [HEN.out]; rfl, ?_, ?_⟩
      · exact H2.out.move (fun k _ _ => rfl)
      · exact HK2.out.trans ⟨rfl, rfl, rfl, Nat.le_refl _, fun _ _ _ => rfl⟩
end Go.Proofs.Ytlmpoojpbdmmfaa.H
