/- Part 22 of the proof of the law L. The conditions: none. (Its parts: Big2.) -/
import Derived.Test.YtlmpoojpbdmmfaaKL21
section
set_option linter.unusedVariables false
set_option linter.unusedSimpArgs false
namespace Go.Proofs.Ytlmpoojpbdmmfaa.H
open Go.RowKit Go.Proofs.YtlmpoojpbdmmfaaW.PrintWords Go.Proofs.YtlmpoojpbdmmfaaW.PrintLast Go.Proofs.YtlmpoojpbdmmfaaW.PrintMore
def less1 (a0 b0 : Int) : Bool := if a0 = b0 then false else decide (a0 < b0)
def less2 (a0 a1 b0 b1 : Int) : Bool := if a1 = b1 then less1 a0 b0 else decide (a1 < b1)
def less3 (a0 a1 a2 b0 b1 b2 : Int) : Bool := if a2 = b2 then less2 a0 a1 b0 b1 else decide (a2 < b2)
def less4 (a0 a1 a2 a3 b0 b1 b2 b3 : Int) : Bool := if a3 = b3 then less3 a0 a1 a2 b0 b1 b2 else decide (a3 < b3)
def lessN (a0 a1 a2 a3 b0 b1 b2 b3 : Int) : Nat → Bool
  | 0 => false
  | 1 => less1 a0 b0
  | 2 => less2 a0 a1 b0 b1
  | 3 => less3 a0 a1 a2 b0 b1 b2
  | _ => less4 a0 a1 a2 a3 b0 b1 b2 b3
def jj : Nat → Int | 0 => -1 | 1 => 0 | 2 => 1 | 3 => 2 | _ => 3
set_option maxHeartbeats 8000000 in
set_option maxRecDepth 100000 in
theorem less_calls (a0 a1 a2 a3 b0 b1 b2 b3 : Int) (n m : Bool) (w : World) : Calls Try.prog 84 #[.agg #[.int .u64 a0, .int .u64 a1, .int .u64 a2, .int .u64 a3, .bool n], .agg #[.int .u64 b0, .int .u64 b1, .int .u64 b2, .int .u64 b3, .bool m]] w fun e w' => e = .returned (.bool (less4 a0 a1 a2 a3 b0 b1 b2 b3)) ∧ Below w.heap.size w w' := by
  obtain ⟨res, hres⟩ : ∃ r, less4 a0 a1 a2 a3 b0 b1 b2 b3 = r := ⟨_, rfl⟩
  rw [hres]
  have HR := Aside0.mk hres
  clear hres
  have hu117 := Try.underlying117
  have hu115 := under115
  go_enter Try.func84, Try.ntmps84
  go_wp2_with fail
  have X : Aside0 (((w.alloc (.cells #[.int .u64 a0, .int .u64 a1, .int .u64 a2, .int .u64 a3, .bool n] (117 : Nat))).alloc (.cells #[.int .u64 b0, .int .u64 b1, .int .u64 b2, .int .u64 b3, .bool m] (117 : Nat))).heap[w.heap.size]? = some (.cells #[.int .u64 a0, .int .u64 a1, .int .u64 a2, .int .u64 a3, .bool n] (117 : Nat) (0, 0)) ∧ ((w.alloc (.cells #[.int .u64 a0, .int .u64 a1, .int .u64 a2, .int .u64 a3, .bool n] (117 : Nat))).alloc (.cells #[.int .u64 b0, .int .u64 b1, .int .u64 b2, .int .u64 b3, .bool m] (117 : Nat))).heap[w.heap.size + 1]? = some (.cells #[.int .u64 b0, .int .u64 b1, .int .u64 b2, .int .u64 b3, .bool m] (117 : Nat) (0, 0))) := ⟨(heap_alloc_old _ _ (by simp)).trans (heap_alloc_new _ _), by
    have := heap_alloc_new (w.alloc (.cells #[.int .u64 a0, .int .u64 a1, .int .u64 a2, .int .u64 a3, .bool n] (117 : Nat))) (.cells #[.int .u64 b0, .int .u64 b1, .int .u64 b2, .int .u64 b3, .bool m] (117 : Nat))
    simpa using this⟩
  have B := Aside0.mk (((Below.refl w.heap.size w).alloc (Nat.le_refl _) (.cells #[.int .u64 a0, .int .u64 a1, .int .u64 a2, .int .u64 a3, .bool n] (117 : Nat))).alloc (by simp) (.cells #[.int .u64 b0, .int .u64 b1, .int .u64 b2, .int .u64 b3, .bool m] (117 : Nat)))
  generalize ((w.alloc (.cells #[.int .u64 a0, .int .u64 a1, .int .u64 a2, .int .u64 a3, .bool n] (117 : Nat))).alloc (.cells #[.int .u64 b0, .int .u64 b1, .int .u64 b2, .int .u64 b3, .bool m] (117 : Nat))) = W2 at X B ⊢
  go_loopg [5] 4 (fun kq v5 wr => ∃ k : Nat, v5 = .int .i64 (jj k) ∧ kq = k ∧ k ≤ 4 ∧ Aside0 (lessN a0 a1 a2 a3 b0 b1 b2 b3 k = res) ∧ Aside0 (wr.heap[w.heap.size]? = some (.cells #[.int .u64 a0, .int .u64 a1, .int .u64 a2, .int .u64 a3, .bool n] (117 : Nat) (0, 0)) ∧ wr.heap[w.heap.size + 1]? = some (.cells #[.int .u64 b0, .int .u64 b1, .int .u64 b2, .int .u64 b3, .bool m] (117 : Nat) (0, 0))) ∧ Aside0 (Below w.heap.size w wr))
  case atStart => exact ⟨4, rfl, rfl, by omega, HR, X, B⟩
  case round =>
    obtain ⟨k, rfl, rfl, hk, HL, HX, HB⟩ := hrel
    have hi : gk = 0 ∨ gk = 1 ∨ gk = 2 ∨ gk = 3 ∨ gk = 4 := by omega
    obtain ⟨x0, x1, x2, x3, x4, xf⟩ := bcells HX.out.1
    obtain ⟨y0, y1, y2, y3, y4, yf⟩ := bcells HX.out.2
    rcases hi with rfl | rfl | rfl | rfl | rfl
    · have hr : false = res := HL.out
      dsimp only [jj]
      subst hr
      go_wp2
      go_ret
      exact ⟨rfl, HB.out⟩
    · have hr : less1 a0 b0 = res := HL.out
      dsimp only [jj]
      by_cases he : a0 = b0
      · have q : (a0 != b0) = false := by simpa using he
        have HE := Aside0.mk he
        clear he hr
        go_wp2_with fail
        go_quiet (fail)
        go_wp2
        go_roundg 0
        case measure => omega
        case rel =>
          refine ⟨0, rfl, rfl, by omega, ⟨?_⟩, ⟨HX.out⟩, ⟨pw_below_drewN HB.out nq⟩⟩
          have h : less1 a0 b0 = res := HL.out
          unfold less1 at h
          rw [if_pos HE.out] at h
          exact h
      · have q : (a0 != b0) = true := by simpa using he
        have hr2 : decide (a0 < b0) = res := by
          unfold less1 at hr
          rw [if_neg he] at hr
          exact hr
        have HR2 := Aside0.mk hr2
        clear hr he hr2
        go_wp2_with fail
        go_quiet (fail)
        go_wp2_with fail
        generalize hW : wr.drewN nq = W4
        have X4 : Aside0 (W4.heap[w.heap.size]? = some (.cells #[.int .u64 a0, .int .u64 a1, .int .u64 a2, .int .u64 a3, .bool n] (117 : Nat) (0, 0)) ∧ W4.heap[w.heap.size + 1]? = some (.cells #[.int .u64 b0, .int .u64 b1, .int .u64 b2, .int .u64 b3, .bool m] (117 : Nat) (0, 0))) := ⟨by rw [← hW]; exact HX.out⟩
        have B4 : Aside0 (Below w.heap.size w W4) := ⟨by rw [← hW]; exact pw_below_drewN HB.out nq⟩
        clear hW x0 x1 x2 x3 x4 xf y0 y1 y2 y3 y4 yf HX HB
        obtain ⟨x0, x1, x2, x3, x4, xf⟩ := bcells X4.out.1
        obtain ⟨y0, y1, y2, y3, y4, yf⟩ := bcells X4.out.2
        go_quiet (fail)
        go_wp2
        go_ret
        exact ⟨by rw [HR2.out]; try rfl, pw_below_drewN B4.out _⟩
    · have hr : less2 a0 a1 b0 b1 = res := HL.out
      dsimp only [jj]
      by_cases he : a1 = b1
      · have q : (a1 != b1) = false := by simpa using he
        have HE := Aside0.mk he
        clear he hr
        go_wp2_with fail
        go_quiet (fail)
        go_wp2
        go_roundg 1
        case measure => omega
        case rel =>
          refine ⟨1, rfl, rfl, by omega, ⟨?_⟩, ⟨HX.out⟩, ⟨pw_below_drewN HB.out nq⟩⟩
          have h : less2 a0 a1 b0 b1 = res := HL.out
          unfold less2 at h
          rw [if_pos HE.out] at h
          exact h
      · have q : (a1 != b1) = true := by simpa using he
        have hr2 : decide (a1 < b1) = res := by
          unfold less2 at hr
          rw [if_neg he] at hr
          exact hr
        have HR2 := Aside0.mk hr2
        clear hr he hr2
        go_wp2_with fail
        go_quiet (fail)
        go_wp2_with fail
        generalize hW : wr.drewN nq = W4
        have X4 : Aside0 (W4.heap[w.heap.size]? = some (.cells #[.int .u64 a0, .int .u64 a1, .int .u64 a2, .int .u64 a3, .bool n] (117 : Nat) (0, 0)) ∧ W4.heap[w.heap.size + 1]? = some (.cells #[.int .u64 b0, .int .u64 b1, .int .u64 b2, .int .u64 b3, .bool m] (117 : Nat) (0, 0))) := ⟨by rw [← hW]; exact HX.out⟩
        have B4 : Aside0 (Below w.heap.size w W4) := ⟨by rw [← hW]; exact pw_below_drewN HB.out nq⟩
        clear hW x0 x1 x2 x3 x4 xf y0 y1 y2 y3 y4 yf HX HB
        obtain ⟨x0, x1, x2, x3, x4, xf⟩ := bcells X4.out.1
        obtain ⟨y0, y1, y2, y3, y4, yf⟩ := bcells X4.out.2
        go_quiet (fail)
        go_wp2
        go_ret
        exact ⟨by rw [HR2.out]; try rfl, pw_below_drewN B4.out _⟩
    · have hr : less3 a0 a1 a2 b0 b1 b2 = res := HL.out
      dsimp only [jj]
      by_cases he : a2 = b2
      · have q : (a2 != b2) = false := by simpa using he
        have HE := Aside0.mk he
        clear he hr
        go_wp2_with fail
        go_quiet (fail)
        go_wp2
        go_roundg 2
        case measure => omega
        case rel =>
          refine ⟨2, rfl, rfl, by omega, ⟨?_⟩, ⟨HX.out⟩, ⟨pw_below_drewN HB.out nq⟩⟩
          have h : less3 a0 a1 a2 b0 b1 b2 = res := HL.out
          unfold less3 at h
          rw [if_pos HE.out] at h
          exact h
      · have q : (a2 != b2) = true := by simpa using he
        have hr2 : decide (a2 < b2) = res := by
          unfold less3 at hr
          rw [if_neg he] at hr
          exact hr
        have HR2 := Aside0.mk hr2
        clear hr he hr2
        go_wp2_with fail
        go_quiet (fail)
        go_wp2_with fail
        generalize hW : wr.drewN nq = W4
        have X4 : Aside0 (W4.heap[w.heap.size]? = some (.cells #[.int .u64 a0, .int .u64 a1, .int .u64 a2, .int .u64 a3, .bool n] (117 : Nat) (0, 0)) ∧ W4.heap[w.heap.size + 1]? = some (.cells #[.int .u64 b0, .int .u64 b1, .int .u64 b2, .int .u64 b3, .bool m] (117 : Nat) (0, 0))) := ⟨by rw [← hW]; exact HX.out⟩
        have B4 : Aside0 (Below w.heap.size w W4) := ⟨by rw [← hW]; exact pw_below_drewN HB.out nq⟩
        clear hW x0 x1 x2 x3 x4 xf y0 y1 y2 y3 y4 yf HX HB
        obtain ⟨x0, x1, x2, x3, x4, xf⟩ := bcells X4.out.1
        obtain ⟨y0, y1, y2, y3, y4, yf⟩ := bcells X4.out.2
        go_quiet (fail)
        go_wp2
        go_ret
        exact ⟨by rw [HR2.out]; try rfl, pw_below_drewN B4.out _⟩
    · have hr : less4 a0 a1 a2 a3 b0 b1 b2 b3 = res := HL.out
      dsimp only [jj]
      by_cases he : a3 = b3
      · have q : (a3 != b3) = false := by simpa using he
        have HE := Aside0.mk he
        clear he hr
        go_wp2_with fail
        go_quiet (fail)
        go_wp2
        go_roundg 3
        case measure => omega
        case rel =>
          refine ⟨3, rfl, rfl, by omega, ⟨?_⟩, ⟨HX.out⟩, ⟨pw_below_drewN HB.out nq⟩⟩
          have h : less4 a0 a1 a2 a3 b0 b1 b2 b3 = res := HL.out
          unfold less4 at h
          rw [if_pos HE.out] at h
          exact h
      · have q : (a3 != b3) = true := by simpa using he
        have hr2 : decide (a3 < b3) = res := by
          unfold less4 at hr
          rw [if_neg he] at hr
          exact hr
        have HR2 := Aside0.mk hr2
        clear hr he hr2
        go_wp2_with fail
        go_quiet (fail)
        go_wp2_with fail
        generalize hW : wr.drewN nq = W4
        have X4 : Aside0 (W4.heap[w.heap.size]? = some (.cells #[.int .u64 a0, .int .u64 a1, .int .u64 a2, .int .u64 a3, .bool n] (117 : Nat) (0, 0)) ∧ W4.heap[w.heap.size + 1]? = some (.cells #[.int .u64 b0, .int .u64 b1, .int .u64 b2, .int .u64 b3, .bool m] (117 : Nat) (0, 0))) := ⟨by rw [← hW]; exact HX.out⟩
        have B4 : Aside0 (Below w.heap.size w W4) := ⟨by rw [← hW]; exact pw_below_drewN HB.out nq⟩
        clear hW x0 x1 x2 x3 x4 xf y0 y1 y2 y3 y4 yf HX HB
        obtain ⟨x0, x1, x2, x3, x4, xf⟩ := bcells X4.out.1
        obtain ⟨y0, y1, y2, y3, y4, yf⟩ := bcells X4.out.2
        go_quiet (fail)
        go_wp2
        go_ret
        exact ⟨by rw [HR2.out]; try rfl, pw_below_drewN B4.out _⟩
end Go.Proofs.Ytlmpoojpbdmmfaa.H
end
