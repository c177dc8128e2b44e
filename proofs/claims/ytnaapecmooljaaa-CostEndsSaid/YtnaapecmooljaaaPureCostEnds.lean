/- The pure statement of CostEnds: code which is verified has a cost, and which is not above 8 cycles an instruction. The conditions: the arguments' own sizes. -/
import Derived.Test.YtnaapecmooljaaaFits
import Derived.Test.YtnaapecmooljaaaCost21
import Derived.Test.YtnaapecmooljaaaVp19
import Derived.Test.YtnaapecmooljaaaHx16
import Derived.Test.YtnaapecmooljaaaHx8
import Derived.KernelRfl
set_option linter.unusedVariables false
set_option linter.unusedSimpArgs false
namespace Go.Proofs.Ytnaapecmooljaaa.H.Pure
open Go.RowKit Go.Proofs.YtnaapecmooljaaaW.PrintWords Go.Proofs.YtnaapecmooljaaaW.PrintLast

theorem ends_works : carillonlaw21_works.f = some true := by kernel_rfl
theorem lo_le_hi (l : List S26) : ∀ d k, lo l d k ≤ hi l d k
  | 0, k => by simp [lo, hi]
  | d + 1, k => by
    rw [lo, hi]
    split
    · omega
    · rename_i x _; have := lo_le_hi l d x.1; omega
    · rename_i x y _ _
      have h1 := lo_le_hi l d x.1
      have h2 := lo_le_hi l d y.1
      rw [Int.min_def, Int.max_def]
      split <;> split <;> omega
theorem cyc_pos {op a : Int} (h : mayB op a = true) : 1 ≤ cyc op := by
  have : 1 ≤ op ∧ op ≤ 23 := by
    unfold mayB at h
    split at h
    · omega
    split at h
    · omega
    split at h
    · omega
    split at h
    · omega
    · simp at h; omega
  unfold cyc
  repeat' split
  all_goals omega
theorem succs_tg (i : S26) (k : Nat) : (succs i k).map (·.1) = tg19 i k := by
  unfold succs tg19
  repeat' split
  all_goals rfl
theorem ver_cost {l : List S26} {c : Cf} (h : (ver l c).2 = 0) : (bound l).2.2 = 0 ∧ 1 ≤ (bound l).1 ∧ (bound l).1 ≤ (bound l).2.1 ∧ (bound l).2.1 ≤ 8 * l.length := by
  obtain ⟨_, h0, h1, hv⟩ := ver_ok h
  have ha := vgo_all (by omega) (ver_pair h)
  have hok : okAll l = true := okAll_of (fun j hj => (ha j (Nat.zero_le _) hj).1)
  have hb : (bound l).2.2 = 0 := bound_ok hok h0 h1 (fun k _ hk x hx => (ha k (Nat.zero_le _) hk).2 x.1 (by rw [← succs_tg]; exact List.mem_map_of_mem hx))
  obtain ⟨_, _, _, hbv, _⟩ := bound_val hb
  refine ⟨hb, ?_⟩
  rw [hbv]
  obtain ⟨d, hd⟩ : ∃ d, l.length = d + 1 := ⟨l.length - 1, by omega⟩
  have hc := cyc_pos (ha 0 (Nat.zero_le _) h0).1
  refine ⟨?_, lo_le_hi _ _ _, (hi_range l l.length 0).2⟩
  simp only
  rw [hd, lo]
  split
  · omega
  · rename_i x _; have := lo_range l d x.1; omega
  · rename_i x y _ _
    have a1 := lo_range l d x.1
    have a2 := lo_range l d y.1
    rw [Int.min_def]
    split <;> omega
theorem CostEnds : ∀ (y0 : List (S26)) (y1 : S48), (fun l : List (S26) => l.length ≤ 9223372036854775807 ∧ l.length * 16 ≤ 140737488351232 ∧ ∀ x ∈ l, G26 x) y0 → G48 y1 → ∃ k : Nat, carillonlaw21_CostEnds.f y0 y1.f0 y1.f1 y1.f2 y1.f3 = some true := by
  intro l c _ _
  refine ⟨0, ?_⟩
  unfold carillonlaw21_CostEnds.f
  by_cases hl : (l.length : Int) > 300
  · rw [if_pos hl, ends_works]
    rfl
  rw [if_neg hl, if_pos (by simp only [List.length_nil]; omega), List.nil_append]
  have e1 : verify_Verify.f l c.f0 c.f1 c.f2 c.f3 = some (ver l ⟨c.f0, c.f1, c.f2, c.f3⟩) := rfl
  have e2 : cost_Bound.f l = some (bound l) := rfl
  rw [e1, e2, Option.bind_some, Option.bind_some]
  by_cases h : (ver l ⟨c.f0, c.f1, c.f2, c.f3⟩).2 = 0
  · obtain ⟨a1, a2, a3, a4⟩ := ver_cost h
    have hw : wrap64 (8 * (l.length : Int)) = 8 * (l.length : Int) := by unfold wrap64; omega
    rw [if_pos h, if_pos a1, if_pos a2, if_pos a3, hw, if_pos a4, ends_works]
    rfl
  · rw [if_neg h, ends_works]
    rfl
end Go.Proofs.Ytnaapecmooljaaa.H.Pure
