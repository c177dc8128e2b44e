/- Layer 18 as plain functions: how many bytes an op's Arg has, which instructions may be, their cycles, code as bytes and back; and that the printed functions of the reference (and the short ones of the program) compute them. The conditions: none beyond what each lemma names. -/
import Derived.Test.YtnaapecmooljaaaA18
import Derived.Test.YtnaapecmooljaaaHx2
import Derived.Test.YtnaapecmooljaaaHx3
import Derived.Test.YtnaapecmooljaaaHx4
set_option linter.unusedVariables false
set_option linter.unusedSimpArgs false
namespace Go.Proofs.Ytnaapecmooljaaa.H
open Go.RowKit Go.Proofs.YtnaapecmooljaaaW.PrintWords Go.Proofs.YtnaapecmooljaaaW.PrintLast Go.Proofs.YtnaapecmooljaaaW.PrintMore

theorem ev_rsize (op : Int) : Ev (fun k => carillonref18_Size.f k op) (if isOp op = true then (sz op : Int) else -1) := by
  refine ⟨2, fun k hk => ?_⟩
  obtain ⟨k, rfl⟩ : ∃ m, k = m + 2 := ⟨k - 2, by omega⟩
  simp only [carillonref18_Size.f, carillonref18_Size.j0, carillonref18_Size.j1, sz, isOp]
  by_cases h1 : op = 1
  · subst h1; simp [cyc, isOp]
  by_cases h2 : op = 2
  · subst h2; simp [cyc, isOp]
  by_cases h3 : op = 3
  · subst h3; simp [cyc, isOp]
  by_cases h21 : op = 21
  · subst h21; simp [cyc, isOp]
  by_cases h22 : op = 22
  · subst h22; simp [cyc, isOp]
  by_cases h4 : op = 4
  · subst h4; simp [cyc, isOp]
  by_cases h5 : op = 5
  · subst h5; simp [cyc, isOp]
  simp only [h1, h2, h3, h21, h22, h4, h5, if_false, false_or, beq_eq_false_iff_ne.mpr h22, beq_eq_false_iff_ne.mpr h5]
  by_cases g : op < 1
  · simp [g] <;> omega
  · by_cases g2 : op > 23
    · simp [g, g2] <;> omega
    · simp [g, g2] <;> omega
theorem ev_rmay (op a : Int) : Ev (fun k => carillonref18_May.f k op a) (mayB op a) := by
  obtain ⟨K, hK⟩ := ev_rsize op
  refine ⟨K + 2, fun k hk => ?_⟩
  obtain ⟨k, rfl⟩ : ∃ m, k = m + 2 := ⟨k - 2, by omega⟩
  have hs := hK k (by omega)
  simp only [carillonref18_May.f, carillonref18_May.j0, carillonref18_May.j1, hs, Option.bind_some]
  simp only [sz, isOp, mayB]
  by_cases h1 : op = 1
  · subst h1; simp [cyc, isOp]
  by_cases h2 : op = 2
  · subst h2; simp; split <;> simp_all <;> omega
  by_cases h3 : op = 3
  · subst h3; simp; split <;> simp_all <;> omega
  by_cases h21 : op = 21
  · subst h21; simp; split <;> simp_all <;> omega
  by_cases h22 : op = 22
  · subst h22; simp; split <;> simp_all <;> omega
  by_cases h4 : op = 4
  · subst h4; simp; split <;> simp_all <;> omega
  by_cases h5 : op = 5
  · subst h5; simp; split <;> simp_all <;> omega
  simp only [h1, h2, h3, h21, h22, h4, h5, if_false, false_or, beq_eq_false_iff_ne.mpr h3, beq_eq_false_iff_ne.mpr h5]
  by_cases g : 1 ≤ op ∧ op ≤ 23
  · by_cases ha : a = 0 <;> simp [g, ha]
  · simp [g] <;> omega
theorem ev_rcycles (op : Int) : Ev (fun k => carillonref18_Cycles.f k op) (cyc op) := by
  obtain ⟨K, hK⟩ := ev_rsize op
  refine ⟨K + 2, fun k hk => ?_⟩
  obtain ⟨k, rfl⟩ : ∃ m, k = m + 2 := ⟨k - 2, by omega⟩
  have hs := hK k (by omega)
  simp only [carillonref18_Cycles.f, carillonref18_Cycles.j0, carillonref18_Cycles.j1, hs, Option.bind_some]
  simp only [isOp, cyc]
  by_cases h4 : op = 4
  · subst h4; simp [cyc, isOp]
  by_cases h5 : op = 5
  · subst h5; simp [cyc, isOp]
  by_cases h22 : op = 22
  · subst h22; simp [cyc, isOp]
  by_cases h10 : op = 10
  · subst h10; simp [cyc, isOp]
  by_cases h11 : op = 11
  · subst h11; simp [cyc, isOp]
  by_cases h12 : op = 12
  · subst h12; simp [cyc, isOp]
  simp only [h4, h5, h22, h10, h11, h12, if_false, false_or, beq_eq_false_iff_ne.mpr h22, beq_eq_false_iff_ne.mpr h12]
  by_cases g : 1 ≤ op ∧ op ≤ 23
  · simp [g] <;> omega
  · simp [g] <;> omega
end Go.Proofs.Ytnaapecmooljaaa.H
