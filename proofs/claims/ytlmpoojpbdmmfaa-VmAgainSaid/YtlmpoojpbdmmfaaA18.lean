/- Layer 18 as plain functions: how many bytes an op's Arg has, which instructions may be, their cycles, code as bytes and back; and that the short ones of the program compute them. The conditions: none beyond what each lemma names. -/
import Derived.Test.YtlmpoojpbdmmfaaHx1
import Derived.Test.YtlmpoojpbdmmfaaScodesize
set_option linter.unusedVariables false
set_option linter.unusedSimpArgs false
namespace Go.Proofs.Ytlmpoojpbdmmfaa.H
open Go.RowKit Go.Proofs.YtlmpoojpbdmmfaaW.PrintWords Go.Proofs.YtlmpoojpbdmmfaaW.PrintLast Go.Proofs.YtlmpoojpbdmmfaaW.PrintMore

theorem ev_size (op : Int) : Ev (fun _ => code_size.f op) ((sz op : Int), isOp op) := ⟨0, fun _ _ => rfl⟩
theorem ev_may (op a : Int) : Ev (fun k => code_May.f k op a) (mayB op a) := by
  refine Ev.bind (ev_size op) ?_
  refine ⟨3, fun k hk => ?_⟩
  obtain ⟨k, rfl⟩ : ∃ m, k = m + 3 := ⟨k - 3, by omega⟩
  simp only [code_May.j0, code_May.j1, code_May.j2, sz, isOp, mayB]
  by_cases h1 : op = 1
  · subst h1; simp [cyc, isOp]
  by_cases h2 : op = 2
  · subst h2; simp; split <;> simp_all <;> omega
  by_cases h3 : op = 3
  · subst h3; simp; split <;> simp_all <;> omega
  by_cases h21 : op = 21
  · subst h21; simp; split <;> simp_all <;> omega
  by_cases h22 : op = 22
  · subst h22; simp; split <;> simp_all <;> omega
  by_cases h4 : op = 4
  · subst h4; simp; split <;> simp_all <;> omega
  by_cases h5 : op = 5
  · subst h5; simp; split <;> simp_all <;> omega
  simp only [h1, h2, h3, h21, h22, h4, h5, if_false, false_or, beq_eq_false_iff_ne.mpr h3, beq_eq_false_iff_ne.mpr h5]
  by_cases g : 1 ≤ op ∧ op ≤ 23
  · by_cases ha : a = 0 <;> simp [g, ha]
  · simp [g] <;> omega
theorem ev_cycles (op : Int) : Ev (fun k => code_Cycles.f k op) (cyc op) := by
  refine Ev.bind (ev_size op) ?_
  refine ⟨1, fun k hk => ?_⟩
  obtain ⟨k, rfl⟩ : ∃ m, k = m + 1 := ⟨k - 1, by omega⟩
  simp only [code_Cycles.j0, sz, isOp, cyc]
  by_cases h4 : op = 4
  · subst h4; simp [cyc, isOp]
  by_cases h5 : op = 5
  · subst h5; simp [cyc, isOp]
  by_cases h22 : op = 22
  · subst h22; simp [cyc, isOp]
  by_cases h10 : op = 10
  · subst h10; simp [cyc, isOp]
  by_cases h11 : op = 11
  · subst h11; simp [cyc, isOp]
  by_cases h12 : op = 12
  · subst h12; simp [cyc, isOp]
  simp only [h4, h5, h22, h10, h11, h12, if_false, false_or, beq_eq_false_iff_ne.mpr h22]
  by_cases g : 1 ≤ op ∧ op ≤ 23 <;> simp [g] <;> omega
end Go.Proofs.Ytlmpoojpbdmmfaa.H
