/- verify.Verify as a plain function. The conditions: what each lemma names. -/
import Derived.Test.YtlmpoojpbdmmfaaFol19
import Derived.Test.YtlmpoojpbdmmfaaSverifyMay
set_option linter.unusedVariables false
set_option linter.unusedSimpArgs false
namespace Go.Proofs.Ytlmpoojpbdmmfaa.H
open Go.RowKit Go.Proofs.YtlmpoojpbdmmfaaW.PrintWords Go.Proofs.YtlmpoojpbdmmfaaW.PrintLast Go.Proofs.YtlmpoojpbdmmfaaW.PrintMore

/-- Verifying from place k on, d instructions. -/
def vgo (l : List S53) (c : Cf) : Nat → Nat → (Nat → Option Vst) → Int → Int × Int
  | 0, _, _, most => (most, 0)
  | d + 1, k, m, most => match m k with
    | none => (0, 194)
    | some s =>
      if (chk s (rd_T53 l k) c).2 = 0 then
        (if (folP l.length (fun j => if j = k then some (chk s (rd_T53 l k) c).1 else m j) (chk s (rd_T53 l k) c).1 k (rd_T53 l k)).2 = 0 then
          vgo l c d (k + 1) (fun j => if j = k then none else (folP l.length (fun j => if j = k then some (chk s (rd_T53 l k) c).1 else m j) (chk s (rd_T53 l k) c).1 k (rd_T53 l k)).1 j) (max most (chk s (rd_T53 l k) c).1.h)
        else (0, (folP l.length (fun j => if j = k then some (chk s (rd_T53 l k) c).1 else m j) (chk s (rd_T53 l k) c).1 k (rd_T53 l k)).2))
      else (0, (chk s (rd_T53 l k) c).2)
def ver (l : List S53) (c : Cf) : Int × Int :=
  if mayC c.slots c.reads c.writes c.stack = false then (0, 2) else if 4096 < l.length then (0, 4) else if l.length = 0 then (0, 195) else vgo l c l.length 0 (fun j => if j = 0 then some st0 else none) 0
/-- States as they may be. -/
def OKS (s : Vst) : Prop := s.has.length = 8 ∧ 0 ≤ s.h ∧ s.h ≤ 256
def OKM (m : Nat → Option Vst) : Prop := ∀ k x, m k = some x → OKS x
theorem chk2_ok {s : Vst} {i : S53} {c : Cf} (hs : OKS s) : OKS (chk2 s i c).1 := by
  unfold chk2 OKS at *
  repeat' split
  all_goals (first | exact hs | (simp only [List.length_set]; exact hs))
theorem chk_ok {s : Vst} {i : S53} {c : Cf} (hs : OKS s) (hc : c.stack ≤ 256) : OKS (chk s i c).1 := by
  unfold chk
  split
  · exact hs
  split
  · exact hs
  · rename_i h1 h2
    refine chk2_ok ⟨hs.1, ?_, ?_⟩
    · simp only
      have : 0 ≤ gvs i.f0 := by unfold gvs; repeat' split
                                all_goals decide
      omega
    · simp only; omega
theorem chk_may {s : Vst} {i : S53} {c : Cf} (h : (chk s i c).2 = 0) : mayB i.f0 i.f1 = true := by
  unfold chk at h
  split at h
  · simp at h
  · rename_i h1; simpa using h1
theorem may_arg {i : S53} (h : mayB i.f0 i.f1 = true) : (1 ≤ i.f1 ∧ i.f1 ≤ 4096) ∨ (i.f0 ≠ 21 ∧ i.f0 ≠ 22) := by
  by_cases hj : i.f0 = 21 ∨ i.f0 = 22
  · left
    unfold mayB at h
    rw [if_neg (by omega), if_neg (by omega), if_neg (by omega), if_pos hj] at h
    exact of_decide_eq_true h
  · right; omega
theorem meetS_ok {s t : Vst} (hs : OKS s) (ht : OKS t) : OKS (meetS s t).1 := by
  refine ⟨meetS_len hs.1 ht.1, ?_⟩
  unfold meetS
  repeat' split
  all_goals exact hs.2
theorem goesP_okm {n : Nat} {m : Nat → Option Vst} {s : Vst} {tg : Nat} {be : Int} (hm : OKM m) (hs : OKS s) : OKM (goesP n m s tg be).1 := by
  intro k x hx
  unfold goesP at hx
  split at hx
  · exact hm k x hx
  · split at hx
    · rename_i t ht
      by_cases e : k = tg
      · simp [e] at hx; subst hx; exact meetS_ok (hm _ _ ht) hs
      · simp [e] at hx; exact hm k x hx
    · by_cases e : k = tg
      · simp [e] at hx; subst hx; exact hs
      · simp [e] at hx; exact hm k x hx
theorem folP_okm {n : Nat} {m : Nat → Option Vst} {s : Vst} {p : Nat} {i : S53} (hm : OKM m) (hs : OKS s) : OKM (folP n m s p i).1 := by
  unfold folP
  split
  · exact hm
  split
  · exact goesP_okm hm hs
  split
  · split
    · exact goesP_okm (goesP_okm hm hs) hs
    · exact goesP_okm hm hs
  · exact goesP_okm hm hs
theorem put_okm {m : Nat → Option Vst} {s : Vst} {p : Nat} (hm : OKM m) (hs : OKS s) : OKM (fun j => if j = p then some s else m j) := by
  intro k x hx
  by_cases e : k = p
  · simp [e] at hx; subst hx; exact hs
  · simp [e] at hx; exact hm k x hx
theorem del_okm {m : Nat → Option Vst} {p : Nat} (hm : OKM m) : OKM (fun j => if j = p then none else m j) := by
  intro k x hx
  by_cases e : k = p
  · simp [e] at hx
  · simp [e] at hx; exact hm k x hx
theorem st0_ok : OKS st0 := ⟨rfl, by decide, by decide⟩
end Go.Proofs.Ytlmpoojpbdmmfaa.H
