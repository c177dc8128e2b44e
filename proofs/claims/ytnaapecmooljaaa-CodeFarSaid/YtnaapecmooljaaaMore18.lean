/- Layer 18: code that is too long; code behind code; a beginning of the bytes of code. The conditions: the Args are int64s. -/
import Derived.Test.YtnaapecmooljaaaInv18
set_option linter.unusedVariables false
set_option linter.unusedSimpArgs false
namespace Go.Proofs.Ytnaapecmooljaaa.H
open Go.RowKit Go.Proofs.YtnaapecmooljaaaW.PrintWords Go.Proofs.YtnaapecmooljaaaW.PrintLast Go.Proofs.YtnaapecmooljaaaW.PrintMore

theorem decGo_err (n : Nat) (l : List Int) (c : Nat) (h : (decGo n l c).2 ≠ 0) : (decGo n l c).1 = [] := by
  have := decR_nil n l c
  unfold decR at this
  rw [if_neg h] at this
  exact (congrArg Prod.fst this).symm
/-- One step of 'decGo' over a whole instruction that may be, and something behind it. -/
theorem decGo_step (i : S26) (r : List Int) (n c : Nat) (ho : mayB i.f0 i.f1 = true) (ha : -9223372036854775808 ≤ i.f1 ∧ i.f1 < 9223372036854775808) (hc : c < 4096) :
    decGo (n + 1) (encIns i ++ r) c = if (decGo n r (c + 1)).2 = 0 then (i :: (decGo n r (c + 1)).1, 0) else ([], (decGo n r (c + 1)).2) := by
  have hop := may_op ho
  have hb := val_back ho ha
  have ht : (encArg i.f1 (sz i.f0) ++ r).take (sz i.f0) = encArg i.f1 (sz i.f0) := by
    rw [List.take_append_of_le_length (by rw [encArg_length]; omega), List.take_of_length_le (by rw [encArg_length]; omega)]
  have hd : (encArg i.f1 (sz i.f0) ++ r).drop (sz i.f0) = r := by
    rw [List.drop_append_of_le_length (by rw [encArg_length]; omega), List.drop_of_length_le (by rw [encArg_length]; omega), List.nil_append]
  simp only [encIns, List.cons_append, decGo]
  rw [if_neg (by omega), hop, if_neg (by simp), if_neg (by rw [List.length_append, encArg_length]; omega), ht, hd, hb, if_pos ho]
theorem decGo_long : ∀ (l : List S26) (n c : Nat), okAll l = true → (∀ x ∈ l, -9223372036854775808 ≤ x.f1 ∧ x.f1 < 9223372036854775808) → c ≤ 4096 → 4096 < c + l.length → l.length < n → decGo n (encAll l) c = ([], 4)
  | [], _, _, _, _, h1, h2, _ => absurd h2 (by simp; omega)
  | _ :: _, 0, _, _, _, _, _, h => absurd h (by omega)
  | i :: l, n + 1, c, ho, ha, hc, hl, hn => by
    rw [encAll_cons]
    by_cases h : c = 4096
    · simp only [encIns, List.cons_append, decGo]
      rw [if_pos h]
    · simp only [okAll, List.all_cons, Bool.and_eq_true] at ho
      have ih := decGo_long l n (c + 1) ho.2 (fun x hx => ha x (List.mem_cons_of_mem _ hx)) (by omega) (by simp at hl; omega) (by simp at hn; omega)
      rw [decGo_step i _ n c ho.1 (ha i List.mem_cons_self) (by omega), ih, if_neg (by simp)]
theorem decGo_part : ∀ (l : List S26) (n c k : Nat), okAll l = true → (∀ x ∈ l, -9223372036854775808 ≤ x.f1 ∧ x.f1 < 9223372036854775808) → k + l.length ≤ 4096 → ((encAll l).take c).length < n →
    (decGo n ((encAll l).take c) k).2 = 0 → ∃ m, m ≤ l.length ∧ (decGo n ((encAll l).take c) k).1 = l.take m
  | _, 0, _, _, _, _, _, h, _ => absurd h (by omega)
  | [], n + 1, c, k, _, _, _, _, _ => ⟨0, by simp, by simp [encAll, decGo]⟩
  | i :: l, n + 1, 0, k, _, _, _, _, _ => ⟨0, by simp, by simp [decGo]⟩
  | i :: l, n + 1, c + 1, k, ho, ha, hk, hn, h => by
    simp only [okAll, List.all_cons, Bool.and_eq_true] at ho
    simp only [List.length_cons] at hk
    rw [encAll_cons] at h hn ⊢
    by_cases hc : c < sz i.f0
    · have hop := may_op ho.1
      have e : (encIns i ++ encAll l).take (c + 1) = i.f0 :: (encArg i.f1 (sz i.f0)).take c := by
        simp only [encIns, List.cons_append, List.take_succ_cons]
        rw [List.take_append_of_le_length (by rw [encArg_length]; omega)]
      rw [e] at h
      simp only [decGo] at h
      rw [if_neg (by omega), hop, if_neg (by simp), if_pos (by rw [List.length_take, encArg_length]; omega)] at h
      simp at h
    · have e : (encIns i ++ encAll l).take (c + 1) = encIns i ++ (encAll l).take (c - sz i.f0) := by
        rw [List.take_append, encIns_length, List.take_of_length_le (by rw [encIns_length]; omega), show c + 1 - (1 + sz i.f0) = c - sz i.f0 by omega]
      rw [e] at h hn ⊢
      rw [decGo_step i _ n k ho.1 (ha i List.mem_cons_self) (by omega)] at h ⊢
      by_cases h2 : (decGo n ((encAll l).take (c - sz i.f0)) (k + 1)).2 = 0
      · rw [if_pos h2] at h ⊢
        obtain ⟨m, hm, e2⟩ := decGo_part l n (c - sz i.f0) (k + 1) ho.2 (fun x hx => ha x (List.mem_cons_of_mem _ hx)) (by omega) (by rw [List.length_append, encIns_length] at hn; omega) h2
        exact ⟨m + 1, by simp; omega, by simp [e2]⟩
      · rw [if_neg h2] at h
        exact absurd h h2
theorem str_append (a b : List Int) : strOfNums a ++ strOfNums b = strOfNums (a ++ b) := by
  apply ByteArray.ext
  simp [strOfNums]
theorem okAll_append (a b : List S26) : okAll (a ++ b) = (okAll a && okAll b) := by simp [okAll]
theorem okAll_rep (i : S26) (n : Nat) (h : mayB i.f0 i.f1 = true) : okAll (List.replicate n i) = true := by simp [okAll, h]
theorem take_bytes (l : List Int) (h : ∀ x ∈ l, 0 ≤ x ∧ x < 256) (c : Nat) : bytesOf ((strOfNums l).extract 0 c) = l.take c := by
  unfold bytesOf
  rw [Lib.extract_data, List.drop_zero, Nat.sub_zero, List.map_take]
  congr 1
  exact bytesOf_str h
end Go.Proofs.Ytnaapecmooljaaa.H
