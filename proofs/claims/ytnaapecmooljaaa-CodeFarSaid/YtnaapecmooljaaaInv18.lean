/- Layer 18: 'decode' goes back on 'encode', and 'encode' on 'decode'. The conditions: the Args are int64s. -/
import Derived.Test.YtnaapecmooljaaaL18
import Derived.Test.YtnaapecmooljaaaFits
set_option linter.unusedVariables false
set_option linter.unusedSimpArgs false
namespace Go.Proofs.Ytnaapecmooljaaa.H
open Go.RowKit Go.Proofs.YtnaapecmooljaaaW.PrintWords Go.Proofs.YtnaapecmooljaaaW.PrintLast Go.Proofs.YtnaapecmooljaaaW.PrintMore

/-- What the arguments' instructions are: an op is a byte, an Arg an int64. -/
theorem g26 {i : S26} (h : G26 i) : (0 ≤ i.f0 ∧ i.f0 < 256) ∧ (-9223372036854775808 ≤ i.f1 ∧ i.f1 < 9223372036854775808) := by
  obtain ⟨h0, h1⟩ := h
  simp [Lit.wf, IntKind.min, IntKind.max, IntKind.bits, IntKind.signed] at h0 h1
  omega
theorem mod_split (u M : Int) (hM : 0 < M) : u % (256 * M) = u / M % 256 * M + u % M := by
  have e1 := Int.emod_add_mul_ediv u M
  have e2 := Int.emod_add_mul_ediv (u / M) 256
  have r0 := Int.emod_nonneg u (show M ≠ 0 by omega)
  have r1 := Int.emod_lt_of_pos u hM
  have s0 : 0 ≤ u / M % 256 := by omega
  have s1 : u / M % 256 ≤ 255 := by omega
  generalize u / M % 256 = s at *
  generalize u / M / 256 = q at *
  have hu : u = s * M + u % M + 256 * M * q := by
    conv => lhs; rw [← e1, ← e2]
    rw [Int.mul_add, Int.mul_comm M s, ← Int.mul_assoc M 256 q, Int.mul_comm M 256]
    omega
  have h0 : 0 ≤ s * M := Int.mul_nonneg s0 (by omega)
  have h1 : s * M ≤ 255 * M := Int.mul_le_mul_of_nonneg_right s1 (by omega)
  generalize u % M = r at *
  rw [hu, Int.add_mul_emod_self_left, Int.emod_eq_of_lt (by omega) (by omega)]
theorem pow_split (n : Nat) : (2 : Int) ^ (8 * (n + 1)) = 256 * 2 ^ (8 * n) := by
  rw [show 8 * (n + 1) = 8 + 8 * n by omega, Int.pow_add]
  rfl
/-- The value of the last n bytes of a number. -/
theorem val_enc (a : Int) (n : Nat) : ∀ x : Int, n ≤ 8 → 0 ≤ x → x < 2 ^ (64 - 8 * n) → valOf x (encArg a n) = x * 2 ^ (8 * n) + (a % 18446744073709551616) % 2 ^ (8 * n) := by
  induction n with
  | zero => intro x _ _ _; simp [valOf, encArg]
  | succ n ih =>
    intro x hn h0 hx
    simp only [encArg, valOf]
    generalize hu : a % 18446744073709551616 = u
    have hu0 : 0 ≤ u ∧ u < 18446744073709551616 := by omega
    have hp : (0 : Int) < 2 ^ (8 * n) := Int.pow_pos (by decide)
    have hb : 0 ≤ u / 2 ^ (8 * n) % 256 ∧ u / 2 ^ (8 * n) % 256 < 256 := by omega
    have hq : (2 : Int) ^ (64 - 8 * n) = 256 * 2 ^ (64 - 8 * (n + 1)) := by
      rw [show 64 - 8 * n = 8 + (64 - 8 * (n + 1)) by omega, Int.pow_add]; rfl
    have hle : (2 : Int) ^ (64 - 8 * n) ≤ 2 ^ 64 := by
      have : (2 : Nat) ^ (64 - 8 * n) ≤ 2 ^ 64 := Nat.pow_le_pow_right (by decide) (by omega)
      exact_mod_cast this
    have hlt : x * 256 + u / 2 ^ (8 * n) % 256 < 2 ^ (64 - 8 * n) := by rw [hq]; omega
    have he : (x * 256 + u / 2 ^ (8 * n) % 256) % 18446744073709551616 = x * 256 + u / 2 ^ (8 * n) % 256 := by omega
    rw [he, ih _ (by omega) (by omega) hlt, hu, pow_split]
    have hm := mod_split u (2 ^ (8 * n)) hp
    rw [hm, Int.add_mul, Int.mul_assoc]
    omega
/-- An Arg that may be is read back. -/
theorem val_back {op a : Int} (h : mayB op a = true) (ha : -9223372036854775808 ≤ a ∧ a < 9223372036854775808) : wrap64 (valOf 0 (encArg a (sz op))) = a := by
  rw [val_enc a (sz op) 0 (sz_le op) (by omega) (Int.pow_pos (by decide))]
  unfold mayB at h
  unfold sz
  split at h
  · rename_i h1
    rw [if_pos h1]
    unfold wrap64
    omega
  rename_i h1
  rw [if_neg h1]
  split at h
  · rename_i h2
    rw [if_pos (by omega)]
    simp at h
    unfold wrap64
    omega
  rename_i h2
  split at h
  · rename_i h3
    rw [if_neg (by omega), if_pos h3]
    simp at h
    unfold wrap64
    omega
  rename_i h3
  split at h
  · rename_i h4
    rw [if_pos (by omega)]
    simp at h
    unfold wrap64
    omega
  · rename_i h4
    rw [if_neg (by omega), if_neg h3]
    simp at h
    unfold wrap64
    omega
theorem decGo_enc : ∀ (l : List S26) (n c : Nat), okAll l = true → (∀ x ∈ l, -9223372036854775808 ≤ x.f1 ∧ x.f1 < 9223372036854775808) → c + l.length ≤ 4096 → l.length < n → decGo n (encAll l) c = (l, 0)
  | [], n + 1, c, _, _, _, _ => by simp [encAll, decGo]
  | i :: l, n + 1, c, ho, ha, hc, hn => by
    simp only [okAll, List.all_cons, Bool.and_eq_true] at ho
    have ih := decGo_enc l n (c + 1) ho.2 (fun x hx => ha x (List.mem_cons_of_mem _ hx)) (by simp at hc; omega) (by simp at hn; omega)
    have hop := may_op ho.1
    have hb := val_back ho.1 (ha i List.mem_cons_self)
    rw [encAll_cons]
    simp only [encIns, List.cons_append, decGo]
    simp at hc
    have ht : (encArg i.f1 (sz i.f0) ++ encAll l).take (sz i.f0) = encArg i.f1 (sz i.f0) := by
      rw [List.take_append_of_le_length (by rw [encArg_length]; omega), List.take_of_length_le (by rw [encArg_length]; omega)]
    have hd : (encArg i.f1 (sz i.f0) ++ encAll l).drop (sz i.f0) = encAll l := by
      rw [List.drop_append_of_le_length (by rw [encArg_length]; omega), List.drop_of_length_le (by rw [encArg_length]; omega), List.nil_append]
    rw [if_neg (by omega), hop, if_neg (by simp), if_neg (by rw [List.length_append, encArg_length]; omega), ht, hd, hb, if_pos ho.1, ih, if_pos rfl]
theorem bytesOf_str {l : List Int} (h : ∀ x ∈ l, 0 ≤ x ∧ x < 256) : bytesOf (strOfNums l) = l := by
  unfold bytesOf
  rw [strOfNums_data, List.map_map]
  conv => rhs; rw [← List.map_id l]
  refine List.map_congr_left fun x hx => ?_
  have := h x hx
  simp
  omega
theorem encode_ok {l : List S26} (h : (encode l).2 = 0) : l.length ≤ 4096 ∧ okAll l = true ∧ encode l = (strOfNums (encAll l), 0) := by
  unfold encode at h ⊢
  split at h
  · simp at h
  · rename_i hl
    split at h
    · rename_i ho
      exact ⟨by omega, ho, by rw [if_neg hl, if_pos ho]⟩
    · simp at h
theorem encode_decode (l : List S26) (ha : ∀ x ∈ l, -9223372036854775808 ≤ x.f1 ∧ x.f1 < 9223372036854775808) (h : (encode l).2 = 0) : decode (encode l).1 = (l, 0) := by
  obtain ⟨hl, ho, e⟩ := encode_ok h
  rw [e]
  unfold decode
  rw [bytesOf_str (enc_bytes ho)]
  have hlen : l.length ≤ (encAll l).length := by
    clear e h hl ho ha
    induction l with
    | nil => simp
    | cons i l ih => rw [encAll_cons, List.length_append, encIns_length]; simp; omega
  exact decGo_enc l _ 0 ho ha (by omega) (by show l.length < (strOfNums (encAll l)).size + 1; rw [strOfNums_size]; omega)
/-- The bytes of what bytes are read as, are these. -/
theorem enc_val (n : Nat) : ∀ (b : List Int) (x : Int), b.length = n → n ≤ 8 → (∀ y ∈ b, 0 ≤ y ∧ y < 256) → 0 ≤ x → x < 2 ^ (64 - 8 * n) → encArg (valOf x b) n = b ∧ valOf x b / 2 ^ (8 * n) = x ∧ 0 ≤ valOf x b ∧ valOf x b < 18446744073709551616 := by
  induction n with
  | zero =>
    intro b x hb _ _ h0 hx
    obtain rfl := List.eq_nil_of_length_eq_zero hb
    simp [valOf, encArg]
    simp at hx
    omega
  | succ n ih =>
    intro b x hb hn hy h0 hx
    cases b with
    | nil => simp at hb
    | cons y r =>
      have hyy := hy y List.mem_cons_self
      have hq : (2 : Int) ^ (64 - 8 * n) = 256 * 2 ^ (64 - 8 * (n + 1)) := by
        rw [show 64 - 8 * n = 8 + (64 - 8 * (n + 1)) by omega, Int.pow_add]; rfl
      have hle : (2 : Int) ^ (64 - 8 * n) ≤ 2 ^ 64 := by
        have : (2 : Nat) ^ (64 - 8 * n) ≤ 2 ^ 64 := Nat.pow_le_pow_right (by decide) (by omega)
        exact_mod_cast this
      have hlt : x * 256 + y < 2 ^ (64 - 8 * n) := by rw [hq]; omega
      have he : (x * 256 + y) % 18446744073709551616 = x * 256 + y := by omega
      obtain ⟨i1, i2, i3, i4⟩ := ih r (x * 256 + y) (by simpa using hb) (by omega) (fun z hz => hy z (List.mem_cons_of_mem _ hz)) (by omega) hlt
      simp only [valOf, he]
      generalize valOf (x * 256 + y) r = v at i1 i2 i3 i4 ⊢
      refine ⟨?_, ?_, i3, i4⟩
      · simp only [encArg]
        rw [i1, Int.emod_eq_of_lt i3 i4, i2]
        congr 1
        omega
      · rw [pow_split, Int.mul_comm, ← Int.ediv_ediv_of_nonneg (by have : (0 : Int) < 2 ^ (8 * n) := Int.pow_pos (by decide); omega), i2]
        omega
theorem encArg_congr {a b : Int} (h : a % 18446744073709551616 = b % 18446744073709551616) : ∀ n, encArg a n = encArg b n
  | 0 => rfl
  | n + 1 => by simp only [encArg, h, encArg_congr h n]
theorem str_bytes (s : ByteArray) : strOfNums (bytesOf s) = s := by
  obtain ⟨⟨l⟩⟩ := s
  unfold strOfNums bytesOf
  congr 2
  rw [List.map_map]
  conv => rhs; rw [← List.map_id l]
  refine List.map_congr_left fun x _ => ?_
  simp
theorem decGo_ok : ∀ (n : Nat) (l : List Int) (c : Nat), (∀ y ∈ l, 0 ≤ y ∧ y < 256) → l.length < n → c ≤ 4096 → (decGo n l c).2 = 0 → okAll (decGo n l c).1 = true ∧ encAll (decGo n l c).1 = l ∧ c + (decGo n l c).1.length ≤ 4096
  | 0, _, _, _, h, _, _ => absurd h (by omega)
  | n + 1, [], c, _, _, hc, _ => by simp [decGo, okAll, encAll]; exact hc
  | n + 1, op :: r, c, hy, hn, hc, h => by
    simp only [decGo] at h ⊢
    by_cases h1 : c = 4096
    · rw [if_pos h1] at h; simp at h
    rw [if_neg h1] at h ⊢
    by_cases h2 : isOp op = false
    · rw [if_pos h2] at h; simp at h
    rw [if_neg h2] at h ⊢
    by_cases h3 : r.length < sz op
    · rw [if_pos h3] at h; simp at h
    rw [if_neg h3] at h ⊢
    by_cases h4 : mayB op (wrap64 (valOf 0 (r.take (sz op)))) = true
    · rw [if_pos h4] at h ⊢
      have hr : ∀ y ∈ r, 0 ≤ y ∧ y < 256 := fun y h => hy y (List.mem_cons_of_mem _ h)
      have ih := decGo_ok n (r.drop (sz op)) (c + 1) (fun y h => hr y (List.mem_of_mem_drop h)) (by simp at hn ⊢; omega) (by omega)
      by_cases h5 : (decGo n (r.drop (sz op)) (c + 1)).2 = 0
      · rw [if_pos h5]
        obtain ⟨i1, i2, i3⟩ := ih h5
        have hv := enc_val (sz op) (r.take (sz op)) 0 (by rw [List.length_take]; omega) (sz_le op) (fun y h => hr y (List.mem_of_mem_take h)) (by omega) (Int.pow_pos (by decide))
        refine ⟨?_, ?_, ?_⟩
        · simp only [okAll, List.all_cons, h4, Bool.true_and]; exact i1
        · rw [encAll_cons, i2]
          simp only [encIns]
          rw [encArg_congr (b := valOf 0 (r.take (sz op))) (by unfold wrap64; omega), hv.1, List.cons_append, List.take_append_drop]
        · simp only [List.length_cons]; omega
      · rw [if_neg h5] at h
        exact absurd h h5
    · rw [if_neg h4] at h; simp at h
theorem decode_encode (s : ByteArray) (h : (decode s).2 = 0) : encode (decode s).1 = (s, 0) := by
  unfold decode at h ⊢
  obtain ⟨h1, h2, h3⟩ := decGo_ok (s.size + 1) (bytesOf s) 0 (bytes_range s) (by rw [bytesOf_length]; omega) (by omega) h
  unfold encode
  rw [if_neg (by omega), if_pos h1, h2, str_bytes]
end Go.Proofs.Ytnaapecmooljaaa.H
