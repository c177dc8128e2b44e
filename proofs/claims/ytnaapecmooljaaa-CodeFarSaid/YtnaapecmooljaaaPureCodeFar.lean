/- The pure statement of CodeFar: code next to the bound. The conditions: the arguments' own sizes. -/
import Derived.Test.YtnaapecmooljaaaFits
import Derived.Test.YtnaapecmooljaaaMore18
import Derived.Test.YtnaapecmooljaaaHx6
namespace Go.Proofs.Ytnaapecmooljaaa.H.Pure
open Go.RowKit Go.Proofs.YtnaapecmooljaaaW.PrintWords Go.Proofs.YtnaapecmooljaaaW.PrintLast

theorem far_len (i : S26) (n : Nat) : (encAll (List.replicate n i)).length = n * (1 + sz i.f0) := by
  induction n with
  | zero => simp [encAll]
  | succ n ih => rw [List.replicate_succ, encAll_cons, List.length_append, ih, encIns_length, Nat.succ_mul]; omega
theorem far_snoc (i : S26) (n : Nat) : encAll (List.replicate n i) ++ encIns i = encAll (List.replicate (n + 1) i) := by
  rw [List.replicate_succ', encAll_append]
  simp [encAll]
theorem far_join (i : S26) (x5 x9 : Int) (x8 : ByteArray) (n : Nat) (hn : n ≤ 4098) (h5 : x5 = n) (h6 : 4096 < n) (hm : mayB i.f0 i.f1 = true) (hi : -9223372036854775808 ≤ i.f1 ∧ i.f1 < 9223372036854775808) (h8 : x8 = ⟨#[]⟩) (h9 : x9 = 4) (d : Nat) :
    ∀ j : Nat, j + d = n → Ev (fun k => carillonlaw18_CodeFar.l1 k x5 x8 x9 (strOfNums (encIns i)) 0 (strOfNums (encAll (List.replicate j i))) (j : Int)) true := by
  have hsz := sz_le i.f0
  subst h5 h8 h9
  have hml : ∀ j : Nat, j ≤ 4098 → j * (1 + sz i.f0) ≤ 4098 * 9 := fun j hj => Nat.mul_le_mul hj (by omega)
  induction d with
  | zero =>
    intro j hj
    obtain rfl : j = n := by omega
    have hlen := far_len i j
    have := hml j hn
    refine Ev.step (f := fun k => (code_Decode.f (strOfNums (encAll (List.replicate j i)))).bind fun bt => if (⟨#[]⟩ : ByteArray).toList = ([] : List UInt8) then (if (4 : Int) = 4 then (if (0 : Int) = 0 then (if (bt.1.length : Int) = 0 then (if bt.2 = 4 then ((carillonlaw18_works.f k).bind fun t => some t) else some false) else some false) else some false) else some false) else some false) (fun k => ?_) ?_
    · simp only [carillonlaw18_CodeFar.l1]
      rw [if_neg (by omega)]
    · have e : decode (strOfNums (encAll (List.replicate j i))) = ([], 4) := by
        unfold decode
        rw [bytesOf_str (enc_bytes (okAll_rep i j hm)), strOfNums_size]
        refine decGo_long _ _ 0 (okAll_rep i j hm) (fun x hx => ?_) (by omega) (by simp; omega) ?_
        · rw [List.eq_of_mem_replicate hx]; exact hi
        · rw [hlen, List.length_replicate]
          have : j * 1 ≤ j * (1 + sz i.f0) := Nat.mul_le_mul_left _ (by omega)
          omega
      refine Ev.bind (ev_dec _ (by rw [strOfNums_size]; omega)) ?_
      rw [e]
      exact Ev.if_pos (by rw [Lib.toList_data]) (Ev.if_pos rfl (Ev.if_pos rfl (Ev.if_pos rfl (Ev.if_pos rfl (Ev.bind ev_works (Ev.now _))))))
  | succ d ih =>
    intro j hj
    have hlen := far_len i j
    have := hml j (by omega)
    refine Ev.step (f := fun k => carillonlaw18_CodeFar.l1 k (n : Int) ⟨#[]⟩ 4 (strOfNums (encIns i)) 0 (strOfNums (encAll (List.replicate (j + 1) i))) ((j + 1 : Nat) : Int)) (fun k => ?_) (ih (j + 1) (by omega))
    simp only [carillonlaw18_CodeFar.l1]
    rw [if_pos (by omega), if_pos (by rw [strOfNums_size, strOfNums_size, encIns_length]; omega), str_append, far_snoc, wrap_small (by omega) (by omega)]
    rfl
theorem far_tail (i : S26) (x5 : Int) (n : Nat) (h5 : x5 = n) (hn0 : 0 < n) (hn : n ≤ 4098) (hi : -9223372036854775808 ≤ i.f1 ∧ i.f1 < 9223372036854775808) (d : Nat) :
    ∀ j : Nat, j + d = n → Ev (fun k => carillonlaw18_CodeFar.l0 k x5 (List.replicate j i) (j : Int) i.f0 i.f1) true := by
  induction d with
  | succ d ih =>
    intro j hj
    refine Ev.step (f := fun k => carillonlaw18_CodeFar.l0 k x5 (List.replicate (j + 1) i) ((j + 1 : Nat) : Int) i.f0 i.f1) (fun k => ?_) (ih (j + 1) (by omega))
    simp only [carillonlaw18_CodeFar.l0]
    rw [if_pos (by omega), if_pos (by simp; omega), wrap_small (by omega) (by omega), List.replicate_succ']
    rfl
  | zero =>
    intro j hj
    obtain rfl : j = n := by omega
    subst h5
    refine Ev.step (f := fun k => (code_Encode.f (List.replicate j i)).bind fun bt194 => (code_May.f k i.f0 i.f1).bind fun t196 => if t196 = true then (if (j : Int) > 4096 then ((code_Encode.f [i]).bind fun bt202 => carillonlaw18_CodeFar.l1 k (j : Int) bt194.1 bt194.2 bt202.1 bt202.2 (⟨#[]⟩ : ByteArray) 0) else ((code_Decode.f bt194.1).bind fun bt209 => if bt194.2 = 0 then (if bt209.2 = 0 then ((carillonref18_Same.f k bt209.1 (List.replicate j i)).bind fun t213 => if t213 = true then ((carillonlaw18_works.f k).bind fun t214 => some t214) else some false) else some false) else some false)) else (if (j : Int) ≤ 4096 then (if bt194.1.toList = ([] : List UInt8) then (if bt194.2 = 180 then ((carillonlaw18_works.f k).bind fun t197 => some t197) else some false) else some false) else (if bt194.1.toList = ([] : List UInt8) then (if bt194.2 = 4 then ((carillonlaw18_works.f k).bind fun t198 => some t198) else some false) else some false))) (fun k => ?_) ?_
    · simp only [carillonlaw18_CodeFar.l0]
      rw [if_neg (by omega)]
    · refine Ev.bind (ev_enc _) (Ev.bind (ev_may _ _) ?_)
      have e1 : encode (List.replicate j i) = if 4096 < j then (⟨#[]⟩, 4) else if okAll (List.replicate j i) = true then (strOfNums (encAll (List.replicate j i)), 0) else (⟨#[]⟩, 180) := by unfold encode; rw [List.length_replicate]
      rw [e1]
      cases hm : mayB i.f0 i.f1 with
      | true =>
        refine Ev.if_pos rfl ?_
        by_cases hj2 : 4096 < j
        · rw [if_pos hj2]
          refine Ev.if_pos (by omega) (Ev.bind (ev_enc _) ?_)
          have e2 : encode [i] = (strOfNums (encIns i), 0) := by
            unfold encode
            rw [if_neg (by simp), if_pos (by simp [okAll, hm])]
            simp [encAll]
          rw [e2]
          have := far_join i (j : Int) 4 ⟨#[]⟩ j hn rfl hj2 hm hi rfl rfl j 0 (by omega)
          simpa [encAll, strOfNums] using this
        · rw [if_neg hj2, if_pos (okAll_rep i j hm)]
          have hl2 : (List.replicate j i).length ≤ 4096 := by simp; omega
          have hen : encode (List.replicate j i) = (strOfNums (encAll (List.replicate j i)), 0) := by rw [e1, if_neg hj2, if_pos (okAll_rep i j hm)]
          have hde := encode_decode (List.replicate j i) (fun x hx => by rw [List.eq_of_mem_replicate hx]; exact hi) (by rw [hen])
          rw [hen] at hde
          have := enc_size (List.replicate j i)
          rw [hen] at this
          refine Ev.if_neg (by omega) (Ev.bind (ev_dec _ (by omega)) ?_)
          rw [hde]
          exact Ev.if_pos rfl (Ev.if_pos rfl (Ev.bind (ev_same _ (by simp only [List.length_replicate]; omega)) (Ev.if_pos rfl (Ev.bind ev_works (Ev.now _)))))
      | false =>
        refine Ev.if_neg (by simp) ?_
        by_cases hj2 : 4096 < j
        · rw [if_pos hj2]
          exact Ev.if_neg (by omega) (Ev.if_pos (by rw [Lib.toList_data]) (Ev.if_pos rfl (Ev.bind ev_works (Ev.now _))))
        · have hno : ¬ okAll (List.replicate j i) = true := by
            intro h
            have := List.all_eq_true.1 h i (by simp; omega)
            rw [hm] at this
            cases this
          rw [if_neg hj2, if_neg hno]
          exact Ev.if_pos (by omega) (Ev.if_pos (by rw [Lib.toList_data]) (Ev.if_pos rfl (Ev.bind ev_works (Ev.now _))))
theorem CodeFar : ∀ (y0 : S26) (y1 : Int), G26 y0 → (fun x : Int => (Lit.int .u8 x).wf = true) y1 → ∃ k, carillonlaw18_CodeFar.f k y0.f0 y0.f1 y1 = some true := by
  intro i a hg ha
  have hi := (g26 hg).2
  have ha2 : 0 ≤ a ∧ a < 256 := by simp [Lit.wf, IntKind.min, IntKind.max, IntKind.bits, IntKind.signed] at ha; omega
  refine Ev.rounds ?_
  unfold carillonlaw18_CodeFar.f
  have ht : Int.tmod a 5 = a % 5 := Int.tmod_eq_emod_of_nonneg ha2.1
  have hw : wrap64 (4094 + wrap64 (Int.tmod a 5)) = ((4094 + (a % 5).toNat : Nat) : Int) := by rw [ht]; unfold wrap64; omega
  rw [hw]
  exact far_tail i _ _ rfl (by omega) (by omega) hi (4094 + (a % 5).toNat) 0 (by omega)
end Go.Proofs.Ytnaapecmooljaaa.H.Pure
