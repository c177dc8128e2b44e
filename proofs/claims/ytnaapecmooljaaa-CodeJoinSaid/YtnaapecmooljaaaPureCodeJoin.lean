/- The pure statement of CodeJoin: the bytes of code behind code, and a beginning of bytes. The conditions: the arguments' own sizes. -/
import Derived.Test.YtnaapecmooljaaaFits
import Derived.Test.YtnaapecmooljaaaMore18
import Derived.Test.YtnaapecmooljaaaHx7
namespace Go.Proofs.Ytnaapecmooljaaa.H.Pure
open Go.RowKit Go.Proofs.YtnaapecmooljaaaW.PrintWords Go.Proofs.YtnaapecmooljaaaW.PrintLast

theorem enc_bad {l : List S26} (hl : l.length ≤ 4096) (h : (encode l).2 ≠ 0) : okAll l = false ∧ encode l = (⟨#[]⟩, 180) := by
  unfold encode at h ⊢
  rw [if_neg (by omega)] at h ⊢
  by_cases ho : okAll l = true
  · rw [if_pos ho] at h; simp at h
  · rw [if_neg ho]
    exact ⟨by simpa using ho, rfl⟩
theorem enc_no {l : List S26} (hl : l.length ≤ 4096) (ho : okAll l = false) : encode l = (⟨#[]⟩, 180) := by
  unfold encode
  rw [if_neg (by omega), if_neg (by simp [ho])]
theorem enc_yes {l : List S26} (hl : l.length ≤ 4096) (ho : okAll l = true) : encode l = (strOfNums (encAll l), 0) := by
  unfold encode
  rw [if_neg (by omega), if_pos ho]
theorem join_cut (cut : Int) (hc : 0 ≤ cut ∧ cut < 65536) (l : List S26) (hl : l.length ≤ 3000) (ho : okAll l = true) (ha : ∀ x ∈ l, -9223372036854775808 ≤ x.f1 ∧ x.f1 < 9223372036854775808) :
    Ev (fun k => carillonlaw18_CodeJoin.j1 k cut l (strOfNums (encAll l)) false) true := by
  have hsz := encAll_length l
  have hss : (strOfNums (encAll l)).size = (encAll l).length := strOfNums_size _
  have hw : wrap64 (((strOfNums (encAll l)).size : Int) + 1) = ((strOfNums (encAll l)).size : Int) + 1 := wrap_small (by omega) (by omega)
  have hw2 : wrap64 cut = cut := wrap_small (by omega) (by omega)
  have hm0 : Int.tmod cut (((strOfNums (encAll l)).size : Int) + 1) = cut % (((strOfNums (encAll l)).size : Int) + 1) := Int.tmod_eq_emod_of_nonneg hc.1
  have hm1 : 0 ≤ cut % (((strOfNums (encAll l)).size : Int) + 1) := Int.emod_nonneg _ (by omega)
  have hm2 : cut % (((strOfNums (encAll l)).size : Int) + 1) < ((strOfNums (encAll l)).size : Int) + 1 := Int.emod_lt_of_pos _ (by omega)
  generalize hcc : cut % (((strOfNums (encAll l)).size : Int) + 1) = c at hm0 hm1 hm2
  refine Ev.step (f := fun k => (code_Decode.f ((strOfNums (encAll l)).extract 0 c.toNat)).bind fun bt235 => if bt235.2 = 0 then (if (bt235.1.length : Int) ≤ (l.length : Int) then (if 0 ≤ (bt235.1.length : Int) then ((carillonref18_Same.f k bt235.1 (l.take ((bt235.1.length : Int) : Int).toNat)).bind fun t243 => if t243 = true then ((carillonlaw18_works.f k).bind fun t244 => some t244) else some false) else none) else some false) else (if (bt235.1.length : Int) = 0 then ((carillonlaw18_works.f k).bind fun t245 => some t245) else some false)) (fun k => ?_) ?_
  · simp only [carillonlaw18_CodeJoin.j1, Bool.false_eq_true, if_false, hw, hw2, hm0]
    rw [if_neg (by omega), if_pos hm1, if_pos (by omega)]
  · have hex : ((strOfNums (encAll l)).extract 0 c.toNat).size ≤ (encAll l).length := by rw [ByteArray.size_extract]; omega
    refine Ev.bind (ev_dec _ (by omega)) ?_
    have hb := take_bytes (encAll l) (enc_bytes ho) c.toNat
    have hlt : ((encAll l).take c.toNat).length < ((strOfNums (encAll l)).extract 0 c.toNat).size + 1 := by rw [← hb, bytesOf_length]; omega
    unfold decode
    rw [hb]
    generalize ((strOfNums (encAll l)).extract 0 c.toNat).size + 1 = n at hlt
    by_cases h : (decGo n ((encAll l).take c.toNat) 0).2 = 0
    · obtain ⟨m, hm, e⟩ := decGo_part l n c.toNat 0 ho ha (by omega) hlt h
      have hlen : (decGo n ((encAll l).take c.toNat) 0).1.length = m := by rw [e, List.length_take]; omega
      refine Ev.if_pos h (Ev.if_pos (by omega) (Ev.if_pos (by omega) ?_))
      rw [hlen, Int.toNat_natCast, e]
      exact Ev.bind (ev_same _ (by rw [List.length_take]; omega)) (Ev.if_pos rfl (Ev.bind ev_works (Ev.now _)))
    · refine Ev.if_neg h (Ev.if_pos ?_ (Ev.bind ev_works (Ev.now _)))
      rw [decGo_err _ _ _ h]
      rfl
theorem CodeJoin : ∀ (y0 : List (S26)) (y1 : List (S26)) (y2 : Int), (fun l : List (S26) => l.length ≤ 9223372036854775807 ∧ l.length * 16 ≤ 140737488351232 ∧ ∀ x ∈ l, G26 x) y0 → (fun l : List (S26) => l.length ≤ 9223372036854775807 ∧ l.length * 16 ≤ 140737488351232 ∧ ∀ x ∈ l, G26 x) y1 → (fun x : Int => (Lit.int .u16 x).wf = true) y2 → ∃ k, carillonlaw18_CodeJoin.f k y0 y1 y2 = some true := by
  intro a b cut ha hb hc
  have ga : ∀ x ∈ a, G26 x := ha.2.2
  have gb : ∀ x ∈ b, G26 x := hb.2.2
  have la := ha.2.1
  have lb := hb.2.1
  have hc2 : 0 ≤ cut ∧ cut < 65536 := by simp [Lit.wf, IntKind.min, IntKind.max, IntKind.bits, IntKind.signed] at hc; omega
  refine Ev.rounds ?_
  unfold carillonlaw18_CodeJoin.f
  have hw : wrap64 ((a.length : Int) + (b.length : Int)) = (a.length : Int) + (b.length : Int) := wrap_small (by omega) (by omega)
  rw [hw]
  by_cases h : (a.length : Int) + (b.length : Int) > 3000
  · exact Ev.if_pos h (Ev.bind ev_works (Ev.now _))
  refine Ev.if_neg h (Ev.if_pos (by simp; omega) ?_)
  simp only [List.nil_append]
  refine Ev.bind (ev_enc a) (Ev.if_pos (by simp; omega) (Ev.bind (ev_enc b) (Ev.bind (Ev.now _) (Ev.if_pos (by omega) (Ev.bind (Ev.now _) (Ev.bind (ev_enc (a ++ b)) ?_))))))
  have hab : (a ++ b).length ≤ 4096 := by simp; omega
  have hbad : ∀ x2 s t, okAll (a ++ b) = false → Ev (fun k => carillonlaw18_CodeJoin.j0 k x2 s t (a ++ b) (encode (a ++ b)).1 (encode (a ++ b)).2 true) true := by
    intro x2 s t ho
    rw [enc_no hab ho]
    exact Ev.step (f := fun k => (carillonlaw18_works.f k).bind fun t => some t) (fun k => by simp only [carillonlaw18_CodeJoin.j0, if_true]; rw [if_pos (by rw [Lib.toList_data]), if_neg (by decide)]) (Ev.bind ev_works (Ev.now _))
  by_cases h1 : (encode a).2 = 0
  · refine Ev.if_pos h1 ?_
    by_cases h2 : (encode b).2 = 0
    · obtain ⟨a1, a2, a3⟩ := encode_ok h1
      obtain ⟨b1, b2, b3⟩ := encode_ok h2
      have ho : okAll (a ++ b) = true := by rw [okAll_append, a2, b2]; rfl
      rw [enc_yes hab ho, a3, b3]
      have hs : (strOfNums (encAll a)).size + (strOfNums (encAll b)).size ≤ 9223372036854775807 := by
        rw [strOfNums_size, strOfNums_size]
        have := encAll_length a
        have := encAll_length b
        omega
      refine Ev.step (f := fun k => carillonlaw18_CodeJoin.j1 k cut (a ++ b) (strOfNums (encAll (a ++ b))) false) (fun k => ?_) (join_cut cut hc2 (a ++ b) (by simp; omega) ho (fun x hx => ?_))
      · simp only [carillonlaw18_CodeJoin.j0, bne_self_eq_false, Bool.false_eq_true, if_false, if_true]
        rw [if_pos hs, str_append, ← encAll_append]
        simp
      · rcases List.mem_append.1 hx with hx | hx
        · exact (g26 (ga x hx)).2
        · exact (g26 (gb x hx)).2
    · have e : ((encode b).2 != 0) = true := by simpa using h2
      rw [e]
      refine hbad _ _ _ ?_
      rw [okAll_append, (enc_bad (by omega) h2).1, Bool.and_false]
  · refine Ev.if_neg h1 (hbad _ _ _ ?_)
    rw [okAll_append, (enc_bad (by omega) h1).1, Bool.false_and]
end Go.Proofs.Ytnaapecmooljaaa.H.Pure
