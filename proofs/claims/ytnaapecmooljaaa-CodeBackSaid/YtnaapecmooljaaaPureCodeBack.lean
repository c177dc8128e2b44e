/- The pure statement of CodeBack: code is read as it was written, and bytes that are code are written as they were read. The conditions: the arguments' own sizes. -/
import Derived.Test.YtnaapecmooljaaaFits
import Derived.Test.YtnaapecmooljaaaInv18
import Derived.Test.YtnaapecmooljaaaHx6
namespace Go.Proofs.Ytnaapecmooljaaa.H.Pure
open Go.RowKit Go.Proofs.YtnaapecmooljaaaW.PrintWords Go.Proofs.YtnaapecmooljaaaW.PrintLast

theorem back_rest (s : ByteArray) (hs : s.size ≤ 140737488351232) : Ev (fun k => carillonlaw18_CodeBack.j1 k s) true := by
  refine Ev.step (f := fun k => (code_Decode.f s).bind fun bt182 => if bt182.2 = 0 then ((code_Encode.f bt182.1).bind fun bt186 => if bt186.2 = 0 then (if bt186.1.toList = s.toList then ((carillonlaw18_works.f k).bind fun t188 => some t188) else some false) else some false) else ((carillonlaw18_works.f k).bind fun t189 => some t189)) (fun k => by simp only [carillonlaw18_CodeBack.j1]) ?_
  refine Ev.bind (ev_dec s (by omega)) ?_
  by_cases h : (decode s).2 = 0
  · have e := decode_encode s h
    refine Ev.if_pos h (Ev.bind (ev_enc _) ?_)
    rw [e]
    exact Ev.if_pos rfl (Ev.if_pos rfl (Ev.bind ev_works (Ev.now _)))
  · exact Ev.if_neg h (Ev.bind ev_works (Ev.now _))
theorem CodeBack : ∀ (y0 : List (S26)) (y1 : ByteArray), (fun l : List (S26) => l.length ≤ 9223372036854775807 ∧ l.length * 16 ≤ 140737488351232 ∧ ∀ x ∈ l, G26 x) y0 → (fun s : ByteArray => s.size ≤ 140737488351232) y1 → ∃ k, carillonlaw18_CodeBack.f k y0 y1 = some true := by
  intro l s hl hs
  have hg : ∀ x ∈ l, G26 x := hl.2.2
  refine Ev.rounds ?_
  unfold carillonlaw18_CodeBack.f
  have hj : ∀ b : Bool, (b = false → l.length ≤ 4106) → Ev (fun k => carillonlaw18_CodeBack.j0 k l s b) true := by
    intro b hb
    cases b with
    | true => exact Ev.step (f := fun k => (carillonlaw18_works.f k).bind fun t => some t) (fun k => by simp only [carillonlaw18_CodeBack.j0, if_true]) (Ev.bind ev_works (Ev.now _))
    | false =>
      have h1 := hb rfl
      refine Ev.step (f := fun k => (code_Encode.f l).bind fun bt175 => if bt175.2 = 0 then ((code_Decode.f bt175.1).bind fun bt177 => if bt177.2 = 0 then ((carillonref18_Same.f k bt177.1 l).bind fun t181 => if t181 = true then carillonlaw18_CodeBack.j1 k s else some false) else some false) else carillonlaw18_CodeBack.j1 k s) (fun k => ?_) ?_
      · simp only [carillonlaw18_CodeBack.j0, Bool.false_eq_true, if_false]
        rw [_root_.if_pos (by simp; omega)]
        simp only [List.nil_append]
      · refine Ev.bind (ev_enc l) ?_
        by_cases h : (encode l).2 = 0
        · have e := encode_decode l (fun x hx => (g26 (hg x hx)).2) h
          refine Ev.if_pos h (Ev.bind (ev_dec _ (by have := enc_size l; omega)) ?_)
          rw [e]
          exact Ev.if_pos rfl (Ev.bind (ev_same l (by omega)) (Ev.if_pos rfl (back_rest s hs)))
        · exact Ev.if_neg h (back_rest s hs)
  by_cases h : (l.length : Int) > 4106
  · exact Ev.if_pos h (hj true (by simp))
  · exact Ev.if_neg h (hj _ (fun h2 => by omega))
end Go.Proofs.Ytnaapecmooljaaa.H.Pure
