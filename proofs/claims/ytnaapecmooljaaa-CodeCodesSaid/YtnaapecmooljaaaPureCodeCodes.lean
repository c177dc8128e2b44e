/- The pure statement of CodeCodes: the program's code and the reference's tell the same of every instruction, every code, every bytes, every op. The conditions: the arguments' own sizes. -/
import Derived.Test.YtnaapecmooljaaaFits
import Derived.Test.YtnaapecmooljaaaL18
import Derived.Test.YtnaapecmooljaaaHx5
namespace Go.Proofs.Ytnaapecmooljaaa.H.Pure
open Go.RowKit Go.Proofs.YtnaapecmooljaaaW.PrintWords Go.Proofs.YtnaapecmooljaaaW.PrintLast

theorem codes_at (l : List S26) (s : ByteArray) (op : Int) (hl : l.length ≤ 4106) (hs : s.size ≤ 65536) (d : Nat) : ∀ i : Nat, i + d = l.length → Ev (fun k => carillonlaw18_CodeCodes.l0 k l s op (i : Int)) true := by
  have hws := ev_works
  have he := ev_enc l
  have hre := ev_rencode l
  have hd := ev_dec s (by omega)
  have hrd := ev_rdecode s (by omega)
  have hdl : (decode s).1.length ≤ 9223372036854775807 := by
    have := decode_length s
    omega
  induction d with
  | zero =>
    intro i hi
    refine Ev.step (f := fun k => (code_Encode.f l).bind fun bt155 => (carillonref18_Encode.f k l).bind fun bt157 => (code_Decode.f s).bind fun bt159 => (carillonref18_Decode.f k s).bind fun bt163 => if bt155.1.toList = bt157.1.toList then (if bt155.2 = bt157.2 then ((carillonref18_Same.f k bt159.1 bt163.1).bind fun t167 => (if t167 = true then (if bt159.2 = bt163.2 then ((code_Cycles.f k op).bind fun t168 => ((carillonref18_Cycles.f k op).bind fun t169 => (if t168 = t169 then ((carillonlaw18_works.f k).bind fun t170 => (some t170)) else (some false)))) else (some false)) else (some false))) else (some false)) else (some false)) (fun k => ?_) ?_
    · simp only [carillonlaw18_CodeCodes.l0]
      rw [_root_.if_neg (by omega), _root_.if_pos (by simp; omega)]
      simp only [List.nil_append]
    · exact Ev.bind he (Ev.bind hre (Ev.bind hd (Ev.bind hrd (Ev.if_pos rfl (Ev.if_pos rfl (Ev.bind (ev_same _ hdl) (Ev.if_pos rfl (Ev.if_pos rfl (Ev.bind (ev_cycles op) (Ev.bind (ev_rcycles op) (Ev.if_pos rfl (Ev.bind hws (Ev.now _)))))))))))))
  | succ d ih =>
    intro i hi
    refine Ev.step (f := fun k => (code_May.f k (rd_T26 l (i : Int)).f0 (rd_T26 l (i : Int)).f1).bind fun t149 => (carillonref18_May.f k (rd_T26 l (i : Int)).f0 (rd_T26 l (i : Int)).f1).bind fun t151 => if (t149 != t151) = true then some false else carillonlaw18_CodeCodes.l0 k l s op ((i + 1 : Nat) : Int)) (fun k => ?_) ?_
    · simp only [carillonlaw18_CodeCodes.l0]
      rw [_root_.if_pos (by omega), _root_.if_pos (by omega), wrap_small (by omega) (by omega)]
      simp
    · exact Ev.bind (ev_may _ _) (Ev.bind (ev_rmay _ _) (Ev.if_neg (by simp) (ih (i + 1) (by omega))))
theorem CodeCodes : ∀ (y0 : List (S26)) (y1 : ByteArray) (y2 : Int), (fun l : List (S26) => l.length ≤ 9223372036854775807 ∧ l.length * 16 ≤ 140737488351232 ∧ ∀ x ∈ l, G26 x) y0 → (fun s : ByteArray => s.size ≤ 140737488351232) y1 → (fun x : Int => (Lit.int .u8 x).wf = true) y2 → ∃ k, carillonlaw18_CodeCodes.f k y0 y1 y2 = some true := by
  intro l s op hl hs _
  refine Ev.rounds ?_
  unfold carillonlaw18_CodeCodes.f
  have hj : ∀ b : Bool, (b = false → l.length ≤ 4106 ∧ s.size ≤ 65536) → Ev (fun k => carillonlaw18_CodeCodes.j0 k l s op b) true := by
    intro b hb
    cases b with
    | true => exact Ev.step (f := fun k => (carillonlaw18_works.f k).bind fun t => some t) (fun k => by simp only [carillonlaw18_CodeCodes.j0, if_true]) (Ev.bind ev_works (Ev.now _))
    | false =>
      obtain ⟨h1, h2⟩ := hb rfl
      exact Ev.step (f := fun k => carillonlaw18_CodeCodes.l0 k l s op ((0 : Nat) : Int)) (fun k => by simp only [carillonlaw18_CodeCodes.j0, Bool.false_eq_true, if_false]; rfl) (codes_at l s op h1 h2 l.length 0 (by omega))
  by_cases h : (l.length : Int) > 4106
  · exact Ev.if_pos h (hj true (by simp))
  · refine Ev.if_neg h (hj _ (fun h2 => ?_))
    have := of_decide_eq_false h2
    omega
end Go.Proofs.Ytnaapecmooljaaa.H.Pure
