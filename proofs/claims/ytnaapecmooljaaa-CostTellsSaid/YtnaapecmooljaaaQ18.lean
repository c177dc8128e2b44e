/- Layer 18, the reference's Encode and Decode as plain functions: they compute 'encode' and 'decode'. The conditions: what each lemma names. -/
import Derived.Test.YtnaapecmooljaaaP18
import Derived.Laws.Bits64
import Derived.Laws.BitsLemmas
set_option linter.unusedVariables false
set_option linter.unusedSimpArgs false
namespace Go.Proofs.Ytnaapecmooljaaa.H
open Go.RowKit Go.Proofs.YtnaapecmooljaaaW.PrintWords Go.Proofs.YtnaapecmooljaaaW.PrintLast Go.Proofs.YtnaapecmooljaaaW.PrintMore

theorem wrap_small {x : Int} (h0 : -9223372036854775808 ≤ x) (h1 : x ≤ 9223372036854775807) : wrap64 x = x := by unfold wrap64; omega
theorem Ev.if_pos {α : Type} {c : Prop} [Decidable c] {g f : Nat → Option α} {r : α} (h : c) (k : Ev g r) : Ev (fun n => if c then g n else f n) r := Ev.congr (fun n => _root_.if_pos h) k
theorem Ev.if_neg {α : Type} {c : Prop} [Decidable c] {g f : Nat → Option α} {r : α} (h : ¬ c) (k : Ev f r) : Ev (fun n => if c then g n else f n) r := Ev.congr (fun n => _root_.if_neg h) k
theorem ev_same_at (l : List S26) (hl : l.length ≤ 9223372036854775807) (d : Nat) : ∀ i : Nat, i + d = l.length → Ev (fun k => carillonref18_Same.l0 k l l (i : Int)) true := by
  induction d with
  | zero =>
    intro i hi
    refine Ev.step (f := fun _ => some true) (fun k => ?_) (Ev.now _)
    simp only [carillonref18_Same.l0]
    rw [_root_.if_neg (by omega)]
  | succ d ih =>
    intro i hi
    refine Ev.step (f := fun k => carillonref18_Same.l0 k l l ((i + 1 : Nat) : Int)) (fun k => ?_) (ih (i + 1) (by omega))
    simp only [carillonref18_Same.l0]
    rw [_root_.if_pos (by omega), _root_.if_pos (by omega), _root_.if_pos (by omega), wrap_small (by omega) (by omega)]
    simp
theorem ev_same (l : List S26) (hl : l.length ≤ 9223372036854775807) : Ev (fun k => carillonref18_Same.f k l l) true := by
  unfold carillonref18_Same.f
  exact Ev.if_pos rfl (ev_same_at l hl l.length 0 (by omega))

/-! ### Encode -/
theorem byte_at (a : Int) (n : Nat) (hn : n < 8) : (shr .u64 (IntKind.u64.wrap a) (IntKind.u64.wrap (wrap64 (8 * (n : Int))))) % 256 = (a % 18446744073709551616 / 2 ^ (8 * n)) % 256 := by
  rw [IntKind.wrap_u64, wrap_small (by omega) (by omega), IntKind.wrap_u64]
  unfold shr
  have e : (8 * (n : Int)) % 18446744073709551616 = ((8 * n : Nat) : Int) := by omega
  rw [e, Int.toNat_natCast, show min (8 * n) (IntKind.bits .u64) = 8 * n from Nat.min_eq_left (by simp [IntKind.bits]; omega)]

theorem ev_enc_arg (l : List S26) (i : Nat) (hi : i < l.length) (hl : l.length ≤ 4096) (R : ByteArray × Int) (n : Nat) : ∀ acc : List Int, n ≤ 8 → acc.length + n ≤ 140737488355000 →
    Ev (fun k => carillonref18_Encode.l0 k l (acc ++ encArg (rd_T26 l (i : Int)).f1 n) ((i + 1 : Nat) : Int)) R → Ev (fun k => carillonref18_Encode.l1 k l acc (i : Int) ((n : Int) - 1)) R := by
  induction n with
  | zero =>
    intro acc _ _ h
    refine Ev.step (f := fun k => carillonref18_Encode.l0 k l acc ((i + 1 : Nat) : Int)) (fun k => ?_) (by simpa [encArg] using h)
    simp only [carillonref18_Encode.l1]
    rw [_root_.if_neg (by omega), wrap_small (by omega) (by omega)]
    simp
  | succ n ih =>
    intro acc hn ha h
    have hb := byte_at (rd_T26 l (i : Int)).f1 n (by omega)
    refine Ev.step (f := fun k => carillonref18_Encode.l1 k l (acc ++ [((rd_T26 l (i : Int)).f1 % 18446744073709551616 / 2 ^ (8 * n)) % 256]) (i : Int) ((n : Int) - 1)) (fun k => ?_) (ih _ (by omega) (by simp; omega) (by simpa [encArg] using h))
    have e : (((n + 1 : Nat) : Int) - 1) = (n : Int) := by omega
    rw [e]
    have hw : (0 : Int) ≤ IntKind.u64.wrap (wrap64 (8 * (n : Int))) := by rw [IntKind.wrap_u64]; omega
    simp only [carillonref18_Encode.l1]
    rw [_root_.if_pos (by omega), _root_.if_pos (by omega), _root_.if_pos (by omega), _root_.if_pos hw, _root_.if_pos (by omega), hb, wrap_small (x := (n : Int) - 1) (by omega) (by omega)]

theorem ev_enc_at (l : List S26) (hl : l.length ≤ 4096) (d : Nat) : ∀ (i : Nat) (acc : List Int), i + d = l.length → acc.length ≤ 9 * i →
    Ev (fun k => carillonref18_Encode.l0 k l acc (i : Int)) (if okAll (l.drop i) = true then (strOfNums (acc ++ encAll (l.drop i)), 0) else (⟨#[]⟩, 180)) := by
  induction d with
  | zero =>
    intro i acc hi _
    refine Ev.step (f := fun _ => some (strOfNums acc, 0)) (fun k => ?_) (by rw [List.drop_eq_nil_of_le (by omega)]; simp [okAll, encAll]; exact Ev.now _)
    simp only [carillonref18_Encode.l0]
    rw [_root_.if_neg (by omega)]
  | succ d ih =>
    intro i acc hi ha
    have hlt : i < l.length := by omega
    rw [rd26_drop hlt]
    generalize hx : rd_T26 l (i : Int) = x
    have hm := ev_rmay x.f0 x.f1
    have hs := ev_rsize x.f0
    refine Ev.step (f := fun k => (carillonref18_May.f k x.f0 x.f1).bind fun t => if t = true then (if acc.length < 140737488355328 then (carillonref18_Size.f k x.f0).bind fun s => carillonref18_Encode.l1 k l (acc ++ [x.f0]) (i : Int) (wrap64 (s - 1)) else none) else some ((⟨#[]⟩ : ByteArray), 180)) (fun k => ?_) ?_
    · simp only [carillonref18_Encode.l0]
      rw [_root_.if_pos (by omega), _root_.if_pos (by omega), hx]
    · refine Ev.bind hm ?_
      cases hmay : mayB x.f0 x.f1 with
      | false =>
        refine Ev.if_neg (by simp) ?_
        simp only [okAll, List.all_cons, hmay, Bool.false_and]
        exact Ev.now _
      | true =>
        refine Ev.if_pos rfl (Ev.if_pos (by omega) (Ev.bind hs ?_))
        have hop : isOp x.f0 = true := may_op hmay
        rw [hop, _root_.if_pos rfl]
        have hsz := sz_le x.f0
        rw [wrap_small (by omega) (by omega)]
        refine ev_enc_arg l i hlt hl _ (sz x.f0) (acc ++ [x.f0]) hsz (by simp; omega) ?_
        rw [hx]
        have := ih (i + 1) (acc ++ [x.f0] ++ encArg x.f1 (sz x.f0)) (by omega) (by simp [encArg_length]; omega)
        simp only [okAll, List.all_cons, hmay, Bool.true_and]
        rw [encAll_cons]
        simpa [okAll, encIns] using this
theorem ev_rencode (l : List S26) : Ev (fun k => carillonref18_Encode.f k l) (encode l) := by
  unfold carillonref18_Encode.f encode
  by_cases h : 4096 < l.length
  · rw [_root_.if_pos h]
    exact Ev.if_pos (by omega) (Ev.now _)
  · rw [_root_.if_neg h]
    refine Ev.if_neg (by omega) ?_
    have := ev_enc_at l (by omega) l.length 0 [] (by omega) (by simp)
    simpa using this
end Go.Proofs.Ytnaapecmooljaaa.H
