/- Layer 18, the reference's Decode as a plain function: it computes 'decode'. The conditions: the bytes are at most 2^47. -/
import Derived.Test.YtnaapecmooljaaaQ18
set_option linter.unusedVariables false
set_option linter.unusedSimpArgs false
namespace Go.Proofs.Ytnaapecmooljaaa.H
open Go.RowKit Go.Proofs.YtnaapecmooljaaaW.PrintWords Go.Proofs.YtnaapecmooljaaaW.PrintLast Go.Proofs.YtnaapecmooljaaaW.PrintMore

theorem or_byte (x b : Int) (hx : 0 ≤ x) (hb0 : 0 ≤ b) (hb : b < 256) : Go.bits .or .u64 (IntKind.u64.wrap (x * 256)) (IntKind.u64.wrap b) = (x * 256 + b) % 18446744073709551616 := by
  rw [IntKind.wrap_u64, IntKind.wrap_u64, Int.emod_eq_of_lt hb0 (by omega)]
  rw [bits_join .u64 64 (by decide) (fun n h0 h1 => by rw [IntKind.wrap_u64]; omega) 8 _ _ (by omega) (by omega) (by omega) hb0 (by omega) (by omega)]
  omega
theorem valOf_range (l : List Int) : ∀ x : Int, 0 ≤ x → x < 18446744073709551616 → 0 ≤ valOf x l ∧ valOf x l < 18446744073709551616 := by
  induction l with
  | nil => exact fun x h0 h1 => ⟨h0, h1⟩
  | cons b r ih => exact fun x _ _ => ih _ (by omega) (by omega)
theorem ev_dec_arg (s : ByteArray) (hs : s.size ≤ 140737488355328) (acc : List S26) (n : Nat) (hn : 1 + n ≤ s.size) (hn8 : n ≤ 8) (R : List S26 × Int) (d : Nat) : ∀ (j : Nat) (x : Int), 1 ≤ j → j + d = n + 1 → 0 ≤ x → x < 18446744073709551616 →
    Ev (fun k => carillonref18_Decode.l1 k s acc (n : Int) (valOf x (((bytesOf s).drop j).take d)) ((n + 1 : Nat) : Int)) R → Ev (fun k => carillonref18_Decode.l1 k s acc (n : Int) x (j : Int)) R := by
  induction d with
  | zero =>
    intro j x _ hj _ _ h
    obtain rfl : j = n + 1 := by omega
    simpa [valOf] using h
  | succ d ih =>
    intro j x h1 hj h0 hx h
    have hb := bt_range s (j : Int)
    have e : ((bytesOf s).drop j).take (d + 1) = bt s (j : Int) :: ((bytesOf s).drop (j + 1)).take d := by rw [bytes_head (by omega)]; rfl
    rw [e] at h
    refine Ev.step (f := fun k => carillonref18_Decode.l1 k s acc (n : Int) ((x * 256 + bt s (j : Int)) % 18446744073709551616) ((j + 1 : Nat) : Int)) (fun k => ?_) (ih (j + 1) _ (by omega) (by omega) (by omega) (by omega) (by simpa [valOf] using h))
    simp only [carillonref18_Decode.l1]
    rw [_root_.if_pos (by omega), _root_.if_pos (by omega), _root_.if_pos (by omega), or_byte _ _ h0 hb.1 (by omega), wrap_small (by omega) (by omega)]
    simp

theorem ev_dec_at (m : Nat) : ∀ (s : ByteArray) (acc : List S26), s.size < m → s.size ≤ 140737488355328 → acc.length ≤ 4096 →
    Ev (fun k => carillonref18_Decode.l0 k s acc) (decR acc (decGo m (bytesOf s) acc.length)) := by
  induction m with
  | zero => exact fun s acc h => absurd h (by omega)
  | succ m ih =>
    intro s acc hm hs ha
    by_cases h0 : s.size = 0
    · have e : bytesOf s = [] := List.eq_nil_of_length_eq_zero (by rw [bytesOf_length]; exact h0)
      rw [e]
      refine Ev.step (f := fun _ => some (acc, 0)) (fun k => ?_) (by simp [decGo, decR]; exact Ev.now _)
      simp only [carillonref18_Decode.l0]
      rw [_root_.if_neg (by omega)]
    have hb := bytes_head (s := s) (j := 0) (by omega)
    simp only [List.drop_zero, Nat.zero_add] at hb
    have hop : bt s ((0 : Nat) : Int) = bt s 0 := rfl
    rw [hop] at hb
    rw [hb]
    generalize hx : bt s 0 = op at hb
    have hrl : ((bytesOf s).drop 1).length = s.size - 1 := by rw [List.length_drop, bytesOf_length]
    simp only [decGo]
    by_cases hc : acc.length = 4096
    · rw [_root_.if_pos hc]
      refine Ev.step (f := fun _ => some (([] : List S26), 4)) (fun k => ?_) (by simp [decR]; exact Ev.now _)
      simp only [carillonref18_Decode.l0]
      rw [_root_.if_pos (by omega), _root_.if_pos (by omega)]
    rw [_root_.if_neg hc]
    refine Ev.step (f := fun k => (carillonref18_Size.f k op).bind fun t => if t < 0 then some (([] : List S26), 180) else if (s.size : Int) < wrap64 (1 + t) then some (([] : List S26), 8) else carillonref18_Decode.l1 k s acc t 0 1) (fun k => ?_) ?_
    · simp only [carillonref18_Decode.l0]
      rw [_root_.if_pos (by omega), _root_.if_neg (by omega), _root_.if_pos (by omega), hx]
    refine Ev.bind (ev_rsize op) ?_
    have hsz := sz_le op
    cases hi : isOp op with
    | false =>
      rw [_root_.if_neg (by simp), _root_.if_pos rfl]
      exact Ev.if_pos (by omega) (by simp [decR]; exact Ev.now _)
    | true =>
      rw [_root_.if_pos rfl, _root_.if_neg (by simp)]
      refine Ev.if_neg (by omega) ?_
      rw [wrap_small (by omega) (by omega)]
      by_cases hl : ((bytesOf s).drop 1).length < sz op
      · rw [_root_.if_pos hl]
        exact Ev.if_pos (by omega) (by simp [decR]; exact Ev.now _)
      rw [_root_.if_neg hl]
      refine Ev.if_neg (by omega) ?_
      refine ev_dec_arg s hs acc (sz op) (by omega) hsz _ (sz op) 1 0 (by omega) (by omega) (by omega) (by omega) ?_
      generalize hv : valOf 0 (((bytesOf s).drop 1).take (sz op)) = v
      refine Ev.step (f := fun k => (carillonref18_May.f k op (wrap64 v)).bind fun t => if t = true then (if acc.length < 8796093022208 then (if 0 ≤ wrap64 (1 + (sz op : Int)) then (if wrap64 (1 + (sz op : Int)) ≤ (s.size : Int) then carillonref18_Decode.l0 k (s.extract (wrap64 (1 + (sz op : Int))).toNat s.size) (acc ++ [⟨op, wrap64 v⟩]) else none) else none) else none) else some (([] : List S26), 180)) (fun k => ?_) ?_
      · simp only [carillonref18_Decode.l1]
        rw [_root_.if_neg (by omega), _root_.if_pos (by omega), hx]
      refine Ev.bind (ev_rmay op (wrap64 v)) ?_
      cases hmay : mayB op (wrap64 v) with
      | false =>
        rw [_root_.if_neg (by simp)]
        exact Ev.if_neg (by simp) (by simp [decR]; exact Ev.now _)
      | true =>
        rw [_root_.if_pos rfl]
        rw [wrap_small (x := 1 + (sz op : Int)) (by omega) (by omega)]
        refine Ev.if_pos rfl (Ev.if_pos (by omega) (Ev.if_pos (by omega) (Ev.if_pos (by omega) ?_)))
        have e : (1 + (sz op : Int)).toNat = 1 + sz op := by omega
        rw [e]
        have hsub : (s.extract (1 + sz op) s.size).size = s.size - (1 + sz op) := by simp [ByteArray.size_extract]
        have := ih (s.extract (1 + sz op) s.size) (acc ++ [⟨op, wrap64 v⟩]) (by omega) (by omega) (by simp; omega)
        rw [bytesOf_drop] at this
        have ed : (bytesOf s).drop (1 + sz op) = ((bytesOf s).drop 1).drop (sz op) := by rw [List.drop_drop]
        rw [ed] at this
        simp only [List.length_append, List.length_singleton] at this
        generalize decGo m (((bytesOf s).drop 1).drop (sz op)) (acc.length + 1) = t at this ⊢
        unfold decR at this ⊢
        by_cases ht : t.2 = 0
        · simp only [ht, _root_.if_true] at this ⊢
          simpa using this
        · simp only [ht, _root_.if_false] at this ⊢
          simpa [ht] using this
theorem ev_rdecode (s : ByteArray) (hs : s.size ≤ 140737488355328) : Ev (fun k => carillonref18_Decode.f k s) (decode s) := by
  unfold carillonref18_Decode.f decode
  have := ev_dec_at (s.size + 1) s [] (by omega) hs (by simp)
  have e := decR_nil (s.size + 1) (bytesOf s) ([] : List S26).length
  rwa [e] at this
end Go.Proofs.Ytnaapecmooljaaa.H
