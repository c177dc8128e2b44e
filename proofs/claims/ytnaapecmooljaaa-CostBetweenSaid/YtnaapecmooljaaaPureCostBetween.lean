/- The pure statement of CostBetween: every way takes from the least to the most, and both are some way's. The conditions: the arguments' own sizes. -/
import Derived.Test.YtnaapecmooljaaaFits
import Derived.Test.YtnaapecmooljaaaWay21
import Derived.Test.YtnaapecmooljaaaW21
import Derived.Test.YtnaapecmooljaaaQ18
import Derived.Test.YtnaapecmooljaaaHx13
set_option linter.unusedVariables false
set_option linter.unusedSimpArgs false
namespace Go.Proofs.Ytnaapecmooljaaa.H.Pure
open Go.RowKit Go.Proofs.YtnaapecmooljaaaW.PrintWords Go.Proofs.YtnaapecmooljaaaW.PrintLast Go.Proofs.YtnaapecmooljaaaW.PrintMore

theorem btw_works : Ev (fun _ => carillonlaw21_works.f) true := by rw [works21]; exact Ev.now _
theorem bit_at (m i : Nat) (hm : m < 512) (hi : i < 8) : (Go.bits .and .i64 (shr .i64 (m : Int) (IntKind.u64.wrap (i : Int))) 1 == 1) = (m / 2 ^ i % 2 == 1) := by
  have hp : 0 < 2 ^ i := Nat.two_pow_pos i
  have e : shr .i64 (m : Int) (IntKind.u64.wrap (i : Int)) = ((m / 2 ^ i : Nat) : Int) := by
    rw [IntKind.wrap_u64]
    unfold shr
    have e1 : (i : Int) % 18446744073709551616 = (i : Int) := by omega
    rw [e1, Int.toNat_natCast, show min i (IntKind.bits .i64) = i from Nat.min_eq_left (by simp [IntKind.bits]; omega)]
    simp
  have hlt : m / 2 ^ i ≤ m := Nat.div_le_self _ _
  rw [e]
  generalize m / 2 ^ i = q at hlt ⊢
  have h1 := bits_mask .i64 63 (by decide) (fun n h0 h1 => by rw [IntKind.wrap_i64]; omega) 1 (by decide) ((q : Nat) : Int) (by omega) (by omega)
  rw [show (1 : Int) = 2 ^ 1 - 1 by decide, h1]
  by_cases h : q % 2 = 1
  · rw [h, show ((q : Nat) : Int) % 2 ^ 1 = 1 by omega]; rfl
  · rw [show q % 2 = 0 by omega, show ((q : Nat) : Int) % 2 ^ 1 = 0 by omega]; rfl
/-- One way: the turns that a number tells. -/
theorem btw_l2 {l : List S26} (hl : l.length ≤ 100) {n m : Nat} (hn : n ≤ 8) (hm : m < 512) (a b x y : Int) (R : Bool) : ∀ (d i : Nat) (acc : List Bool), d + i = n → acc.length = i →
    Ev (fun k => carillonlaw21_CostBetween.l2 k l (n : Int) a b x y (m : Int) (acc ++ bitsL d (m / 2 ^ i)) (n : Int)) R → Ev (fun k => carillonlaw21_CostBetween.l2 k l (n : Int) a b x y (m : Int) acc (i : Int)) R
  | 0, i, acc, hd, ha, h => by
    rw [bitsL, List.append_nil] at h
    have e : i = n := by omega
    rw [e]
    exact h
  | d + 1, i, acc, hd, ha, h => by
    rw [bitsL, Nat.div_div_eq_div_mul, ← Nat.pow_succ] at h
    refine Ev.step (f := fun k => carillonlaw21_CostBetween.l2 k l (n : Int) a b x y (m : Int) (acc ++ [(m / 2 ^ i % 2 == 1)]) ((i + 1 : Nat) : Int)) (fun k => ?_) (btw_l2 hl hn hm a b x y R d (i + 1) _ (by omega) (by simp; omega) (by simpa using h))
    have hw : (0 : Int) ≤ IntKind.u64.wrap (i : Int) := by rw [IntKind.wrap_u64]; omega
    simp only [carillonlaw21_CostBetween.l2]
    rw [_root_.if_pos (by omega), _root_.if_pos hw, _root_.if_pos (by omega), bit_at m i hm (by omega), wrap_small (by omega) (by omega)]
    rfl
theorem btw_one {l : List S26} (hl : l.length ≤ 100) (hb : (bound l).2.2 = 0) {n m : Nat} (hn : n ≤ 8) (hm : m < 512) (a b x y : Int) (R : Bool)
    (h : Ev (fun k => carillonlaw21_CostBetween.l1 k l (n : Int) a b (mn x (path l (bitsL n m)).1) (mx y (path l (bitsL n m)).1) ((m + 1 : Nat) : Int)) R) : Ev (fun k => carillonlaw21_CostBetween.l2 k l (n : Int) a b x y (m : Int) [] 0) R := by
  refine btw_l2 hl hn hm a b x y R n 0 [] (by omega) rfl ?_
  rw [List.nil_append, Nat.pow_zero, Nat.div_one]
  refine Ev.step (f := fun k => (cost_Path.f l (bitsL n m)).bind fun bt373 => (if bt373.2 = 0 then (carillonlaw21_CostBetween.l1 k l (n : Int) a b (mn x bt373.1) (mx y bt373.1) ((m + 1 : Nat) : Int)) else (some false))) (fun k => ?_) ?_
  · simp only [carillonlaw21_CostBetween.l2]
    rw [_root_.if_neg (by omega), _root_.if_pos (by simp only [List.length_nil]; omega), List.nil_append, wrap_small (by omega) (by omega)]
    rfl
  · refine Ev.bind (show Ev (fun _ => cost_Path.f l (bitsL n m)) (path l (bitsL n m)) from Ev.now _) (Ev.if_pos ?_ h)
    exact ((ways hb).1 _).2.2
theorem btw_l1 {l : List S26} (hl : l.length ≤ 100) (hb : (bound l).2.2 = 0) {n : Nat} (hn : n ≤ 8) (hz : n = zf l 0) : ∀ (d m : Nat) (x y : Int), d + m = 2 ^ n →
    (∀ j, j < m → x ≤ (path l (bitsL n j)).1) → (x = 4611686018427387904 ∨ ∃ j, j < m ∧ x = (path l (bitsL n j)).1) → (∀ j, j < m → (path l (bitsL n j)).1 ≤ y) → (y = 0 ∨ ∃ j, j < m ∧ y = (path l (bitsL n j)).1) →
    Ev (fun k => carillonlaw21_CostBetween.l1 k l (n : Int) (bound l).1 (bound l).2.1 x y (m : Int)) true := by
  have h2n : 2 ^ n ≤ 256 := by
    have : 2 ^ n ≤ 2 ^ 8 := Nat.pow_le_pow_right (by decide) hn
    simpa using this
  have hs : shl .i64 1 (n : Int) = ((2 ^ n : Nat) : Int) := by
    unfold shl
    rw [Int.toNat_natCast, show min n (IntKind.bits .i64) = n from Nat.min_eq_left (by simp [IntKind.bits]; omega), IntKind.wrap_i64]
    have e : (1 : Int) * 2 ^ n = ((2 ^ n : Nat) : Int) := by simp
    rw [e]
    generalize 2 ^ n = q at h2n ⊢
    omega
  intro d
  induction d with
  | zero =>
    intro m x y hd x1 x2 y1 y2
    obtain ⟨w1, ⟨ml, l1, l2⟩, ⟨mh, g1, g2⟩, r1, r2, r3, r4⟩ := ways hb
    rw [← hz] at l1 l2 g1 g2
    have ex : x = (bound l).1 := by
      have h1 := x1 ml (by omega)
      rw [l2] at h1
      rcases x2 with e | ⟨j, _, e⟩
      · omega
      · have := (w1 (bitsL n j)).1; omega
    have ey : y = (bound l).2.1 := by
      have h1 := y1 mh (by omega)
      rw [g2] at h1
      rcases y2 with e | ⟨j, _, e⟩
      · omega
      · have := (w1 (bitsL n j)).2.1; omega
    refine Ev.step (f := fun _ => if x = (bound l).1 then (if y = (bound l).2.1 then ((carillonlaw21_works.f).bind fun t => some t) else some false) else some false) (fun k => ?_) (Ev.if_pos ex (Ev.if_pos ey (Ev.bind btw_works (Ev.now _))))
    simp only [carillonlaw21_CostBetween.l1]
    rw [_root_.if_pos (by omega), hs, _root_.if_neg (by omega)]
  | succ d ih =>
    intro m x y hd x1 x2 y1 y2
    refine Ev.step (f := fun k => carillonlaw21_CostBetween.l2 k l (n : Int) (bound l).1 (bound l).2.1 x y (m : Int) [] 0) (fun k => ?_) (btw_one hl hb hn (by omega) _ _ _ _ _ (ih (m + 1) _ _ (by omega) ?_ ?_ ?_ ?_))
    · simp only [carillonlaw21_CostBetween.l1]
      rw [_root_.if_pos (by omega), hs, _root_.if_pos (by omega)]
    · intro j hj
      unfold mn
      rcases Nat.lt_or_eq_of_le (Nat.le_of_lt_succ hj) with h | h
      · have := x1 j h; split <;> omega
      · subst h; split <;> omega
    · unfold mn
      split
      · exact .inr ⟨m, by omega, rfl⟩
      · rcases x2 with e | ⟨j, j1, e⟩
        · exact .inl e
        · exact .inr ⟨j, by omega, e⟩
    · intro j hj
      unfold mx
      rcases Nat.lt_or_eq_of_le (Nat.le_of_lt_succ hj) with h | h
      · have := y1 j h; split <;> omega
      · subst h; split <;> omega
    · unfold mx
      split
      · exact .inr ⟨m, by omega, rfl⟩
      · rcases y2 with e | ⟨j, j1, e⟩
        · exact .inl e
        · exact .inr ⟨j, by omega, e⟩
theorem bound_err {l : List S26} (h : (bound l).2.2 ≠ 0) : (bound l).1 = 0 ∧ (bound l).2.1 = 0 := by
  unfold bound at h ⊢
  split
  · exact ⟨rfl, rfl⟩
  split
  · split
    · exact ⟨rfl, rfl⟩
    split
    · rename_i h1 h2 h3 h4
      rw [_root_.if_neg h1, _root_.if_pos h2, _root_.if_neg h3, _root_.if_pos h4] at h
      exact absurd rfl h
    · exact ⟨rfl, rfl⟩
  · exact ⟨rfl, rfl⟩
theorem btw_j2 (l : List S26) (ts : List Bool) (c : Int) (z : Bool) (hz : z = false → l.length ≤ 100 ∧ ts.length ≤ 400 ∧ c = (zf l 0 : Int)) : Ev (fun k => carillonlaw21_CostBetween.j2 k l ts c z) true := by
  cases z with
  | true => exact Ev.step (f := fun _ => (carillonlaw21_works.f).bind fun t => some t) (fun k => by simp only [carillonlaw21_CostBetween.j2, if_true]) (Ev.bind btw_works (Ev.now _))
  | false =>
    obtain ⟨h1, h2, h3⟩ := hz rfl
    refine Ev.step (f := fun k => (cost_Bound.f l).bind fun bt356 => (if bt356.2.2 = 0 then ((cost_Path.f l ts).bind fun bt363 => (if bt363.2 = 0 then (if bt363.1 < bt356.1 then (carillonlaw21_CostBetween.j3 k l c bt356.1 bt356.2.1 true) else (carillonlaw21_CostBetween.j3 k l c bt356.1 bt356.2.1 (decide (bt363.1 > bt356.2.1)))) else (carillonlaw21_CostBetween.j3 k l c bt356.1 bt356.2.1 true))) else (if bt356.1 = 0 then (if bt356.2.1 = 0 then ((carillonlaw21_works.f).bind fun t359 => (some t359)) else (some false)) else (some false)))) (fun k => ?_) ?_
    · simp only [carillonlaw21_CostBetween.j2, Bool.false_eq_true, if_false]
      rw [_root_.if_pos (by simp only [List.length_nil]; omega), List.nil_append]
    refine Ev.bind (show Ev (fun _ => cost_Bound.f l) (bound l) from Ev.now _) ?_
    by_cases hb : (bound l).2.2 = 0
    · obtain ⟨w1, w2, w3⟩ := (ways hb).1 ts
      refine Ev.if_pos hb (Ev.bind (show Ev (fun _ => cost_Path.f l ts) (path l ts) from Ev.now _) (Ev.if_pos w3 (Ev.if_neg (by omega) ?_)))
      rw [decide_eq_false (show ¬ (path l ts).1 > (bound l).2.1 by omega)]
      refine Ev.step (f := fun k => if c > 8 then ((carillonlaw21_works.f).bind fun t365 => (some t365)) else (carillonlaw21_CostBetween.l1 k l c (bound l).1 (bound l).2.1 4611686018427387904 0 0)) (fun k => by simp only [carillonlaw21_CostBetween.j3, Bool.false_eq_true, if_false]) ?_
      by_cases hc : c > 8
      · exact Ev.if_pos hc (Ev.bind btw_works (Ev.now _))
      · refine Ev.if_neg hc ?_
        rw [h3]
        exact btw_l1 h1 hb (by omega) rfl (2 ^ zf l 0) 0 _ _ (by omega) (fun j hj => by omega) (.inl rfl) (fun j hj => by omega) (.inl rfl)
    · obtain ⟨e1, e2⟩ := bound_err hb
      exact Ev.if_neg hb (Ev.if_pos e1 (Ev.if_pos e2 (Ev.bind btw_works (Ev.now _))))
theorem btw_j1f (l : List S26) (ts : List Bool) (c i : Int) (h : l.length ≤ 100 → c = (zf l 0 : Int)) : Ev (fun k => carillonlaw21_CostBetween.j1 k l ts c i false) true := by
  refine Ev.step (f := fun k => if (l.length : Int) > 100 then (carillonlaw21_CostBetween.j2 k l ts c true) else (carillonlaw21_CostBetween.j2 k l ts c (decide ((ts.length : Int) > 400)))) (fun k => by simp only [carillonlaw21_CostBetween.j1, Bool.false_eq_true, if_false]) ?_
  by_cases h1 : (l.length : Int) > 100
  · exact Ev.if_pos h1 (btw_j2 l ts c true (by simp))
  · exact Ev.if_neg h1 (btw_j2 l ts c _ (fun e => ⟨by omega, by simp at e; omega, h (by omega)⟩))
theorem btw_l0 (l : List S26) (ts : List Bool) (hlen : l.length ≤ 9223372036854775807) : ∀ (d i : Nat) (c : Int), d + i = 400 → (l.length ≤ 100 → i ≤ l.length ∧ 0 ≤ c ∧ c + (zf l i : Int) = (zf l 0 : Int)) → Ev (fun k => carillonlaw21_CostBetween.l0 k l ts c (i : Int)) true
  | 0, i, c, hd, hc => by
    by_cases hi : (i : Int) < (l.length : Int)
    · refine Ev.step (f := fun k => carillonlaw21_CostBetween.j1 k l ts c (i : Int) false) (fun k => ?_) (btw_j1f l ts c _ (fun h => by have := hc h; omega))
      simp only [carillonlaw21_CostBetween.l0]
      rw [_root_.if_pos hi, decide_eq_false (by omega)]
    · refine Ev.step (f := fun k => carillonlaw21_CostBetween.j1 k l ts c (i : Int) false) (fun k => ?_) (btw_j1f l ts c _ (fun h => by have := hc h; omega))
      simp only [carillonlaw21_CostBetween.l0]
      rw [_root_.if_neg hi]
  | d + 1, i, c, hd, hc => by
    by_cases hi : (i : Int) < (l.length : Int)
    · refine Ev.step (f := fun k => carillonlaw21_CostBetween.j1 k l ts c (i : Int) true) (fun k => ?_) ?_
      · simp only [carillonlaw21_CostBetween.l0]
        rw [_root_.if_pos hi, decide_eq_true (by omega)]
      · have hz := zf_at (l := l) (k := i) (by omega)
        refine Ev.step (f := fun k => if ((rd_T26 l (i : Int)).f0) = 22 then (carillonlaw21_CostBetween.l0 k l ts (wrap64 (c + 1)) ((i + 1 : Nat) : Int)) else (carillonlaw21_CostBetween.l0 k l ts c ((i + 1 : Nat) : Int))) (fun k => ?_) ?_
        · simp only [carillonlaw21_CostBetween.j1, if_true]
          rw [_root_.if_pos (by omega), _root_.if_pos hi, wrap_small (x := (i : Int) + 1) (by omega) (by omega)]
          rfl
        · by_cases h22 : (rd_T26 l (i : Int)).f0 = 22
          · refine Ev.if_pos h22 (btw_l0 l ts hlen d (i + 1) _ (by omega) (fun h => ?_))
            obtain ⟨h1, h2, h3⟩ := hc h
            rw [_root_.if_pos h22] at hz
            have hle : zf l 0 ≤ 100 := by unfold zf; exact Nat.le_trans (List.countP_le_length) (by simpa using h)
            rw [wrap_small (by omega) (by omega)]
            refine ⟨by omega, by omega, by omega⟩
          · refine Ev.if_neg h22 (btw_l0 l ts hlen d (i + 1) _ (by omega) (fun h => ?_))
            obtain ⟨h1, h2, h3⟩ := hc h
            rw [_root_.if_neg h22] at hz
            exact ⟨by omega, by omega, by omega⟩
    · refine Ev.step (f := fun k => carillonlaw21_CostBetween.j1 k l ts c (i : Int) false) (fun k => ?_) (btw_j1f l ts c _ (fun h => ?_))
      · simp only [carillonlaw21_CostBetween.l0]
        rw [_root_.if_neg hi]
      · obtain ⟨h1, h2, h3⟩ := hc h
        have e : i = l.length := by omega
        subst e
        have hz : zf l l.length = 0 := by unfold zf; rw [List.drop_length]; rfl
        omega
theorem CostBetween : ∀ (y0 : List (S26)) (y1 : List (Bool)), (fun l : List (S26) => l.length ≤ 9223372036854775807 ∧ l.length * 16 ≤ 140737488351232 ∧ ∀ x ∈ l, G26 x) y0 → (fun l : List (Bool) => l.length ≤ 9223372036854775807 ∧ l.length * 1 ≤ 140737488351232 ∧ ∀ x ∈ l, (fun _ : Bool => True) x) y1 → ∃ k, carillonlaw21_CostBetween.f k y0 y1 = some true := by
  intro l ts hl _
  refine Ev.rounds ?_
  unfold carillonlaw21_CostBetween.f
  exact btw_l0 l ts hl.1 400 0 0 (by omega) (fun h => ⟨by omega, by omega, by omega⟩)
end Go.Proofs.Ytnaapecmooljaaa.H.Pure
