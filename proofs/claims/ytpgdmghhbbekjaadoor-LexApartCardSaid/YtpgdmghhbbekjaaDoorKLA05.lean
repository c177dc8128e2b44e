/- Part 5 of the proof of the law LA. The conditions: none. (Its parts: Lxr Lxs Lxj Lxk Lxl Lxn.) -/
import Derived.LaidEql
import Derived.Stop.Asserts
import Derived.Lib.IfaceEq
import Derived.RowKitTokens
import Derived.Test.YtpgdmghhbbekjaaDoorKLA03
import Derived.Test.YtpgdmghhbbekjaaDoorKLA04
section
set_option linter.unusedVariables false
set_option linter.unusedSimpArgs false
namespace Go.Proofs.YtpgdmghhbbekjaaDoor.L
open Go.RowKit Go.Proofs.YtpgdmghhbbekjaaDoorW.PrintWords Go.Proofs.YtpgdmghhbbekjaaDoorW.PrintLast Go.Maps
theorem bytes_eq {a b : ByteArray} (h : a.data.toList = b.data.toList) : a = b := by
  cases a; cases b
  congr
  exact Array.toList_inj.1 h
theorem drop_more {α : Type} {l : List α} {i : Nat} {c : α} {r : List α} (h : l.drop i = c :: r) : l.drop (i + 1) = r := by
  have := congrArg (List.drop 1) h
  rw [List.drop_drop] at this
  simpa using this
theorem drop_plus {α : Type} {l : List α} : ∀ {a : List α} {i : Nat} {r : List α}, l.drop i = a ++ r → l.drop (i + a.length) = r
  | [], i, r, h => h
  | x :: a, i, r, h => by
    have := drop_plus (drop_more h)
    rw [List.length_cons, show i + (a.length + 1) = i + 1 + a.length by omega]
    exact this
theorem bt_drop {y : ByteArray} {i : Nat} {c : UInt8} {r : List UInt8} (h : y.data.toList.drop i = c :: r) : bt y (i : Int) = (c.toNat : Int) ∧ i < y.size := by
  have h2 : i < y.data.toList.length := by
    rcases Nat.lt_or_ge i y.data.toList.length with h3 | h3
    · exact h3
    · rw [List.drop_of_length_le h3] at h; cases h
  rw [List.drop_eq_getElem_cons h2] at h
  injection h with h _
  refine ⟨?_, by rw [← len_list]; exact h2⟩
  rw [bt_list, List.getD_eq_getElem?_getD, List.getElem?_eq_getElem h2, h]
  rfl
theorem spn_list (p : Int → Bool) (y : ByteArray) : ∀ (a : List UInt8) (i n : Nat) (c : UInt8) (r : List UInt8), y.data.toList.drop i = a ++ c :: r → (∀ b ∈ a, p (b.toNat : Int) = true) → p (c.toNat : Int) = false → a.length < n → spn p y n i = i + a.length
  | [], i, n + 1, c, r, h, _, hc, _ => by
    rw [spn, (bt_drop h).1, hc, if_neg (by decide)]
    rfl
  | x :: a, i, n + 1, c, r, h, ha, hc, hn => by
    rw [spn, (bt_drop h).1, if_pos (ha x List.mem_cons_self), spn_list p y a (i + 1) n c r (drop_more h) (fun b hb => ha b (List.mem_cons_of_mem _ hb)) hc (by simp at hn; omega)]
    simp
    omega
theorem spn_all (p : Int → Bool) (s : ByteArray) : ∀ n i j, i ≤ j → j < spn p s n i → p (bt s (j : Int)) = true
  | 0, i, j, h1, h2 => by rw [spn] at h2; omega
  | n + 1, i, j, h1, h2 => by
    rw [spn] at h2
    by_cases h : p (bt s (i : Int)) = true
    · rw [if_pos h] at h2
      by_cases e : j = i
      · rw [e]; exact h
      · exact spn_all p s n (i + 1) j (by omega) h2
    · rw [if_neg h] at h2
      omega
def Ws (c : UInt8) : Prop := c = 32 ∨ c = 10 ∨ c = 9 ∨ c = 13
theorem ws_not_named {c : UInt8} (h : Ws c) : namedB (c.toNat : Int) = false ∧ digitB (c.toNat : Int) = false ∧ ∀ v : UInt8, v = 62 ∨ v = 94 ∨ v = 58 ∨ v = 61 → ((c.toNat : Int) == (v.toNat : Int)) = false := by
  rcases h with rfl | rfl | rfl | rfl <;> refine ⟨by decide, by decide, fun v hv => ?_⟩ <;> rcases hv with rfl | rfl | rfl | rfl <;> decide
theorem sec_two {y : ByteArray} {a b : UInt8} {r : List UInt8} (h : y.data.toList = a :: b :: r) (v : UInt8) : secB y v = ((b.toNat : Int) == (v.toNat : Int)) := by
  have h1 : y.data.toList.drop 1 = b :: r := by rw [h]; rfl
  obtain ⟨e, hl⟩ := bt_drop h1
  unfold secB
  rw [show (1 : Int) = ((1 : Nat) : Int) from rfl, e, decide_eq_true hl]
  rfl
theorem sgn_two (x : ByteArray) : sgnN x ≤ 2 := by
  unfold sgnN
  repeat' split
  all_goals omega
theorem tok_same {x y : ByteArray} {i j : Int} {c : UInt8} {r : List UInt8} (hx : 0 < x.size) (he : tkE x = 0) (hy : y.data.toList = (tkT x i).t.data.toList ++ c :: r) (hc : Ws c) : tkE y = 0 ∧ tkT y j = ⟨(tkT x i).k, (tkT x i).t, (tkT x i).n, j⟩ := by
  obtain ⟨w1, w2, w3⟩ := ws_not_named hc
  have hsz := tkT_size (i := i) hx he
  obtain ⟨a, rx, hxl⟩ : ∃ a rx, x.data.toList = a :: rx := by
    cases h : x.data.toList with
    | nil => rw [← len_list, h] at hx; exact absurd hx (by decide)
    | cons a rx => exact ⟨a, rx, rfl⟩
  have bx : bt x 0 = (a.toNat : Int) := (bt_drop (i := 0) (by rw [hxl]; rfl)).1
  have part : ∀ m, 1 ≤ m → (x.extract 0 m).data.toList = a :: rx.take (m - 1) := fun m hm => by
    obtain ⟨k, rfl⟩ : ∃ k, m = k + 1 := ⟨m - 1, by omega⟩
    rw [ext_list, hxl]
    simp
  have front : ∀ m, 1 ≤ m → m ≤ x.size → y.data.toList = (x.extract 0 m).data.toList ++ c :: r → bt y 0 = (a.toNat : Int) ∧ y.extract 0 m = x.extract 0 m ∧ ∀ p : Int → Bool, (∀ j, j < m → p (bt x (j : Int)) = true) → p (c.toNat : Int) = false → spn p y y.size 0 = m := fun m h1 h2 h => by
    have hl : (x.extract 0 m).data.toList.length = m := by rw [len_list, ext_size x 0 m h2]; omega
    refine ⟨(bt_drop (i := 0) (r := rx.take (m - 1) ++ c :: r) (by rw [h, part m h1]; rfl)).1, bytes_eq ?_, fun p hp hpc => ?_⟩
    · rw [ext_list y, h, List.drop_zero, List.take_append_of_le_length (by omega), List.take_of_length_le (by omega)]
    · have hys : y.size = m + (r.length + 1) := by rw [← len_list, h, List.length_append, hl, List.length_cons]
      have := spn_list p y (x.extract 0 m).data.toList 0 y.size c r (by rw [List.drop_zero]; exact h) (fun b hb => ?_) hpc (by omega)
      · rw [this, hl]; omega
      · obtain ⟨q, hq, hqb⟩ := List.mem_iff_getElem.1 hb
        have hqm : q < m := by omega
        have e := hp q hqm
        rw [bt_list, ← bt_list] at e
        have e2 : bt (x.extract 0 m) (q : Int) = bt x ((0 + q : Nat) : Int) := bt_ext x 0 m q (by omega)
        rw [Nat.zero_add] at e2
        rw [← e2, bt_list, List.getD_eq_getElem?_getD, List.getElem?_eq_getElem hq, hqb] at e
        exact e
  unfold tkE at he ⊢
  unfold tkT at hy hsz ⊢
  by_cases hl : letterB (bt x 0) = true
  · rw [if_pos hl] at he hy hsz ⊢
    have hm1 : 1 ≤ spn namedB x x.size 0 ∧ spn namedB x x.size 0 ≤ x.size := by
      have h1 := hsz
      have h2 := spn_le namedB x x.size 0
      have h3 : (x.extract 0 (spn namedB x x.size 0)).size = spn namedB x x.size 0 - 0 := ext_size x 0 _ (by omega)
      have h4 : 1 ≤ (x.extract 0 (spn namedB x x.size 0)).size := h1.1
      omega
    obtain ⟨f1, f2, f3⟩ := front _ hm1.1 hm1.2 hy
    have f4 := f3 namedB (fun j hj => spn_all namedB x x.size 0 j (Nat.zero_le _) hj) w1
    rw [bx] at hl
    rw [f1, if_pos hl, if_pos hl, f4, f2]
    exact ⟨he, rfl⟩
  · rw [if_neg hl] at he hy hsz ⊢
    by_cases hd : digitB (bt x 0) = true
    · rw [if_pos hd] at he hy hsz ⊢
      have hm1 : 1 ≤ spn digitB x x.size 0 ∧ spn digitB x x.size 0 ≤ x.size := by
        have h1 := hsz
        have h2 := spn_le digitB x x.size 0
        have h3 : (x.extract 0 (spn digitB x x.size 0)).size = spn digitB x x.size 0 - 0 := ext_size x 0 _ (by omega)
        have h4 : 1 ≤ (x.extract 0 (spn digitB x x.size 0)).size := h1.1
        omega
      obtain ⟨f1, f2, f3⟩ := front _ hm1.1 hm1.2 hy
      have f4 := f3 digitB (fun j hj => spn_all digitB x x.size 0 j (Nat.zero_le _) hj) w2
      rw [bx] at hl hd
      rw [f1, if_neg hl, if_pos hd, if_neg hl, if_pos hd, f4, f2]
      exact ⟨he, rfl⟩
    · rw [if_neg hd] at he hy hsz ⊢
      have h0 : sgnN x ≠ 0 := fun h => by rw [if_pos h] at he; exact absurd he (by decide)
      have hle := sgn_le x hx
      have h2 := sgn_two x
      obtain ⟨f1, f2, _⟩ := front _ (by omega) hle hy
      have hs : sgnN y = sgnN x := by
        by_cases e2 : sgnN x = 2
        · rw [e2] at hy hle
          have hp2 := part 2 (by omega)
          obtain ⟨b, ry, hrx⟩ : ∃ b ry, rx = b :: ry := by
            cases hh : rx with
            | nil => rw [← len_list, hxl, hh] at hle; simp at hle
            | cons b ry => exact ⟨b, ry, rfl⟩
          have hyl : y.data.toList = a :: b :: (c :: r) := by
            rw [hy, hp2, hrx]
            rfl
          have hxl2 : x.data.toList = a :: b :: ry := by rw [hxl, hrx]
          unfold sgnN
          rw [f1, bx, sec_two hyl, sec_two hyl, sec_two hyl, sec_two hyl, sec_two hxl2, sec_two hxl2, sec_two hxl2, sec_two hxl2]
        · have e1 : sgnN x = 1 := by omega
          rw [e1] at hy
          have hp1 := part 1 (by omega)
          have hyl : y.data.toList = a :: c :: r := by rw [hy, hp1]; rfl
          rw [e1]
          unfold sgnN at e1 ⊢
          rw [bx] at e1
          rw [f1, sec_two hyl, sec_two hyl, sec_two hyl, sec_two hyl, w3 62 (.inl rfl), w3 94 (.inr (.inl rfl)), w3 58 (.inr (.inr (.inl rfl))), w3 61 (.inr (.inr (.inr rfl)))]
          by_cases q1 : (a.toNat : Int) = 126
          · rw [if_pos q1] at e1
            split at e1 <;> omega
          · rw [if_neg q1] at e1 ⊢
            by_cases q2 : (a.toNat : Int) = 42 ∨ (a.toNat : Int) = 47
            · rw [if_pos q2]; rfl
            · rw [if_neg q2] at e1 ⊢
              by_cases q3 : (a.toNat : Int) = 58
              · rw [if_pos q3]; rfl
              · rw [if_neg q3] at e1 ⊢
                by_cases q4 : (a.toNat : Int) = 60
                · rw [if_pos q4]; rfl
                · rw [if_neg q4] at e1 ⊢
                  by_cases q5 : (a.toNat : Int) = 62
                  · rw [if_pos q5]; rfl
                  · rw [if_neg q5] at e1 ⊢
                    exact e1
      rw [bx] at hl hd
      rw [f1, if_neg hl, if_neg hd, if_neg hl, if_neg hd, hs, f2, if_neg h0]
      exact ⟨rfl, rfl⟩
theorem skp_fuel (s : ByteArray) : ∀ n m i, s.size - i ≤ n → s.size - i ≤ m → skp s n i = skp s m i
  | 0, 0, i, _, _ => rfl
  | 0, m + 1, i, h1, _ => by rw [skp, skp, if_neg (by omega)]
  | n + 1, 0, i, _, h2 => by rw [skp, skp, if_neg (by omega)]
  | n + 1, m + 1, i, h1, h2 => by
    rw [skp, skp]
    by_cases h : i < s.size
    · rw [if_pos h, if_pos h]
      by_cases h3 : bt s (i : Int) = 45
      · rw [if_pos h3, if_pos h3]
        by_cases h4 : dash s i = true
        · rw [if_pos h4, if_pos h4]
          have := spn_dash h4
          exact skp_fuel s n m _ (by omega) (by omega)
        · rw [if_neg h4, if_neg h4]
      · rw [if_neg h3, if_neg h3]
        split
        · exact skp_fuel s n m _ (by omega) (by omega)
        · rfl
    · rw [if_neg h, if_neg h]
theorem skp_ws {s : ByteArray} {i : Nat} {c : UInt8} {r : List UInt8} (h : s.data.toList.drop i = c :: r) (hc : Ws c) : skp s s.size i = skp s s.size (i + 1) := by
  obtain ⟨e, hi⟩ := bt_drop h
  obtain ⟨k, hk⟩ : ∃ k, s.size = k + 1 := ⟨s.size - 1, by omega⟩
  have h1 : skp s s.size i = skp s (k + 1) i := by rw [hk]
  rw [h1, skp, if_pos hi, e]
  have h2 : ¬ (c.toNat : Int) = 45 ∧ blankB (c.toNat : Int) = true := by rcases hc with rfl | rfl | rfl | rfl <;> decide
  rw [if_neg h2.1, if_pos h2.2]
  exact skp_fuel s _ _ _ (by omega) (by omega)
theorem skp_rem {s : ByteArray} {i : Nat} {a r : List UInt8} (h : s.data.toList.drop i = 45 :: 45 :: (a ++ 10 :: r)) (ha : ∀ b ∈ a, b ≠ 10) : skp s s.size i = skp s s.size (i + 2 + a.length) := by
  obtain ⟨e, hi⟩ := bt_drop h
  have h' := drop_more h
  obtain ⟨e2, hi2⟩ := bt_drop h'
  obtain ⟨k, hk⟩ : ∃ k, s.size = k + 1 := ⟨s.size - 1, by omega⟩
  have h1 : skp s s.size i = skp s (k + 1) i := by rw [hk]
  have hd : dash s i = true := by
    unfold dash
    rw [e, e2, decide_eq_true hi2]
    rfl
  have hlen : s.size = i + (2 + (a.length + (r.length + 1))) := by
    have := congrArg List.length h
    rw [List.length_drop, len_list] at this
    simp at this
    omega
  have hs := spn_list lineB s (45 :: 45 :: a) i (s.size - i) 10 r h (fun b hb => by
    have hb10 : b ≠ 10 := by
      rcases List.mem_cons.1 hb with rfl | hb
      · decide
      · rcases List.mem_cons.1 hb with rfl | hb
        · decide
        · exact ha b hb
    unfold lineB
    have : (b.toNat : Int) ≠ 10 := fun h => hb10 (UInt8.toNat_inj.1 (by simpa using (by omega : b.toNat = 10)))
    simpa using this) (by decide) (by simp; omega)
  rw [h1, skp, if_pos hi, e, if_pos (by decide), if_pos hd, hs]
  rw [show i + (45 :: 45 :: a).length = i + 2 + a.length by simp; omega]
  exact skp_fuel s _ _ _ (by omega) (by omega)
def blanksL : List (List UInt8) := [[32], [10], [9, 32], [13, 10], [32, 45, 45, 32, 120, 10], [32, 45, 45, 10, 45, 45, 121, 32, 122, 10]]
theorem skp_blank {s : ByteArray} {i : Nat} {b r : List UInt8} (hb : b ∈ blanksL) (h : s.data.toList.drop i = b ++ r) : skp s s.size i = skp s s.size (i + b.length) := by
  simp only [blanksL, List.mem_cons, List.not_mem_nil, or_false] at hb
  rcases hb with rfl | rfl | rfl | rfl | rfl | rfl
  · exact skp_ws h (.inl rfl)
  · exact skp_ws h (.inr (.inl rfl))
  · exact (skp_ws h (.inr (.inr (.inl rfl)))).trans (skp_ws (drop_more h) (.inl rfl))
  · exact (skp_ws h (.inr (.inr (.inr rfl)))).trans (skp_ws (drop_more h) (.inr (.inl rfl)))
  · have h1 := drop_more h
    have h2 := skp_rem (a := [32, 120]) h1 (by decide)
    have h3 := drop_plus (a := [45, 45, 32, 120]) h1
    exact (skp_ws h (.inl rfl)).trans (h2.trans (skp_ws h3 (.inr (.inl rfl))))
  · have h1 := drop_more h
    have h2 := skp_rem (a := []) h1 (by decide)
    have h3 := drop_plus (a := [45, 45]) h1
    have h4 := skp_ws h3 (.inr (.inl rfl))
    have h5 := drop_more h3
    have h6 := skp_rem (a := [121, 32, 122]) h5 (by decide)
    have h7 := drop_plus (a := [45, 45, 121, 32, 122]) h5
    exact (skp_ws h (.inl rfl)).trans (h2.trans (h4.trans (h6.trans (skp_ws h7 (.inr (.inl rfl))))))
theorem blank_ws {b : List UInt8} (hb : b ∈ blanksL) : ∃ c r, b = c :: r ∧ Ws c := by
  simp only [blanksL, List.mem_cons, List.not_mem_nil, or_false] at hb
  rcases hb with rfl | rfl | rfl | rfl | rfl | rfl
  · exact ⟨_, _, rfl, .inl rfl⟩
  · exact ⟨_, _, rfl, .inr (.inl rfl)⟩
  · exact ⟨_, _, rfl, .inr (.inr (.inl rfl))⟩
  · exact ⟨_, _, rfl, .inr (.inr (.inr rfl))⟩
  · exact ⟨_, _, rfl, .inl rfl⟩
  · exact ⟨_, _, rfl, .inl rfl⟩
def J (b : Nat → List UInt8) : Nat → List Tk → List UInt8
  | _, [] => []
  | k, t :: l => b k ++ (t.t.data.toList ++ J b (k + 1) l)
theorem J_snoc (b : Nat → List UInt8) (t : Tk) : ∀ l k, J b k (l ++ [t]) = J b k l ++ (b (k + l.length) ++ t.t.data.toList)
  | [], k => by simp [J]
  | x :: l, k => by
    rw [List.cons_append, J, J, J_snoc b t l (k + 1), List.length_cons, show k + 1 + l.length = k + (l.length + 1) by omega]
    simp
theorem J_ws {b : Nat → List UInt8} (hb : ∀ k, b k ∈ blanksL) : ∀ l k, ∃ c r, J b k l ++ [10] = c :: r ∧ Ws c
  | [], k => ⟨10, [], rfl, .inr (.inl rfl)⟩
  | t :: l, k => by
    obtain ⟨c, r, e, hc⟩ := blank_ws (hb k)
    exact ⟨c, r ++ (t.t.data.toList ++ J b (k + 1) l) ++ [10], by rw [J, e]; simp, hc⟩
theorem skp_tok {s x : ByteArray} {i : Nat} {a : Int} {c : UInt8} {r : List UInt8} (hx : 0 < x.size) (he : tkE x = 0) (h : s.data.toList.drop i = (tkT x a).t.data.toList ++ c :: r) (hc : Ws c) : skp s s.size i = i := by
  have hsz := tkT_size (i := a) hx he
  obtain ⟨q, rx, hxl⟩ : ∃ q rx, x.data.toList = q :: rx := by
    cases h : x.data.toList with
    | nil => rw [← len_list, h] at hx; exact absurd hx (by decide)
    | cons a rx => exact ⟨a, rx, rfl⟩
  have bx : bt x 0 = (q.toNat : Int) := (bt_drop (i := 0) (by rw [hxl]; rfl)).1
  have part : ∀ m, 1 ≤ m → (x.extract 0 m).data.toList = q :: rx.take (m - 1) := fun m hm => by
    obtain ⟨k, rfl⟩ : ∃ k, m = k + 1 := ⟨m - 1, by omega⟩
    rw [ext_list, hxl]
    simp
  have key : ¬ blankB (q.toNat : Int) = true ∧ ∃ m, 1 ≤ m ∧ (tkT x a).t = x.extract 0 m ∧ ((q.toNat : Int) = 45 → m = 1) := by
    unfold tkE at he
    unfold tkT at hsz ⊢
    by_cases hl : letterB (bt x 0) = true
    · rw [if_pos hl] at hsz ⊢
      rw [bx] at hl
      unfold letterB at hl
      have hl := of_decide_eq_true hl
      refine ⟨fun hb => by unfold blankB at hb; have := of_decide_eq_true hb; omega, spn namedB x x.size 0, ?_, rfl, fun e => by omega⟩
      have h3 := spn_le namedB x x.size 0
      have h4 := ext_size x 0 (spn namedB x x.size 0) (by omega)
      have h5 : 1 ≤ (x.extract 0 (spn namedB x x.size 0)).size := hsz.1
      omega
    · rw [if_neg hl] at hsz he ⊢
      by_cases hd : digitB (bt x 0) = true
      · rw [if_pos hd] at hsz ⊢
        rw [bx] at hd
        unfold digitB at hd
        have hd := of_decide_eq_true hd
        refine ⟨fun hb => by unfold blankB at hb; have := of_decide_eq_true hb; omega, spn digitB x x.size 0, ?_, rfl, fun e => by omega⟩
        have h3 := spn_le digitB x x.size 0
        have h4 := ext_size x 0 (spn digitB x x.size 0) (by omega)
        have h5 : 1 ≤ (x.extract 0 (spn digitB x x.size 0)).size := hsz.1
        omega
      · rw [if_neg hd] at hsz he ⊢
        have h0 : sgnN x ≠ 0 := fun h => by rw [if_pos h] at he; exact absurd he (by decide)
        refine ⟨fun hb => h0 ?_, sgnN x, by omega, rfl, fun e => ?_⟩
        · unfold blankB at hb
          have hb := of_decide_eq_true hb
          unfold sgnN
          rw [bx, if_neg (by omega), if_neg (by omega), if_neg (by omega), if_neg (by omega), if_neg (by omega), if_neg (by omega)]
        · unfold sgnN
          rw [bx, if_neg (by omega), if_neg (by omega), if_neg (by omega), if_neg (by omega), if_neg (by omega), if_pos (by omega)]
  obtain ⟨hnb, m, hm, hT, h45⟩ := key
  rw [hT, part m hm] at h
  obtain ⟨e, hi⟩ := bt_drop h
  obtain ⟨k, hk⟩ : ∃ k, s.size = k + 1 := ⟨s.size - 1, by omega⟩
  have h1 : skp s s.size i = skp s (k + 1) i := by rw [hk]
  rw [h1, skp, if_pos hi, e]
  by_cases h3 : (q.toNat : Int) = 45
  · rw [if_pos h3]
    have hm1 := h45 h3
    subst hm1
    have e2 := (bt_drop (drop_more (r := c :: r) (c := q) h)).1
    have hd : dash s i = false := by
      unfold dash
      rw [e2]
      have : ((c.toNat : Int) == 45) = false := by rcases hc with rfl | rfl | rfl | rfl <;> decide
      rw [this]
      simp
    rw [hd, if_neg (by decide)]
  · rw [if_neg h3, if_neg hnb]
end Go.Proofs.YtpgdmghhbbekjaaDoor.L
end
section
set_option linter.unusedVariables false
set_option linter.unusedSimpArgs false
namespace Go.Proofs.YtpgdmghhbbekjaaDoor.L
open Go.RowKit Go.Proofs.YtpgdmghhbbekjaaDoorW.PrintWords Go.Proofs.YtpgdmghhbbekjaaDoorW.PrintLast Go.Maps
def same3 (t : Tk) : Int × ByteArray × Int := (t.k, t.t, t.n)
def Inc : Int → List Tk → Prop
  | _, [] => True
  | p, t :: r => p ≤ t.a ∧ Inc (t.a + 1) r
theorem Inc.mono : ∀ {l : List Tk} {p q : Int}, q ≤ p → Inc p l → Inc q l
  | [], _, _, _, _ => trivial
  | t :: r, p, q, h, hi => ⟨by have := hi.1; omega, hi.2⟩
theorem tgo_cons {s : ByteArray} {n i c : Nat} {l : List Tk} (hi : i < s.size) (h : tgo s (n + 1) i c = (l, 0, 0)) :
    tkE (s.extract i s.size) = 0 ∧ ¬ 16384 ≤ c + 1 ∧ ∃ l', l = tkT (s.extract i s.size) i :: l' ∧ tgo s n (skp s s.size (i + (tkT (s.extract i s.size) i).t.size)) (c + 1) = (l', 0, 0) := by
  rw [tgo, if_pos hi] at h
  by_cases he : tkE (s.extract i s.size) = 0
  · rw [if_neg (by rw [he]; decide)] at h
    by_cases hc : 16384 ≤ c + 1
    · rw [if_pos hc] at h
      exact absurd (congrArg (·.2.2) h) (show ¬ (6 : Int) = 0 by decide)
    · rw [if_neg hc] at h
      refine ⟨he, hc, ?_⟩
      obtain ⟨r, hr⟩ : ∃ r, tgo s n (skp s s.size (i + (tkT (s.extract i s.size) i).t.size)) (c + 1) = r := ⟨_, rfl⟩
      have h0 : ∀ n i c, (tgo s n i c).2.2 = 0 → (tgo s n i c).2.1 = 0 := by
        intro n
        induction n with
        | zero => intro i c h; rfl
        | succ n ih =>
          intro i c h
          rw [tgo] at h ⊢
          by_cases h1 : i < s.size
          · rw [if_pos h1] at h ⊢
            by_cases h2 : tkE (s.extract i s.size) ≠ 0
            · rw [if_pos h2] at h; exact absurd h h2
            · rw [if_neg h2] at h ⊢
              by_cases h3 : 16384 ≤ c + 1
              · rw [if_pos h3] at h; exact absurd h (show ¬ (6 : Int) = 0 by decide)
              · rw [if_neg h3] at h ⊢
                by_cases h4 : (tgo s n (skp s s.size (i + (tkT (s.extract i s.size) i).t.size)) (c + 1)).2.2 = 0
                · rw [if_pos h4]
                · rw [if_neg h4] at h; exact absurd h h4
          · rw [if_neg h1]
      have h00 := h0 n (skp s s.size (i + (tkT (s.extract i s.size) i).t.size)) (c + 1)
      rw [hr] at h h00 ⊢
      by_cases h4 : r.2.2 = 0
      · rw [if_pos h4] at h
        refine ⟨r.1, (congrArg (·.1) h).symm, ?_⟩
        obtain ⟨r1, r2, r3⟩ := r
        have h5 := h00 h4
        simp only at h4 h5 ⊢
        rw [h4, h5]
      · rw [if_neg h4] at h
        exact absurd (congrArg (·.2.2) h) h4
  · rw [if_pos he] at h
    exact absurd (congrArg (·.2.2) h) he
theorem tgo_end {s : ByteArray} {n i c : Nat} (hi : ¬ i < s.size) : tgo s n i c = ([⟨0, ⟨#[]⟩, 0, i⟩], 0, 0) := by
  cases n with
  | zero => rfl
  | succ n => rw [tgo, if_neg hi]
theorem ext_all (s : ByteArray) (i : Nat) : (s.extract i s.size).data.toList = s.data.toList.drop i := by
  rw [ext_list, List.take_of_length_le (by rw [len_list]; exact Nat.le_refl _)]
theorem tgo_join {s y : ByteArray} {b : Nat → List UInt8} (hb : ∀ k, b k ∈ blanksL) : ∀ n i c l k p N, i ≤ s.size → s.size ≤ n + i → tgo s n i c = (l, 0, 0) → y.data.toList.drop p = J b k l ++ [10] → l.length ≤ N → p ≤ y.size →
    ∃ l2, tgo y N (skp y y.size p) c = (l2, 0, 0) ∧ l2.map same3 = l.map same3 ∧ Inc (p : Int) l2 := by
  have fin : ∀ (i c : Nat) l k p N, l = [⟨0, ⟨#[]⟩, 0, (i : Int)⟩] → y.data.toList.drop p = J b k l ++ [10] → p ≤ y.size → ∃ l2, tgo y N (skp y y.size p) c = (l2, 0, 0) ∧ l2.map same3 = l.map same3 ∧ Inc (p : Int) l2 := by
    intro i c l k p N hl hd hp
    subst hl
    have hd' : y.data.toList.drop p = b k ++ [10] := by rw [hd, J, J]; simp
    have e1 := skp_blank (hb k) hd'
    have hd2 := drop_plus hd'
    have e2 := skp_ws hd2 (.inr (.inl rfl))
    have hsz : y.size = p + (b k).length + 1 := by
      have := congrArg List.length hd'
      rw [List.length_drop, len_list] at this
      simp at this
      omega
    have e3 : skp y y.size (p + (b k).length + 1) = y.size := by
      rw [← hsz]
      obtain ⟨q, hq⟩ : ∃ q, y.size = q + 1 := ⟨y.size - 1, by omega⟩
      have h1 : skp y y.size y.size = skp y (q + 1) y.size := by rw [← hq]
      rw [h1, skp, if_neg (by omega)]
    rw [e1, e2, e3, tgo_end (by omega)]
    exact ⟨_, rfl, rfl, ⟨by show (p : Int) ≤ (y.size : Int); omega, trivial⟩⟩
  intro n
  induction n with
  | zero =>
    intro i c l k p N hi hn h hd hN hp
    rw [tgo_end (by omega)] at h
    exact fin i c l k p N (congrArg (·.1) h).symm hd hp
  | succ n ih =>
    intro i c l k p N hi hn h hd hN hp
    by_cases his : i < s.size
    · obtain ⟨he, hc, l', rfl, hr⟩ := tgo_cons his h
      have hx0 : 0 < (s.extract i s.size).size := by rw [ext_size s i s.size (Nat.le_refl _)]; omega
      have hts := tkT_size (i := (i : Int)) hx0 he
      have hxs : (s.extract i s.size).size = s.size - i := ext_size s i s.size (Nat.le_refl _)
      obtain ⟨x, hx⟩ : ∃ x, s.extract i s.size = x := ⟨_, rfl⟩
      rw [hx] at he hr hd hN hx0 hts hxs ⊢
      obtain ⟨cw, rw_, hJ, hcw⟩ := J_ws hb l' (k + 1)
      have hd' : y.data.toList.drop p = b k ++ ((tkT x i).t.data.toList ++ cw :: rw_) := by rw [hd, J, ← hJ]; simp
      have e1 := skp_blank (hb k) hd'
      have hd2 := drop_plus hd'
      have e2 := skp_tok hx0 he hd2 hcw
      have hd3 := drop_plus hd2
      rw [← hJ] at hd3
      obtain ⟨q, hq⟩ : ∃ q, p + (b k).length = q := ⟨_, rfl⟩
      rw [hq] at e1 e2 hd2 hd3
      have hlen : q + (tkT x i).t.size < y.size := by
        have h1 := congrArg List.length hd3
        rw [List.length_drop, len_list, len_list, hJ] at h1
        simp at h1
        omega
      rw [len_list] at hd3
      obtain ⟨N, rfl⟩ : ∃ m, N = m + 1 := ⟨N - 1, by simp at hN; omega⟩
      have hty := tok_same (y := y.extract q y.size) (j := (q : Int)) hx0 he (by rw [ext_all]; exact hd2) hcw
      have hsl := skp_le s s.size (i + (tkT x i).t.size) (by omega)
      obtain ⟨l2, g1, g2, g3⟩ := ih (skp s s.size (i + (tkT x i).t.size)) (c + 1) l' (k + 1) (q + (tkT x i).t.size) N hsl.2 (by omega) hr hd3 (by simp at hN; omega) (by omega)
      refine ⟨⟨(tkT x i).k, (tkT x i).t, (tkT x i).n, (q : Int)⟩ :: l2, ?_, by rw [List.map_cons, List.map_cons, g2]; rfl, ⟨by show (p : Int) ≤ (q : Int); omega, Inc.mono (by show (q : Int) + 1 ≤ _; omega) g3⟩⟩
      rw [e1, e2, tgo, if_pos (by omega), hty.1, if_neg (by decide), if_neg hc, hty.2]
      show (if (tgo y N (skp y y.size (q + (tkT x i).t.size)) (c + 1)).2.2 = 0 then _ else _) = _
      rw [g1, if_pos rfl]
    · rw [tgo_end his] at h
      exact fin i c l k p N (congrArg (·.1) h).symm hd hp
def Stands (s : ByteArray) (t : Tk) : Prop := ∃ a : Nat, t.a = (a : Int) ∧ a + t.t.size ≤ s.size ∧ s.extract a (a + t.t.size) = t.t
theorem tgo_stands {s : ByteArray} : ∀ n i c l, i ≤ s.size → tgo s n i c = (l, 0, 0) → (∀ t ∈ l, Stands s t) ∧ l.length ≤ n + 1 ∧ ∀ b : Nat → List UInt8, (∀ k, (b k).length ≤ 10) → ∀ k, (J b k l).length + i ≤ 10 * l.length + s.size := by
  have fin : ∀ (i n c : Nat) l, i ≤ s.size → l = [⟨0, ⟨#[]⟩, 0, (i : Int)⟩] → (∀ t ∈ l, Stands s t) ∧ l.length ≤ n + 1 ∧ ∀ b : Nat → List UInt8, (∀ k, (b k).length ≤ 10) → ∀ k, (J b k l).length + i ≤ 10 * l.length + s.size := by
    intro i n c l hi hl
    subst hl
    refine ⟨fun t ht => ?_, by simp, fun b hb k => ?_⟩
    · rw [List.mem_singleton.1 ht]
      exact ⟨i, rfl, hi, bytes_eq (by rw [ext_list]; show _ = []; rw [show i + (⟨#[]⟩ : ByteArray).size = i from rfl]; rw [List.drop_of_length_le (by simp; omega)])⟩
    · have := hb k
      rw [J, J]
      simp
      omega
  intro n
  induction n with
  | zero =>
    intro i c l hi h
    exact fin i 0 c l hi (congrArg (·.1) h).symm
  | succ n ih =>
    intro i c l hi h
    by_cases his : i < s.size
    · obtain ⟨he, hc, l', rfl, hr⟩ := tgo_cons his h
      have hx0 : 0 < (s.extract i s.size).size := by rw [ext_size s i s.size (Nat.le_refl _)]; omega
      have hts := tkT_size (i := (i : Int)) hx0 he
      have hxs : (s.extract i s.size).size = s.size - i := ext_size s i s.size (Nat.le_refl _)
      have hpart : ∃ m, m ≤ s.size - i ∧ (tkT (s.extract i s.size) i).t = (s.extract i s.size).extract 0 m ∧ (tkT (s.extract i s.size) i).a = (i : Int) := by
        unfold tkT
        have k1 := spn_le namedB (s.extract i s.size) (s.extract i s.size).size 0
        have k2 := spn_le digitB (s.extract i s.size) (s.extract i s.size).size 0
        have k3 := sgn_le (s.extract i s.size) hx0
        split
        · exact ⟨_, by omega, rfl, rfl⟩
        · split
          · exact ⟨_, by omega, rfl, rfl⟩
          · exact ⟨_, by omega, rfl, rfl⟩
      obtain ⟨m, hm, hT, hA⟩ := hpart
      have hTs : (tkT (s.extract i s.size) i).t.size = m := by rw [hT, ext_size _ 0 m (by omega)]; omega
      have hsl := skp_le s s.size (i + (tkT (s.extract i s.size) i).t.size) (by omega)
      obtain ⟨g1, g2, g3⟩ := ih _ _ _ hsl.2 hr
      refine ⟨fun t ht => ?_, by simp; omega, fun b hb k => ?_⟩
      · rcases List.mem_cons.1 ht with rfl | ht
        · refine ⟨i, hA, by omega, bytes_eq ?_⟩
          rw [hTs, hT, ext_list, ext_list, ext_all, List.drop_zero, List.drop_take]
          congr 1
          omega
        · exact g1 t ht
      · have h1 := g3 b hb (k + 1)
        have h2 := hb k
        rw [J]
        simp only [List.length_append, List.length_cons, len_list]
        omega
    · rw [tgo_end his] at h
      exact fin i (n + 1) c l hi (congrArg (·.1) h).symm
theorem J_long {b : Nat → List UInt8} (hb : ∀ k, b k ∈ blanksL) : ∀ l k, l.length ≤ (J b k l).length
  | [], k => Nat.zero_le _
  | t :: l, k => by
    obtain ⟨c, r, e, _⟩ := blank_ws (hb k)
    have := J_long hb l (k + 1)
    rw [J, e]
    simp
    omega
theorem tokens_join {s y : ByteArray} {b : Nat → List UInt8} {l : List Tk} (hb : ∀ k, b k ∈ blanksL) (hs : s.size ≤ 1024) (h : tokens s = (l, 0, 0)) (hy : y.data.toList = J b 0 l ++ [10]) :
    (∀ t ∈ l, Stands s t) ∧ l.length ≤ 1026 ∧ y.size ≤ 20000 ∧ ∃ l2, tokens y = (l2, 0, 0) ∧ l2.map same3 = l.map same3 ∧ Inc 0 l2 := by
  have hb10 : ∀ k, (b k).length ≤ 10 := fun k => by
    have : ∀ v ∈ blanksL, v.length ≤ 10 := by decide
    exact this _ (hb k)
  unfold tokens at h
  rw [if_neg (by omega)] at h
  have hsl := skp_le s s.size 0 (Nat.zero_le _)
  obtain ⟨g1, g2, g3⟩ := tgo_stands _ _ _ _ hsl.2 h
  have h4 := g3 b hb10 0
  have hys : y.size = (J b 0 l).length + 1 := by rw [← len_list, hy]; simp
  have h5 := J_long hb l 0
  refine ⟨g1, by omega, by omega, ?_⟩
  unfold tokens
  rw [if_neg (by omega)]
  exact tgo_join hb _ _ _ _ 0 0 _ hsl.2 (by omega) h (by rw [List.drop_zero]; exact hy) (by omega) (Nat.zero_le _)
end Go.Proofs.YtpgdmghhbbekjaaDoor.L
end
section
set_option linter.unusedVariables false
set_option linter.unusedSimpArgs false
namespace Go.Proofs.YtpgdmghhbbekjaaDoor.L
open Go.RowKit Go.Proofs.YtpgdmghhbbekjaaDoorW.PrintWords Go.Proofs.YtpgdmghhbbekjaaDoorW.PrintLast Go.Proofs.YtpgdmghhbbekjaaDoorW.PrintMore Go.Maps
def Stop (p : Prop) : Prop := p
theorem stop_here {p : Prop} (h : Stop p) : p := h
theorem infoK : (Tryd.prog.info? 34).map (fun i => (i.zero, i.size, i.bytes)) = some (some (.agg #[.int .u8 0, .string ⟨#[]⟩, .int .i64 0, .int .i64 0]), 4, 40) := by kernel_rfl
set_option maxHeartbeats 16000000 in
set_option maxRecDepth 100000 in
theorem tokens_calls (s : ByteArray) (hs : s.size ≤ 140737488355328) (w : World) (hL : Lib3 w) : Calls Tryd.prog 12 #[.string s] w (ToksPost (tokens s) w) := by
  have HSZ := Aside0.mk hs
  have HL := Aside0.mk hL
  obtain ⟨post, hpost⟩ : ∃ p, ToksPost (tokens s) w = p := ⟨_, rfl⟩
  rw [hpost]
  have HPO := Aside0.mk hpost
  clear hpost hL
  by_cases hlong : 65536 < s.size
  · have d1 : decide ((65536 : Int) < (s.size : Int)) = true := decide_eq_true (by omega)
    have d2 : decide (65536 < s.size) = true := decide_eq_true hlong
    have HT : Aside0 (tokens s = ([], 65536, 4)) := ⟨by unfold tokens; rw [if_pos hlong]⟩
    clear hlong
    go_enter Tryd.func12, Tryd.ntmps12
    go_wp2_with fail
    refine (fault_calls 65536 4 _).mono ?_
    rintro e w' ⟨rfl, rfl⟩
    go_wp2
    show post (.returned (.tuple #[.slice none 0 0, errV 65536 4])) w
    rw [← HPO.out, HT.out]
    exact ⟨⟨_, rfl, Kd.R_nil _ _ _ _ _⟩, Below.refl _ _⟩
  · have d1 : decide ((65536 : Int) < (s.size : Int)) = false := decide_eq_false (by omega)
    have d2 : decide (65536 < s.size) = false := decide_eq_false hlong
    obtain ⟨res, hres⟩ : ∃ r, tkR [] (tgo s (s.size + 1) (skp s s.size 0) 0) = r := ⟨_, rfl⟩
    have HT : Aside0 (tokens s = res) := ⟨by rw [tokens_zero, if_neg hlong]; exact hres⟩
    have HRS := Aside0.mk hres
    have hsk := skip_calls s hs 0 (Nat.zero_le _) w
    have hle := skp_le s s.size 0 (Nat.zero_le _)
    obtain ⟨i0, hi0⟩ : ∃ i, skp s s.size 0 = i := ⟨_, rfl⟩
    rw [hi0] at hsk hle HRS
    have HSK := Aside0.mk hsk
    have HLE := Aside0.mk hle
    clear hlong hres hsk hle hi0
    go_enter Tryd.func12, Tryd.ntmps12
    go_wp2_with fail
    refine HSK.out.mono ?_
    rintro e w' ⟨rfl, rfl⟩
    clear HSK
    go_wp2_with fail
    go_loopg [4, 5] (s.size + 1) (fun kq v4 v5 wr => ∃ (i : Nat) (acc : List Tk), v5 = .int .i64 (i : Int) ∧ Aside0 (s.size + 1 ≤ kq + i ∧ i ≤ s.size) ∧ Aside0 (tkR acc (tgo s kq i acc.length) = res) ∧ Aside0 (Kd.R kT 34 wr w.heap.size (fun _ => True) v4 acc) ∧ Aside0 (Below w.heap.size w wr) ∧ Aside0 (acc.length < 16384))
    case atStart => exact ⟨i0, [], rfl, ⟨by omega, HLE.out.2⟩, HRS, ⟨Kd.R_nil _ _ _ _ _⟩, ⟨Below.refl _ _⟩, ⟨by decide⟩⟩
    case round =>
      clear HRS HLE
      obtain ⟨i, acc, rfl, HK, HI, HR, HB, HA⟩ := hrel
      obtain ⟨A4, c4, rfl⟩ := Kd.R_slice HR.out
      by_cases hi : i < s.size
      · have dl : decide (i < s.size) = true := decide_eq_true hi
        have dl2 : decide ((i : Int) < (s.size : Int)) = true := decide_eq_true (by omega)
        obtain ⟨go, rfl⟩ : ∃ go, gk = go + 1 := ⟨gk - 1, by have := HK.out; omega⟩
        have htk := token_calls s HSZ.out i hi wr (HL.out.below HB.out)
        have hzx := ext_size s i s.size (Nat.le_refl _)
        have hrs := HI.out
        have hstep := fun h2 h3 => tgo_step (s := s) (n := go) (i := i) (c := acc.length) (acc := acc) rfl hi h2 h3
        rw [tgo, if_pos hi] at hrs
        obtain ⟨x, hx⟩ : ∃ x, s.extract i s.size = x := ⟨_, rfl⟩
        rw [hx] at htk hzx hrs hstep
        have HTK := Aside0.mk htk
        have HX0 : Aside0 (0 < x.size ∧ x.size + i = s.size) := ⟨by omega⟩
        have HST := Aside0.mk hstep
        have HRS := Aside0.mk hrs
        have hzt := zeroT
        clear htk hzx hrs hstep hx
        go_wp2_with fail
        refine HTK.out.mono ?_
        rintro e W2 ⟨⟨t, rfl, ht⟩, hb⟩
        have HTT := Aside0.mk ht
        have HB2 := Aside0.mk (HB.out.trans (hb.mono HB.out.size))
        have HR2 := Aside0.mk (Kd.R_below HR.out hb)
        clear hb ht HTK HR HB
        by_cases he : tkE x = 0
        · rw [if_pos he]
          have HE := Aside0.mk he
          obtain rfl := HTT.out he
          have hts := tkT_size (i := (i : Int)) HX0.out.1 he
          have hrs := HRS.out
          rw [if_neg (by rw [he]; decide)] at hrs
          have XB := Aside0.mk (heap_alloc_new W2 (.cells (tkA (tkT x i)) (34 : Nat)))
          have HB3 := Aside0.mk (HB2.out.alloc HB2.out.size (.cells (tkA (tkT x i)) (34 : Nat)))
          have HR3 := Aside0.mk (Kd.R_alloc HR2.out (.cells (tkA (tkT x i)) (34 : Nat)))
          have HOB : Aside0 (∀ k, (Value.slice A4 acc.length c4).ownBlock = some k → k < W2.heap.size) := ⟨fun k hk => ((Kd.R_bound HR2.out).1 k hk).2.2.1⟩
          have HZ3 : Aside0 ((W2.alloc (.cells (tkA (tkT x i)) (34 : Nat))).heap.size = W2.heap.size + 1) := ⟨by simp⟩
          obtain ⟨t, ht⟩ : ∃ t, tkT x i = t := ⟨_, rfl⟩
          rw [ht] at hts XB HB3 HR3 HZ3 ⊢
          have HTS := Aside0.mk hts
          have HTE := Aside0.mk ht
          clear hts ht he HR2 HB2
          by_cases hfull : 16384 ≤ acc.length + 1
          · rw [if_pos hfull] at hrs
            have HRES : Aside0 (res = ([], (i : Int), 6)) := ⟨by rw [← hrs]; rfl⟩
            have f1 : decide ((16384 : Int) ≤ (acc.length : Int) + 1) = true := decide_eq_true (by omega)
            have f2 : decide (16384 ≤ acc.length + 1) = true := decide_eq_true hfull
            have hacc : acc.length < 16384 := HA.out
            clear hrs HRS hfull
            go_wp2_with ((with_reducible refine gate_ (.store 34 (.tmp 6) (.tmp 22)) rfl ?_); refine wpList_tkstore (cs' := tkA t) rfl (.tmp 6) (.tmp 22) rfl rfl rfl (heap_alloc_new W2 _) rfl rfl (by simp [Value.oneCell', tkA]) ?_)
            rw [setRow_new]
            refine (fault_calls (i : Int) 6 _).mono ?_
            rintro e w' ⟨rfl, hw⟩
            subst hw
            go_wp2
            show post (.returned (.tuple #[.slice none 0 0, errV (i : Int) 6])) _
            rw [← HPO.out, HT.out, HRES.out]
            exact ⟨⟨_, rfl, Kd.R_nil _ _ _ _ _⟩, HB3.out⟩
          · rw [if_neg hfull] at hrs
            have HRES : Aside0 (tkR (acc ++ [t]) (tgo s go (skp s s.size (i + t.t.size)) (acc.length + 1)) = res) := ⟨by
              have h1 := HST.out HE.out hfull
              rw [HTE.out] at h1
              rw [← h1]
              exact HI.out⟩
            have f1 : decide ((16384 : Int) ≤ (acc.length : Int) + 1) = false := decide_eq_false (by omega)
            have f2 : decide (16384 ≤ acc.length + 1) = false := decide_eq_false hfull
            have HFL : Aside0 (acc.length + 1 < 16384) := ⟨by omega⟩
            have hacc : acc.length < 16384 := HA.out
            clear hrs HRS hfull HI HST
            go_wp2_with first | ((with_reducible refine gate_ (.store 34 (.tmp 6) (.tmp 22)) rfl ?_); refine wpList_tkstore (cs' := tkA t) rfl (.tmp 6) (.tmp 22) rfl rfl rfl (heap_alloc_new W2 _) rfl rfl (by simp [Value.oneCell', tkA]) ?_; refine stop_here ?_)
            unfold Stop
            rw [setRow_new]
            generalize W2.alloc (.cells (tkA t) (34 : Nat)) = W3 at XB HB3 HR3 HZ3 ⊢
            generalize W2.heap.size = bx at XB HOB HZ3 ⊢
            have XB2 : Aside0 (W3.heap[bx]? = some (.cells #[.int .u8 t.k, .string t.t, .int .i64 t.n, .int .i64 t.a] (34 : Nat) (0, 0))) := XB
            have hty := Tryd.underlying28
            have htn := infoK
            have HTY := Aside0.mk hty
            have HTN := Aside0.mk htn
            clear XB
            go_wp2_with first | ((with_reducible refine gate_ (.load 34 (.tmp 6)) rfl ?_); refine wpList_tkload rfl (.tmp 6) rfl rfl XB2.out rfl ?_) | ((with_reducible refine gate_builtin (b := .append) (xs := #[.tmp 35, .tmp 37]) rfl ?_); refine stop_here ?_)
            unfold Stop
            refine Kd.R_append kT (w0 := w) (W := W3) w.heap.size rfl (.tmp 35) (.tmp 37) 28 34 (.agg #[.int .u8 0, .string ⟨#[]⟩, .int .i64 0, .int .i64 0]) 40 rfl HTY.out HTN.out (by rfl) (by decide) (by decide) (.slice A4 acc.length c4) acc t [.int .u8 t.k, .string t.t, .int .i64 t.n, .int .i64 t.a] (fun _ => True) (fun _ => False) (by rfl) (by rfl) (kT_mkM _ _ _ t) (fun _ hk => hk.elim) (fun _ _ => trivial) HR3.out HB3.out HB3.out.size (by have := HA.out; omega) ?_
            intro v1 w1 ho hb hg hat
            have XB3 : Aside0 (w1.heap[bx]? = some (.cells #[.int .u8 t.k, .string t.t, .int .i64 t.n, .int .i64 t.a] (34 : Nat) (0, 0))) := ⟨(hg.block bx (Array.getElem?_eq_some_iff.1 XB2.out).1 (fun e => by have := HOB.out bx e.symm; omega)).trans XB2.out⟩
            have HR4 := Aside0.mk ho
            have HB4 := Aside0.mk hb
            clear ho hb hg hat HR3 HB3 XB2 HOB HZ3 hty htn
            obtain ⟨⟨_, r1, _, _⟩, _⟩ := cells4 XB3.out
            have hti : i + t.t.size ≤ s.size := by have := HTS.out; have := HX0.out; omega
            have hsk := skip_calls s HSZ.out (i + t.t.size) hti w1
            have hle := skp_le s s.size (i + t.t.size) hti
            obtain ⟨j, hj⟩ : ∃ j, skp s s.size (i + t.t.size) = j := ⟨_, rfl⟩
            rw [hj] at hsk hle HRES
            rw [Int.natCast_add] at hsk
            have HSK := Aside0.mk hsk
            have HLE := Aside0.mk hle
            have hts : t.t.size ≤ 140737488355328 := by omega
            clear hsk hle hj
            go_wp2_with fail
            refine HSK.out.mono ?_
            rintro e w' ⟨rfl, hw⟩
            subst hw
            clear HSK r1
            go_wp2
            go_roundg go
            case measure => omega
            case rel =>
              refine ⟨j, acc ++ [t], by first | rfl | trivial, ⟨?_⟩, ⟨?_⟩, HR4, HB4, ⟨?_⟩⟩
              · have := HLE.out; have := HK.out; have := HTS.out; omega
              · rw [List.length_append, List.length_singleton]; exact HRES.out
              · rw [List.length_append, List.length_singleton]; exact HFL.out
        · rw [if_neg he]
          have HE := Aside0.mk he
          have hrs := HRS.out
          rw [if_pos he] at hrs
          have HRES : Aside0 (res = ([], (i : Int), tkE x)) := ⟨by rw [← hrs, tkR, if_neg he]⟩
          have HB3 := Aside0.mk (HB2.out.alloc HB2.out.size (.cells (tkA t) (34 : Nat)))
          clear hrs HRS he
          unfold errV
          go_wp2_with ((with_reducible refine gate_ (.store 34 (.tmp 6) (.tmp 22)) rfl ?_); refine wpList_tkstore (cs' := tkA t) rfl (.tmp 6) (.tmp 22) rfl rfl rfl (heap_alloc_new W2 _) rfl rfl (by simp [Value.oneCell', tkA]) ?_)
          rw [setRow_new]
          show post (.returned (.tuple #[.slice none 0 0, errV (i : Int) (tkE x)])) _
          rw [← HPO.out, HT.out, HRES.out]
          exact ⟨⟨_, by rw [faultV, if_neg HE.out], Kd.R_nil _ _ _ _ _⟩, HB3.out⟩
      · have dl : decide (i < s.size) = false := decide_eq_false hi
        have dl2 : decide ((i : Int) < (s.size : Int)) = false := decide_eq_false (by omega)
        have HRES : Aside0 (res = (acc ++ [⟨0, ⟨#[]⟩, 0, i⟩], 0, 0)) := ⟨by
          have := HI.out
          cases gk with
          | zero => rw [tgo] at this; rw [← this]; rfl
          | succ n => rw [tgo, if_neg hi] at this; rw [← this]; rfl⟩
        have hty := Tryd.underlying28
        have htn := infoK
        have HTY := Aside0.mk hty
        have HTN := Aside0.mk htn
        have hzt := zeroT
        clear HI hi
        go_wp2_with ((with_reducible refine gate_builtin (b := .append) (xs := #[.tmp 46, .tmp 49]) rfl ?_); refine stop_here ?_)
        unfold Stop
        refine Kd.R_append kT (w0 := w) (W := wr) w.heap.size rfl (.tmp 46) (.tmp 49) 28 34 (.agg #[.int .u8 0, .string ⟨#[]⟩, .int .i64 0, .int .i64 0]) 40 rfl HTY.out HTN.out (by rfl) (by decide) (by decide) (.slice A4 acc.length c4) acc ⟨0, ⟨#[]⟩, 0, i⟩ [.int .u8 0, .string ⟨#[]⟩, .int .i64 0, .int .i64 (i : Int)] (fun _ => True) (fun _ => False) (by rfl) (by rfl) (kT_mkM _ _ _ (⟨0, ⟨#[]⟩, 0, i⟩ : Tk)) (fun _ hk => hk.elim) (fun _ _ => trivial) HR.out HB.out HB.out.size (by have := HA.out; omega) ?_
        intro v1 w1 ho hb hg hat
        have HR4 := Aside0.mk ho
        have HB4 := Aside0.mk hb
        clear ho hb hg hat HR HB hty htn hzt
        go_wp2
        show post (.returned (.tuple #[v1, .nilIface])) w1
        rw [← HPO.out, HT.out, HRES.out]
        exact ⟨⟨_, rfl, HR4.out⟩, HB4.out⟩
end Go.Proofs.YtpgdmghhbbekjaaDoor.L
end
section
set_option linter.unusedVariables false
set_option linter.unusedSimpArgs false
namespace Go.Proofs.YtpgdmghhbbekjaaDoor.L
open Go.RowKit Go.Extern.Stop Go.Stop Go.Extern Go.Proofs.YtpgdmghhbbekjaaDoorW.PrintWords Go.Proofs.YtpgdmghhbbekjaaDoorW.PrintLast
theorem isTypeOf (v : Value) (w : World) : (Extern.ReflectliteType.typeOf #[.iface 38 v]).run Tryd.prog w = .ok (.iface 66 (.agg #[.pointer (some ⟨9, 38, none⟩)])) w := by kernel_rfl
def cmpE : Array Value → Sem Value := Extern.ReflectliteType.method fun t => do Go.Extern.Rtype.noPackHeld "Comparable" t; pure (.bool (← typeInfo t).comparable)
theorem isComparable (w : World) : (cmpE #[.agg #[.pointer (some ⟨9, 38, none⟩)]]).run Tryd.prog w = .ok (.bool true) w := by kernel_rfl
theorem isMethodComparable (v : Value) (w : World) : (Go.method 265 66 v "Comparable").run Tryd.prog w = .ok (103, v) w := by kernel_rfl
theorem noIsW (v : Value) (xT : TypeId) (w : World) : (Instr.typeAssert (.iface 61 v) xT 68 true).run Tryd.prog w = .ok (.tuple #[.nilIface, .bool false]) w := run_typeAssert_lacksB Tryd.underlying68 (by kernel_rfl) (by kernel_rfl) v xT w
theorem noIsF (v : Value) (xT : TypeId) (w : World) : (Instr.typeAssert (.iface 59 v) xT 68 true).run Tryd.prog w = .ok (.tuple #[.nilIface, .bool false]) w := run_typeAssert_lacksB Tryd.underlying68 (by kernel_rfl) (by kernel_rfl) v xT w
theorem hasUnwrapW (v : Value) (xT : TypeId) (w : World) : (Instr.typeAssert (.iface 61 v) xT 71 true).run Tryd.prog w = .ok (.tuple #[.iface 61 v, .bool true]) w := run_typeAssert_hasB Tryd.underlying71 (by kernel_rfl) v xT w
theorem hasUnwrapF (v : Value) (xT : TypeId) (w : World) : (Instr.typeAssert (.iface 59 v) xT 71 true).run Tryd.prog w = .ok (.tuple #[.iface 59 v, .bool true]) w := run_typeAssert_hasB Tryd.underlying71 (by kernel_rfl) v xT w
theorem methodUnwrapW (v : Value) (w : World) : (Go.method 265 61 v "Unwrap").run Tryd.prog w = .ok (99, v) w := by kernel_rfl
theorem methodUnwrapF (v : Value) (w : World) : (Go.method 265 59 v "Unwrap").run Tryd.prog w = .ok (97, v) w := by kernel_rfl
theorem errnoComp : (Tryd.prog.info? 38).map (·.comparable) = some true := by kernel_rfl
set_option maxHeartbeats 4000000 in
set_option maxRecDepth 100000 in
theorem is_wrong (a e : Int) (w : World) : Calls Tryd.prog 14 #[errV a e, .iface 38 (.int .i64 e)] w fun en w' => en = .returned (.bool true) ∧ Below w.heap.size w w' := by
  have h8 := @run_callFunc_extern Tryd.prog 28 _ Extern.ReflectliteType.typeOf Tryd.func28 (by kernel_rfl) (by kernel_rfl) (by kernel_rfl) (by kernel_rfl)
  have h32 := @run_callFunc_extern Tryd.prog 103 _ cmpE Tryd.func103 (by kernel_rfl) (by kernel_rfl) (by kernel_rfl) (by kernel_rfl)
  have tT := isTypeOf
  have cT := isComparable
  have mR := isMethodComparable
  have nW := noIsW
  have nF := noIsF
  have uW := hasUnwrapW
  have uF := hasUnwrapF
  have mW := methodUnwrapW
  have mF := methodUnwrapF
  have hty1 := fun (v : Value) (w : World) => run_eql_iface_types (P := Tryd.prog) 61 38 v (.int .i64 e) Tryd.underlying30 (by decide) w
  have hty2 := fun (v : Value) (w : World) => run_eql_iface_types (P := Tryd.prog) 59 38 v (.int .i64 e) Tryd.underlying30 (by decide) w
  have heq := fun (w : World) => Lib.run_eql_iface_int (P := Tryd.prog) w (k := .i64) e e Tryd.underlying30 errnoComp Tryd.underlying38
  unfold errV
  go_enter Tryd.func14, Tryd.ntmps14
  go_wp2
  refine wp_loop_rounds 3 ?_
  rw [rounds_succ]
  go_wp2
  rw [rounds_succ]
  go_wp2
  rw [rounds_succ]
  go_wp2
  go_ret
  exact ⟨rfl, (((Below.refl _ _).alloc (Nat.le_refl _) _).alloc (by simp) _)⟩
end Go.Proofs.YtpgdmghhbbekjaaDoor.L
end
section
set_option linter.unusedVariables false
set_option linter.unusedSimpArgs false
namespace Go.Proofs.YtpgdmghhbbekjaaDoor.L
open Go.RowKit Go.Proofs.YtpgdmghhbbekjaaDoorW.PrintWords Go.Proofs.YtpgdmghhbbekjaaDoorW.PrintLast Go.Maps
def nameB (s : ByteArray) : Bool := decide (0 < s.size) && decide (s.size ≤ 32) && letterB (bt s 0) && decide (spn namedB s s.size 0 = s.size) && !wordB s
def NamePost (b : Bool) (w : World) (e : Ending) (w' : World) : Prop := e = .returned (.bool b) ∧ Below w.heap.size w w'
set_option maxHeartbeats 4000000 in
theorem name_calls (s : ByteArray) (hs : s.size ≤ 140737488355328) (w : World) (htab : Tb w) : Calls Tryd.prog 10 #[.string s] w (NamePost (nameB s) w) := by
  obtain ⟨post, hpost⟩ : ∃ p, NamePost (nameB s) w = p := ⟨_, rfl⟩
  rw [hpost]
  have HPO := Aside0.mk hpost
  clear hpost
  by_cases h0 : s.size = 0
  · obtain rfl : s = ⟨#[]⟩ := by
      obtain ⟨d⟩ := s
      congr
      exact Array.size_eq_zero_iff.1 h0
    clear h0 htab hs
    go_enter Tryd.func10, Tryd.ntmps10
    go_wp2
    show post (.returned (.bool false)) w
    rw [← HPO.out]
    exact ⟨rfl, Below.refl _ _⟩
  have hne : s ≠ ⟨#[]⟩ := fun e => h0 (by rw [e]; rfl)
  have hne5 : s.toList.isEmpty = false := by
    rw [ByteArray.toList_eq]
    cases hz : s.data.toList with
    | nil => exact absurd (show s.size = 0 by show s.data.size = 0; rw [← Array.length_toList, hz]; rfl) h0
    | cons x y => rfl
  have hp : 0 < s.size := by omega
  by_cases h1 : s.size ≤ 32
  case neg =>
    have d1 : decide (s.size ≤ 32) = false := decide_eq_false h1
    have d2 : decide ((s.size : Int) ≤ 32) = false := decide_eq_false (by omega)
    have e0 : nameB s = false := by unfold nameB; rw [d1]; simp
    rw [e0] at HPO
    clear htab hs h0 h1 hp e0
    go_enter Tryd.func10, Tryd.ntmps10
    go_wp2
    show post (.returned (.bool false)) w
    rw [← HPO.out]
    exact ⟨rfl, Below.refl _ _⟩
  have d1 : decide (s.size ≤ 32) = true := decide_eq_true h1
  have d2 : decide ((s.size : Int) ≤ 32) = true := decide_eq_true (by omega)
  obtain ⟨c, hbc⟩ : ∃ c, bt s 0 = c := ⟨_, rfl⟩
  have hx6 : ((s[0]'hp).toNat : Int) = c := by have := bt_at s 0 (by simpa using hp); rw [← hbc]; simpa using this
  have q6 : ((0 : Int) < (s.size : Int)) = True := eq_true (by omega)
  obtain ⟨b0, b1⟩ := bt_range s 0
  rw [hbc] at b0 b1
  have hl := letter_calls b0 b1 w
  cases hb : letterB c with
  | false =>
    have e0 : nameB s = false := by unfold nameB; rw [hbc, hb]; simp
    rw [e0] at HPO
    rw [hb] at hl
    have HL := Aside0.mk hl
    clear htab hs h0 h1 e0 hb hl hbc b0 b1
    go_enter Tryd.func10, Tryd.ntmps10
    go_wp2_with fail
    refine HL.out.mono ?_
    rintro e w' ⟨rfl, rfl⟩
    go_wp2
    show post (.returned (.bool false)) w
    rw [← HPO.out]
    exact ⟨rfl, Below.refl _ _⟩
  | true =>
    rw [hb] at hl
    have HL := Aside0.mk hl
    have hspan := span_calls 22 namedB (fun c w h0 h1 => named_calls h0 h1 w) (enters_of Tryd.func22 (by kernel_rfl) rfl) s hs w
    have hle := spn_le namedB s s.size 0
    obtain ⟨m, hm⟩ : ∃ m, spn namedB s s.size 0 = m := ⟨_, rfl⟩
    rw [hm] at hspan hle
    have HS := Aside0.mk hspan
    have hms : m ≤ 140737488355328 := by omega
    by_cases h2 : m = s.size
    case neg =>
      have e0 : nameB s = false := by unfold nameB; rw [hm, decide_eq_false h2]; simp
      rw [e0] at HPO
      have d3 : ((m : Int) == (s.size : Int)) = false := by
        rw [beq_eq_false_iff_ne]
        omega
      have d4 : decide (m = s.size) = false := decide_eq_false h2
      have d5 : (m == s.size) = false := by simpa using h2
      clear htab hs h0 h1 e0 hb hl hbc b0 b1 hspan hle hm
      go_enter Tryd.func10, Tryd.ntmps10
      go_wp2_with fail
      refine HL.out.mono ?_
      rintro e w' ⟨rfl, rfl⟩
      go_wp2_with fail
      refine HS.out.mono ?_
      rintro e w' ⟨rfl, rfl⟩
      go_wp2
      show post (.returned (.bool false)) w
      rw [← HPO.out]
      exact ⟨rfl, Below.refl _ _⟩
    have e0 : nameB s = !wordB s := by unfold nameB; rw [hm, hbc, hb, decide_eq_true h2, d1, decide_eq_true hp]; simp
    rw [e0] at HPO
    subst h2
    have hw := word_calls s (by unfold maxLen; omega) w htab
    obtain ⟨b, hwb⟩ : ∃ b, wordB s = b := ⟨_, rfl⟩
    rw [hwb] at hw HPO
    have HW := Aside0.mk hw
    clear htab hs h0 h1 e0 hb hl hbc b0 b1 hspan hle hm hw hwb
    go_enter Tryd.func10, Tryd.ntmps10
    go_wp2_with fail
    refine HL.out.mono ?_
    rintro e w' ⟨rfl, rfl⟩
    go_wp2_with fail
    refine HS.out.mono ?_
    rintro e w' ⟨rfl, rfl⟩
    go_wp2_with fail
    refine HW.out.mono ?_
    rintro e w' ⟨rfl, hbw⟩
    have HBW := Aside0.mk hbw
    clear hbw
    go_wp2
    show post (.returned (.bool (!b))) w'
    rw [← HPO.out]
    exact ⟨rfl, HBW.out⟩
def lnM (s : ByteArray) (a : Int) : Nat := (min (max a 0) (s.size : Int)).toNat
def lnA (s : ByteArray) (a : Int) : Int := wrap64 (1 + (Lib.countByte (List.take (lnM s a) s.data.toList) 10 : Nat))
def lnC (s : ByteArray) (a : Int) : Int := wrap64 ((min (lnM s a) s.size : Nat) - Lib.lastIndexByte (s.extract 0 (lnM s a)) 10)
def LinePost (s : ByteArray) (a : Int) (w : World) (e : Ending) (w' : World) : Prop := e = .returned (.tuple #[.int .i64 (lnA s a), .int .i64 (lnC s a)]) ∧ w = w'
set_option maxHeartbeats 4000000 in
theorem lines_calls (s : ByteArray) (a : Int) (hs : s.size ≤ 140737488355328) (ha : -9223372036854775808 ≤ a ∧ a ≤ 9223372036854775807) (w : World) : Calls Tryd.prog 6 #[.string s, .int .i64 a] w (LinePost s a w) := by
  obtain ⟨post, hpost⟩ : ∃ p, LinePost s a w = p := ⟨_, rfl⟩
  rw [hpost]
  have HPO := Aside0.mk hpost
  clear hpost
  go_enter Tryd.func6, Tryd.ntmps6
  go_wp2_with fail
  refine (Tryd.strings_Count_one _ 10 _).mono ?_
  rintro e w' ⟨rfl, rfl⟩
  go_wp2_with fail
  refine (Tryd.strings_LastIndexByte _ 10 ?_ _).mono ?_
  · have : (s.extract 0 (min (max a 0) (s.size : Int)).toNat).size ≤ s.size := by
      simp only [ByteArray.size_extract]
      omega
    omega
  rintro e w' ⟨rfl, rfl⟩
  go_wp2
  show post (.returned (.tuple #[.int .i64 (lnA s a), .int .i64 (lnC s a)])) w'
  rw [← HPO.out]
  exact ⟨rfl, rfl⟩
end Go.Proofs.YtpgdmghhbbekjaaDoor.L
end
section
set_option linter.unusedVariables false
set_option linter.unusedSimpArgs false
namespace Go.Proofs.YtpgdmghhbbekjaaDoor.L
open Go.RowKit Go.Proofs.YtpgdmghhbbekjaaDoorW.PrintWords Go.Proofs.YtpgdmghhbbekjaaDoorW.PrintLast Go.Proofs.YtpgdmghhbbekjaaDoorW.PrintMore Go.Maps
theorem alive_src : tokens ⟨#[120, 32, 61, 32, 121, 32, 42, 94, 32, 51, 59, 32, 45, 45, 32, 116, 104, 114, 101, 101]⟩ = ([⟨1, ⟨#[120]⟩, 0, 0⟩, ⟨4, ⟨#[61]⟩, 0, 2⟩, ⟨1, ⟨#[121]⟩, 0, 4⟩, ⟨4, ⟨#[42, 94]⟩, 0, 6⟩, ⟨2, ⟨#[51]⟩, 3, 9⟩, ⟨4, ⟨#[59]⟩, 0, 10⟩, ⟨0, ⟨#[]⟩, 0, 20⟩], 0, 0) := by kernel_rfl
theorem alive_bad : tokens ⟨#[120, 32, 61, 32, 121, 32, 38, 32, 122]⟩ = ([], 6, 30) := by kernel_rfl
def TkRow (w : World) (g : Nat) (l : List Tk) : Prop := ∀ i t, l[i]? = some t → w.rangeAt g (i * 4) [.int .u8 t.k, .string t.t, .int .i64 t.n, .int .i64 t.a]
theorem tk_row {w : World} {base : Nat} {ok : Nat → Prop} {v : Value} {l : List Tk} (h : Kd.R kT 34 w base ok v l) (h0 : 0 < l.length) : ∃ g cap, v = .slice (some ⟨g, 0, none⟩) l.length cap ∧ base ≤ g ∧ g < w.heap.size ∧ TkRow w g l := by
  obtain ⟨inner, ho⟩ := Kd.R_own h
  obtain ⟨A, c, he, hle, hC⟩ := Kd.R_reads h
  rcases ho.2 with ⟨hn, hl⟩ | ⟨g, cap, cur, hv, hg, hh, r⟩
  · rw [hn] at he
    injection he with _ e2 _
    omega
  · subst hv
    injection he with e1 _ e3
    subst e1
    refine ⟨g, cap, rfl, hg, (Array.getElem?_eq_some_iff.1 hh).1, fun i t hi => ?_⟩
    obtain ⟨hil, hit⟩ := List.getElem?_eq_some_iff.1 hi
    obtain ⟨ad, cc, ea, _, hK, hcell⟩ := Kd.C_get hC t (i : Int) (by omega) (by omega)
    injection ea with ea
    subst ea
    rw [Int.toNat_natCast, List.getD_eq_getElem?_getD, hi, Option.getD_some] at hK
    have := kT_open hK
    subst this
    intro j u hj
    have := hcell j u hj
    have e : Addr.add ⟨g, 0, none⟩ ((i : Int).toNat * kT.sz + j) = ⟨g, i * 4 + j, none⟩ := by
      rw [Int.toNat_natCast, show kT.sz = 4 from rfl]
      unfold Addr.add
      split
      · rename_i hh
        rw [hh]
      · simp
    rw [e] at this
    exact this
theorem TkRow.below {w w' : World} {g : Nat} {l : List Tk} (h : TkRow w g l) (hg : g < w.heap.size) (hb : Below w.heap.size w w') : TkRow w' g l := fun i t hi j u hj => by
  have := h i t hi j u hj
  simpa [World.cell?, hb.block g hg] using this
theorem wpList_tkmid {ops : Array Oper} {rest : List Oper} {op : Oper} {a : Act} {w : World} {Q : Exit → Act → World → Prop} (hw : Region.wanted op (yielded ops a.tmps) = true) (x : Operand) (ho : op.op = .load 34 x) {g o : Nat} (hx : a.eval x = .pointer (some ⟨g, o, none⟩)) {cs : List Value}
    (hb : w.rangeAt g o cs) (h4 : cs.length = 4) (h : wpList Tryd.prog ops Q rest (a.put op.dst (.agg cs.toArray)) w) : wpList Tryd.prog ops Q (op :: rest) a w := by
  rw [wpList, if_pos hw]
  left
  obtain ⟨fs, hu⟩ := underT
  unfold Oper.wp execOp
  simp only [ho, hx, Sem.run_bind, Result.andThen_ok, run_loadAt_mid w g o 34 cs (.struct fs) hb hu rfl (by rw [infoT, h4])]
  exact h
set_option maxHeartbeats 16000000 in
set_option maxRecDepth 100000 in
theorem alive_calls (w : World) (hL : Lib3 w) : Calls Tryd.prog 5 #[] w fun e w' => e = .returned (.bool true) ∧ Below w.heap.size w w' := by
  have ht1 := tokens_calls ⟨#[120, 32, 61, 32, 121, 32, 42, 94, 32, 51, 59, 32, 45, 45, 32, 116, 104, 114, 101, 101]⟩ (by decide) w hL
  rw [alive_src] at ht1
  have HT1 := Aside0.mk ht1
  have HL := Aside0.mk hL
  clear ht1 hL
  go_enter Tryd.func5, Tryd.ntmps5
  go_wp2_with fail
  refine HT1.out.mono ?_
  rintro e w1 ⟨⟨v, rfl, hr⟩, hb⟩
  rw [show faultV (0, 0) = .nilIface from rfl]
  obtain ⟨g, cap, rfl, hg0, hg1, hrow⟩ := tk_row hr (by decide)
  have ht2 := tokens_calls ⟨#[120, 32, 61, 32, 121, 32, 38, 32, 122]⟩ (by decide) w1 (HL.out.below hb)
  rw [alive_bad] at ht2
  have HT2 := Aside0.mk ht2
  have HR := Aside0.mk hrow
  have HB := Aside0.mk hb
  have HG1 := Aside0.mk hg1
  clear ht2 hb hrow hr HT1 hg0 hg1
  go_wp2_with fail
  refine HT2.out.mono ?_
  rintro e w2 ⟨⟨v, rfl, hr⟩, hb⟩
  rw [show faultV (6, 30) = errV 6 30 from rfl]
  have HR2 := Aside0.mk (HR.out.below HG1.out hb)
  have HB2 := Aside0.mk (HB.out.trans (hb.mono HB.out.size))
  clear hb hr HT2 HR HB HG1
  go_wp2_with fail
  refine (lines_calls ⟨#[97, 10, 98]⟩ 2 (by decide) (by decide) w2).mono ?_
  rintro e w' ⟨rfl, rfl⟩
  have hl : lnA ⟨#[97, 10, 98]⟩ 2 = 2 := by kernel_rfl
  have hc : lnC ⟨#[97, 10, 98]⟩ 2 = 1 := by kernel_rfl
  rw [hl, hc]
  clear hl hc
  have r3 := HR2.out 3 ⟨4, ⟨#[42, 94]⟩, 0, 6⟩ rfl
  have r4 := HR2.out 4 ⟨2, ⟨#[51]⟩, 3, 9⟩ rfl
  have r6 := HR2.out 6 ⟨0, ⟨#[]⟩, 0, 20⟩ rfl
  have R3 := Aside0.mk r3
  have R4 := Aside0.mk r4
  have R6 := Aside0.mk r6
  clear r3 r4 r6 HR2
  have hzt := zeroT
  go_wp2_with first | ((with_reducible refine gate_ (.load 34 (.tmp 28)) rfl ?_); refine wpList_tkmid (by rfl) (.tmp 28) rfl rfl (o := 12) R3.out rfl ?_) | ((with_reducible refine gate_ (.load 34 (.tmp 35)) rfl ?_); refine wpList_tkmid (by rfl) (.tmp 35) rfl rfl (o := 16) R4.out rfl ?_) | ((with_reducible refine gate_ (.load 34 (.tmp 42)) rfl ?_); refine wpList_tkmid (by rfl) (.tmp 42) rfl rfl (o := 24) R6.out rfl ?_)
  refine (is_wrong 6 30 w2).mono ?_
  rintro e w3 ⟨rfl, hb⟩
  have HB3 := Aside0.mk (HB2.out.trans (hb.mono HB2.out.size))
  clear hb HB2 R3 R4 R6 hzt
  have hw := word_calls ⟨#[102, 98, 121]⟩ (by decide) w3 (HL.out.below HB3.out).tb
  rw [show wordB ⟨#[102, 98, 121]⟩ = true by kernel_rfl] at hw
  have HW := Aside0.mk hw
  clear hw
  go_wp2_with fail
  refine HW.out.mono ?_
  rintro e w4 ⟨rfl, hb⟩
  have HB4 := Aside0.mk (HB3.out.trans (hb.mono HB3.out.size))
  clear hb HB3 HW
  have hw := name_calls ⟨#[120]⟩ (by decide) w4 (HL.out.below HB4.out).tb
  rw [show nameB ⟨#[120]⟩ = true by kernel_rfl] at hw
  have HW := Aside0.mk hw
  clear hw
  go_wp2_with fail
  refine HW.out.mono ?_
  rintro e w5 ⟨rfl, hb⟩
  have HB5 := Aside0.mk (HB4.out.trans (hb.mono HB4.out.size))
  clear hb HB4 HW
  go_wp2
  go_ret
  exact ⟨rfl, HB5.out⟩
end Go.Proofs.YtpgdmghhbbekjaaDoor.L
end
