/- Part 8 of the proof of the law LT. The conditions: none. (Its parts: Lxtk Lxs Lxsg Lxtl.) -/
import Derived.Test.YtpgdmghhbbekjaaGreatDoorKLT04
import Derived.Test.YtpgdmghhbbekjaaGreatDoorKLT05
import Derived.Test.YtpgdmghhbbekjaaGreatDoorKLT06
import Derived.Test.YtpgdmghhbbekjaaGreatDoorKLT07
section
set_option linter.unusedVariables false
set_option linter.unusedSimpArgs false
namespace Go.Proofs.YtpgdmghhbbekjaaGreatDoor.L
open Go.RowKit Go.Proofs.YtpgdmghhbbekjaaGreatDoorW.PrintWords Go.Proofs.YtpgdmghhbbekjaaGreatDoorW.PrintLast Go.Proofs.YtpgdmghhbbekjaaGreatDoorW.PrintMore Go.Maps
open Go.Proofs.YtpgdmghhbbekjaaGreatDoor.H
theorem ref_letter (c : Int) : carillonref03_Letter.f c = some (letterB c) := by
  unfold carillonref03_Letter.f letterB
  by_cases h1 : c ≥ 65 <;> by_cases h2 : c ≤ 90 <;> by_cases h3 : c ≥ 97 <;> by_cases h4 : c ≤ 122 <;> by_cases h5 : c = 95 <;>
    simp only [h1, h2, h3, h4, h5, if_true, if_false, Option.some.injEq] <;> first | omega | (simp [h1, h2, h3, h4, h5] <;> omega)
theorem ref_digit (c : Int) : carillonref03_Digit.f c = some (digitB c) := by
  unfold carillonref03_Digit.f digitB
  by_cases h1 : c ≥ 48 <;> by_cases h2 : c ≤ 57 <;> simp [h1, h2]
theorem tok_letters (s : ByteArray) (hs : s.size ≤ 4096) (a : Int) : ∀ n j k, j + n = s.size → n < k → carillonref03_token.l0 k s a (j : Int) = carillonref03_token.j1 (k - 1 - (spn namedB s n j - j)) s a ((spn namedB s n j : Nat) : Int)
  | 0, j, k, h1, h2 => by
    obtain ⟨k, rfl⟩ : ∃ q, k = q + 1 := ⟨k - 1, by omega⟩
    rw [carillonref03_token.l0, if_neg (by omega), spn]
    simp
  | n + 1, j, k, h1, h2 => by
    obtain ⟨k, rfl⟩ : ∃ q, k = q + 1 := ⟨k - 1, by omega⟩
    have hle := spn_le namedB s n (j + 1)
    have ih := tok_letters s hs a n (j + 1) k (by omega) (by omega)
    rw [carillonref03_token.l0, if_pos (by omega), if_pos (by omega), ref_letter, Option.bind_some, ref_digit, Option.bind_some, wsm j (by omega), ih, spn]
    have hm : namedB (bt s (j : Int)) = (letterB (bt s (j : Int)) || digitB (bt s (j : Int))) := rfl
    rw [hm]
    have ek : k - 1 - (spn namedB s n (j + 1) - (j + 1)) = k + 1 - 1 - (spn namedB s n (j + 1) - j) := by omega
    cases letterB (bt s (j : Int)) <;> cases digitB (bt s (j : Int)) <;> simp [ek]
def tkN (s : ByteArray) (i e : Nat) : Int × ByteArray × Int × Int × Int := if (numV (s.extract i e)).isSome = true then (2, s.extract i e, (numV (s.extract i e)).getD 0, i, 0) else (0, ⟨#[]⟩, 0, 0, 31)
theorem tok_digits (s : ByteArray) (hs : s.size ≤ 4096) (i : Nat) (hd : digitB (bt s (i : Int)) = true) (hi : i < s.size) : ∀ n j k, j + n = s.size → i < j → (∀ q, i ≤ q → q < j → digitB (bt s (q : Int)) = true) → n + 200 < k → carillonref03_token.l1 k s (i : Int) (j : Int) = some (tkN s i (spn digitB s n j)) := by
  have fin : ∀ (e k : Nat), i < e → e ≤ s.size → (∀ q, i ≤ q → q < e → digitB (bt s (q : Int)) = true) → 100 ≤ k → ((carillonref03_number.f k (s.extract ((i : Int)).toNat ((e : Int)).toNat)).bind fun b => if b.2 = true then some ((2 : Int), s.extract ((i : Int)).toNat ((e : Int)).toNat, b.1, (i : Int), (0 : Int)) else some (0, (⟨#[]⟩ : ByteArray), 0, 0, 31)) = some (tkN s i e) := by
    intro e k h1 h2 h3 hk
    rw [Int.toNat_natCast, Int.toNat_natCast]
    have hsz : (s.extract i e).size = e - i := ext_size s i e h2
    have hall : ∀ c ∈ (s.extract i e).data.toList, Dg c := fun c hc => by
      obtain ⟨q, hq, hqc⟩ := List.mem_iff_getElem.1 hc
      have hq2 : q < e - i := by rw [len_list, hsz] at hq; exact hq
      have h4 := h3 (i + q) (by omega) (by omega)
      rw [← bt_ext s i e q (by omega), bt_list, List.getD_eq_getElem?_getD, List.getElem?_eq_getElem hq, hqc] at h4
      unfold digitB at h4
      have h5 := of_decide_eq_true h4
      have h6 : (48 : Int) ≤ (c.toNat : Int) ∧ (c.toNat : Int) ≤ 57 := h5
      exact ⟨by omega, by omega⟩
    rw [ref_number _ (by omega) hall k hk, Option.bind_some]
    unfold tkN
    cases hn : (numV (s.extract i e)).isSome <;> simp [hn]
  intro n
  induction n with
  | zero =>
    intro j k h1 h2 h3 h4
    obtain ⟨k, rfl⟩ : ∃ q, k = q + 1 := ⟨k - 1, by omega⟩
    rw [carillonref03_token.l1, if_neg (by omega), if_pos (by omega), if_pos (by omega), if_pos (by omega), spn]
    exact fin j k h2 (by omega) h3 (by omega)
  | succ n ih =>
    intro j k h1 h2 h3 h4
    obtain ⟨k, rfl⟩ : ∃ q, k = q + 1 := ⟨k - 1, by omega⟩
    rw [carillonref03_token.l1, if_pos (by omega), if_pos (by omega), ref_digit, Option.bind_some, spn]
    by_cases hb : digitB (bt s (j : Int)) = true
    · rw [if_pos hb, if_pos hb, wsm j (by omega)]
      exact ih (j + 1) k (by omega) (by omega) (fun q h5 h6 => by
        by_cases e : q = j
        · rw [e]; exact hb
        · exact h3 q h5 (by omega)) (by omega)
    · rw [if_neg hb, if_neg hb, if_pos (by omega), if_pos (by omega), if_pos (by omega)]
      exact fin j k h2 (by omega) h3 (by omega)
theorem wr (n : Int) (h0 : 0 ≤ n) (h1 : n ≤ 9223372036854775807) : wrap64 n = n := by unfold wrap64; omega
theorem ref_in (l : List ByteArray) (x : ByteArray) (hl : l.length ≤ 1000) : ∀ n i k, i + n = l.length → n < k → carillonref03_in.l0 k l x (i : Int) = some (decide (x.toList ∈ (l.drop i).map ByteArray.toList))
  | 0, i, k, h1, h2 => by
    obtain ⟨k, rfl⟩ : ∃ j, k = j + 1 := ⟨k - 1, by omega⟩
    rw [carillonref03_in.l0, if_neg (by omega), List.drop_of_length_le (by omega)]
    rfl
  | n + 1, i, k, h1, h2 => by
    obtain ⟨k, rfl⟩ : ∃ j, k = j + 1 := ⟨k - 1, by omega⟩
    have hi : i < l.length := by omega
    rw [carillonref03_in.l0, if_pos (by omega), if_pos (by omega), wr _ (by omega) (by omega)]
    have e1 : rdOf ByteArray.empty l (i : Int) = l[i] := by
      unfold rdOf
      rw [Int.toNat_natCast, List.getD_eq_getElem?_getD, List.getElem?_eq_getElem hi]
      rfl
    rw [e1, List.drop_eq_getElem_cons hi, List.map_cons]
    by_cases e : l[i].toList = x.toList
    · rw [if_pos e, e]
      simp
    · rw [if_neg e]
      have := ref_in l x hl n (i + 1) k (by omega) (by omega)
      rw [show ((i : Int) + 1) = ((i + 1 : Nat) : Int) by omega, this]
      simp [Ne.symm e]
theorem ref_word (s : ByteArray) (k : Nat) (hk : 30 ≤ k) : carillonref03_Word.f k s = some (wordB s) := by
  unfold carillonref03_Word.f carillonref03_Words.f carillonref03_in.f
  rw [Option.bind_some]
  have := ref_in [(⟨#[110, 111, 100, 101]⟩ : ByteArray), (⟨#[102, 108, 111, 119]⟩ : ByteArray), (⟨#[114, 101, 116, 117, 114, 110, 115]⟩ : ByteArray), (⟨#[118, 97, 114]⟩ : ByteArray), (⟨#[108, 101, 116]⟩ : ByteArray), (⟨#[116, 101, 108]⟩ : ByteArray), (⟨#[105, 110, 116]⟩ : ByteArray), (⟨#[98, 111, 111, 108]⟩ : ByteArray), (⟨#[114, 97, 116, 101]⟩ : ByteArray), (⟨#[100, 117, 101]⟩ : ByteArray), (⟨#[105, 102]⟩ : ByteArray), (⟨#[116, 104, 101, 110]⟩ : ByteArray), (⟨#[101, 108, 115, 101]⟩ : ByteArray), (⟨#[97, 110, 100]⟩ : ByteArray), (⟨#[111, 114]⟩ : ByteArray), (⟨#[110, 111, 116]⟩ : ByteArray), (⟨#[116, 114, 117, 101]⟩ : ByteArray), (⟨#[102, 97, 108, 115, 101]⟩ : ByteArray), (⟨#[102, 98, 121]⟩ : ByteArray), (⟨#[116, 97, 105, 108]⟩ : ByteArray)] s (by decide) 20 0 k rfl (by omega)
  rw [show ((0 : Nat) : Int) = 0 from rfl] at this
  rw [this, Option.bind_some]
  unfold wordB
  rw [ByteArray.toList_eq, List.drop_zero]
  congr 3
  simp [ByteArray.toList_eq, wordsL]
theorem tok_word (s : ByteArray) (hs : s.size ≤ 4096) (i e k : Nat) (h1 : i < e) (h2 : e ≤ s.size) (hk : 100 ≤ k) : carillonref03_token.j1 k s (i : Int) (e : Int) = some (if 32 < e - i then (0, ⟨#[]⟩, 0, 0, 32) else (if wordB (s.extract i e) = true then 3 else 1, s.extract i e, 0, (i : Int), 0)) := by
  obtain ⟨k, rfl⟩ : ∃ q, k = q + 1 := ⟨k - 1, by omega⟩
  rw [carillonref03_token.j1, show wrap64 ((e : Int) - (i : Int)) = ((e - i : Nat) : Int) by unfold wrap64; omega]
  by_cases h : 32 < e - i
  · rw [if_pos (by omega), if_pos h]
  · rw [if_neg (by omega), if_neg h, if_pos (by omega), if_pos (by omega), if_pos (by omega), Int.toNat_natCast, Int.toNat_natCast, ref_word _ k (by omega), Option.bind_some]
    cases wordB (s.extract i e) <;> rfl
end Go.Proofs.YtpgdmghhbbekjaaGreatDoor.L
end
section
set_option linter.unusedVariables false
set_option linter.unusedSimpArgs false
namespace Go.Proofs.YtpgdmghhbbekjaaGreatDoor.L
open Go.RowKit Go.Proofs.YtpgdmghhbbekjaaGreatDoorW.PrintWords Go.Proofs.YtpgdmghhbbekjaaGreatDoorW.PrintLast Go.Maps
def Inc : Int → List Tk → Prop
  | _, [] => True
  | p, t :: r => p ≤ t.a ∧ Inc (t.a + 1) r
theorem Inc.mono : ∀ {l : List Tk} {p q : Int}, q ≤ p → Inc p l → Inc q l
  | [], _, _, _, _ => trivial
  | t :: r, p, q, h, hi => ⟨by have := hi.1; omega, hi.2⟩
theorem tgo_end {s : ByteArray} {n i c : Nat} (hi : ¬ i < s.size) : tgo s n i c = ([⟨0, ⟨#[]⟩, 0, i⟩], 0, 0) := by
  cases n with
  | zero => rfl
  | succ n => rw [tgo, if_neg hi]
theorem ext_all (s : ByteArray) (i : Nat) : (s.extract i s.size).data.toList = s.data.toList.drop i := by
  rw [ext_list, List.take_of_length_le (by rw [len_list]; exact Nat.le_refl _)]
end Go.Proofs.YtpgdmghhbbekjaaGreatDoor.L
end
section
set_option linter.unusedVariables false
set_option linter.unusedSimpArgs false
namespace Go.Proofs.YtpgdmghhbbekjaaGreatDoor.L
open Go.RowKit Go.Proofs.YtpgdmghhbbekjaaGreatDoorW.PrintWords Go.Proofs.YtpgdmghhbbekjaaGreatDoorW.PrintLast Go.Proofs.YtpgdmghhbbekjaaGreatDoorW.PrintMore Go.Maps
open Go.Proofs.YtpgdmghhbbekjaaGreatDoor.H
def preB (s : ByteArray) (i : Nat) (z : ByteArray) : Bool := decide (z.size ≤ s.size - i) && decide ((s.extract i (i + z.size)).toList = z.toList)
def firstS (s : ByteArray) (i : Nat) : List ByteArray → Option ByteArray
  | [] => none
  | z :: r => if preB s i z = true then some z else firstS s i r
theorem sign_loop (s : ByteArray) (hs : s.size ≤ 4096) (i : Nat) (hi : i < s.size) (L : List ByteArray) (hL : L.length ≤ 100) (hz : ∀ z ∈ L, z.size ≤ 100) : ∀ n j k, j + n = L.length → n < k →
    carillonref03_token.l2 k s (i : Int) L (j : Int) = some (match firstS s i (L.drop j) with | some z => (4, z, 0, (i : Int), 0) | none => (0, ⟨#[]⟩, 0, 0, 30))
  | 0, j, k, h1, h2 => by
    obtain ⟨k, rfl⟩ : ∃ q, k = q + 1 := ⟨k - 1, by omega⟩
    rw [carillonref03_token.l2, if_neg (by omega), List.drop_of_length_le (by omega)]
    rfl
  | n + 1, j, k, h1, h2 => by
    obtain ⟨k, rfl⟩ : ∃ q, k = q + 1 := ⟨k - 1, by omega⟩
    have hj : j < L.length := by omega
    have ih := sign_loop s hs i hi L hL hz n (j + 1) k (by omega) (by omega)
    have hzz := hz L[j] (List.getElem_mem hj)
    have e1 : rdOf ByteArray.empty L (j : Int) = L[j] := by
      unfold rdOf
      rw [Int.toNat_natCast, List.getD_eq_getElem?_getD, List.getElem?_eq_getElem hj]
      rfl
    rw [carillonref03_token.l2, if_pos (by omega), if_pos (by omega), e1, List.drop_eq_getElem_cons hj, firstS]
    obtain ⟨z, hz1⟩ : ∃ z, L[j] = z := ⟨_, rfl⟩
    rw [hz1] at hzz ⊢
    rw [show wrap64 ((s.size : Int) - (i : Int)) = ((s.size - i : Nat) : Int) by unfold wrap64; omega, show wrap64 ((i : Int) + (z.size : Int)) = ((i + z.size : Nat) : Int) by unfold wrap64; omega, wsm j (by omega), ih, Int.toNat_natCast, Int.toNat_natCast]
    unfold preB
    by_cases h : z.size ≤ s.size - i
    · rw [if_pos (by omega), if_pos (by omega), if_pos (by omega), if_pos (by omega), decide_eq_true h]
      by_cases h5 : (s.extract i (i + z.size)).toList = z.toList
      · rw [if_pos h5, decide_eq_true h5]; rfl
      · rw [if_neg h5, decide_eq_false h5]; rfl
    · rw [if_neg (by omega), decide_eq_false h]; rfl
theorem pre_one (s : ByteArray) (i : Nat) (hi : i < s.size) (a : UInt8) : preB s i ⟨#[a]⟩ = (bt (s.extract i s.size) 0 == (a.toNat : Int)) := by
  obtain ⟨q, r, hq⟩ : ∃ q r, s.data.toList.drop i = q :: r := ⟨_, _, List.drop_eq_getElem_cons (by rw [len_list]; exact hi)⟩
  have hx : (s.extract i s.size).data.toList = q :: r := by rw [ext_all, hq]
  have b0 : bt (s.extract i s.size) 0 = (q.toNat : Int) := (bt_drop (i := 0) (by rw [List.drop_zero]; exact hx)).1
  have e1 : (s.extract i (i + 1)).toList = [q] := by
    rw [ByteArray.toList_eq, ext_list, List.drop_take, hq]
    simp
  unfold preB
  rw [show (⟨#[a]⟩ : ByteArray).size = 1 from rfl, decide_eq_true (by omega), e1, b0, ByteArray.toList_eq]
  by_cases h : q = a
  · subst h; simp
  · have h2 : ¬ (q.toNat : Int) = (a.toNat : Int) := fun e => h (UInt8.toNat_inj.1 (by omega))
    simp [h, h2]
theorem pre_two (s : ByteArray) (i : Nat) (hi : i < s.size) (a b : UInt8) : preB s i ⟨#[a, b]⟩ = ((bt (s.extract i s.size) 0 == (a.toNat : Int)) && secB (s.extract i s.size) b) := by
  obtain ⟨q, r, hq⟩ : ∃ q r, s.data.toList.drop i = q :: r := ⟨_, _, List.drop_eq_getElem_cons (by rw [len_list]; exact hi)⟩
  have hx : (s.extract i s.size).data.toList = q :: r := by rw [ext_all, hq]
  have b0 : bt (s.extract i s.size) 0 = (q.toNat : Int) := (bt_drop (i := 0) (by rw [List.drop_zero]; exact hx)).1
  have hlen : s.size - i = r.length + 1 := by
    have := congrArg List.length hq
    rw [List.length_drop, len_list] at this
    simpa using this
  unfold preB
  rw [show (⟨#[a, b]⟩ : ByteArray).size = 2 from rfl, b0]
  cases r with
  | nil =>
    have hs1 : secB (s.extract i s.size) b = false := by
      unfold secB
      rw [decide_eq_false (by rw [ext_size s i s.size (Nat.le_refl _)]; simp at hlen; omega)]
      rfl
    rw [hs1, decide_eq_false (by simp at hlen; omega)]
    simp
  | cons q2 r =>
    have e1 : (s.extract i (i + 2)).toList = [q, q2] := by
      rw [ByteArray.toList_eq, ext_list, List.drop_take, hq]
      simp
    rw [sec_two hx, decide_eq_true (by simp at hlen; omega), e1, ByteArray.toList_eq]
    have key : ∀ u v : UInt8, ((u.toNat : Int) == (v.toNat : Int)) = decide (u = v) := fun u v => by
      by_cases h : u = v
      · subst h; simp
      · have h2 : ¬ (u.toNat : Int) = (v.toNat : Int) := fun e => h (UInt8.toNat_inj.1 (by omega))
        simp [h, h2]
    rw [key, key]
    by_cases h : q = a <;> by_cases h2 : q2 = b <;> simp [h, h2]
def signsL : List ByteArray := [(⟨#[42, 94]⟩ : ByteArray), (⟨#[47, 94]⟩ : ByteArray), (⟨#[126, 62]⟩ : ByteArray), (⟨#[58, 58]⟩ : ByteArray), (⟨#[60, 62]⟩ : ByteArray), (⟨#[60, 61]⟩ : ByteArray), (⟨#[62, 61]⟩ : ByteArray), (⟨#[40]⟩ : ByteArray), (⟨#[41]⟩ : ByteArray), (⟨#[59]⟩ : ByteArray), (⟨#[58]⟩ : ByteArray), (⟨#[44]⟩ : ByteArray), (⟨#[61]⟩ : ByteArray), (⟨#[60]⟩ : ByteArray), (⟨#[62]⟩ : ByteArray), (⟨#[43]⟩ : ByteArray), (⟨#[45]⟩ : ByteArray), (⟨#[42]⟩ : ByteArray), (⟨#[47]⟩ : ByteArray), (⟨#[37]⟩ : ByteArray)]
theorem signs_size (s : ByteArray) (i : Nat) (hi : i < s.size) : (firstS s i signsL).map ByteArray.size = if sgnN (s.extract i s.size) = 0 then none else some (sgnN (s.extract i s.size)) := by
  unfold signsL sgnN
  simp only [firstS, pre_one s i hi, pre_two s i hi]
  obtain ⟨c, hc⟩ : ∃ c, bt (s.extract i s.size) 0 = c := ⟨_, rfl⟩
  obtain ⟨p1, h1⟩ : ∃ p, secB (s.extract i s.size) 62 = p := ⟨_, rfl⟩
  obtain ⟨p2, h2⟩ : ∃ p, secB (s.extract i s.size) 94 = p := ⟨_, rfl⟩
  obtain ⟨p3, h3⟩ : ∃ p, secB (s.extract i s.size) 58 = p := ⟨_, rfl⟩
  obtain ⟨p4, h4⟩ : ∃ p, secB (s.extract i s.size) 61 = p := ⟨_, rfl⟩
  rw [hc, h1, h2, h3, h4]
  clear hc h1 h2 h3 h4
  by_cases e : c = 42 ∨ c = 47 ∨ c = 126 ∨ c = 58 ∨ c = 60 ∨ c = 62 ∨ c = 40 ∨ c = 41 ∨ c = 59 ∨ c = 44 ∨ c = 61 ∨ c = 43 ∨ c = 45 ∨ c = 37
  · rcases e with rfl | rfl | rfl | rfl | rfl | rfl | rfl | rfl | rfl | rfl | rfl | rfl | rfl | rfl <;> cases p1 <;> cases p2 <;> cases p3 <;> cases p4 <;> rfl
  · simp only [not_or] at e
    obtain ⟨e1, e2, e3, e4, e5, e6, e7, e8, e9, e10, e11, e12, e13, e14⟩ := e
    have k : ∀ v : Int, c ≠ v → (c == v) = false := fun v h => by simpa using h
    simp [e1, e2, e3, e4, e5, e6, e7, e8, e9, e10, e11, e12, e13, e14]
theorem first_pre {s : ByteArray} {i : Nat} : ∀ {L : List ByteArray} {z : ByteArray}, firstS s i L = some z → preB s i z = true
  | [], z, h => by cases h
  | y :: r, z, h => by
    rw [firstS] at h
    by_cases hp : preB s i y = true
    · rw [if_pos hp] at h
      rw [← Option.some.inj h]; exact hp
    · rw [if_neg hp] at h
      exact first_pre h
theorem pre_is {s : ByteArray} {i : Nat} {z : ByteArray} (h : preB s i z = true) : z = (s.extract i s.size).extract 0 z.size := by
  unfold preB at h
  simp only [Bool.and_eq_true, decide_eq_true_eq] at h
  refine bytes_eq ?_
  have h2 := h.2
  rw [ByteArray.toList_eq, ByteArray.toList_eq, ext_list] at h2
  rw [ext_list, ext_all, List.drop_zero, ← h2, List.drop_take, Nat.add_sub_cancel_left]
theorem signs_is (s : ByteArray) (i : Nat) (hi : i < s.size) : firstS s i signsL = if sgnN (s.extract i s.size) = 0 then none else some ((s.extract i s.size).extract 0 (sgnN (s.extract i s.size))) := by
  have h := signs_size s i hi
  cases hf : firstS s i signsL with
  | none =>
    rw [hf] at h
    by_cases h0 : sgnN (s.extract i s.size) = 0
    · rw [if_pos h0]
    · rw [if_neg h0] at h; cases h
  | some z =>
    rw [hf] at h
    by_cases h0 : sgnN (s.extract i s.size) = 0
    · rw [if_pos h0] at h; cases h
    · rw [if_neg h0] at h ⊢
      have e : z.size = sgnN (s.extract i s.size) := Option.some.inj h
      have hz := pre_is (first_pre hf)
      rw [e] at hz
      rw [← hz]
end Go.Proofs.YtpgdmghhbbekjaaGreatDoor.L
end
section
set_option linter.unusedVariables false
set_option linter.unusedSimpArgs false
namespace Go.Proofs.YtpgdmghhbbekjaaGreatDoor.L
open Go.RowKit Go.Proofs.YtpgdmghhbbekjaaGreatDoorW.PrintWords Go.Proofs.YtpgdmghhbbekjaaGreatDoorW.PrintLast Go.Proofs.YtpgdmghhbbekjaaGreatDoorW.PrintMore Go.Maps
open Go.Proofs.YtpgdmghhbbekjaaGreatDoor.H
theorem ext_ext (s : ByteArray) (i m : Nat) : s.extract i (i + m) = (s.extract i s.size).extract 0 m := bytes_eq (by rw [ext_list, ext_list, ext_all, List.drop_zero, List.drop_take, Nat.add_sub_cancel_left])
theorem ref_token (s : ByteArray) (hs : s.size ≤ 4096) (i : Nat) (hi : i < s.size) (k : Nat) (hk : 10000 ≤ k) :
    ∃ r : Int × ByteArray × Int × Int × Int, carillonref03_token.f k s (i : Int) = some r ∧ r.2.2.2.2 = tkE (s.extract i s.size) ∧ (tkE (s.extract i s.size) = 0 → r = ((tkT (s.extract i s.size) i).k, (tkT (s.extract i s.size) i).t, (tkT (s.extract i s.size) i).n, (tkT (s.extract i s.size) i).a, 0)) := by
  have hb : bt (s.extract i s.size) 0 = bt s (i : Int) := bt_ext s i s.size 0 (by omega)
  have hxs : (s.extract i s.size).size = s.size - i := ext_size s i s.size (Nat.le_refl _)
  have hsp := fun p => spn_ext p s i s.size (s.size - i) 0 (by omega)
  obtain ⟨x, hx⟩ : ∃ x, s.extract i s.size = x := ⟨_, rfl⟩
  have hee := fun m => ext_ext s i m
  have hsg := signs_is s i hi
  rw [hx] at hb hxs hsp hsg ⊢
  simp only [hx] at hee
  unfold carillonref03_token.f tkE tkT
  rw [if_pos (by omega), if_pos (by omega), ref_letter, Option.bind_some, ref_digit, Option.bind_some, hb, hxs]
  by_cases hl : letterB (bt s (i : Int)) = true
  · rw [if_pos hl, if_pos hl, if_pos hl]
    have h1 := hsp namedB
    rw [Nat.add_zero] at h1
    obtain ⟨m, hm⟩ : ∃ m, spn namedB x (s.size - i) 0 = m := ⟨_, rfl⟩
    have hle := spn_le namedB x (s.size - i) 0
    have hm1 : 1 ≤ m := by
      rw [← hm]
      obtain ⟨q, hq⟩ : ∃ q, s.size - i = q + 1 := ⟨s.size - i - 1, by omega⟩
      have := spn_le namedB x q 1
      rw [hq, spn, show ((0 : Nat) : Int) = 0 from rfl, hb, if_pos (by unfold namedB; rw [hl]; rfl)]
      exact this.1
    rw [hm] at h1 hle ⊢
    rw [tok_letters s hs (i : Int) (s.size - i) i k (by omega) (by omega), ← h1, tok_word s hs i (i + m) _ (by omega) (by omega) (by omega), Nat.add_sub_cancel_left, hee m]
    by_cases h32 : 32 < m
    · rw [if_pos h32, if_pos h32]
      exact ⟨_, rfl, rfl, fun h => absurd h (by decide)⟩
    · rw [if_neg h32, if_neg h32]
      exact ⟨_, rfl, rfl, fun _ => rfl⟩
  · rw [if_neg hl, if_neg hl, if_neg hl]
    by_cases hd : digitB (bt s (i : Int)) = true
    · rw [if_pos hd, if_pos hd, if_pos hd]
      have h1 := hsp digitB
      rw [Nat.add_zero] at h1
      obtain ⟨q, hq⟩ : ∃ q, s.size - i = q + 1 := ⟨s.size - i - 1, by omega⟩
      have hst : carillonref03_token.l1 k s (i : Int) (i : Int) = carillonref03_token.l1 (k - 1) s (i : Int) ((i + 1 : Nat) : Int) := by
        obtain ⟨k, rfl⟩ : ∃ j, k = j + 1 := ⟨k - 1, by omega⟩
        rw [carillonref03_token.l1, if_pos (by omega), if_pos (by omega), ref_digit, Option.bind_some, if_pos hd, wsm i (by omega)]
        rfl
      have h2 : spn digitB s (s.size - i) i = spn digitB s q (i + 1) := by rw [hq, spn, if_pos hd]
      rw [hst, tok_digits s hs i hd hi q (i + 1) (k - 1) (by omega) (by omega) (fun p h3 h4 => by
        have : p = i := by omega
        rw [this]; exact hd) (by omega), ← h2, ← h1]
      obtain ⟨m, hm⟩ : ∃ m, spn digitB x (s.size - i) 0 = m := ⟨_, rfl⟩
      rw [hm]
      unfold tkN
      rw [hee m]
      cases hn : (numV (x.extract 0 m)).isSome with
      | true =>
        rw [if_pos rfl, if_pos rfl]
        exact ⟨_, rfl, rfl, fun _ => rfl⟩
      | false =>
        rw [if_neg (by decide), if_neg (by decide)]
        exact ⟨_, rfl, rfl, fun h => absurd h (by decide)⟩
    · rw [if_neg hd, if_neg hd, if_neg hd]
      unfold carillonref03_Signs.f
      rw [Option.bind_some]
      have h5 := sign_loop s hs i hi signsL (by decide) (by decide) 20 0 k rfl (by omega)
      rw [show ((0 : Nat) : Int) = 0 from rfl, List.drop_zero, hsg] at h5
      rw [show ([(⟨#[42, 94]⟩ : ByteArray), (⟨#[47, 94]⟩ : ByteArray), (⟨#[126, 62]⟩ : ByteArray), (⟨#[58, 58]⟩ : ByteArray), (⟨#[60, 62]⟩ : ByteArray), (⟨#[60, 61]⟩ : ByteArray), (⟨#[62, 61]⟩ : ByteArray), (⟨#[40]⟩ : ByteArray), (⟨#[41]⟩ : ByteArray), (⟨#[59]⟩ : ByteArray), (⟨#[58]⟩ : ByteArray), (⟨#[44]⟩ : ByteArray), (⟨#[61]⟩ : ByteArray), (⟨#[60]⟩ : ByteArray), (⟨#[62]⟩ : ByteArray), (⟨#[43]⟩ : ByteArray), (⟨#[45]⟩ : ByteArray), (⟨#[42]⟩ : ByteArray), (⟨#[47]⟩ : ByteArray), (⟨#[37]⟩ : ByteArray)] : List ByteArray) = signsL from rfl, h5]
      by_cases h0 : sgnN x = 0
      · rw [if_pos h0, if_pos h0]
        exact ⟨_, rfl, rfl, fun h => absurd h (by decide)⟩
      · rw [if_neg h0, if_neg h0]
        exact ⟨_, rfl, rfl, fun _ => rfl⟩
end Go.Proofs.YtpgdmghhbbekjaaGreatDoor.L
end
