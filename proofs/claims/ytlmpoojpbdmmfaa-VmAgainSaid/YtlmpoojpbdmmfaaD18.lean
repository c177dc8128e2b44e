/- Layer 18 as plain functions: how many bytes an op's Arg has, which instructions may be, their cycles, code as bytes and back. Definitions, and small facts of them. The conditions: what each names. -/
import Derived.Test.YtlmpoojpbdmmfaaHx0
import Derived.Lib.UnsafeStr
namespace Go.Proofs.Ytlmpoojpbdmmfaa.H
open Go.RowKit Go.Proofs.YtlmpoojpbdmmfaaW.PrintWords Go.Proofs.YtlmpoojpbdmmfaaW.PrintLast Go.Proofs.YtlmpoojpbdmmfaaW.PrintMore

def sz (op : Int) : Nat := if op = 1 then 8 else if op = 2 ∨ op = 3 ∨ op = 21 ∨ op = 22 then 2 else if op = 4 ∨ op = 5 then 1 else 0
def isOp (op : Int) : Bool := decide (1 ≤ op ∧ op ≤ 23)
def mayB (op a : Int) : Bool :=
  if op = 1 then true else if op = 2 ∨ op = 3 then decide (0 ≤ a ∧ a < 512) else if op = 4 ∨ op = 5 then decide (0 ≤ a ∧ a < 64)
  else if op = 21 ∨ op = 22 then decide (1 ≤ a ∧ a ≤ 4096) else decide (1 ≤ op ∧ op ≤ 23 ∧ a = 0)
def cyc (op : Int) : Int :=
  if op = 4 ∨ op = 5 ∨ op = 22 then 2 else if op = 10 then 3 else if op = 11 ∨ op = 12 then 8 else if 1 ≤ op ∧ op ≤ 23 then 1 else 0
/-- The last n bytes of a number, the greatest first. -/
def encArg (a : Int) : Nat → List Int
  | 0 => []
  | n + 1 => (a % 18446744073709551616 / 2 ^ (8 * n)) % 256 :: encArg a n
def encIns (i : S53) : List Int := i.f0 :: encArg i.f1 (sz i.f0)
def encAll (l : List S53) : List Int := (l.map encIns).flatten
def okAll (l : List S53) : Bool := l.all fun i => mayB i.f0 i.f1
def encode (l : List S53) : ByteArray × Int :=
  if 4096 < l.length then (⟨#[]⟩, 4) else if okAll l = true then (strOfNums (encAll l), 0) else (⟨#[]⟩, 180)
/-- A number out of its bytes, the greatest first, as a uint64. -/
def valOf (x : Int) : List Int → Int
  | [] => x
  | b :: r => valOf ((x * 256 + b) % 18446744073709551616) r
/-- What bytes are read as, c instructions having been read: 'none' for the error's list. -/
def decGo : Nat → List Int → Nat → List S53 × Int
  | 0, _, _ => ([], 0)
  | _ + 1, [], _ => ([], 0)
  | n + 1, op :: r, c =>
    if c = 4096 then ([], 4) else if isOp op = false then ([], 180) else if r.length < sz op then ([], 8)
    else if mayB op (wrap64 (valOf 0 (r.take (sz op)))) = true then
      (if (decGo n (r.drop (sz op)) (c + 1)).2 = 0 then (⟨op, wrap64 (valOf 0 (r.take (sz op)))⟩ :: (decGo n (r.drop (sz op)) (c + 1)).1, 0) else ([], (decGo n (r.drop (sz op)) (c + 1)).2))
    else ([], 180)
def decode (s : ByteArray) : List S53 × Int := decGo (s.size + 1) (bytesOf s) 0
/-- What the outer loop answers out of what is left and of what there is. -/
def decR (acc : List S53) (t : List S53 × Int) : List S53 × Int := if t.2 = 0 then (acc ++ t.1, 0) else ([], t.2)

theorem encArg_length (a : Int) (n : Nat) : (encArg a n).length = n := by
  induction n with
  | zero => rfl
  | succ n ih => simp [encArg, ih]
theorem sz_le (op : Int) : sz op ≤ 8 := by unfold sz; split <;> (try omega); split <;> (try omega); split <;> omega
theorem encIns_length (i : S53) : (encIns i).length = 1 + sz i.f0 := by simp [encIns, encArg_length]; omega
theorem encAll_cons (i : S53) (l : List S53) : encAll (i :: l) = encIns i ++ encAll l := by simp [encAll]
theorem encAll_append (l m : List S53) : encAll (l ++ m) = encAll l ++ encAll m := by simp [encAll]
theorem encAll_length (l : List S53) : (encAll l).length ≤ 9 * l.length := by
  induction l with
  | nil => simp [encAll]
  | cons i l ih => rw [encAll_cons, List.length_append, encIns_length]; have := sz_le i.f0; simp; omega
theorem encArg_get (a : Int) (n : Nat) : ∀ j, j < n → (encArg a n)[j]? = some ((a % 18446744073709551616 / 2 ^ (8 * (n - 1 - j))) % 256) := by
  induction n with
  | zero => intro j hj; omega
  | succ n ih =>
    intro j hj
    cases j with
    | zero => simp [encArg]
    | succ j =>
      simp only [encArg, List.getElem?_cons_succ]
      rw [ih j (by omega), show n - 1 - j = n + 1 - 1 - (j + 1) by omega]
theorem encArg_step (a : Int) (n m : Nat) (h : m + 1 ≤ n) : (encArg a n).take (n - (m + 1)) ++ [(a % 18446744073709551616 / 2 ^ (8 * m)) % 256] = (encArg a n).take (n - m) := by
  rw [show n - m = n - (m + 1) + 1 by omega, List.take_add_one, encArg_get a n _ (by omega), show n - 1 - (n - (m + 1)) = m by omega]
  rfl
theorem may_op {op a : Int} (h : mayB op a = true) : isOp op = true := by
  unfold mayB at h
  unfold isOp
  split at h
  · simp; omega
  split at h
  · simp; omega
  split at h
  · simp; omega
  split at h
  · simp; omega
  · simp at h ⊢; omega
theorem rd26_drop {l : List S53} {i : Nat} (h : i < l.length) : l.drop i = rd_T53 l (i : Int) :: l.drop (i + 1) := by
  rw [List.drop_eq_getElem_cons h]
  simp [rd_T53, List.getD_eq_getElem?_getD, List.getElem?_eq_getElem h]
theorem take_rd {l : List S53} {i : Nat} (h : i < l.length) : l.take (i + 1) = l.take i ++ [rd_T53 l (i : Int)] := by
  rw [List.take_add_one, List.getElem?_eq_getElem h]
  simp [rd_T53, List.getD_eq_getElem?_getD, List.getElem?_eq_getElem h]
/-- What is written are bytes. -/
theorem enc_bytes {l : List S53} (h : okAll l = true) : ∀ x ∈ encAll l, 0 ≤ x ∧ x < 256 := by
  intro x hx
  simp only [encAll, List.mem_flatten, List.mem_map] at hx
  obtain ⟨b, ⟨i, hi, rfl⟩, hx⟩ := hx
  simp only [encIns, List.mem_cons] at hx
  rcases hx with rfl | hx
  · have := may_op (List.all_eq_true.1 h i hi)
    simp [isOp] at this
    omega
  · obtain ⟨j, hj⟩ := List.mem_iff_getElem?.1 hx
    have hl : j < sz i.f0 := by
      have := (List.getElem?_eq_some_iff.1 hj).1
      rwa [encArg_length] at this
    rw [encArg_get _ _ _ hl] at hj
    injection hj with hj
    omega
theorem byteCells_of {l : List Int} (h : ∀ x ∈ l, 0 ≤ x ∧ x < 256) : nums .u8 l = Lib.byteCells (l.map fun n => UInt8.ofNat n.toNat) := by
  simp only [nums, Lib.byteCells, List.map_map]
  refine List.map_congr_left fun x hx => ?_
  have := h x hx
  simp only [Function.comp]
  congr 1
  simp
  omega
theorem decR_nil (n : Nat) (l : List Int) (c : Nat) : decR [] (decGo n l c) = decGo n l c := by
  unfold decR
  by_cases ht : (decGo n l c).2 = 0
  · rw [if_pos ht]
    exact Prod.ext rfl ht.symm
  · rw [if_neg ht]
    have h2 : (decGo n l c).1 = [] := by
      cases n with
      | zero => simp [decGo] at ht
      | succ n =>
        cases l with
        | nil => simp [decGo] at ht
        | cons op r =>
          simp only [decGo] at ht ⊢
          repeat' split
          all_goals first | rfl | skip
          all_goals simp_all
    exact Prod.ext h2.symm rfl
theorem bt_eq (s : ByteArray) (j : Nat) (h : j < s.size) : (bytesOf s)[j]? = some (bt s (j : Int)) := by
  have hl : j < (bytesOf s).length := by rw [bytesOf_length]; exact h
  rw [List.getElem?_eq_getElem hl]
  have := rd_bytesOf s (j : Int)
  rw [← this]
  simp [rd, List.getD_eq_getElem?_getD, List.getElem?_eq_getElem hl]
theorem bytes_head {s : ByteArray} {j : Nat} (h : j < s.size) : (bytesOf s).drop j = bt s (j : Int) :: (bytesOf s).drop (j + 1) := by
  have hl : j < (bytesOf s).length := by rw [bytesOf_length]; exact h
  rw [List.drop_eq_getElem_cons hl]
  congr 1
  have := bt_eq s j h
  rw [List.getElem?_eq_getElem hl] at this
  injection this
theorem bytes_range (s : ByteArray) : ∀ x ∈ bytesOf s, 0 ≤ x ∧ x < 256 := by
  intro x hx
  simp only [bytesOf, List.mem_map] at hx
  obtain ⟨b, _, rfl⟩ := hx
  have := b.toNat_lt
  omega
theorem rd_mem {l : List Int} {i : Int} (h : i.toNat < l.length) : rd l i ∈ l := by
  unfold rd
  rw [List.getD_eq_getElem?_getD, List.getElem?_eq_getElem h]
  exact List.getElem_mem _
theorem drop_rd {l : List Int} {i : Nat} (h : i < l.length) : l.drop i = rd l (i : Int) :: l.drop (i + 1) := by
  rw [List.drop_eq_getElem_cons h]
  simp [rd, List.getD_eq_getElem?_getD, List.getElem?_eq_getElem h]
theorem bytesOf_drop (s : ByteArray) (j : Nat) : bytesOf (s.extract j s.size) = (bytesOf s).drop j := by
  unfold bytesOf
  rw [← List.map_drop]
  congr 1
  apply List.ext_getElem?
  intro i
  have e : (s.extract j s.size).data.toList = s.data.toList.drop j := by
    simp
    refine List.take_of_length_le ?_
    rw [List.length_drop, data_length]
    exact Nat.le_refl _
  rw [e]
theorem decR_step (acc : List S53) (i : S53) (t : List S53 × Int) : decR acc (if t.2 = 0 then (i :: t.1, 0) else ([], t.2)) = decR (acc ++ [i]) t := by
  unfold decR
  by_cases h : t.2 = 0 <;> simp [h]
end Go.Proofs.Ytlmpoojpbdmmfaa.H
