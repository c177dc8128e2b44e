/- Part 3 of the proof of the law LN. The conditions: none. (Its parts: Lxb Lxc Lxd Lxe Lxl WRepsOne Hx0 Hx6 Hx7.) -/
import Derived.Maps.Own
import Derived.Maps.Views
import Derived.Maps.OwnSet
import Derived.StringKeys
import Derived.Lib.AppendIntMem
import Derived.Test.YtpgdmghhbbekjaaDoorProg
import Derived.Below
import Derived.Deep.Draws
import Derived.Deep.AppendLies
import Derived.Maps.AppendAt
import Derived.OwnWalk
import Derived.Laws.BytesArg
import Derived.Laws.MakeOwn
import Derived.Laws.OwnMore
import Derived.Deep.OwnRows
import Derived.Tactics
import Derived.Lib.ConvBytes
import Derived.Laws.Slices
import Derived.WalkKit
import Derived.KernelRfl
import Derived.RowKit3
import Derived.Deep.LoopGhost
import Derived.Deep.QuietTactic
import Derived.BigQuiet
import Derived.WideLaws
import Derived.Deep.DeepCutAuto
import Derived.Deep.CutBlock
import Derived.Deep.RegionHeld3
import Derived.Laws.Rows
import Derived.Lib.AppendStr
import Derived.ArgAppend
import Derived.Laws.IdiomCopy
import Derived.OrdersHeld
import Derived.Laws.BitsLemmas
import Derived.RowKit
import Derived.Laws.StructEq
import Derived.Test.YtpgdmghhbbekjaaDoorKLN01
import Derived.Test.YtpgdmghhbbekjaaDoorKLN02
section
set_option linter.unusedVariables false
set_option linter.unusedSimpArgs false
namespace Go.Proofs.YtpgdmghhbbekjaaDoor.L
open Go.RowKit Go.Proofs.YtpgdmghhbbekjaaDoorW.PrintWords Go.Proofs.YtpgdmghhbbekjaaDoorW.PrintLast Go.Maps
def wordsL : List (List UInt8) := [[110, 111, 100, 101], [102, 108, 111, 119], [114, 101, 116, 117, 114, 110, 115], [118, 97, 114], [108, 101, 116], [116, 101, 108], [105, 110, 116], [98, 111, 111, 108], [114, 97, 116, 101], [100, 117, 101], [105, 102], [116, 104, 101, 110], [101, 108, 115, 101], [97, 110, 100], [111, 114], [110, 111, 116], [116, 114, 117, 101], [102, 97, 108, 115, 101], [102, 98, 121], [116, 97, 105, 108]]
def Tb (w : World) : Prop := Lib.TabIs Tryd.prog w "strings.asciiSpace" .u8 Lib.asciiSpaceTab
theorem Tb.below {w w' : World} (h : Tb w) (hb : Below w.heap.size w w') : Tb w' := Lib.tabBelow_of_tabIs h w' hb
def boolR : Value → Option (DataW Unit × List MemPlace)
  | .bool x => some (.lit (.bool x), [])
  | _ => none
theorem boolR_inv {v : Value} {x : Bool} {ps : List MemPlace} (h : boolR v = some (.lit (.bool x), ps)) : v = .bool x := by
  unfold boolR at h
  split at h
  · simp at h
    rw [h.1]
  · simp at h
theorem keyS : Keyed Tryd.prog 9 := string_keyed Tryd.underlying9
theorem underM : Tryd.prog.underlying 41 = some (.map 9 4) := by kernel_rfl
theorem zeroB (w : World) : (zeroValue 4).run Tryd.prog w = .ok (.bool false) w := by kernel_rfl
theorem key_of {s : ByteArray} (hs : s.size ≤ maxLen) : keyOf Tryd.prog 9 (.string s) = some (.string s.data.toList) := WideMaps.keyOf_string_mk Tryd.underlying9 hs
def HS (W : World) (M n : Nat) (ks : List (List UInt8)) : Prop := ∃ D : DataW Unit, W.ownsMap Tryd.prog 9 boolR M n D ∧ ∀ k : List UInt8, D.atKey (.string k) (.lit (.bool false)) = .lit (.bool (decide (k ∈ ks)))
theorem HS.made (w : World) : HS (w.alloc (.map #[] 0)) w.heap.size 0 [] := ⟨_, World.ownsMap_made w Tryd.prog 9 boolR, fun k => (by rfl)⟩
theorem HS.lt {W : World} {M n : Nat} {ks : List (List UInt8)} (h : HS W M n ks) : M < W.heap.size := by
  obtain ⟨D, hD, _⟩ := h
  exact hD.lt
theorem HS.below {W W' : World} {M n : Nat} {ks : List (List UInt8)} (h : HS W M n ks) (hb : Below W.heap.size W W') : HS W' M n ks := by
  have hlt := h.lt
  obtain ⟨D, ⟨es, c, hh, r⟩, hD⟩ := h
  exact ⟨D, ⟨es, c, (hb.block M hlt).trans hh, r⟩, hD⟩
theorem HS.look {W : World} {M n : Nat} {ks : List (List UInt8)} (h : HS W M n ks) {s : ByteArray} (hs : s.size ≤ maxLen) : (Instr.lookup 41 (.map (some M)) (.string s) false).run Tryd.prog W = .ok (.bool (decide (s.data.toList ∈ ks))) W := by
  obtain ⟨D, hD, hat⟩ := h
  obtain ⟨v, ps, hrun, hv⟩ := hD.lookup keyS underM (zeroB W) (zd := .lit (.bool false)) (zp := []) rfl (key_of hs)
  rw [hat] at hv
  rw [hrun, boolR_inv hv]
theorem HS.put {W : World} {M n : Nat} {ks : List (List UInt8)} (h : HS W M n ks) (hn : n < 100000) {s : ByteArray} (hs : s.size ≤ maxLen) :
    ∃ W', (Instr.mapUpdate 41 (.map (some M)) (.string s) (.bool true)).run Tryd.prog W = .ok () W' ∧ HS W' M (n + 1) (ks ++ [s.data.toList]) ∧ W.grownBy W' (some M) := by
  obtain ⟨D, hD, hat⟩ := h
  obtain ⟨W', r, hD', hg⟩ := hD.update keyS underM (by unfold maxLen; omega) (key_of hs) (rfl : boolR (.bool true) = some (.lit (.bool true), []))
  refine ⟨W', r, ⟨_, hD', fun j => ?_⟩, hg⟩
  by_cases e : j = s.data.toList
  · subst e
    rw [atKey_put_same hD.isMap (keyS.key (key_of hs))]
    simp
  · rw [atKey_put_other (by simpa using e), hat j]
    simp [e]
theorem grown_below {B M : Nat} {w W W' : World} (hb : Below B w W) (hg : W.grownBy W' (some M)) (hM : B ≤ M) (hB : B ≤ w.heap.size) : Below B w W' :=
  ⟨hg.os.trans hb.os, hg.tape.trans hb.tape, hg.output.trans hb.output, Nat.le_trans hb.size hg.size, fun k hk => (hg.block k (Nat.lt_of_lt_of_le (Nat.lt_of_lt_of_le hk hB) hb.size) (fun e => by injection e with e; omega)).trans (hb.block k hk)⟩
def WordsIs (w : World) (e : Ending) (w' : World) : Prop := ∃ M n, e = .returned (.map (some M)) ∧ HS w' M n wordsL ∧ Below w.heap.size w w'
set_option maxHeartbeats 4000000 in
set_option maxRecDepth 100000 in
theorem words_calls (w : World) (htab : Tb w) : Calls Tryd.prog 17 #[] w (WordsIs w) := by
  have hmm := @run_makeMap Tryd.prog
  have HT := Aside0.mk (htab.below ((Below.refl _ _).alloc (Nat.le_refl _) (.map #[] 0)))
  have HM := Aside0.mk (HS.made w)
  have HB := Aside0.mk ((Below.refl w.heap.size w).alloc (Nat.le_refl _) (.map #[] 0))
  have HZ : Aside0 (w.heap.size < (w.alloc (.map #[] 0)).heap.size) := ⟨by simp⟩
  clear htab
  go_enter Tryd.func17, Tryd.ntmps17
  go_wp2_with fail
  refine (Tryd.strings_Fields_laid _ _ ?_ ?_ HT.out).mono ?_
  · decide +kernel
  · intro j b hj
    exact of_decide_eq_true (List.all_eq_true.1 (show List.all _ (fun b : UInt8 => decide (b.toNat < 128)) = true by decide +kernel) b (List.mem_of_getElem? hj))
  rintro e w' ⟨rfl, rfl⟩
  generalize hF : Lib.fields _ = F
  obtain rfl : wordsL = F := by rw [← hF]; decide +kernel
  clear hF
  have hlen : wordsL.length = 20 := rfl
  rw [hlen]
  have HM1 : Aside0 (HS ((w.alloc (.map #[] 0)).alloc (.cells (wordsL.map fun l => Value.string ⟨l.toArray⟩).toArray 9)) w.heap.size 0 []) := ⟨HM.out.below ((Below.refl _ _).alloc (Nat.le_refl _) _)⟩
  have HB1 : Aside0 (Below w.heap.size w ((w.alloc (.map #[] 0)).alloc (.cells (wordsL.map fun l => Value.string ⟨l.toArray⟩).toArray 9))) := ⟨HB.out.alloc (by simp) _⟩
  have HX : Aside0 (((w.alloc (.map #[] 0)).alloc (.cells (wordsL.map fun l => Value.string ⟨l.toArray⟩).toArray 9)).heap[w.heap.size + 1]? = some (.cells (wordsL.map fun l => Value.string ⟨l.toArray⟩).toArray 9 (0, 0))) := ⟨by
    have := heap_alloc_new (w.alloc (.map #[] 0)) (.cells (wordsL.map fun l => Value.string ⟨l.toArray⟩).toArray 9)
    simpa using this⟩
  clear HM HB HT hmm hlen
  have hbz : (w.alloc (.map #[] 0)).heap.size = w.heap.size + 1 := by simp
  rw [hbz]
  clear hbz
  generalize (w.alloc (.map #[] 0)).alloc (.cells (wordsL.map fun l => Value.string ⟨l.toArray⟩).toArray 9) = W1 at HM1 HB1 HX ⊢
  obtain ⟨post, hpost⟩ : ∃ p, WordsIs w = p := ⟨_, rfl⟩
  have HPO := Aside0.mk hpost
  clear hpost HZ
  obtain ⟨M, hM⟩ : ∃ M, w.heap.size = M := ⟨_, rfl⟩
  have HMM := Aside0.mk hM
  rw [hM] at HM1 HX ⊢
  clear hM
  go_wp2
  go_loopg [7] (20) (fun kq v7 wr => ∃ (i : Nat), v7 = .int .i64 (i : Int) ∧ Aside0 (kq + i = 20) ∧ Aside0 (HS wr M i (wordsL.take i)) ∧ Aside0 (Below w.heap.size w wr) ∧ Aside0 (wr.heap[M + 1]? = some (.cells (wordsL.map fun l => Value.string ⟨l.toArray⟩).toArray 9 (0, 0))))
  case atStart => exact ⟨0, rfl, ⟨rfl⟩, HM1, HB1, HX⟩
  case round =>
    obtain ⟨i, rfl, HK, HI, HBB, HXX⟩ := hrel
    by_cases hi : i < 20
    · have dl : decide ((i : Int) < 20) = true := decide_eq_true (by omega)
      obtain ⟨go, rfl⟩ : ∃ go, gk = go + 1 := ⟨gk - 1, by have := HK.out; omega⟩
      have hiw : i < wordsL.length := hi
      obtain ⟨u, hu⟩ : ∃ u, wordsL[i] = u := ⟨_, rfl⟩
      have hsz : u.length ≤ 100 := by
        have : ∀ v ∈ wordsL, v.length ≤ 100 := by decide
        exact this u (by rw [← hu]; exact List.getElem_mem hiw)
      obtain ⟨W2, hrun, hs2, hg⟩ := HI.out.put (by omega) (s := ⟨u.toArray⟩) (by show u.toArray.size ≤ _; simp [maxLen]; omega)
      have hcell : wr.cell? ⟨M + 1, i, none⟩ = some (.string ⟨u.toArray⟩) := by
        simp [World.cell?, HXX.out, ← hu, hiw]
      have hB2 := grown_below HBB.out hg (by rw [HMM.out]; exact Nat.le_refl _) (Nat.le_refl _)
      have e1 : wordsL.take i ++ [u] = wordsL.take (i + 1) := by rw [List.take_add_one, List.getElem?_eq_getElem hiw, hu]; rfl
      have e2 : (⟨u.toArray⟩ : ByteArray).data.toList = u := by simp
      rw [e2, e1] at hs2
      have HS2 := Aside0.mk hs2
      have HB2 := Aside0.mk hB2
      have HX2 : Aside0 (W2.heap[M + 1]? = some (.cells (wordsL.map fun l => Value.string ⟨l.toArray⟩).toArray 9 (0, 0))) := ⟨(hg.block (M + 1) (Array.getElem?_eq_some_iff.1 HXX.out).1 (by simp)).trans HXX.out⟩
      have hi2 : (i : Int) < 20 := by omega
      clear hs2 hB2 hg e1 e2 hu hsz HI HBB HXX hiw
      go_wp2
      go_roundg go
      case measure => omega
      case rel => exact ⟨i + 1, by simp, ⟨by have := HK.out; omega⟩, HS2, HB2, HX2⟩
    · have dl : decide ((i : Int) < 20) = false := decide_eq_false (by omega)
      have hi2 : i = 20 := by have := HK.out; omega
      have HI2 : Aside0 (HS wr M 20 wordsL) := ⟨by have := HI.out; rw [hi2] at this; exact this⟩
      clear hi2 HI hi
      go_wp2
      go_ret
      exact ⟨M, 20, rfl, HI2.out, HBB.out⟩
def wordB (s : ByteArray) : Bool := decide (s.data.toList ∈ wordsL)
theorem word_calls (s : ByteArray) (hs : s.size ≤ maxLen) (w : World) (htab : Tb w) : Calls Tryd.prog 8 #[.string s] w fun e w' => e = .returned (.bool (wordB s)) ∧ Below w.heap.size w w' := by
  have HT := Aside0.mk htab
  have HS0 := Aside0.mk hs
  clear htab hs
  obtain ⟨b, hb⟩ : ∃ b, wordB s = b := ⟨_, rfl⟩
  have HB := Aside0.mk hb
  rw [hb]
  clear hb
  go_enter Tryd.func8, Tryd.ntmps8
  go_wp2_with fail
  refine (words_calls w HT.out).mono ?_
  rintro e w' ⟨M, n, rfl, hs, hb⟩
  have hl := hs.look HS0.out
  rw [show decide (s.data.toList ∈ wordsL) = b from HB.out] at hl
  have HBB := Aside0.mk hb
  clear hs hb
  go_wp2
  go_ret
  exact ⟨rfl, HBB.out⟩
end Go.Proofs.YtpgdmghhbbekjaaDoor.L
end
section
set_option linter.unusedVariables false
set_option linter.unusedSimpArgs false
namespace Go.Proofs.YtpgdmghhbbekjaaDoor.L
open Go.RowKit Go.Proofs.YtpgdmghhbbekjaaDoorW.PrintWords Go.Proofs.YtpgdmghhbbekjaaDoorW.PrintLast Go.Maps
theorem len_list (s : ByteArray) : s.data.toList.length = s.size := by rw [Array.length_toList]; rfl
theorem bt_list (s : ByteArray) (i : Nat) : bt s (i : Int) = ((s.data.toList.getD i 0).toNat : Int) := by
  unfold bt
  by_cases h : i < s.size
  · have h' : ((i : Int)).toNat < s.size := by simpa using h
    rw [dif_pos h', List.getD_eq_getElem?_getD, List.getElem?_eq_getElem (by rw [len_list]; exact h)]
    rfl
  · have h' : ¬ ((i : Int)).toNat < s.size := by simpa using h
    rw [dif_neg h', List.getD_eq_getElem?_getD, List.getElem?_eq_none (by rw [len_list]; omega)]
    rfl
theorem ext_list (s : ByteArray) (a b : Nat) : (s.extract a b).data.toList = (s.data.toList.take b).drop a := by
  simp [ByteArray.data_extract, Array.toList_extract, List.extract, List.drop_take]
theorem ext_size (s : ByteArray) (a b : Nat) (h : b ≤ s.size) : (s.extract a b).size = b - a := by
  rw [← len_list, ext_list, List.length_drop, List.length_take, len_list]
  omega
theorem bt_ext (s : ByteArray) (a b i : Nat) (h : a + i < b) : bt (s.extract a b) (i : Int) = bt s ((a + i : Nat) : Int) := by
  rw [bt_list, bt_list, ext_list]
  simp only [List.getD_eq_getElem?_getD, List.getElem?_drop, List.getElem?_take]
  rw [if_pos h]
theorem spn_ext (p : Int → Bool) (s : ByteArray) (a b : Nat) : ∀ n i, a + i + n ≤ b → a + spn p (s.extract a b) n i = spn p s n (a + i)
  | 0, i, _ => rfl
  | n + 1, i, h => by
    rw [spn, spn, bt_ext s a b i (by omega)]
    split
    · rw [spn_ext p s a b n (i + 1) (by omega)]; rfl
    · rfl
def dash (s : ByteArray) (i : Nat) : Bool := decide (i + 1 < s.size) && (bt s (i : Int) == 45 && bt s ((i + 1 : Nat) : Int) == 45)
theorem dash_prefix (x : ByteArray) : Lib.hasPrefix x.data.toList [45, 45] = dash x 0 := by
  unfold dash Lib.hasPrefix
  rw [bt_list, bt_list]
  rw [← len_list]
  rcases x.data.toList with _ | ⟨a, _ | ⟨b, r⟩⟩
  · rfl
  · simp [List.isPrefixOf]
  · have key : ∀ c : UInt8, ((45 : UInt8) == c) = (((c.toNat : Nat) : Int) == 45) := by
      intro c
      by_cases e : c = 45
      · subst e; rfl
      · have h1 : ((45 : UInt8) == c) = false := by simpa using fun h => e h.symm
        have h2 : (((c.toNat : Nat) : Int) == 45) = false := by
          have : c.toNat ≠ 45 := fun h => e (by apply UInt8.toNat_inj.1; simpa using h)
          simp; omega
        rw [h1, h2]
    simp [List.isPrefixOf, key]
theorem dash_ext (s : ByteArray) (i : Nat) (hi : i ≤ s.size) : dash (s.extract i s.size) 0 = dash s i := by
  unfold dash
  rw [ext_size s i s.size (Nat.le_refl _)]
  by_cases h : i + 1 < s.size
  · rw [bt_ext s i s.size 0 (by omega), bt_ext s i s.size (0 + 1) (by omega)]
    simp [h]
    omega
  · have h1 : ¬ (0 + 1 < s.size - i) := by omega
    simp [h]
    omega
def blankB (c : Int) : Bool := decide (c = 32 ∨ c = 9 ∨ c = 10 ∨ c = 13)
def skp (s : ByteArray) : Nat → Nat → Nat
  | 0, i => i
  | n + 1, i => if i < s.size then (if bt s (i : Int) = 45 then (if dash s i = true then skp s n (spn lineB s (s.size - i) i) else i) else if blankB (bt s (i : Int)) = true then skp s n (i + 1) else i) else i
theorem spn_dash {s : ByteArray} {i : Nat} (h : dash s i = true) : i + 2 ≤ spn lineB s (s.size - i) i ∧ spn lineB s (s.size - i) i ≤ s.size := by
  unfold dash at h
  simp only [Bool.and_eq_true, decide_eq_true_eq, beq_iff_eq] at h
  obtain ⟨h1, h2, h3⟩ := h
  obtain ⟨k, hk⟩ : ∃ k, s.size - i = k + 2 := ⟨s.size - i - 2, by omega⟩
  rw [hk, spn, if_pos (by rw [h2]; rfl), spn, if_pos (by rw [show ((i + 1 : Nat) : Int) = ((i + 1 : Nat) : Int) from rfl, h3]; rfl)]
  have := spn_le lineB s k (i + 1 + 1)
  omega
theorem skp_le (s : ByteArray) : ∀ n i, i ≤ s.size → i ≤ skp s n i ∧ skp s n i ≤ s.size
  | 0, i, h => ⟨Nat.le_refl _, h⟩
  | n + 1, i, h => by
    rw [skp]
    by_cases h1 : i < s.size
    · rw [if_pos h1]
      by_cases h2 : bt s (i : Int) = 45
      · rw [if_pos h2]
        by_cases h3 : dash s i = true
        · rw [if_pos h3]
          have := spn_dash h3
          have := skp_le s n _ this.2
          omega
        · rw [if_neg h3]; omega
      · rw [if_neg h2]
        split
        · have := skp_le s n (i + 1) (by omega)
          omega
        · omega
    · rw [if_neg h1]; omega
end Go.Proofs.YtpgdmghhbbekjaaDoor.L
end
section
set_option linter.unusedVariables false
set_option linter.unusedSimpArgs false
namespace Go.Proofs.YtpgdmghhbbekjaaDoor.L
open Go.RowKit Go.Proofs.YtpgdmghhbbekjaaDoorW.PrintWords Go.Proofs.YtpgdmghhbbekjaaDoorW.PrintLast Go.Maps
theorem rest_calls (s : ByteArray) (hs : s.size ≤ 140737488355328) (i : Nat) (hi : i ≤ s.size) (w : World) :
    Calls Tryd.prog 21 #[.string (s.extract i s.size), .func (.func 37) #[] #[]] w fun e w' => e = .returned (.int .i64 ((spn lineB s (s.size - i) i : Nat) - (i : Int))) ∧ w = w' := by
  have hz := ext_size s i s.size (Nat.le_refl _)
  refine (span_calls 37 lineB (fun c w _ _ => line_calls w) (enters_of Tryd.func37 (by kernel_rfl) rfl) (s.extract i s.size) (by omega) w).mono ?_
  rintro e w' ⟨rfl, rfl⟩
  have := spn_ext lineB s i s.size (s.size - i) 0 (by omega)
  rw [hz]
  refine ⟨?_, rfl⟩
  congr 2
  rw [Nat.add_zero] at this
  omega
set_option maxHeartbeats 4000000 in
set_option maxRecDepth 100000 in
theorem skip_calls (s : ByteArray) (hs : s.size ≤ 140737488355328) (i0 : Nat) (hi0 : i0 ≤ s.size) (w : World) :
    Calls Tryd.prog 26 #[.string s, .int .i64 (i0 : Int)] w fun e w' => e = .returned (.int .i64 (skp s s.size i0 : Nat)) ∧ w = w' := by
  obtain ⟨res, hres⟩ : ∃ r : Nat, skp s s.size i0 = r := ⟨_, rfl⟩
  rw [hres]
  have HR := Aside0.mk hres
  have HS := Aside0.mk hs
  have H0 := Aside0.mk hi0
  clear hres hs hi0
  go_enter Tryd.func26, Tryd.ntmps26
  go_wp2
  go_loopg [1] (s.size) (fun kq v1 wr => ∃ (i : Nat), v1 = .int .i64 (i : Int) ∧ Aside0 (s.size ≤ kq + i ∧ i ≤ s.size) ∧ Aside0 (skp s kq i = res) ∧ w = wr)
  case atStart => exact ⟨i0, rfl, ⟨by omega, H0.out⟩, HR, rfl⟩
  case round =>
    clear H0 HR
    obtain ⟨i, rfl, HK, HI, rfl⟩ := hrel
    have hsz := HS.out
    by_cases hi : i < s.size
    · have dl : decide (i < s.size) = true := decide_eq_true hi
      have dl2 : decide ((i : Int) < (s.size : Int)) = true := decide_eq_true (by omega)
      obtain ⟨go, rfl⟩ : ∃ go, gk = go + 1 := ⟨gk - 1, by have := HK.out; omega⟩
      have hsp := HI.out
      rw [skp, if_pos hi] at hsp
      obtain ⟨c, hc⟩ : ∃ c, bt s (i : Int) = c := ⟨_, rfl⟩
      have hx6 : ((s[i]'hi).toNat : Int) = c := by have := bt_at s (i : Int) (by simpa using hi); rw [← hc]; simpa using this
      rw [hc] at hsp
      have HC := Aside0.mk hc
      clear hc
      have q6 : ((i : Int) < (s.size : Int)) = True := eq_true (by omega)
      have q7 : ((i : Int) ≤ (s.size : Int)) = True := eq_true (by omega)
      have q8 : i ≤ s.size := by omega
      have p6 : (0 ≤ (i : Int)) = True := eq_true (by omega)
      by_cases h45 : c = 45
      · rw [if_pos h45] at hsp
        have d45 : (c == 45) = true := by simpa using h45
        have HSP := Aside0.mk hsp
        clear hsp h45 HI
        go_wp2_with fail
        refine (Tryd.strings_HasPrefix (s.extract i s.size) ⟨#[45, 45]⟩ w).mono ?_
        rintro e w' ⟨rfl, rfl⟩
        have hd : Lib.hasPrefix (s.extract i s.size).data.toList (⟨#[45, 45]⟩ : ByteArray).data.toList = dash s i := (dash_prefix _).trans (dash_ext s i q8)
        rw [hd]
        clear hd
        cases hb : dash s i with
        | true =>
          have HD := Aside0.mk hb
          have hsp := HSP.out
          rw [if_pos hb] at hsp
          obtain ⟨m, hm⟩ : ∃ m, spn lineB s (s.size - i) i = m := ⟨_, rfl⟩
          have hrc := rest_calls s hsz i q8 w'
          have hmd := spn_dash hb
          rw [hm] at hsp hrc hmd
          have HM := Aside0.mk hmd
          have HSP2 := Aside0.mk hsp
          have HRC := Aside0.mk hrc
          have hmi : (i : Int) ≤ (m : Int) := by omega
          have hmi2 : (m : Int) ≤ 140737488355328 := by omega
          clear hb hsp hm HSP hrc hmd
          go_wp2_with fail
          refine HRC.out.mono ?_
          rintro e w'' ⟨rfl, rfl⟩
          clear hx6 HC HRC
          have hsum : wrap64 ((i : Int) + ((m : Int) - (i : Int))) = (m : Int) := by unfold wrap64; omega
          go_wp2
          go_roundg go
          case measure => omega
          case rel => exact ⟨m, by first | rfl | (congr 1; omega), ⟨by have := HK.out; have := HM.out; omega⟩, HSP2, rfl⟩
        | false =>
          have hsp := HSP.out
          rw [if_neg (by rw [hb]; decide)] at hsp
          subst hsp
          clear hb HSP hx6 HC
          go_wp2
          go_ret
          exact ⟨rfl, rfl⟩
      · rw [if_neg h45] at hsp
        have d45 : (c == 45) = false := by simpa using h45
        cases hb : blankB c with
        | true =>
          rw [hb, if_pos rfl] at hsp
          have HSP := Aside0.mk hsp
          have hb2 : c = 32 ∨ c = 9 ∨ c = 10 ∨ c = 13 := by simpa [blankB] using hb
          clear hsp h45 hb HI HC
          rcases hb2 with rfl | rfl | rfl | rfl
          all_goals
            go_wp2
            go_roundg go
            case measure => omega
            case rel => exact ⟨i + 1, by simp, ⟨by have := HK.out; omega⟩, HSP, rfl⟩
        | false =>
          rw [hb, if_neg (by decide)] at hsp
          have hb2 : ¬ (c = 32 ∨ c = 9 ∨ c = 10 ∨ c = 13) := by simpa [blankB] using hb
          have e1 : (c == 32) = false := by simp; omega
          have e2 : (c == 9) = false := by simp; omega
          have e3 : (c == 10) = false := by simp; omega
          have e4 : (c == 13) = false := by simp; omega
          subst hsp
          clear h45 hb hb2 HI HC
          go_wp2
          go_ret
          exact ⟨rfl, rfl⟩
    · have dl : decide (i < s.size) = false := decide_eq_false hi
      have dl2 : decide ((i : Int) < (s.size : Int)) = false := decide_eq_false (by omega)
      have hsp : i = res := by
        have := HI.out
        cases gk with
        | zero => rw [skp] at this; exact this
        | succ n => rw [skp, if_neg hi] at this; exact this
      subst hsp
      clear HI hi
      go_wp2
      go_ret
      exact ⟨rfl, rfl⟩
end Go.Proofs.YtpgdmghhbbekjaaDoor.L
end
section
set_option linter.unusedVariables false
set_option linter.unusedSimpArgs false
namespace Go.Proofs.YtpgdmghhbbekjaaDoor.L
open Go.RowKit Go.Proofs.YtpgdmghhbbekjaaDoorW.PrintWords Go.Proofs.YtpgdmghhbbekjaaDoorW.PrintLast Go.Maps
def secB (s : ByteArray) (x : UInt8) : Bool := decide (1 < s.size) && (bt s 1 == (x.toNat : Int))
def secN (b : Bool) : Int := if b = true then 2 else 1
theorem idx_one (x : UInt8) (c : Int) (h0 : 0 ≤ c) (h1 : c ≤ 255) : decide (0 ≤ Lib.indexByte (⟨#[x]⟩ : ByteArray).data.toList c.toNat.toUInt8) = (c == (x.toNat : Int)) := by
  have hx : x.toNat < 256 := x.toNat_lt
  by_cases e : c = (x.toNat : Int)
  · subst e
    simp [Lib.indexByte]
  · have h2 : x ≠ c.toNat.toUInt8 := fun h => e (by
      have := congrArg UInt8.toNat h
      simp at this
      omega)
    have h3 : (c == (x.toNat : Int)) = false := by simpa using e
    rw [h3]
    simp [Lib.indexByte, h2, Ne.symm h2]
theorem sec_calls (s : ByteArray) (x : UInt8) (B : Nat) (w : World) (hc : w.cell? ⟨B, 0, none⟩ = some (.string s)) :
    Calls Tryd.prog 46 #[.string ⟨#[x]⟩, .pointer (some ⟨B, 0, none⟩)] w fun e w' => e = .returned (.int .i64 (secN (secB s x))) ∧ w = w' := by
  by_cases h1 : 1 < s.size
  · have d1 : decide (1 < s.size) = true := decide_eq_true h1
    have d2 : decide ((1 : Int) < (s.size : Int)) = true := decide_eq_true (by omega)
    obtain ⟨c, hbc⟩ : ∃ c, bt s 1 = c := ⟨_, rfl⟩
    have hx6 : ((s[1]'h1).toNat : Int) = c := by have := bt_at s 1 (by simpa using h1); rw [← hbc]; simpa using this
    have q6 : ((1 : Int) < (s.size : Int)) = True := eq_true (by omega)
    obtain ⟨b0, b1⟩ := bt_range s 1
    rw [hbc] at b0 b1
    have hix := idx_one x c b0 b1
    have e0 : secB s x = (c == (x.toNat : Int)) := by unfold secB; rw [d1, hbc]; simp
    rw [e0]
    obtain ⟨b, hb⟩ : ∃ b, (c == (x.toNat : Int)) = b := ⟨_, rfl⟩
    rw [hb] at hix ⊢
    obtain ⟨y, hy⟩ : ∃ y, Lib.indexByte (⟨#[x]⟩ : ByteArray).data.toList c.toNat.toUInt8 = y := ⟨_, rfl⟩
    rw [hy] at hix
    have HY := Aside0.mk hy
    clear hy e0 hb b0 b1 hbc
    cases b with
    | true =>
      go_enter Tryd.func46, Tryd.ntmps46
      go_wp2_with fail
      refine (Tryd.strings_IndexByte _ _ _).mono ?_
      rintro e w' ⟨rfl, rfl⟩
      rw [HY.out]
      go_wp2
      go_ret
      exact ⟨rfl, rfl⟩
    | false =>
      go_enter Tryd.func46, Tryd.ntmps46
      go_wp2_with fail
      refine (Tryd.strings_IndexByte _ _ _).mono ?_
      rintro e w' ⟨rfl, rfl⟩
      rw [HY.out]
      go_wp2
      go_ret
      exact ⟨rfl, rfl⟩
  · have d1 : decide (1 < s.size) = false := decide_eq_false h1
    have d2 : decide ((1 : Int) < (s.size : Int)) = false := decide_eq_false (by omega)
    have e0 : secB s x = false := by unfold secB; rw [d1]; rfl
    rw [e0]
    clear h1 e0
    go_enter Tryd.func46, Tryd.ntmps46
    go_wp2
    go_ret
    exact ⟨rfl, rfl⟩
def sgnN (s : ByteArray) : Nat :=
  if bt s 0 = 126 then (if secB s 62 = true then 2 else 0)
  else if bt s 0 = 42 ∨ bt s 0 = 47 then (if secB s 94 = true then 2 else 1)
  else if bt s 0 = 58 then (if secB s 58 = true then 2 else 1)
  else if bt s 0 = 60 then (if secB s 62 = true then 2 else if secB s 61 = true then 2 else 1)
  else if bt s 0 = 62 then (if secB s 61 = true then 2 else 1)
  else if bt s 0 = 40 ∨ bt s 0 = 41 ∨ bt s 0 = 59 ∨ bt s 0 = 44 ∨ bt s 0 = 61 ∨ bt s 0 = 43 ∨ bt s 0 = 45 ∨ bt s 0 = 37 then 1
  else 0
theorem sgn_le (s : ByteArray) (h : 0 < s.size) : sgnN s ≤ s.size := by
  have key : ∀ x, secB s x = true → 2 ≤ s.size := fun x hx => by
    unfold secB at hx
    simp at hx
    omega
  have k62 := key 62
  have k94 := key 94
  have k58 := key 58
  have k61 := key 61
  unfold sgnN
  repeat' split
  all_goals first | omega | (rename_i hh; have := k62 hh; omega) | (rename_i hh; have := k94 hh; omega) | (rename_i hh; have := k58 hh; omega) | (rename_i hh; have := k61 hh; omega)
end Go.Proofs.YtpgdmghhbbekjaaDoor.L
end
section
set_option linter.unusedVariables false
set_option linter.unusedSimpArgs false
namespace Go.Proofs.YtpgdmghhbbekjaaDoor.L
open Go.RowKit Go.Proofs.YtpgdmghhbbekjaaDoorW.PrintWords Go.Proofs.YtpgdmghhbbekjaaDoorW.PrintLast Go.Maps
def nameB (s : ByteArray) : Bool := decide (0 < s.size) && decide (s.size ≤ 32) && letterB (bt s 0) && decide (spn namedB s s.size 0 = s.size) && !wordB s
def NamePost (b : Bool) (w : World) (e : Ending) (w' : World) : Prop := e = .returned (.bool b) ∧ Below w.heap.size w w'
set_option maxHeartbeats 4000000 in
theorem name_calls (s : ByteArray) (hs : s.size ≤ 140737488355328) (w : World) (htab : Tb w) : Calls Tryd.prog 10 #[.string s] w (NamePost (nameB s) w) := by
  obtain ⟨post, hpost⟩ : ∃ p, NamePost (nameB s) w = p := ⟨_, rfl⟩
  rw [hpost]
  have HPO := Aside0.mk hpost
  clear hpost
  by_cases h0 : s.size = 0
  · obtain rfl : s = ⟨#[]⟩ := by
      obtain ⟨d⟩ := s
      congr
      exact Array.size_eq_zero_iff.1 h0
    clear h0 htab hs
    go_enter Tryd.func10, Tryd.ntmps10
    go_wp2
    show post (.returned (.bool false)) w
    rw [← HPO.out]
    exact ⟨rfl, Below.refl _ _⟩
  have hne : s ≠ ⟨#[]⟩ := fun e => h0 (by rw [e]; rfl)
  have hne5 : s.toList.isEmpty = false := by
    rw [ByteArray.toList_eq]
    cases hz : s.data.toList with
    | nil => exact absurd (show s.size = 0 by show s.data.size = 0; rw [← Array.length_toList, hz]; rfl) h0
    | cons x y => rfl
  have hp : 0 < s.size := by omega
  by_cases h1 : s.size ≤ 32
  case neg =>
    have d1 : decide (s.size ≤ 32) = false := decide_eq_false h1
    have d2 : decide ((s.size : Int) ≤ 32) = false := decide_eq_false (by omega)
    have e0 : nameB s = false := by unfold nameB; rw [d1]; simp
    rw [e0] at HPO
    clear htab hs h0 h1 hp e0
    go_enter Tryd.func10, Tryd.ntmps10
    go_wp2
    show post (.returned (.bool false)) w
    rw [← HPO.out]
    exact ⟨rfl, Below.refl _ _⟩
  have d1 : decide (s.size ≤ 32) = true := decide_eq_true h1
  have d2 : decide ((s.size : Int) ≤ 32) = true := decide_eq_true (by omega)
  obtain ⟨c, hbc⟩ : ∃ c, bt s 0 = c := ⟨_, rfl⟩
  have hx6 : ((s[0]'hp).toNat : Int) = c := by have := bt_at s 0 (by simpa using hp); rw [← hbc]; simpa using this
  have q6 : ((0 : Int) < (s.size : Int)) = True := eq_true (by omega)
  obtain ⟨b0, b1⟩ := bt_range s 0
  rw [hbc] at b0 b1
  have hl := letter_calls b0 b1 w
  cases hb : letterB c with
  | false =>
    have e0 : nameB s = false := by unfold nameB; rw [hbc, hb]; simp
    rw [e0] at HPO
    rw [hb] at hl
    have HL := Aside0.mk hl
    clear htab hs h0 h1 e0 hb hl hbc b0 b1
    go_enter Tryd.func10, Tryd.ntmps10
    go_wp2_with fail
    refine HL.out.mono ?_
    rintro e w' ⟨rfl, rfl⟩
    go_wp2
    show post (.returned (.bool false)) w
    rw [← HPO.out]
    exact ⟨rfl, Below.refl _ _⟩
  | true =>
    rw [hb] at hl
    have HL := Aside0.mk hl
    have hspan := span_calls 22 namedB (fun c w h0 h1 => named_calls h0 h1 w) (enters_of Tryd.func22 (by kernel_rfl) rfl) s hs w
    have hle := spn_le namedB s s.size 0
    obtain ⟨m, hm⟩ : ∃ m, spn namedB s s.size 0 = m := ⟨_, rfl⟩
    rw [hm] at hspan hle
    have HS := Aside0.mk hspan
    have hms : m ≤ 140737488355328 := by omega
    by_cases h2 : m = s.size
    case neg =>
      have e0 : nameB s = false := by unfold nameB; rw [hm, decide_eq_false h2]; simp
      rw [e0] at HPO
      have d3 : ((m : Int) == (s.size : Int)) = false := by
        rw [beq_eq_false_iff_ne]
        omega
      have d4 : decide (m = s.size) = false := decide_eq_false h2
      have d5 : (m == s.size) = false := by simpa using h2
      clear htab hs h0 h1 e0 hb hl hbc b0 b1 hspan hle hm
      go_enter Tryd.func10, Tryd.ntmps10
      go_wp2_with fail
      refine HL.out.mono ?_
      rintro e w' ⟨rfl, rfl⟩
      go_wp2_with fail
      refine HS.out.mono ?_
      rintro e w' ⟨rfl, rfl⟩
      go_wp2
      show post (.returned (.bool false)) w
      rw [← HPO.out]
      exact ⟨rfl, Below.refl _ _⟩
    have e0 : nameB s = !wordB s := by unfold nameB; rw [hm, hbc, hb, decide_eq_true h2, d1, decide_eq_true hp]; simp
    rw [e0] at HPO
    subst h2
    have hw := word_calls s (by unfold maxLen; omega) w htab
    obtain ⟨b, hwb⟩ : ∃ b, wordB s = b := ⟨_, rfl⟩
    rw [hwb] at hw HPO
    have HW := Aside0.mk hw
    clear htab hs h0 h1 e0 hb hl hbc b0 b1 hspan hle hm hw hwb
    go_enter Tryd.func10, Tryd.ntmps10
    go_wp2_with fail
    refine HL.out.mono ?_
    rintro e w' ⟨rfl, rfl⟩
    go_wp2_with fail
    refine HS.out.mono ?_
    rintro e w' ⟨rfl, rfl⟩
    go_wp2_with fail
    refine HW.out.mono ?_
    rintro e w' ⟨rfl, hbw⟩
    have HBW := Aside0.mk hbw
    clear hbw
    go_wp2
    show post (.returned (.bool (!b))) w'
    rw [← HPO.out]
    exact ⟨rfl, HBW.out⟩
def lnM (s : ByteArray) (a : Int) : Nat := (min (max a 0) (s.size : Int)).toNat
def lnA (s : ByteArray) (a : Int) : Int := wrap64 (1 + (Lib.countByte (List.take (lnM s a) s.data.toList) 10 : Nat))
def lnC (s : ByteArray) (a : Int) : Int := wrap64 ((min (lnM s a) s.size : Nat) - Lib.lastIndexByte (s.extract 0 (lnM s a)) 10)
def LinePost (s : ByteArray) (a : Int) (w : World) (e : Ending) (w' : World) : Prop := e = .returned (.tuple #[.int .i64 (lnA s a), .int .i64 (lnC s a)]) ∧ w = w'
set_option maxHeartbeats 4000000 in
theorem lines_calls (s : ByteArray) (a : Int) (hs : s.size ≤ 140737488355328) (ha : -9223372036854775808 ≤ a ∧ a ≤ 9223372036854775807) (w : World) : Calls Tryd.prog 6 #[.string s, .int .i64 a] w (LinePost s a w) := by
  obtain ⟨post, hpost⟩ : ∃ p, LinePost s a w = p := ⟨_, rfl⟩
  rw [hpost]
  have HPO := Aside0.mk hpost
  clear hpost
  go_enter Tryd.func6, Tryd.ntmps6
  go_wp2_with fail
  refine (Tryd.strings_Count_one _ 10 _).mono ?_
  rintro e w' ⟨rfl, rfl⟩
  go_wp2_with fail
  refine (Tryd.strings_LastIndexByte _ 10 ?_ _).mono ?_
  · have : (s.extract 0 (min (max a 0) (s.size : Int)).toNat).size ≤ s.size := by
      simp only [ByteArray.size_extract]
      omega
    omega
  rintro e w' ⟨rfl, rfl⟩
  go_wp2
  show post (.returned (.tuple #[.int .i64 (lnA s a), .int .i64 (lnC s a)])) w'
  rw [← HPO.out]
  exact ⟨rfl, rfl⟩
end Go.Proofs.YtpgdmghhbbekjaaDoor.L
end
section
namespace Go.Proofs.YtpgdmghhbbekjaaDoorW.PrintWords
theorem Reps.one {α : Type} {R : α → List Value → Prop} {ps : List α} {cs : List Value} {p : α} {v : Value} (hp : R p [v]) (h : Reps R 1 ps cs) : Reps R 1 (p :: ps) (v :: cs) := by
  refine ⟨by simp [h.1], fun j q hq => ?_⟩
  cases j with
  | zero =>
    simp only [List.getElem?_cons_zero, Option.some.injEq] at hq
    subst hq
    simpa using hp
  | succ j =>
    simp only [List.getElem?_cons_succ] at hq
    have h1 := h.2 j q hq
    simpa [Nat.mul_one] using h1
theorem Reps.front {α : Type} {R : α → List Value → Prop} {size : Nat} {ps : List α} {cs c all : List Value} {p : α} (hp : R p c) (hc : c.length = size) (h : Reps R size ps cs) (ha : c ++ cs = all) : Reps R size (p :: ps) all := by
  subst ha
  refine ⟨by rw [List.length_append, hc, h.1, List.length_cons, Nat.succ_mul, Nat.add_comm], fun j q hq => ?_⟩
  cases j with
  | zero =>
    simp only [List.getElem?_cons_zero, Option.some.injEq] at hq
    subst hq
    rw [Nat.zero_mul, List.drop_zero, List.take_append_of_le_length (by omega), List.take_of_length_le (by omega)]
    exact hp
  | succ j =>
    simp only [List.getElem?_cons_succ] at hq
    have h1 := h.2 j q hq
    rw [Nat.succ_mul, List.drop_append, List.drop_of_length_le (by rw [hc]; exact Nat.le_add_left _ _), List.nil_append, hc, Nat.add_sub_cancel]
    exact h1
theorem Reps.c2 {α : Type} {R : α → List Value → Prop} {ps : List α} {cs : List Value} {p : α} {va vb : Value} (hp : R p [va, vb]) (h : Reps R 2 ps cs) : Reps R 2 (p :: ps) (va :: vb :: cs) := Reps.front hp rfl h rfl
theorem Reps.c3 {α : Type} {R : α → List Value → Prop} {ps : List α} {cs : List Value} {p : α} {va vb vc : Value} (hp : R p [va, vb, vc]) (h : Reps R 3 ps cs) : Reps R 3 (p :: ps) (va :: vb :: vc :: cs) := Reps.front hp rfl h rfl
theorem Reps.c4 {α : Type} {R : α → List Value → Prop} {ps : List α} {cs : List Value} {p : α} {va vb vc vd : Value} (hp : R p [va, vb, vc, vd]) (h : Reps R 4 ps cs) : Reps R 4 (p :: ps) (va :: vb :: vc :: vd :: cs) := Reps.front hp rfl h rfl
theorem Reps.c5 {α : Type} {R : α → List Value → Prop} {ps : List α} {cs : List Value} {p : α} {va vb vc vd ve : Value} (hp : R p [va, vb, vc, vd, ve]) (h : Reps R 5 ps cs) : Reps R 5 (p :: ps) (va :: vb :: vc :: vd :: ve :: cs) := Reps.front hp rfl h rfl
theorem Reps.c6 {α : Type} {R : α → List Value → Prop} {ps : List α} {cs : List Value} {p : α} {va vb vc vd ve vf : Value} (hp : R p [va, vb, vc, vd, ve, vf]) (h : Reps R 6 ps cs) : Reps R 6 (p :: ps) (va :: vb :: vc :: vd :: ve :: vf :: cs) := Reps.front hp rfl h rfl
theorem Reps.c7 {α : Type} {R : α → List Value → Prop} {ps : List α} {cs : List Value} {p : α} {va vb vc vd ve vf vg : Value} (hp : R p [va, vb, vc, vd, ve, vf, vg]) (h : Reps R 7 ps cs) : Reps R 7 (p :: ps) (va :: vb :: vc :: vd :: ve :: vf :: vg :: cs) := Reps.front hp rfl h rfl
theorem Reps.c8 {α : Type} {R : α → List Value → Prop} {ps : List α} {cs : List Value} {p : α} {va vb vc vd ve vf vg vh : Value} (hp : R p [va, vb, vc, vd, ve, vf, vg, vh]) (h : Reps R 8 ps cs) : Reps R 8 (p :: ps) (va :: vb :: vc :: vd :: ve :: vf :: vg :: vh :: cs) := Reps.front hp rfl h rfl
theorem Reps.c9 {α : Type} {R : α → List Value → Prop} {ps : List α} {cs : List Value} {p : α} {va vb vc vd ve vf vg vh vi : Value} (hp : R p [va, vb, vc, vd, ve, vf, vg, vh, vi]) (h : Reps R 9 ps cs) : Reps R 9 (p :: ps) (va :: vb :: vc :: vd :: ve :: vf :: vg :: vh :: vi :: cs) := Reps.front hp rfl h rfl
end Go.Proofs.YtpgdmghhbbekjaaDoorW.PrintWords
end
section
namespace Go.Proofs.YtpgdmghhbbekjaaDoor.H
open Go.RowKit Go.Proofs.YtpgdmghhbbekjaaDoorW.PrintWords Go.Proofs.YtpgdmghhbbekjaaDoorW.PrintLast Go.Proofs.YtpgdmghhbbekjaaDoorW.PrintMore
attribute [local go_sem] max2_int min2_int max_two min_two max_three min_three max_four min_four   -- for this text's walks alone
set_option linter.unusedVariables false
set_option linter.unusedSimpArgs false
def errW : Option Int → Value
  | none => .nilIface
  | some c => .iface 88 (.int .i64 c)
theorem errW_none : errW none = .nilIface := rfl
theorem errW_some (c : Int) : errW (some c) = .iface 88 (.int .i64 c) := rfl
end Go.Proofs.YtpgdmghhbbekjaaDoor.H
end
section
namespace Go.Proofs.YtpgdmghhbbekjaaDoor.H
open Go.RowKit Go.Proofs.YtpgdmghhbbekjaaDoorW.PrintWords Go.Proofs.YtpgdmghhbbekjaaDoorW.PrintLast Go.Proofs.YtpgdmghhbbekjaaDoorW.PrintMore
attribute [local go_sem] max2_int min2_int max_two min_two max_three min_three max_four min_four   -- for this text's walks alone
set_option linter.unusedVariables false
set_option linter.unusedSimpArgs false
mutual
def carillonref03_Line.l0 : Nat → ByteArray → Int → Int → Int → Int → Option (Int × Int)
  | 0, _, _, _, _, _ => none
  | k + 1, x0, x1, x6, x7, x8 => if x8 < (x0.size : Int) then (carillonref03_Line.j1 k x0 x1 x6 x7 x8 (decide (x8 < x1))) else (carillonref03_Line.j1 k x0 x1 x6 x7 x8 false)
def carillonref03_Line.j1 : Nat → ByteArray → Int → Int → Int → Int → Bool → Option (Int × Int)
  | 0, _, _, _, _, _, _ => none
  | k + 1, x0, x1, x6, x7, x8, x17 => if x17 = true then (if 0 ≤ x8 then (if x8 < (x0.size : Int) then (if (bt x0 x8) = 10 then (carillonref03_Line.l0 k x0 x1 (wrap64 (x6 + 1)) 1 (wrap64 (x8 + 1))) else (carillonref03_Line.l0 k x0 x1 x6 (wrap64 (x7 + 1)) (wrap64 (x8 + 1)))) else (none)) else (none)) else (some (x6, x7))
end
def carillonref03_Line.f (k : Nat) (a0 : ByteArray) (a1 : Int) : Option (Int × Int) := carillonref03_Line.l0 k a0 a1 1 1 0
theorem carillonref03_Line.mono_l : ∀ k, (∀ y0 y1 y2 y3 y4, LeO (carillonref03_Line.l0 k y0 y1 y2 y3 y4) (carillonref03_Line.l0 (k + 1) y0 y1 y2 y3 y4)) ∧ (∀ y0 y1 y2 y3 y4 y5, LeO (carillonref03_Line.j1 k y0 y1 y2 y3 y4 y5) (carillonref03_Line.j1 (k + 1) y0 y1 y2 y3 y4 y5))
  | 0 => ⟨fun _ _ _ _ _ r h => by simp [carillonref03_Line.l0] at h, fun _ _ _ _ _ _ r h => by simp [carillonref03_Line.j1] at h⟩
  | k + 1 => by
    obtain ⟨ih0, ih1⟩ := carillonref03_Line.mono_l k
    refine ⟨?_, ?_⟩
    · intro y0 y1 y2 y3 y4
      unfold carillonref03_Line.l0
      repeat' first
      | (with_reducible exact ih0 _ _ _ _ _)
      | (with_reducible exact ih1 _ _ _ _ _ _)
      | (with_reducible exact LeO.refl _)
      | (with_reducible exact LeO.none _)
      | (with_reducible refine LeO.ite ?_ ?_)
      | (with_reducible refine LeO.bind ?_ (fun _ => ?_))
      | exact ih0 _ _ _ _ _
      | exact ih1 _ _ _ _ _ _
      | exact LeO.none _
      | refine LeO.ite ?_ ?_
      | refine LeO.bind ?_ (fun _ => ?_)
    · intro y0 y1 y2 y3 y4 y5
      unfold carillonref03_Line.j1
      repeat' first
      | (with_reducible exact ih0 _ _ _ _ _)
      | (with_reducible exact ih1 _ _ _ _ _ _)
      | (with_reducible exact LeO.refl _)
      | (with_reducible exact LeO.none _)
      | (with_reducible refine LeO.ite ?_ ?_)
      | (with_reducible refine LeO.bind ?_ (fun _ => ?_))
      | exact ih0 _ _ _ _ _
      | exact ih1 _ _ _ _ _ _
      | exact LeO.none _
      | refine LeO.ite ?_ ?_
      | refine LeO.bind ?_ (fun _ => ?_)
theorem carillonref03_Line.mono : ∀ a0 a1 k, LeO (carillonref03_Line.f k a0 a1) (carillonref03_Line.f (k + 1) a0 a1) := by
  intro a0 a1 k
  obtain ⟨ih0, ih1⟩ := carillonref03_Line.mono_l k
  unfold carillonref03_Line.f
  repeat' first
      | (with_reducible exact ih0 _ _ _ _ _)
      | (with_reducible exact ih1 _ _ _ _ _ _)
      | (with_reducible exact LeO.refl _)
      | (with_reducible exact LeO.none _)
      | (with_reducible refine LeO.ite ?_ ?_)
      | (with_reducible refine LeO.bind ?_ (fun _ => ?_))
      | exact ih0 _ _ _ _ _
      | exact ih1 _ _ _ _ _ _
      | exact LeO.none _
      | refine LeO.ite ?_ ?_
      | refine LeO.bind ?_ (fun _ => ?_)
set_option maxHeartbeats 8000000 in
set_option maxRecDepth 100000 in
theorem carillonref03_Line.calls (k : Nat) (a0 : ByteArray) (a1 : Int) (r1 : Int) (r2 : Int) (w : World) (h : carillonref03_Line.f k a0 a1 = some (r1, r2)) :
    Calls Tryd.prog 7 #[.string a0, .int .i64 a1] w fun e w' => e = .returned (.tuple #[.int .i64 r1, .int .i64 r2]) ∧ Drawn0 w w' := by
  have H : (carillonref03_Line.l0 k a0 a1 1 1 0) = some (r1, r2) := h
  clear h
  have H' := Aside0.mk H
  clear H
  go_enter Tryd.func7, Tryd.ntmps7
  go_wp2
  go_loopg [6, 7, 8] k (fun kq v6 v7 v8 w' => ∃ (x6_1 : Int) (x7_1 : Int) (x8_1 : Int), v6 = .int .i64 x6_1 ∧ v7 = .int .i64 x7_1 ∧ v8 = .int .i64 x8_1 ∧ Aside0 (carillonref03_Line.l0 kq a0 a1 x6_1 x7_1 x8_1 = some (r1, r2)) ∧ Aside0 (kq ≤ k) ∧ Drawn0 w w')
  case atStart => exact ⟨(1), (1), (0), (by first | rfl | (simp; done) | (simp [*]; done)), (by first | rfl | (simp; done) | (simp [*]; done)), (by first | rfl | (simp; done) | (simp [*]; done)), H', ⟨Nat.le_refl _⟩, by repeat (first | exact Drawn0.refl _ | apply Drawn0.step)⟩
  case round =>
    clear H'
    try clear p2
    obtain ⟨x6_1, x7_1, x8_1, rfl, rfl, rfl, HA, HK1, ⟨m1, rfl⟩⟩ := hrel
    cases gk with
    | zero => exact absurd HA.out (by simp [carillonref03_Line.l0])
    | succ k1 =>
      have H := HA.out
      clear HA
      simp only [carillonref03_Line.l0] at H
      have HC3 := Aside0.mk H
      clear H
      go_upto_region 4 with (fail)
      go_cut [17] (fun v17 wc => ∃ (kq : Nat) (x17_2 : Bool), v17 = .bool x17_2 ∧ Aside0 (carillonref03_Line.j1 kq a0 a1 x6_1 x7_1 x8_1 x17_2 = some (r1, r2)) ∧ Aside0 (kq ≤ k1) ∧ Drawn0 w wc)
      case first =>
        have H := HC3.out
        clear HC3
        by_cases c4 : x8_1 < (a0.size : Int)
        · rw [if_pos c4] at H
          have c4b0 : decide (x8_1 < (a0.size : Int)) = true := decide_eq_true c4
          clear c4
          (first | rw [c4b0] | (simp only [i64_w, i32_w]; rw [c4b0]) | skip)
          have H' := Aside0.mk H
          clear H
          go_wp2
          go_meet
          case rel => exact ⟨_, (decide (x8_1 < a1)), (by first | rfl | (simp; done) | (simp [*]; done)), H', ⟨by have := HK1.out; first | omega | exact Nat.le_refl _⟩, by repeat (first | exact Drawn0.refl _ | apply Drawn0.step)⟩
        · rw [if_neg c4] at H
          have c4b0 : decide (x8_1 < (a0.size : Int)) = false := decide_eq_false c4
          clear c4
          (first | rw [c4b0] | (simp only [i64_w, i32_w]; rw [c4b0]) | skip)
          have H' := Aside0.mk H
          clear H
          go_wp2
          go_meet
          case rel => exact ⟨_, (false), (by first | rfl | (simp; done) | (simp [*]; done)), H', ⟨by have := HK1.out; first | omega | exact Nat.le_refl _⟩, by repeat (first | exact Drawn0.refl _ | apply Drawn0.step)⟩
      case rest =>
        clear HC3
        try clear p2
        try clear c4
        try clear c4b0
        try clear p2
        obtain ⟨kq, x17_2, rfl, HA, HJ2, ⟨mc2, rfl⟩⟩ := hcut
        cases kq with
        | zero => exact absurd HA.out (by simp [carillonref03_Line.j1])
        | succ kj2 =>
          have H := HA.out
          clear HA
          simp only [carillonref03_Line.j1] at H
          by_cases c5 : x17_2 = true
          · subst c5
            have H1 : (if 0 ≤ x8_1 then (if x8_1 < (a0.size : Int) then (if (bt a0 x8_1) = 10 then (carillonref03_Line.l0 kj2 a0 a1 (wrap64 (x6_1 + 1)) 1 (wrap64 (x8_1 + 1))) else (carillonref03_Line.l0 kj2 a0 a1 x6_1 (wrap64 (x7_1 + 1)) (wrap64 (x8_1 + 1)))) else (none)) else (none)) = some (r1, r2) := by rw [if_pos rfl] at H; exact H
            clear H
            have H := H1
            clear H1
            by_cases c6 : 0 ≤ x8_1
            · rw [if_pos c6] at H
              have c6b0 : decide (0 ≤ x8_1) = true := decide_eq_true c6
              clear c6
              by_cases c7 : x8_1 < (a0.size : Int)
              · rw [if_pos c7] at H
                have c7b0 : decide (x8_1 < (a0.size : Int)) = true := decide_eq_true c7
                clear c7
                by_cases c9 : (bt a0 x8_1) = 10
                · rw [if_pos c9] at H
                  have c9b0 : ((bt a0 x8_1) == 10) = true := beq_iff_eq.mpr c9
                  have c9b1 : ((bt a0 x8_1) != 10) = false := bne_eq_false_iff_eq.mpr c9
                  clear c9
                  have H' := Aside0.mk H
                  clear H
                  have p8 : 0 ≤ (x8_1 : Int) := of_decide_eq_true (by first | (with_reducible assumption) | assumption)
                  have q8 : x8_1 < (a0.size : Int) := of_decide_eq_true (by first | (with_reducible assumption) | assumption)
                  have hx8 := bt_at a0 x8_1
                  replace p8 := eq_true p8
                  replace q8 := eq_true q8
                  go_wp2
                  go_roundg kj2
                  case measure => have := HK1.out; have := HJ2.out; omega
                  case rel => exact ⟨(wrap64 (x6_1 + 1)), (1), (wrap64 (x8_1 + 1)), (by first | rfl | (simp; done) | (simp [*]; done)), (by first | rfl | (simp; done) | (simp [*]; done)), (by first | rfl | (simp; done) | (simp [*]; done)), H', ⟨by have := HK1.out; have := HJ2.out; omega⟩, by repeat (first | exact Drawn0.refl _ | apply Drawn0.step)⟩
                · rw [if_neg c9] at H
                  have c9b0 : ((bt a0 x8_1) == 10) = false := beq_eq_false_iff_ne.mpr c9
                  have c9b1 : ((bt a0 x8_1) != 10) = true := bne_iff_ne.mpr c9
                  have H' := Aside0.mk H
                  clear H
                  have p8 : 0 ≤ (x8_1 : Int) := of_decide_eq_true (by first | (with_reducible assumption) | assumption)
                  have q8 : x8_1 < (a0.size : Int) := of_decide_eq_true (by first | (with_reducible assumption) | assumption)
                  have hx8 := bt_at a0 x8_1
                  replace p8 := eq_true p8
                  replace q8 := eq_true q8
                  go_wp2
                  go_roundg kj2
                  case measure => have := HK1.out; have := HJ2.out; omega
                  case rel => exact ⟨(x6_1), (wrap64 (x7_1 + 1)), (wrap64 (x8_1 + 1)), (by first | rfl | (simp; done) | (simp [*]; done)), (by first | rfl | (simp; done) | (simp [*]; done)), (by first | rfl | (simp; done) | (simp [*]; done)), H', ⟨by have := HK1.out; have := HJ2.out; omega⟩, by repeat (first | exact Drawn0.refl _ | apply Drawn0.step)⟩
              · rw [if_neg c7] at H
                exact absurd H (by simp)
            · rw [if_neg c6] at H
              exact absurd H (by simp)
          · replace c5 := Bool.eq_false_iff.mpr c5
            subst c5
            have H1 : (some (x6_1, x7_1)) = some (r1, r2) := by rw [if_neg (show ¬ (false = true) by decide)] at H; exact H
            clear H
            have H := H1
            clear H1
            simp only [Option.some.injEq, Prod.mk.injEq] at H
            obtain ⟨rfl, rfl⟩ := H
            go_wp2
            go_ret2
            exact ⟨by first | rfl | (simp; done) | (simp [*]; done), by repeat (first | exact Drawn0.refl _ | apply Drawn0.step)⟩
end Go.Proofs.YtpgdmghhbbekjaaDoor.H
end
section
namespace Go.Proofs.YtpgdmghhbbekjaaDoor.H
open Go.RowKit Go.Proofs.YtpgdmghhbbekjaaDoorW.PrintWords Go.Proofs.YtpgdmghhbbekjaaDoorW.PrintLast Go.Proofs.YtpgdmghhbbekjaaDoorW.PrintMore
attribute [local go_sem] max2_int min2_int max_two min_two max_three min_three max_four min_four   -- for this text's walks alone
set_option linter.unusedVariables false
set_option linter.unusedSimpArgs false
def carillonref03_in.l0 : Nat → List ByteArray → ByteArray → Int → Option (Bool)
  | 0, _, _, _ => none
  | k + 1, x0, x1, x5 => if x5 < (x0.length : Int) then (if 0 ≤ x5 then (if (rdOf ByteArray.empty x0 x5).toList = x1.toList then (some true) else (carillonref03_in.l0 k x0 x1 (wrap64 (x5 + 1)))) else (none)) else (some false)
def carillonref03_in.f (k : Nat) (l0 : List ByteArray) (a1 : ByteArray) : Option (Bool) := carillonref03_in.l0 k l0 a1 0
theorem carillonref03_in.mono_l : ∀ k, (∀ y0 y1 y2, LeO (carillonref03_in.l0 k y0 y1 y2) (carillonref03_in.l0 (k + 1) y0 y1 y2))
  | 0 => fun _ _ _ r h => by simp [carillonref03_in.l0] at h
  | k + 1 => by
    have ih0 := carillonref03_in.mono_l k
    · intro y0 y1 y2
      unfold carillonref03_in.l0
      repeat' first
      | (with_reducible exact ih0 _ _ _)
      | (with_reducible exact LeO.refl _)
      | (with_reducible exact LeO.none _)
      | (with_reducible refine LeO.ite ?_ ?_)
      | (with_reducible refine LeO.bind ?_ (fun _ => ?_))
      | exact ih0 _ _ _
      | exact LeO.none _
      | refine LeO.ite ?_ ?_
      | refine LeO.bind ?_ (fun _ => ?_)
theorem carillonref03_in.mono : ∀ a0 a1 k, LeO (carillonref03_in.f k a0 a1) (carillonref03_in.f (k + 1) a0 a1) := by
  intro a0 a1 k
  have ih0 := carillonref03_in.mono_l k
  unfold carillonref03_in.f
  repeat' first
      | (with_reducible exact ih0 _ _ _)
      | (with_reducible exact LeO.refl _)
      | (with_reducible exact LeO.none _)
      | (with_reducible refine LeO.ite ?_ ?_)
      | (with_reducible refine LeO.bind ?_ (fun _ => ?_))
      | exact ih0 _ _ _
      | exact LeO.none _
      | refine LeO.ite ?_ ?_
      | refine LeO.bind ?_ (fun _ => ?_)
set_option maxHeartbeats 8000000 in
set_option maxRecDepth 100000 in
theorem carillonref03_in.calls (k : Nat) (A0 : Option Addr) (c0 : Nat) (l0 : List ByteArray) (a1 : ByteArray) (r : Bool) (w : World) (hr0 : Kd.C Kd.string w A0 l0.length l0) (hc0 : l0.length ≤ c0) (h : carillonref03_in.f k l0 a1 = some r) :
    Calls Tryd.prog 18 #[.slice A0 l0.length c0, .string a1] w fun e w' => e = .returned (.bool r) ∧ Drawn0 w w' := by
  have HR0 := Aside0.mk hr0
  have HC0 := Aside0.mk hc0
  clear hr0 hc0
  have H : (carillonref03_in.l0 k l0 a1 0) = some r := h
  clear h
  have H' := Aside0.mk H
  clear H
  go_enter Tryd.func18, Tryd.ntmps18
  go_wp2
  go_loopg [5] k (fun kq v5 w' => ∃ (x5_1 : Int), v5 = .int .i64 x5_1 ∧ Aside0 (carillonref03_in.l0 kq l0 a1 x5_1 = some r) ∧ Aside0 (kq ≤ k) ∧ Drawn0 w w')
  case atStart => exact ⟨(0), (by first | rfl | (simp; done) | (simp [*]; done)), H', ⟨Nat.le_refl _⟩, by repeat (first | exact Drawn0.refl _ | apply Drawn0.step)⟩
  case round =>
    clear H'
    try clear c1
    try clear p2
    obtain ⟨x5_1, rfl, HA, HK1, ⟨m1, rfl⟩⟩ := hrel
    cases gk with
    | zero => exact absurd HA.out (by simp [carillonref03_in.l0])
    | succ k1 =>
      have H := HA.out
      clear HA
      simp only [carillonref03_in.l0] at H
      by_cases c3 : x5_1 < (l0.length : Int)
      · rw [if_pos c3] at H
        have c3b0 : decide (x5_1 < (l0.length : Int)) = true := decide_eq_true c3
        clear c3
        by_cases c4 : 0 ≤ x5_1
        · rw [if_pos c4] at H
          have c4b0 : decide (0 ≤ x5_1) = true := decide_eq_true c4
          clear c4
          by_cases c5 : (rdOf ByteArray.empty l0 x5_1).toList = a1.toList
          · rw [if_pos c5] at H
            have c5b0 : ((rdOf ByteArray.empty l0 x5_1).toList == a1.toList) = true := beq_iff_eq.mpr c5
            have c5b1 : ((rdOf ByteArray.empty l0 x5_1).toList != a1.toList) = false := bne_eq_false_iff_eq.mpr c5
            clear c5
            obtain rfl := Option.some.inj H
            have p150 : 0 ≤ (x5_1 : Int) := of_decide_eq_true (by first | (with_reducible assumption) | assumption)
            have q150 : x5_1 < (l0.length : Int) := of_decide_eq_true (by first | (with_reducible assumption) | assumption)
            obtain ⟨ad150, e150, hx150_0⟩ := Kd.at_string HR0.out x5_1 p150 q150
            cases e150
            replace p150 := eq_true p150
            replace q150 := eq_true q150
            go_wp2
            go_ret
            exact ⟨by first | rfl | (simp; done) | (simp [*]; done), by repeat (first | exact Drawn0.refl _ | apply Drawn0.step)⟩
          · rw [if_neg c5] at H
            have c5b0 : ((rdOf ByteArray.empty l0 x5_1).toList == a1.toList) = false := beq_eq_false_iff_ne.mpr c5
            have c5b1 : ((rdOf ByteArray.empty l0 x5_1).toList != a1.toList) = true := bne_iff_ne.mpr c5
            have H' := Aside0.mk H
            clear H
            have p150 : 0 ≤ (x5_1 : Int) := of_decide_eq_true (by first | (with_reducible assumption) | assumption)
            have q150 : x5_1 < (l0.length : Int) := of_decide_eq_true (by first | (with_reducible assumption) | assumption)
            obtain ⟨ad150, e150, hx150_0⟩ := Kd.at_string HR0.out x5_1 p150 q150
            cases e150
            replace p150 := eq_true p150
            replace q150 := eq_true q150
            go_wp2
            go_roundg k1
            case measure => have := HK1.out; omega
            case rel => exact ⟨(wrap64 (x5_1 + 1)), (by first | rfl | (simp; done) | (simp [*]; done)), H', ⟨by have := HK1.out; omega⟩, by repeat (first | exact Drawn0.refl _ | apply Drawn0.step)⟩
        · rw [if_neg c4] at H
          exact absurd H (by simp)
      · rw [if_neg c3] at H
        have c3b0 : decide (x5_1 < (l0.length : Int)) = false := decide_eq_false c3
        clear c3
        obtain rfl := Option.some.inj H
        go_wp2
        go_ret
        exact ⟨by first | rfl | (simp; done) | (simp [*]; done), by repeat (first | exact Drawn0.refl _ | apply Drawn0.step)⟩
end Go.Proofs.YtpgdmghhbbekjaaDoor.H
end
