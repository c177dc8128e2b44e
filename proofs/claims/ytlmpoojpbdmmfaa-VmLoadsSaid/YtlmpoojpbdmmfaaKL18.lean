/- Part 18 of the proof of the law L. The conditions: none. (Its parts: Sref19 Hx6 P18.) -/
import Derived.Laws.MakeOwn
import Derived.Test.YtlmpoojpbdmmfaaKL02
import Derived.Test.YtlmpoojpbdmmfaaKL03
import Derived.Test.YtlmpoojpbdmmfaaKL15
import Derived.Test.YtlmpoojpbdmmfaaKL16
import Derived.Test.YtlmpoojpbdmmfaaKL17
section
set_option linter.unusedVariables false
set_option linter.unusedSimpArgs false
namespace Go.Proofs.Ytlmpoojpbdmmfaa.H
open Go.RowKit Go.Proofs.YtlmpoojpbdmmfaaW.PrintWords Go.Proofs.YtlmpoojpbdmmfaaW.PrintLast Go.Proofs.YtlmpoojpbdmmfaaW.PrintMore
def andB (a b : List Bool) : List Bool := List.zipWith (· && ·) a b
def mixB (a b : List Bool) (i : Nat) : List Bool := (andB a b).take i ++ a.drop i
theorem mixB_zero (a b : List Bool) : mixB a b 0 = a := by simp [mixB]
theorem mixB_length {a b : List Bool} (h : a.length = b.length) {i : Nat} (hi : i ≤ a.length) : (mixB a b i).length = a.length := by simp [mixB, andB, h]; omega
theorem mixB_all {a b : List Bool} (h : a.length = b.length) : mixB a b a.length = andB a b := by
  have : (andB a b).length = a.length := by simp [andB, h]
  rw [mixB, List.take_of_length_le (by omega), List.drop_length, List.append_nil]
theorem mixB_getD {a b : List Bool} (h : a.length = b.length) {i : Nat} (hi : i < a.length) : (mixB a b i).getD i false = a.getD i false := by
  have : (List.take i (andB a b)).length = i := by simp [andB, h]; omega
  simp [mixB, List.getD_eq_getElem?_getD, List.getElem?_append, this]
theorem mixB_succ {a b : List Bool} (h : a.length = b.length) {i : Nat} (hi : i < a.length) : (mixB a b i).set i (a.getD i false && b.getD i false) = mixB a b (i + 1) := by
  have hl : (List.take i (andB a b)).length = i := by simp [andB, h]; omega
  have hb : i < b.length := by omega
  have hz : (andB a b)[i]? = some (a.getD i false && b.getD i false) := by simp [andB, List.getElem?_zipWith, hi, hb, List.getD_eq_getElem?_getD]
  unfold mixB
  rw [List.set_append, if_neg (by omega), hl, Nat.sub_self, List.drop_eq_getElem_cons hi, List.set_cons_zero, List.take_add_one, hz]
  simp
def mixR (t s : Rst) (i : Nat) : Rst := { t with has := mixB t.has s.has i }
def meetR (t s : Rst) : Rst := { t with has := andB t.has s.has }
theorem mixR_zero (t s : Rst) : mixR t s 0 = t := by simp [mixR, mixB_zero]
theorem mixR_all {t s : Rst} (ht : OKR t) (hs : OKR s) : mixR t s 512 = meetR t s := by
  have := mixB_all (a := t.has) (b := s.has) (by rw [ht.l1, hs.l1])
  rw [ht.l1] at this
  simp [mixR, meetR, this]
theorem mixR_ok {t s : Rst} (ht : OKR t) (hs : OKR s) {i : Nat} (hi : i ≤ 512) : OKR (mixR t s i) := ⟨by simp only [mixR]; rw [mixB_length (by rw [ht.l1, hs.l1]) (by rw [ht.l1]; exact hi)]; exact ht.l1, ht.l2⟩
theorem meetR_ok {t s : Rst} (ht : OKR t) (hs : OKR s) : OKR (meetR t s) := by rw [← mixR_all ht hs]; exact mixR_ok ht hs (Nat.le_refl _)
def folI (l : List S53) (k : Nat) : List Int :=
  if (rd_T53 l k).f0 = 23 then [] else if (rd_T53 l k).f0 = 21 then [k + (rd_T53 l k).f1] else if (rd_T53 l k).f0 = 22 then [(k : Int) + 1, k + (rd_T53 l k).f1] else [(k : Int) + 1]
theorem follows_folI {l : List S53} {k : Nat} (hk : k < l.length) (hl : l.length ≤ 4096) (hm : mayB (rd_T53 l k).f0 (rd_T53 l k).f1 = true) : carillonref19_Follows.f l (k : Int) = some (folI l k) := by
  have w1 : wrap64 ((k : Int) + 1) = (k : Int) + 1 := by unfold wrap64; omega
  unfold carillonref19_Follows.f folI
  rw [if_pos (by omega), if_pos (by omega), w1]
  by_cases h23 : (rd_T53 l k).f0 = 23
  · simp [h23]
  by_cases h21 : (rd_T53 l k).f0 = 21
  · have hb : 1 ≤ (rd_T53 l k).f1 ∧ (rd_T53 l k).f1 ≤ 4096 := by simpa [mayB, h21] using hm
    have w2 : wrap64 ((k : Int) + (rd_T53 l k).f1) = (k : Int) + (rd_T53 l k).f1 := by unfold wrap64; omega
    simp [h21, w2]
  by_cases h22 : (rd_T53 l k).f0 = 22
  · have hb : 1 ≤ (rd_T53 l k).f1 ∧ (rd_T53 l k).f1 ≤ 4096 := by simpa [mayB, h22] using hm
    have w2 : wrap64 ((k : Int) + (rd_T53 l k).f1) = (k : Int) + (rd_T53 l k).f1 := by unfold wrap64; omega
    simp [h22, w2]
  simp [h21, h22, h23]
theorem folI_pos {l : List S53} {k : Nat} (hm : mayB (rd_T53 l k).f0 (rd_T53 l k).f1 = true) {x : Int} (hx : x ∈ folI l k) : (k : Int) + 1 ≤ x ∧ x ≤ k + 4096 := by
  unfold folI at hx
  by_cases h23 : (rd_T53 l k).f0 = 23
  · simp [h23] at hx
  by_cases h21 : (rd_T53 l k).f0 = 21
  · have hb : 1 ≤ (rd_T53 l k).f1 ∧ (rd_T53 l k).f1 ≤ 4096 := by simpa [mayB, h21] using hm
    simp [h21] at hx; omega
  by_cases h22 : (rd_T53 l k).f0 = 22
  · have hb : 1 ≤ (rd_T53 l k).f1 ∧ (rd_T53 l k).f1 ≤ 4096 := by simpa [mayB, h22] using hm
    simp [h22] at hx; omega
  simp [h21, h22, h23] at hx; omega
def rput (l : List S53) (k : Nat) (s : Rst) : List Int → Nat → List Rst → Int × List Rst
  | [], _, all => (0, all)
  | x :: r, n, all =>
    if (l.length : Int) ≤ x then (if x = (k : Int) + 1 ∧ n = 0 ∧ (rd_T53 l k).f0 ≠ 21 then 195 else 190, all)
    else if (all.getD x.toNat rst0).kn = false then rput l k s r (n + 1) (all.set x.toNat s)
    else if (all.getD x.toNat rst0).h ≠ s.h then (191, all)
    else if (all.getD x.toNat rst0).wr ≠ s.wr then (193, all)
    else rput l k s r (n + 1) (all.set x.toNat (meetR (all.getD x.toNat rst0) s))
def sgo (l : List S53) (c : Cf) : Nat → Nat → List Rst → Int → Int × Int
  | 0, _, _, high => (high, 0)
  | n + 1, k, all, high =>
    if (all.getD k rst0).kn = false then (0, 194)
    else if (rstep (all.getD k rst0) (rd_T53 l k) c).2 ≠ 0 then (0, (rstep (all.getD k rst0) (rd_T53 l k) c).2)
    else if (rput l k (rstep (all.getD k rst0) (rd_T53 l k) c).1 (folI l k) 0 all).1 ≠ 0 then (0, (rput l k (rstep (all.getD k rst0) (rd_T53 l k) c).1 (folI l k) 0 all).1)
    else sgo l c n (k + 1) (rput l k (rstep (all.getD k rst0) (rd_T53 l k) c).1 (folI l k) 0 all).2 (max high (rstep (all.getD k rst0) (rd_T53 l k) c).1.h)
def all0 (n : Nat) : List Rst := (List.replicate n rst0).set 0 { rst0 with kn := true }
def sref (l : List S53) (c : Cf) : Int × Int :=
  if mayC c.slots c.reads c.writes c.stack = false then (0, 2) else if 4096 < l.length then (0, 4) else if l.length = 0 then (0, 195) else sgo l c l.length 0 (all0 l.length) 0
theorem rstep_h {s : Rst} {i : S53} {c : Cf} (hs : 0 ≤ s.h ∧ s.h ≤ 256) (hc : c.stack ≤ 256) : 0 ≤ (rstep s i c).1.h ∧ (rstep s i c).1.h ≤ 256 := by
  obtain ⟨ht, hg⟩ := tg_range i.f0
  unfold rstep
  split
  · exact hs
  split
  · exact hs
  · rename_i h1 h2
    have e : (rstep2 { s with h := s.h - tks i.f0 + gvs i.f0 } i c).1.h = s.h - tks i.f0 + gvs i.f0 := by
      unfold rstep2
      repeat' split
      all_goals rfl
    rw [e]
    omega
theorem rstep_may {s : Rst} {i : S53} {c : Cf} (h : (rstep s i c).2 = 0) : mayB i.f0 i.f1 = true := by
  unfold rstep at h
  split at h
  · simp at h
  · rename_i h1; simpa using h1
def FL (W : World) (lo hi : Nat) (A : Option Addr) (f : List Int) : Prop := ∀ n x, f[n]? = some x → ∃ ad, A = some ad ∧ lo ≤ ad.block ∧ ad.block < hi ∧ W.cell? (ad.add n) = some (.int .i64 x)
theorem FL.moved {W W' : World} {lo hi : Nat} {A : Option Addr} {f : List Int} (h : FL W lo hi A f) (hm : ∀ b, lo ≤ b → b < hi → W'.heap[b]? = W.heap[b]?) : FL W' lo hi A f := fun n x hx => by
  obtain ⟨ad, e, h1, h2, hc⟩ := h n x hx
  refine ⟨ad, e, h1, h2, ?_⟩
  rw [← hc]
  have hb : (ad.add n).block = ad.block := by unfold Addr.add; split <;> rfl
  unfold World.cell?
  rw [hb, hm _ h1 h2]
theorem FL_of {w W : World} {v : Value} {f : List Int} {base : Nat} (h : Kd.R (Kd.int .i64) 3 W base (fun _ => True) v f) : ∃ A c, v = .slice A f.length c ∧ f.length ≤ c ∧ FL W base W.heap.size A f := by
  have hb := Kd.R_bound h
  obtain ⟨A, c, rfl, hc, hC⟩ := Kd.R_reads h
  refine ⟨A, c, rfl, hc, fun n x hx => ?_⟩
  have hn : n < f.length := (List.getElem?_eq_some_iff.1 hx).1
  obtain ⟨ad, rfl, hcell⟩ := Kd.at_int hC (n : Int) (by omega) (by omega)
  obtain ⟨_, h1, h2, _⟩ := hb.1 ad.block rfl
  refine ⟨ad, rfl, h1, h2, ?_⟩
  have e : rd f (n : Int) = x := by simp [rd, hx]
  rw [e] at hcell
  simpa using hcell
def Fr (pre : (Nat → Value) → List Value) (a : Act) : Prop := ∃ (v : Nat → Value) (us : List Value), us.length = 135 ∧ a.tmps = (pre v ++ us).toArray ∧ a.defers = []
theorem Fr.intro {pre : (Nat → Value) → List Value} {a : Act} (us : List Value) (h0 : us.length = 135) (h1 : a.tmps = (pre (fun j => a.tmps.getD j undef) ++ us).toArray) (h2 : a.defers = []) : Fr pre a := ⟨_, us, h0, h1, h2⟩
set_option maxRecDepth 100000 in
theorem range135 (g : Nat → Value) : (List.range 135).map g = [g 0, g 1, g 2, g 3, g 4, g 5, g 6, g 7, g 8, g 9, g 10, g 11, g 12, g 13, g 14, g 15, g 16, g 17, g 18, g 19, g 20, g 21, g 22, g 23, g 24, g 25, g 26, g 27, g 28, g 29, g 30, g 31, g 32, g 33, g 34, g 35, g 36, g 37, g 38, g 39, g 40, g 41, g 42, g 43, g 44, g 45, g 46, g 47, g 48, g 49, g 50, g 51, g 52, g 53, g 54, g 55, g 56, g 57, g 58, g 59, g 60, g 61, g 62, g 63, g 64, g 65, g 66, g 67, g 68, g 69, g 70, g 71, g 72, g 73, g 74, g 75, g 76, g 77, g 78, g 79, g 80, g 81, g 82, g 83, g 84, g 85, g 86, g 87, g 88, g 89, g 90, g 91, g 92, g 93, g 94, g 95, g 96, g 97, g 98, g 99, g 100, g 101, g 102, g 103, g 104, g 105, g 106, g 107, g 108, g 109, g 110, g 111, g 112, g 113, g 114, g 115, g 116, g 117, g 118, g 119, g 120, g 121, g 122, g 123, g 124, g 125, g 126, g 127, g 128, g 129, g 130, g 131, g 132, g 133, g 134] := rfl
theorem bytes81 : (Try.prog.info? 81).map (fun i => (i.size, i.bytes, i.zero.isSome)) = some (578, 592, true) := by kernel_rfl
theorem rows_made (n : Nat) (w : World) : RowsAt (w.alloc (.cells (madeCells (rca rst0) (n * 578)) 81)) w.heap.size (List.replicate n rst0) := by
  have hsz : (rca rst0).size = 578 := rca_size okr0
  have hcell : ∀ o, o < n * 578 → (w.alloc (.cells (madeCells (rca rst0) (n * 578)) 81)).cell? ⟨w.heap.size, o, none⟩ = some ((rca rst0)[o % 578]!) := fun o ho => by
    unfold World.cell?
    simp only
    rw [heap_alloc_new]
    simp [madeCells, ho, hsz]
  refine ⟨fun k s hk j v hv => ?_, fun j hj => ⟨?_, ?_⟩, fun s hs => ?_⟩
  · have hkn : k < n := by have := (List.getElem?_eq_some_iff.1 hk).1; simpa using this
    have e : s = rst0 := by simpa [List.getElem?_replicate, hkn] using hk.symm
    subst e
    have hj : j < 578 := by have := (List.getElem?_eq_some_iff.1 hv).1; rwa [rcl_length okr0] at this
    have h2 : k * 578 + j < n * 578 := by
      have : (k + 1) * 578 ≤ n * 578 := Nat.mul_le_mul_right _ hkn
      omega
    rw [hcell _ h2]
    have e2 : (k * 578 + j) % 578 = j := by omega
    rw [e2]
    have hl : j < (rca rst0).size := by rw [hsz]; exact hj
    rw [getElem!_pos (rca rst0) j hl]
    have : (rcl rst0)[j]? = some ((rca rst0)[j]) := by simp [rca]
    rw [this] at hv
    exact hv
  · rw [Nat.zero_add, hcell j (by simpa using hj)]; rfl
  · unfold World.frozen?
    simp only
    rw [heap_alloc_new]
    simp
  · rw [List.eq_of_mem_replicate hs]; exact okr0
theorem make55 (n : Nat) (hn : n ≤ 4096) (w : World) : (Instr.makeSlice 55 (.int .i64 (n : Int)) (.int .i64 (n : Int))).run Try.prog w = .ok (.slice (some ⟨w.heap.size, 0, none⟩) n n) (w.alloc (.cells (madeCells (rca rst0) (n * 578)) 81)) := by
  have hb := bytes81
  cases hi : Try.prog.info? 81 with
  | none => simp [hi] at hb
  | some i =>
    simp [hi] at hb
    obtain ⟨h1, h2, h3⟩ := hb
    cases hz : i.zero with
    | none => simp [hz] at h3
    | some z =>
      have hz0 := zero81 w
      have hzz : z = .agg (rca rst0) := by
        simp [zeroValue, typeInfo, hi, hz, Sem.run_bind] at hz0
        exact hz0
      have := run_makeSlice (P := Try.prog) w 55 81 i z (by kernel_rfl) hi hz .i64 .i64 (n : Int) (n : Int) (by omega) (Int.le_refl _) (by rw [h1]; simp; omega) (by rw [h2]; omega) (by omega)
      rw [this, hzz, h1]
      simp [Value.cells]
theorem RowsAt.first {W : World} {ab n : Nat} (H : RowsAt W ab (List.replicate n rst0)) (hn : 0 < n) : RowsAt (W.setCell ⟨ab, 0, none⟩ (.bool true)) ab (all0 n) := by
  have hT := H.t
  rw [List.length_replicate] at hT
  have hsome : ∀ j, j < [Value.bool true].length → (W.cell? ⟨ab, 0 + j, none⟩).isSome = true := fun j hj => by
    have hj0 : j = 0 := by simpa using hj
    subst hj0
    exact (hT 0 (by omega)).1
  have hin := World.cell?_setCells_in ab [Value.bool true] 0 W hsome 0 (by simp)
  have hout : ∀ o, 0 < o → (W.setCell ⟨ab, 0, none⟩ (.bool true)).cell? ⟨ab, o, none⟩ = W.cell? ⟨ab, o, none⟩ := fun o ho =>
    World.cell?_setCells_out ab [Value.bool true] 0 W ⟨ab, o, none⟩ (fun _ _ => .inr (by simp; omega))
  refine ⟨fun k s hk j v hv => ?_, ?_, fun s hs => ?_⟩
  · have hkn : k < n := by have := (List.getElem?_eq_some_iff.1 hk).1; simpa [all0] using this
    have hr := H.r k rst0 (by simp [hkn])
    by_cases e : k = 0
    · subst e
      have e : s = { rst0 with kn := true } := by simpa [all0, hkn] using hk.symm
      subst e
      cases j with
      | zero =>
        have hv2 : v = .bool true := by simpa [rcl] using hv.symm
        subst hv2
        simpa [World.setCells] using hin
      | succ j =>
        rw [hout _ (by omega)]
        exact hr (j + 1) v (by simpa [rcl] using hv)
    · have e2 : s = rst0 := by simpa [all0, hkn, Ne.symm e] using hk.symm
      subst e2
      rw [hout _ (by omega)]
      exact hr j v hv
  · rw [show (all0 n).length = n by simp [all0]]
    exact World.there_setCells hT ab 0 [Value.bool true]
  · rcases List.mem_or_eq_of_mem_set hs with h | h
    · rw [List.eq_of_mem_replicate h]; exact okr0
    · subst h; exact ⟨okr0.l1, okr0.l2⟩
theorem twoPows : ∀ a : Fin 64, bv (shl .u64 1 (a.val : Int)) = BitVec.twoPow 64 a.val := by decide +kernel
theorem twoPow_ne : ∀ a : Fin 64, BitVec.twoPow 64 a.val ≠ 0#64 := by decide +kernel
theorem bit_lsb {x : Int} {a : Nat} (ha : a < 64) : bit x (a : Int) ↔ (bv x).getLsbD a = true := by
  unfold bit
  rw [twoPows ⟨a, ha⟩]
  simp only
  rw [BitVec.and_twoPow]
  have := twoPow_ne ⟨a, ha⟩
  by_cases h : (bv x).getLsbD a = true
  · rw [if_pos h]; exact ⟨fun _ => h, fun _ => this⟩
  · rw [if_neg h]; exact ⟨fun e => absurd rfl e, fun e => absurd e h⟩
theorem bit_and2 {x y : Int} {a : Nat} (ha : a < 64) : bit (Go.bits .and .u64 x y) a ↔ bit x a ∧ bit y a := by
  rw [bit_lsb ha, bit_lsb ha, bit_lsb ha, bv_and]
  simp
theorem can_nat {x : Int} (hx : 0 ≤ x ∧ x < 18446744073709551616) : ((bv x).toNat : Int) = x := by
  unfold bv
  rw [BitVec.toNat_ofInt]
  omega
theorem word_ext {x y : Int} (hx : 0 ≤ x ∧ x < 18446744073709551616) (hy : 0 ≤ y ∧ y < 18446744073709551616) (h : ∀ a : Nat, a < 64 → (bit x a ↔ bit y a)) : x = y := by
  have e : bv x = bv y := by
    apply BitVec.eq_of_getLsbD_eq
    intro a ha
    have := h a ha
    rw [bit_lsb ha, bit_lsb ha] at this
    exact Bool.eq_iff_iff.2 this
  rw [← can_nat hx, ← can_nat hy, e]
structure Rl (c : Cf) (s : Vst) (r : Rst) : Prop where
  kn : r.kn = true
  h : r.h = s.h
  ok : OKS s
  okr : OKR r
  has : ∀ a : Nat, a < 512 → (slotB s.has a ↔ r.has.getD a false = true)
  wr : ∀ a : Nat, a < 64 → (bit s.wr a ↔ r.wr.getD a false = true)
  lim : ∀ a : Nat, a < 64 → r.wr.getD a false = true → (a : Int) < c.writes
  can : 0 ≤ s.wr ∧ s.wr < 18446744073709551616
theorem rl_start (c : Cf) : Rl c st0 { rst0 with kn := true } := by
  refine ⟨rfl, rfl, st0_ok, ⟨okr0.l1, okr0.l2⟩, fun a ha => ?_, fun a ha => ?_, fun a ha h => ?_, by decide⟩
  · have h1 : ¬ slotB st0.has (a : Int) := by
      unfold slotB st0
      simp only
      rw [rep_getD]
      exact bit_zero _
    have h2 : (rst0.has).getD a false = false := rep_getD _ _ _
    simp only [h2, Bool.false_eq_true]
    exact ⟨fun h => h1 h, fun h => h.elim⟩
  · have h2 : (rst0.wr).getD a false = false := rep_getD _ _ _
    simp only [h2, Bool.false_eq_true]
    exact ⟨fun h => bit_zero _ h, fun h => h.elim⟩
  · have h2 : (rst0.wr).getD a false = false := rep_getD _ _ _
    simp only [h2] at h
    cases h
theorem getD_ext {xs ys : List Bool} {n : Nat} (hx : xs.length = n) (hy : ys.length = n) (h : ∀ a, a < n → (xs.getD a false = true ↔ ys.getD a false = true)) : xs = ys := by
  apply List.ext_getElem (by omega)
  intro i h1 h2
  have := h i (by omega)
  simp only [List.getD_eq_getElem?_getD, List.getElem?_eq_getElem h1, List.getElem?_eq_getElem h2, Option.getD_some] at this
  exact Bool.eq_iff_iff.2 this
theorem rl_wr {c : Cf} {s t : Vst} {r q : Rst} (hs : Rl c s r) (ht : Rl c t q) : s.wr = t.wr ↔ r.wr = q.wr := by
  constructor
  · intro e
    refine getD_ext hs.okr.l2 ht.okr.l2 fun a ha => ?_
    rw [← hs.wr a ha, ← ht.wr a ha, e]
  · intro e
    refine word_ext hs.can ht.can fun a ha => ?_
    rw [hs.wr a ha, ht.wr a ha, e]
theorem andB_getD {a b : List Bool} {k : Nat} (ha : k < a.length) (hb : k < b.length) : (andB a b).getD k false = (a.getD k false && b.getD k false) := by
  simp [andB, List.getD_eq_getElem?_getD, List.getElem?_zipWith, ha, hb]
theorem rl_meet {c : Cf} {s t : Vst} {r q : Rst} (ht : Rl c t q) (hs : Rl c s r) : Rl c { t with has := andL t.has s.has } (meetR q r) := by
  refine ⟨ht.kn, ht.h, ⟨by simp [andL, ht.ok.1, hs.ok.1], ht.ok.2⟩, meetR_ok ht.okr hs.okr, fun a ha => ?_, ht.wr, ht.lim, ht.can⟩
  simp only [meetR]
  rw [andB_getD (by rw [ht.okr.l1]; exact ha) (by rw [hs.okr.l1]; exact ha), Bool.and_eq_true, ← ht.has a ha, ← hs.has a ha]
  unfold slotB
  rw [andL_getD (by rw [ht.ok.1]; omega) (by rw [hs.ok.1]; omega)]
  have := bit_and2 (x := t.has.getD ((a : Int) / 64).toNat 0) (y := s.has.getD ((a : Int) / 64).toNat 0) (a := a % 64) (by omega)
  simpa using this
theorem rl_step {c : Cf} {s : Vst} {r : Rst} (H : Rl c s r) (hc : 0 ≤ c.writes ∧ c.writes ≤ 64) (hst : c.stack ≤ 256) (i : S53) : (rstep r i c).2 = (chk s i c).2 ∧ ((chk s i c).2 = 0 → Rl c (chk s i c).1 (rstep r i c).1) := by
  have hokc := chk_ok (i := i) H.ok hst
  have hokr := rstep_ok (i := i) (c := c) H.okr
  unfold chk rstep at *
  by_cases hm : mayB i.f0 i.f1 = false
  · rw [if_pos hm, if_pos hm]
    exact ⟨rfl, fun h => absurd h (by simp)⟩
  rw [if_neg hm] at hokc hokr
  rw [if_neg hm, if_neg hm, H.h]
  rw [H.h] at hokr
  by_cases hh : s.h < tks i.f0 ∨ c.stack < s.h - tks i.f0 + gvs i.f0
  · rw [if_pos hh, if_pos hh]
    exact ⟨rfl, fun h => absurd h (by simp)⟩
  rw [if_neg hh] at hokc hokr
  rw [if_neg hh, if_neg hh]
  have he : s.h + (gvs i.f0 - tks i.f0) = s.h - tks i.f0 + gvs i.f0 := by omega
  rw [he] at hokc ⊢
  have hmt : mayB i.f0 i.f1 = true := by simpa using hm
  generalize s.h - tks i.f0 + gvs i.f0 = z at *
  clear hm hh he
  unfold chk2 rstep2 at *
  by_cases e1 : i.f0 = 2 ∨ i.f0 = 3
  · rw [if_pos e1] at hokc hokr ⊢
    rw [if_pos e1]
    have ha : 0 ≤ i.f1 ∧ i.f1 < 512 := by
      rcases e1 with e | e <;> simpa [mayB, e] using hmt
    by_cases e2 : c.slots ≤ i.f1
    · rw [if_pos e2, if_pos e2]
      exact ⟨rfl, fun h => absurd h (by simp)⟩
    rw [if_neg e2] at hokc hokr ⊢
    rw [if_neg e2]
    have hb := H.has i.f1.toNat (by omega)
    rw [show ((i.f1.toNat : Nat) : Int) = i.f1 by omega] at hb
    have hz : Go.bits .and .u64 (s.has.getD (i.f1 / 64).toNat 0) (shl .u64 1 (i.f1 % 64)) = 0 ↔ r.has.getD i.f1.toNat false = false := by
      rw [and_zero, ← Bool.not_eq_true, ← hb]
      unfold slotB bit
      rw [ne_eq, Classical.not_not]
    by_cases e3 : i.f0 = 2 ∧ Go.bits .and .u64 (s.has.getD (i.f1 / 64).toNat 0) (shl .u64 1 (i.f1 % 64)) = 0
    · rw [if_pos e3, if_pos ⟨e3.1, hz.1 e3.2⟩]
      exact ⟨rfl, fun h => absurd h (by simp)⟩
    have e4 : ¬ (i.f0 = 2 ∧ r.has.getD i.f1.toNat false = false) := fun h => e3 ⟨h.1, hz.2 h.2⟩
    rw [if_neg e3] at hokc ⊢
    rw [if_neg e4] at hokr ⊢
    refine ⟨rfl, fun _ => ⟨H.kn, rfl, hokc, hokr, fun a h0 => ?_, H.wr, H.lim, H.can⟩⟩
    have hs := slotB_set (has := s.has) H.ok.1 (a := i.f1) (b := (a : Int)) ha ⟨by omega, by omega⟩
    simp only
    rw [hs, H.has a h0]
    by_cases ea : a = i.f1.toNat
    · subst ea
      have : i.f1.toNat < r.has.length := by rw [H.okr.l1]; omega
      simp only [List.getD_eq_getElem?_getD, List.getElem?_set, this, if_true, Option.getD_some]
      exact ⟨fun _ => trivial, fun _ => Or.inr (by omega)⟩
    · simp only [List.getD_eq_getElem?_getD, List.getElem?_set, Ne.symm ea, if_false]
      exact ⟨fun h => h.resolve_right (by omega), Or.inl⟩
  rw [if_neg e1] at hokc hokr ⊢
  rw [if_neg e1]
  by_cases e2 : i.f0 = 4
  · rw [if_pos e2] at hokc hokr ⊢
    rw [if_pos e2]
    exact ⟨rfl, fun _ => ⟨H.kn, rfl, hokc, hokr, H.has, H.wr, H.lim, H.can⟩⟩
  rw [if_neg e2] at hokc hokr ⊢
  rw [if_neg e2]
  by_cases e3 : i.f0 = 5
  · rw [if_pos e3] at hokc hokr ⊢
    rw [if_pos e3]
    have ha : 0 ≤ i.f1 ∧ i.f1 < 64 := by simpa [mayB, e3] using hmt
    by_cases e4 : c.writes ≤ i.f1
    · rw [if_pos e4, if_pos e4]
      exact ⟨rfl, fun h => absurd h (by simp)⟩
    rw [if_neg e4] at hokc hokr ⊢
    rw [if_neg e4]
    have hb := H.wr i.f1.toNat (by omega)
    rw [show ((i.f1.toNat : Nat) : Int) = i.f1 by omega] at hb
    have hz : Go.bits .and .u64 s.wr (shl .u64 1 i.f1) = 0 ↔ ¬ r.wr.getD i.f1.toNat false = true := by
      rw [and_zero, ← hb]
      unfold bit
      rw [ne_eq, Classical.not_not]
    by_cases e5 : Go.bits .and .u64 s.wr (shl .u64 1 i.f1) = 0
    · rw [if_pos e5] at hokc ⊢
      rw [if_neg (hz.1 e5)] at hokr ⊢
      refine ⟨rfl, fun _ => ⟨H.kn, rfl, hokc, hokr, H.has, fun a h0 => ?_, fun a h0 hx => ?_, ?_⟩⟩
      · simp only
        have ho := one_bit (a := i.f1) (b := (a : Int)) ha ⟨by omega, by omega⟩
        rw [bit_or, ho, H.wr a h0]
        by_cases ea : a = i.f1.toNat
        · subst ea
          have : i.f1.toNat < r.wr.length := by rw [H.okr.l2]; omega
          simp only [List.getD_eq_getElem?_getD, List.getElem?_set, this, if_true, Option.getD_some]
          exact ⟨fun _ => trivial, fun _ => Or.inr (by omega)⟩
        · simp only [List.getD_eq_getElem?_getD, List.getElem?_set, Ne.symm ea, if_false]
          exact ⟨fun h => h.resolve_right (by omega), Or.inl⟩
      · by_cases ea : a = i.f1.toNat
        · omega
        · simp only [List.getD_eq_getElem?_getD, List.getElem?_set, Ne.symm ea, if_false] at hx
          exact H.lim a h0 (by rw [List.getD_eq_getElem?_getD]; exact hx)
      · simp only
        rw [bits_or_bv]
        have := (bv s.wr ||| bv (shl .u64 1 i.f1)).isLt
        omega
    · rw [if_neg e5]
      rw [if_pos (Classical.not_not.1 (fun h => e5 (hz.2 h)))]
      exact ⟨rfl, fun h => absurd h (by simp)⟩
  rw [if_neg e3] at hokc hokr ⊢
  rw [if_neg e3]
  by_cases e4 : i.f0 = 23
  · rw [if_pos e4] at hokc hokr ⊢
    rw [if_pos e4]
    have hw : s.wr = IntKind.u64.wrap (shl .u64 1 c.writes - 1) ↔ (r.wr.take c.writes.toNat).all id = true := by
      have hcan : 0 ≤ IntKind.u64.wrap (shl .u64 1 c.writes - 1) ∧ IntKind.u64.wrap (shl .u64 1 c.writes - 1) < 18446744073709551616 := by rw [IntKind.wrap_u64]; omega
      rw [List.all_eq_true]
      constructor
      · intro e x hx
        rw [List.mem_take_iff_getElem] at hx
        obtain ⟨j, hj, rfl⟩ := hx
        have hl := H.okr.l2
        have h1 := (H.wr j (by omega)).1 (by rw [e, mask_bit hc ⟨by omega, by omega⟩]; omega)
        have hjl : j < r.wr.length := by omega
        simpa [List.getD_eq_getElem?_getD, hjl] using h1
      · intro e
        refine word_ext H.can hcan fun a h0 => ?_
        rw [mask_bit hc ⟨by omega, by omega⟩, H.wr a h0]
        constructor
        · exact H.lim a h0
        · intro h1
          have hl := H.okr.l2
          have hjl : a < r.wr.length := by omega
          have := e (r.wr[a]) (by rw [List.mem_take_iff_getElem]; exact ⟨a, by omega, rfl⟩)
          simpa [List.getD_eq_getElem?_getD, hjl] using this
    have : (if 0 < z then (191 : Int) else if (r.wr.take c.writes.toNat).all id = true then 0 else 193) = (if 0 < z then 191 else if s.wr = IntKind.u64.wrap (shl .u64 1 c.writes - 1) then 0 else 193) := by
      split
      · rfl
      · by_cases hx : s.wr = IntKind.u64.wrap (shl .u64 1 c.writes - 1)
        · rw [if_pos hx, if_pos (hw.1 hx)]
        · rw [if_neg hx, if_neg (fun h => hx (hw.2 h))]
    simp only
    rw [this]
    exact ⟨rfl, fun _ => ⟨H.kn, rfl, hokc, hokr, H.has, H.wr, H.lim, H.can⟩⟩
  · rw [if_neg e4] at hokc hokr ⊢
    rw [if_neg e4]
    exact ⟨rfl, fun _ => ⟨H.kn, rfl, hokc, hokr, H.has, H.wr, H.lim, H.can⟩⟩
def MR (c : Cf) (k n : Nat) (m : Nat → Option Vst) (all : List Rst) : Prop := all.length = n ∧ ∀ j, k ≤ j → j < n → match m j with
  | none => (all.getD j rst0).kn = false
  | some s => Rl c s (all.getD j rst0)
theorem MR.put {c : Cf} {k n : Nat} {m : Nat → Option Vst} {all : List Rst} (h : MR c k n m all) {tg : Nat} (htn : tg < n) {s : Vst} {r : Rst} (hr : Rl c s r) : MR c k n (fun j => if j = tg then some s else m j) (all.set tg r) := by
  refine ⟨by rw [List.length_set]; exact h.1, fun j h1 h2 => ?_⟩
  by_cases e : j = tg
  · subst e
    simp only [if_true]
    rw [set_getD (by rw [h.1]; exact h2)]
    exact hr
  · simp only [e, if_false]
    have : (all.set tg r).getD j rst0 = all.getD j rst0 := by simp [List.getD_eq_getElem?_getD, List.getElem?_set, Ne.symm e]
    rw [this]
    exact h.2 j h1 h2
theorem goes_put {c : Cf} {k : Nat} {l : List S53} {m : Nat → Option Vst} {all : List Rst} (h : MR c (k + 1) l.length m all) {s : Vst} {r : Rst} (hr : Rl c s r) {tg : Nat} (htk : k + 1 ≤ tg) {be : Int} {nn : Nat} {rest : List Int}
    (hbe : be = if (tg : Int) = (k : Int) + 1 ∧ nn = 0 ∧ (rd_T53 l k).f0 ≠ 21 then 195 else 190) :
    (∃ all', MR c (k + 1) l.length (goesP l.length m s tg be).1 all' ∧ (goesP l.length m s tg be).2 = 0 ∧ rput l k r ((tg : Int) :: rest) nn all = rput l k r rest (nn + 1) all') ∨
    ((goesP l.length m s tg be).2 ≠ 0 ∧ (rput l k r ((tg : Int) :: rest) nn all).1 = (goesP l.length m s tg be).2) := by
  unfold goesP
  rw [rput]
  by_cases e1 : l.length ≤ tg
  · rw [if_pos e1, if_pos (by omega)]
    right
    simp only
    rw [← hbe]
    refine ⟨?_, rfl⟩
    rw [hbe]; split <;> decide
  rw [if_neg e1, if_neg (by omega)]
  simp only [Int.toNat_natCast]
  have ht := h.2 tg htk (by omega)
  cases hm : m tg with
  | none =>
    rw [hm] at ht
    simp only at ht ⊢
    rw [if_pos ht]
    exact .inl ⟨_, h.put (by omega) hr, (by first | trivial | rfl), rfl⟩
  | some t =>
    rw [hm] at ht
    simp only at ht ⊢
    rw [if_neg (by rw [ht.kn]; decide)]
    unfold meetS
    rw [ht.h, hr.h]
    by_cases e2 : t.h = s.h
    · have g2 : ¬ t.h ≠ s.h := fun h => h e2
      simp only [if_neg g2]
      by_cases e3 : t.wr = s.wr
      · have g3 : ¬ t.wr ≠ s.wr := fun h => h e3
        have g4 : ¬ (all.getD tg rst0).wr ≠ r.wr := fun h => h ((rl_wr ht hr).1 e3)
        simp only [if_neg g3, if_neg g4]
        exact .inl ⟨_, h.put (by omega) (rl_meet ht hr), (by first | trivial | rfl), rfl⟩
      · have g4 : (all.getD tg rst0).wr ≠ r.wr := fun h => e3 ((rl_wr ht hr).2 h)
        have g3 : t.wr ≠ s.wr := e3
        simp only [if_pos g3, if_pos g4]
        exact .inr ⟨by simp, by first | trivial | rfl⟩
    · have g2 : t.h ≠ s.h := e2
      simp only [if_pos g2]
      exact .inr ⟨by simp, by first | trivial | rfl⟩
theorem fol_put {c : Cf} {k : Nat} {l : List S53} {m : Nat → Option Vst} {all : List Rst} (h : MR c (k + 1) l.length m all) {s : Vst} {r : Rst} (hr : Rl c s r) (hm : mayB (rd_T53 l k).f0 (rd_T53 l k).f1 = true) :
    (rput l k r (folI l k) 0 all).1 = (folP l.length m s k (rd_T53 l k)).2 ∧ ((folP l.length m s k (rd_T53 l k)).2 = 0 → MR c (k + 1) l.length (folP l.length m s k (rd_T53 l k)).1 (rput l k r (folI l k) 0 all).2) := by
  unfold folI folP
  by_cases e23 : (rd_T53 l k).f0 = 23
  · simp only [e23, if_true]
    rw [rput]
    exact ⟨rfl, fun _ => h⟩
  by_cases e21 : (rd_T53 l k).f0 = 21
  · have hb : 1 ≤ (rd_T53 l k).f1 ∧ (rd_T53 l k).f1 ≤ 4096 := by simpa [mayB, e21] using hm
    rw [if_neg e23, if_pos e21, if_neg e23, if_pos e21]
    have e : (k : Int) + (rd_T53 l k).f1 = ((k + (rd_T53 l k).f1.toNat : Nat) : Int) := by omega
    rw [e]
    rcases goes_put h hr (tg := k + (rd_T53 l k).f1.toNat) (by omega) (be := 190) (nn := 0) (rest := []) (by rw [if_neg (by simp [e21])]) with ⟨all', h1, h2, h3⟩ | ⟨h1, h2⟩
    · rw [h3, rput]
      exact ⟨h2.symm, fun _ => h1⟩
    · exact ⟨h2, fun h0 => absurd h0 h1⟩
  by_cases e22 : (rd_T53 l k).f0 = 22
  · have hb : 1 ≤ (rd_T53 l k).f1 ∧ (rd_T53 l k).f1 ≤ 4096 := by simpa [mayB, e22] using hm
    rw [if_neg e23, if_neg e21, if_pos e22, if_neg e23, if_neg e21, if_pos e22]
    have e : (k : Int) + (rd_T53 l k).f1 = ((k + (rd_T53 l k).f1.toNat : Nat) : Int) := by omega
    have e' : (k : Int) + 1 = ((k + 1 : Nat) : Int) := by omega
    rw [e, e']
    rcases goes_put h hr (tg := k + 1) (by omega) (be := 195) (nn := 0) (rest := [((k + (rd_T53 l k).f1.toNat : Nat) : Int)]) (by rw [if_pos ⟨by omega, rfl, e21⟩]) with ⟨all', h1, h2, h3⟩ | ⟨h1, h2⟩
    · rw [h3, if_pos h2]
      rcases goes_put h1 hr (tg := k + (rd_T53 l k).f1.toNat) (by omega) (be := 190) (nn := 0 + 1) (rest := []) (by rw [if_neg (by simp)]) with ⟨all2, g1, g2, g3⟩ | ⟨g1, g2⟩
      · rw [g3, rput]
        exact ⟨g2.symm, fun _ => g1⟩
      · exact ⟨g2, fun h0 => absurd h0 g1⟩
    · rw [if_neg h1]
      exact ⟨h2, fun h0 => absurd h0 h1⟩
  · rw [if_neg e23, if_neg e21, if_neg e22, if_neg e23, if_neg e21, if_neg e22]
    have e' : (k : Int) + 1 = ((k + 1 : Nat) : Int) := by omega
    rw [e']
    rcases goes_put h hr (tg := k + 1) (by omega) (be := 195) (nn := 0) (rest := []) (by rw [if_pos ⟨by omega, rfl, e21⟩]) with ⟨all', h1, h2, h3⟩ | ⟨h1, h2⟩
    · rw [h3, rput]
      exact ⟨h2.symm, fun _ => h1⟩
    · exact ⟨h2, fun h0 => absurd h0 h1⟩
theorem vgo_sgo {l : List S53} {c : Cf} (hc : 0 ≤ c.writes ∧ c.writes ≤ 64) (hst : c.stack ≤ 256) : ∀ {d k : Nat} {m : Nat → Option Vst} {all : List Rst} {most : Int}, d + k = l.length → MR c k l.length m all → vgo l c d k m most = sgo l c d k all most
  | 0, k, m, all, most, hd, h => rfl
  | d + 1, k, m, all, most, hd, h => by
    rw [vgo, sgo]
    have hk := h.2 k (Nat.le_refl _) (by omega)
    cases hm : m k with
    | none =>
      rw [hm] at hk
      simp only at hk ⊢
      rw [if_pos hk]
    | some s =>
      rw [hm] at hk
      simp only at hk ⊢
      rw [if_neg (show ¬ (all.getD k rst0).kn = false by rw [hk.kn]; decide)]
      obtain ⟨h1, h2⟩ := rl_step hk hc hst (rd_T53 l k)
      rw [h1]
      by_cases e1 : (chk s (rd_T53 l k) c).2 = 0
      · have e1n : ¬ (chk s (rd_T53 l k) c).2 ≠ 0 := fun h => h e1
        rw [if_pos e1, if_neg e1n]
        have hr := h2 e1
        have hM : MR c (k + 1) l.length (fun j => if j = k then some (chk s (rd_T53 l k) c).1 else m j) all := ⟨h.1, fun j g1 g2 => by
          simp only [show ¬ j = k by omega, if_false]
          exact h.2 j (by omega) g2⟩
        obtain ⟨h3, h4⟩ := fol_put hM hr (chk_may e1)
        rw [h3]
        by_cases e2 : (folP l.length (fun j => if j = k then some (chk s (rd_T53 l k) c).1 else m j) (chk s (rd_T53 l k) c).1 k (rd_T53 l k)).2 = 0
        · have e2n : ¬ (folP l.length (fun j => if j = k then some (chk s (rd_T53 l k) c).1 else m j) (chk s (rd_T53 l k) c).1 k (rd_T53 l k)).2 ≠ 0 := fun h => h e2
          rw [if_pos e2, if_neg e2n, hr.h]
          have hM2 := h4 e2
          exact vgo_sgo hc hst (by omega) ⟨hM2.1, fun j g1 g2 => by
            simp only [show ¬ j = k by omega, if_false]
            exact hM2.2 j g1 g2⟩
        · rw [if_neg e2, if_pos e2]
      · rw [if_neg e1, if_pos e1]
theorem ver_sref (l : List S53) (c : Cf) : ver l c = sref l c := by
  unfold ver sref
  by_cases h1 : mayC c.slots c.reads c.writes c.stack = false
  · rw [if_pos h1, if_pos h1]
  rw [if_neg h1, if_neg h1]
  by_cases h2 : 4096 < l.length
  · rw [if_pos h2, if_pos h2]
  rw [if_neg h2, if_neg h2]
  by_cases h3 : l.length = 0
  · rw [if_pos h3, if_pos h3]
  rw [if_neg h3, if_neg h3]
  have hc : (0 ≤ c.writes ∧ c.writes ≤ 64) ∧ c.stack ≤ 256 := by
    simp [mayC] at h1
    omega
  refine vgo_sgo hc.1 hc.2 (by omega) ⟨by simp [all0], fun j g1 g2 => ?_⟩
  by_cases e : j = 0
  · subst e
    have : (all0 l.length).getD 0 rst0 = { rst0 with kn := true } := by unfold all0; rw [set_getD (by simp; omega)]
    simp only [if_true]
    rw [this]
    exact rl_start c
  · have : (all0 l.length).getD j rst0 = rst0 := by
      simp [all0, List.getD_eq_getElem?_getD, List.getElem?_set, Ne.symm e, g2]
    simp only [e, if_false]
    rw [this]
    rfl
end Go.Proofs.Ytlmpoojpbdmmfaa.H
end
section
namespace Go.Proofs.Ytlmpoojpbdmmfaa.H
open Go.RowKit Go.Proofs.YtlmpoojpbdmmfaaW.PrintWords Go.Proofs.YtlmpoojpbdmmfaaW.PrintLast Go.Proofs.YtlmpoojpbdmmfaaW.PrintMore
attribute [local go_sem] max2_int min2_int max_two min_two max_three min_three max_four min_four   -- for this text's walks alone
set_option linter.unusedVariables false
set_option linter.unusedSimpArgs false
mutual
def carillonref18_Cycles.j0 : Nat → Int → Int → Bool → Option (Int)
  | 0, _, _, _ => none
  | k + 1, x0, x3, x4 => if x4 = true then (some 2) else (if x3 = 10 then (some 3) else (if x3 = 11 then (carillonref18_Cycles.j1 k x0 (x3 == 11)) else (carillonref18_Cycles.j1 k x0 (x3 == 12))))
def carillonref18_Cycles.j1 : Nat → Int → Bool → Option (Int)
  | 0, _, _ => none
  | k + 1, x0, x10 => if x10 = true then (some 8) else ((carillonref18_Size.f k x0).bind fun t145 => (if t145 < 0 then (some 0) else (some 1)))
end
def carillonref18_Cycles.f (k : Nat) (a0 : Int) : Option (Int) := if a0 = 4 then (carillonref18_Cycles.j0 k a0 a0 (a0 == 4)) else (if a0 = 5 then (carillonref18_Cycles.j0 k a0 a0 (a0 == 5)) else (carillonref18_Cycles.j0 k a0 a0 (a0 == 22)))
theorem carillonref18_Cycles.mono_l : ∀ k, (∀ y0 y1 y2, LeO (carillonref18_Cycles.j0 k y0 y1 y2) (carillonref18_Cycles.j0 (k + 1) y0 y1 y2)) ∧ (∀ y0 y1, LeO (carillonref18_Cycles.j1 k y0 y1) (carillonref18_Cycles.j1 (k + 1) y0 y1))
  | 0 => ⟨fun _ _ _ r h => by simp [carillonref18_Cycles.j0] at h, fun _ _ r h => by simp [carillonref18_Cycles.j1] at h⟩
  | k + 1 => by
    obtain ⟨ih0, ih1⟩ := carillonref18_Cycles.mono_l k
    refine ⟨?_, ?_⟩
    · intro y0 y1 y2
      unfold carillonref18_Cycles.j0
      repeat' first
      | (with_reducible exact ih0 _ _ _)
      | (with_reducible exact ih1 _ _)
      | (with_reducible exact carillonref18_Size.mono _ _)
      | (with_reducible exact LeO.refl _)
      | (with_reducible exact LeO.none _)
      | (with_reducible refine LeO.ite ?_ ?_)
      | (with_reducible refine LeO.bind ?_ (fun _ => ?_))
      | exact ih0 _ _ _
      | exact ih1 _ _
      | exact carillonref18_Size.mono _ _
      | exact LeO.none _
      | refine LeO.ite ?_ ?_
      | refine LeO.bind ?_ (fun _ => ?_)
    · intro y0 y1
      unfold carillonref18_Cycles.j1
      repeat' first
      | (with_reducible exact ih0 _ _ _)
      | (with_reducible exact ih1 _ _)
      | (with_reducible exact carillonref18_Size.mono _ _)
      | (with_reducible exact LeO.refl _)
      | (with_reducible exact LeO.none _)
      | (with_reducible refine LeO.ite ?_ ?_)
      | (with_reducible refine LeO.bind ?_ (fun _ => ?_))
      | exact ih0 _ _ _
      | exact ih1 _ _
      | exact carillonref18_Size.mono _ _
      | exact LeO.none _
      | refine LeO.ite ?_ ?_
      | refine LeO.bind ?_ (fun _ => ?_)
theorem carillonref18_Cycles.mono : ∀ a0 k, LeO (carillonref18_Cycles.f k a0) (carillonref18_Cycles.f (k + 1) a0) := by
  intro a0 k
  obtain ⟨ih0, ih1⟩ := carillonref18_Cycles.mono_l k
  unfold carillonref18_Cycles.f
  repeat' first
      | (with_reducible exact ih0 _ _ _)
      | (with_reducible exact ih1 _ _)
      | (with_reducible exact carillonref18_Size.mono _ _)
      | (with_reducible exact LeO.refl _)
      | (with_reducible exact LeO.none _)
      | (with_reducible refine LeO.ite ?_ ?_)
      | (with_reducible refine LeO.bind ?_ (fun _ => ?_))
      | exact ih0 _ _ _
      | exact ih1 _ _
      | exact carillonref18_Size.mono _ _
      | exact LeO.none _
      | refine LeO.ite ?_ ?_
      | refine LeO.bind ?_ (fun _ => ?_)
set_option maxHeartbeats 8000000 in
set_option maxRecDepth 100000 in
theorem carillonref18_Cycles.calls (k : Nat) (a0 : Int) (r : Int) (w : World) (h : carillonref18_Cycles.f k a0 = some r) :
    Calls Try.prog 35 #[.int .u8 a0] w fun e w' => e = .returned (.int .i64 r) ∧ Drawn0 w w' := by
  have H : (if a0 = 4 then (carillonref18_Cycles.j0 k a0 a0 (a0 == 4)) else (if a0 = 5 then (carillonref18_Cycles.j0 k a0 a0 (a0 == 5)) else (carillonref18_Cycles.j0 k a0 a0 (a0 == 22)))) = some r := h
  clear h
  have HC2 := Aside0.mk H
  clear H
  go_enter Try.func35, Try.ntmps35
  go_upto_if 4 with (fail)
  go_cut [4] (fun v4 wc => ∃ (kq : Nat) (x4_1 : Bool), v4 = .bool x4_1 ∧ Aside0 (carillonref18_Cycles.j0 kq a0 a0 x4_1 = some r) ∧ Aside0 (kq ≤ k) ∧ Drawn0 w wc)
  case first =>
    have H := HC2.out
    clear HC2
    by_cases c3 : a0 = 4
    · rw [if_pos c3] at H
      have c3b0 : (a0 == 4) = true := beq_iff_eq.mpr c3
      have c3b1 : (a0 != 4) = false := bne_eq_false_iff_eq.mpr c3
      clear c3
      (first | rw [c3b0] | (simp only [i64_w, i32_w]; rw [c3b0]) | skip)
      have H' := Aside0.mk H
      clear H
      go_wp2
      go_meet
      case rel => exact ⟨_, ((a0 == 4)), (by first | rfl | (simp; done) | (simp [*]; done)), H', ⟨by first | omega | exact Nat.le_refl _⟩, by repeat (first | exact Drawn0.refl _ | apply Drawn0.step)⟩
    · rw [if_neg c3] at H
      have c3b0 : (a0 == 4) = false := beq_eq_false_iff_ne.mpr c3
      have c3b1 : (a0 != 4) = true := bne_iff_ne.mpr c3
      (first | rw [c3b0] | (simp only [i64_w, i32_w]; rw [c3b0]) | skip)
      by_cases c4 : a0 = 5
      · rw [if_pos c4] at H
        have c4b0 : (a0 == 5) = true := beq_iff_eq.mpr c4
        have c4b1 : (a0 != 5) = false := bne_eq_false_iff_eq.mpr c4
        clear c4
        have H' := Aside0.mk H
        clear H
        go_wp2
        go_meet
        case rel => exact ⟨_, ((a0 == 5)), (by first | rfl | (simp; done) | (simp [*]; done)), H', ⟨by first | omega | exact Nat.le_refl _⟩, by repeat (first | exact Drawn0.refl _ | apply Drawn0.step)⟩
      · rw [if_neg c4] at H
        have c4b0 : (a0 == 5) = false := beq_eq_false_iff_ne.mpr c4
        have c4b1 : (a0 != 5) = true := bne_iff_ne.mpr c4
        have H' := Aside0.mk H
        clear H
        go_wp2
        go_meet
        case rel => exact ⟨_, ((a0 == 22)), (by first | rfl | (simp; done) | (simp [*]; done)), H', ⟨by first | omega | exact Nat.le_refl _⟩, by repeat (first | exact Drawn0.refl _ | apply Drawn0.step)⟩
  case rest =>
    clear HC2
    try clear p2
    try clear c3
    try clear c3b0
    try clear c3b1
    try clear c4
    try clear c4b0
    try clear c4b1
    obtain ⟨kq, x4_1, rfl, HA, HJ1, ⟨mc1, rfl⟩⟩ := hcut
    cases kq with
    | zero => exact absurd HA.out (by simp [carillonref18_Cycles.j0])
    | succ kj1 =>
      have H := HA.out
      clear HA
      simp only [carillonref18_Cycles.j0] at H
      by_cases c5 : x4_1 = true
      · subst c5
        have H1 : (some 2) = some r := by rw [if_pos rfl] at H; exact H
        clear H
        have H := H1
        clear H1
        obtain rfl := Option.some.inj H
        go_wp2
        go_ret
        exact ⟨by first | rfl | (simp; done) | (simp [*]; done), by repeat (first | exact Drawn0.refl _ | apply Drawn0.step)⟩
      · replace c5 := Bool.eq_false_iff.mpr c5
        subst c5
        have H1 : (if a0 = 10 then (some 3) else (if a0 = 11 then (carillonref18_Cycles.j1 kj1 a0 (a0 == 11)) else (carillonref18_Cycles.j1 kj1 a0 (a0 == 12)))) = some r := by rw [if_neg (show ¬ (false = true) by decide)] at H; exact H
        clear H
        have H := H1
        clear H1
        by_cases c6 : a0 = 10
        · rw [if_pos c6] at H
          have c6b0 : (a0 == 10) = true := beq_iff_eq.mpr c6
          have c6b1 : (a0 != 10) = false := bne_eq_false_iff_eq.mpr c6
          clear c6
          obtain rfl := Option.some.inj H
          go_wp2
          go_ret
          exact ⟨by first | rfl | (simp; done) | (simp [*]; done), by repeat (first | exact Drawn0.refl _ | apply Drawn0.step)⟩
        · rw [if_neg c6] at H
          have c6b0 : (a0 == 10) = false := beq_eq_false_iff_ne.mpr c6
          have c6b1 : (a0 != 10) = true := bne_iff_ne.mpr c6
          have HC7 := Aside0.mk H
          clear H
          go_upto_if 10 with (fail)
          go_cut [10] (fun v10 wc => ∃ (kq : Nat) (x10_6 : Bool), v10 = .bool x10_6 ∧ Aside0 (carillonref18_Cycles.j1 kq a0 x10_6 = some r) ∧ Aside0 (kq ≤ kj1) ∧ Drawn0 w wc)
          case first =>
            have H := HC7.out
            clear HC7
            by_cases c8 : a0 = 11
            · rw [if_pos c8] at H
              have c8b0 : (a0 == 11) = true := beq_iff_eq.mpr c8
              have c8b1 : (a0 != 11) = false := bne_eq_false_iff_eq.mpr c8
              clear c8
              (first | rw [c8b0] | (simp only [i64_w, i32_w]; rw [c8b0]) | skip)
              have H' := Aside0.mk H
              clear H
              go_wp2
              go_meet
              case rel => exact ⟨_, ((a0 == 11)), (by first | rfl | (simp; done) | (simp [*]; done)), H', ⟨by have := HJ1.out; first | omega | exact Nat.le_refl _⟩, by repeat (first | exact Drawn0.refl _ | apply Drawn0.step)⟩
            · rw [if_neg c8] at H
              have c8b0 : (a0 == 11) = false := beq_eq_false_iff_ne.mpr c8
              have c8b1 : (a0 != 11) = true := bne_iff_ne.mpr c8
              (first | rw [c8b0] | (simp only [i64_w, i32_w]; rw [c8b0]) | skip)
              have H' := Aside0.mk H
              clear H
              go_wp2
              go_meet
              case rel => exact ⟨_, ((a0 == 12)), (by first | rfl | (simp; done) | (simp [*]; done)), H', ⟨by have := HJ1.out; first | omega | exact Nat.le_refl _⟩, by repeat (first | exact Drawn0.refl _ | apply Drawn0.step)⟩
          case rest =>
            clear HC7
            try clear c1
            try clear p2
            try clear c3
            try clear c3b0
            try clear c3b1
            try clear c4
            try clear c4b0
            try clear c4b1
            try clear c5
            try clear c6
            try clear c6b0
            try clear c6b1
            try clear c8
            try clear c8b0
            try clear c8b1
            try clear p2
            obtain ⟨kq, x10_6, rfl, HA, HJ6, ⟨mc6, rfl⟩⟩ := hcut
            cases kq with
            | zero => exact absurd HA.out (by simp [carillonref18_Cycles.j1])
            | succ kj6 =>
              have H := HA.out
              clear HA
              simp only [carillonref18_Cycles.j1] at H
              by_cases c9 : x10_6 = true
              · subst c9
                have H1 : (some 8) = some r := by rw [if_pos rfl] at H; exact H
                clear H
                have H := H1
                clear H1
                obtain rfl := Option.some.inj H
                go_wp2
                go_ret
                exact ⟨by first | rfl | (simp; done) | (simp [*]; done), by repeat (first | exact Drawn0.refl _ | apply Drawn0.step)⟩
              · replace c9 := Bool.eq_false_iff.mpr c9
                subst c9
                have H1 : ((carillonref18_Size.f kj6 a0).bind fun t145 => (if t145 < 0 then (some 0) else (some 1))) = some r := by rw [if_neg (show ¬ (false = true) by decide)] at H; exact H
                clear H
                have H := H1
                clear H1
                replace H := Option.bind_eq_some_iff.mp H
                obtain ⟨t145, A100, H⟩ := H
                replace H : (if t145 < 0 then (some 0) else (some 1)) = some r := H
                have A10 := Aside0.mk A100
                clear A100
                by_cases c11 : t145 < 0
                · rw [if_pos c11] at H
                  have c11b0 : decide (t145 < 0) = true := decide_eq_true c11
                  clear c11
                  obtain rfl := Option.some.inj H
                  go_wp2_with (first | ((with_reducible refine gate_callee (f := 69) rfl ?_); refine goesL_ (some 14) rfl rfl Try.func69 (by kernel_rfl) rfl #[.int .u8 a0] rfl (by (try simp only [List.map_toArray, List.map_cons, List.map_nil]); first | done | rfl | (simp only [List.length_drop, List.length_take]; rfl)) ?_; (with_reducible refine (carillonref18_Size.calls kj6 a0 t145 _ A10.out).mono ?_); rintro e w' ⟨rfl, ⟨nd, rfl⟩⟩; refine ⟨_, rfl, ?_⟩))
                  go_ret
                  exact ⟨by first | rfl | (simp; done) | (simp [*]; done), by repeat (first | exact Drawn0.refl _ | apply Drawn0.step)⟩
                · rw [if_neg c11] at H
                  have c11b0 : decide (t145 < 0) = false := decide_eq_false c11
                  clear c11
                  obtain rfl := Option.some.inj H
                  go_wp2_with (first | ((with_reducible refine gate_callee (f := 69) rfl ?_); refine goesL_ (some 14) rfl rfl Try.func69 (by kernel_rfl) rfl #[.int .u8 a0] rfl (by (try simp only [List.map_toArray, List.map_cons, List.map_nil]); first | done | rfl | (simp only [List.length_drop, List.length_take]; rfl)) ?_; (with_reducible refine (carillonref18_Size.calls kj6 a0 t145 _ A10.out).mono ?_); rintro e w' ⟨rfl, ⟨nd, rfl⟩⟩; refine ⟨_, rfl, ?_⟩))
                  go_ret
                  exact ⟨by first | rfl | (simp; done) | (simp [*]; done), by repeat (first | exact Drawn0.refl _ | apply Drawn0.step)⟩
end Go.Proofs.Ytlmpoojpbdmmfaa.H
end
section
set_option linter.unusedVariables false
set_option linter.unusedSimpArgs false
namespace Go.Proofs.Ytlmpoojpbdmmfaa.H
open Go.RowKit Go.Proofs.YtlmpoojpbdmmfaaW.PrintWords Go.Proofs.YtlmpoojpbdmmfaaW.PrintLast Go.Proofs.YtlmpoojpbdmmfaaW.PrintMore
theorem Ev.if_pos {α : Type} {c : Prop} [Decidable c] {g f : Nat → Option α} {r : α} (h : c) (k : Ev g r) : Ev (fun n => if c then g n else f n) r := Ev.congr (fun n => _root_.if_pos h) k
theorem Ev.if_neg {α : Type} {c : Prop} [Decidable c] {g f : Nat → Option α} {r : α} (h : ¬ c) (k : Ev f r) : Ev (fun n => if c then g n else f n) r := Ev.congr (fun n => _root_.if_neg h) k
theorem ev_rsize (op : Int) : Ev (fun k => carillonref18_Size.f k op) (if isOp op = true then (sz op : Int) else -1) := by
  refine ⟨2, fun k hk => ?_⟩
  obtain ⟨k, rfl⟩ : ∃ m, k = m + 2 := ⟨k - 2, by omega⟩
  simp only [carillonref18_Size.f, carillonref18_Size.j0, carillonref18_Size.j1, sz, isOp]
  by_cases h1 : op = 1
  · subst h1; simp [cyc, isOp]
  by_cases h2 : op = 2
  · subst h2; simp [cyc, isOp]
  by_cases h3 : op = 3
  · subst h3; simp [cyc, isOp]
  by_cases h21 : op = 21
  · subst h21; simp [cyc, isOp]
  by_cases h22 : op = 22
  · subst h22; simp [cyc, isOp]
  by_cases h4 : op = 4
  · subst h4; simp [cyc, isOp]
  by_cases h5 : op = 5
  · subst h5; simp [cyc, isOp]
  simp only [h1, h2, h3, h21, h22, h4, h5, if_false, false_or, beq_eq_false_iff_ne.mpr h22, beq_eq_false_iff_ne.mpr h5]
  by_cases g : op < 1
  · simp [g] <;> omega
  · by_cases g2 : op > 23
    · simp [g, g2] <;> omega
    · simp [g, g2] <;> omega
theorem ev_rmay (op a : Int) : Ev (fun k => carillonref18_May.f k op a) (mayB op a) := by
  obtain ⟨K, hK⟩ := ev_rsize op
  refine ⟨K + 2, fun k hk => ?_⟩
  obtain ⟨k, rfl⟩ : ∃ m, k = m + 2 := ⟨k - 2, by omega⟩
  have hs := hK k (by omega)
  simp only [carillonref18_May.f, carillonref18_May.j0, carillonref18_May.j1, hs, Option.bind_some]
  simp only [sz, isOp, mayB]
  by_cases h1 : op = 1
  · subst h1; simp [cyc, isOp]
  by_cases h2 : op = 2
  · subst h2; simp; split <;> simp_all <;> omega
  by_cases h3 : op = 3
  · subst h3; simp; split <;> simp_all <;> omega
  by_cases h21 : op = 21
  · subst h21; simp; split <;> simp_all <;> omega
  by_cases h22 : op = 22
  · subst h22; simp; split <;> simp_all <;> omega
  by_cases h4 : op = 4
  · subst h4; simp; split <;> simp_all <;> omega
  by_cases h5 : op = 5
  · subst h5; simp; split <;> simp_all <;> omega
  simp only [h1, h2, h3, h21, h22, h4, h5, if_false, false_or, beq_eq_false_iff_ne.mpr h3, beq_eq_false_iff_ne.mpr h5]
  by_cases g : 1 ≤ op ∧ op ≤ 23
  · by_cases ha : a = 0 <;> simp [g, ha]
  · simp [g] <;> omega
theorem ev_rcycles (op : Int) : Ev (fun k => carillonref18_Cycles.f k op) (cyc op) := by
  obtain ⟨K, hK⟩ := ev_rsize op
  refine ⟨K + 2, fun k hk => ?_⟩
  obtain ⟨k, rfl⟩ : ∃ m, k = m + 2 := ⟨k - 2, by omega⟩
  have hs := hK k (by omega)
  simp only [carillonref18_Cycles.f, carillonref18_Cycles.j0, carillonref18_Cycles.j1, hs, Option.bind_some]
  simp only [isOp, cyc]
  by_cases h4 : op = 4
  · subst h4; simp [cyc, isOp]
  by_cases h5 : op = 5
  · subst h5; simp [cyc, isOp]
  by_cases h22 : op = 22
  · subst h22; simp [cyc, isOp]
  by_cases h10 : op = 10
  · subst h10; simp [cyc, isOp]
  by_cases h11 : op = 11
  · subst h11; simp [cyc, isOp]
  by_cases h12 : op = 12
  · subst h12; simp [cyc, isOp]
  simp only [h4, h5, h22, h10, h11, h12, if_false, false_or, beq_eq_false_iff_ne.mpr h22, beq_eq_false_iff_ne.mpr h12]
  by_cases g : 1 ≤ op ∧ op ≤ 23
  · simp [g] <;> omega
  · simp [g] <;> omega
end Go.Proofs.Ytlmpoojpbdmmfaa.H
end
