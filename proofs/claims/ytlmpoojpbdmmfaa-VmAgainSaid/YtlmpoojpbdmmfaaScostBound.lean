/- cost.Bound as a plain function, and what it holds in memory between its rounds. The conditions: what each names. cost.Bound, walked. The conditions: what each names. cost.Bound computes 'bound'. The conditions: the argument reads as a list of instructions. -/
import Derived.Test.YtlmpoojpbdmmfaaRwalk21
import Derived.Test.YtlmpoojpbdmmfaaA18
import Derived.Sort.QuietIn
import Derived.LoopTactic
import Derived.BigFrame
import Derived.WalkSmall
set_option linter.unusedVariables false
set_option linter.unusedSimpArgs false
namespace Go.Proofs.Ytlmpoojpbdmmfaa.H
open Go.RowKit Go.Proofs.YtlmpoojpbdmmfaaW.PrintWords Go.Shelf

def stepI (k : Nat) (s : Bool × List Int × List Int) (x : Nat × Int) : Bool × List Int × List Int :=
  (false, if s.1 = true ∨ s.2.1.getD x.1 0 < s.2.1.getD k 0 then s.2.1.set k (s.2.1.getD x.1 0) else s.2.1, s.2.2.set k (max (s.2.2.getD k 0) (s.2.2.getD x.1 0)))
def inner (k : Nat) (xs : List (Nat × Int)) (a b : List Int) : Bool × List Int × List Int := xs.foldl (stepI k) (true, a, b)
def addAt (a : List Int) (k : Nat) (c : Int) : List Int := a.set k (wrap64 (a.getD k 0 + c))
def stepB (l : List S53) (is : List Bool) (k : Nat) (ab : List Int × List Int) : List Int × List Int :=
  if is.getD k false = true then (addAt (inner k (succs (rd_T53 l k) k) ab.1 ab.2).2.1 k (cyc (rd_T53 l k).f0), addAt (inner k (succs (rd_T53 l k) k) ab.1 ab.2).2.2 k (cyc (rd_T53 l k).f0)) else ab
def back (l : List S53) (is : List Bool) : Nat → List Int × List Int → List Int × List Int
  | 0, ab => ab
  | k + 1, ab => back l is k (stepB l is k ab)
def start21 (n : Nat) : List Bool := (List.replicate n false).set 0 true
def bound (l : List S53) : Int × Int × Int :=
  if 4096 < l.length then (0, 0, 4) else if okAll l = true then
    (if l.length = 0 then (0, 0, 195) else if (scan l l.length 0 (start21 l.length)).2 = 0 then
      ((back l (scan l l.length 0 (start21 l.length)).1 l.length (List.replicate l.length 0, List.replicate l.length 0)).1.getD 0 0,
       (back l (scan l l.length 0 (start21 l.length)).1 l.length (List.replicate l.length 0, List.replicate l.length 0)).2.getD 0 0, 0)
      else (0, 0, (scan l l.length 0 (start21 l.length)).2))
  else (0, 0, 180)

theorem inner_snoc (k : Nat) (xs : List (Nat × Int)) (x : Nat × Int) (a b : List Int) : inner k (xs ++ [x]) a b = stepI k (inner k xs a b) x := by simp [inner]

theorem kept_cells {W W' : World} {row : Option Nat} {B k : Nat} {o : Obj} (hg : W.grownBy W' row) (hr : ∀ r, row = some r → B ≤ r ∧ ∃ o : Obj, W.heap[r]? = some o ∧ o.isCells = false) (hk : W.heap[k]? = some o) (ho : o.isCells = true ∨ k < B) :
    W'.heap[k]? = some o := by
  refine (hg.block k (Array.getElem?_eq_some_iff.1 hk).1 (fun e => ?_)).trans hk
  obtain ⟨h1, o', h2, h3⟩ := hr k e.symm
  rw [hk] at h2
  injection h2 with h2
  subst h2
  rcases ho with ho | ho
  · rw [h3] at ho; cases ho
  · omega
def ints21 (a : List Int) : Array Value := (a.map (Value.int .i64)).toArray
/-- What 'Bound' holds in memory between two rounds. -/
structure RB (w : World) (n Bi A B pa pb : Nat) (is : List Bool) (a b : List Int) (Ds : List Nat) (W : World) : Prop where
  hi : W.heap[Bi]? = some (.cells (is.map Value.bool).toArray 4 (0, 0))
  ha : W.heap[A]? = some (.cells (ints21 a) 2 (0, 0))
  hb : W.heap[B]? = some (.cells (ints21 b) 2 (0, 0))
  hpa : W.heap[pa]? = some (.cells #[.slice (some ⟨A, 0, none⟩) n n] 25 (0, 0))
  hpb : W.heap[pb]? = some (.cells #[.slice (some ⟨B, 0, none⟩) n n] 25 (0, 0))
  li : is.length = n
  la : a.length = n
  lb : b.length = n
  lo : w.heap.size ≤ A ∧ w.heap.size ≤ B
  ne : A ≠ B
  ds : ∀ D ∈ Ds, w.heap.size ≤ D ∧ W.heap[D]? = some (.deferred (some []))
  nd : Ds.Nodup
  bel : Below w.heap.size w W
section
variable {w : World} {n Bi A B pa pb : Nat} {is : List Bool} {a b : List Int} {Ds : List Nat} {W W' : World}
theorem RB.of (h : RB w n Bi A B pa pb is a b Ds W) (key : ∀ k o, W.heap[k]? = some o → (k = Bi ∨ k = A ∨ k = B ∨ k = pa ∨ k = pb ∨ k ∈ Ds) → W'.heap[k]? = some o) (hb : Below w.heap.size w W') : RB w n Bi A B pa pb is a b Ds W' :=
  ⟨key _ _ h.hi (by simp), key _ _ h.ha (by simp), key _ _ h.hb (by simp), key _ _ h.hpa (by simp), key _ _ h.hpb (by simp), h.li, h.la, h.lb, h.lo, h.ne, fun D hd => ⟨(h.ds D hd).1, key _ _ (h.ds D hd).2 (by simp [hd])⟩, h.nd, hb⟩
theorem RB.kept {B0 : Nat} {row : Option Nat} (h : RB w n Bi A B pa pb is a b Ds W) (hB : w.heap.size ≤ B0) (hD : ∀ D ∈ Ds, D < B0) (hg : W.grownBy W' row)
    (hr : ∀ r, row = some r → B0 ≤ r ∧ ∃ o : Obj, W.heap[r]? = some o ∧ o.isCells = false) : RB w n Bi A B pa pb is a b Ds W' :=
  h.of (fun k o hk hm => kept_cells hg hr hk (by
    rcases hm with rfl | rfl | rfl | rfl | rfl | hm
    · rw [h.hi] at hk; cases hk; exact .inl rfl
    · rw [h.ha] at hk; cases hk; exact .inl rfl
    · rw [h.hb] at hk; cases hk; exact .inl rfl
    · rw [h.hpa] at hk; cases hk; exact .inl rfl
    · rw [h.hpb] at hk; cases hk; exact .inl rfl
    · exact .inr (hD k hm))) (h.bel.grown hg h.bel.size (fun k e => Nat.le_trans hB (hr k e).1))
theorem RB.below (h : RB w n Bi A B pa pb is a b Ds W) (hb : Below W.heap.size W W') : RB w n Bi A B pa pb is a b Ds W' :=
  h.of (fun k o hk _ => (hb.block k (Array.getElem?_eq_some_iff.1 hk).1).trans hk) (h.bel.trans (hb.mono h.bel.size))
theorem RB.drew (h : RB w n Bi A B pa pb is a b Ds W) : RB w n Bi A B pa pb is a b Ds W.drew := h.of (fun _ _ hk _ => hk) h.bel.drew
/-- A store into a box that is none of these. -/
theorem RB.other (h : RB w n Bi A B pa pb is a b Ds W) {p : Nat} {t : TypeId} {x : Value} (hp : W.heap[p]? = some (.cells #[x] t (0, 0))) (ht : t ≠ 2 ∧ t ≠ 25) (hB : Bi < p) (hw : w.heap.size ≤ p) (v : Value) :
    RB w n Bi A B pa pb is a b Ds (W.setCell ⟨p, 0, none⟩ v) :=
  h.of (fun k o hk hm => (Below.heap_setCell W ⟨p, 0, none⟩ v k (by
    rintro rfl
    rcases hm with h1 | h1 | h1 | h1 | h1 | h1
    · omega
    · rw [h1, h.ha] at hp; injection hp with hp; injection hp with _ hp; exact ht.1 hp.symm
    · rw [h1, h.hb] at hp; injection hp with hp; injection hp with _ hp; exact ht.1 hp.symm
    · rw [h1, h.hpa] at hp; injection hp with hp; injection hp with _ hp; exact ht.2 hp.symm
    · rw [h1, h.hpb] at hp; injection hp with hp; injection hp with _ hp; exact ht.2 hp.symm
    · rw [(h.ds _ h1).2] at hp; cases hp)).trans hk) (h.bel.setCell (p := ⟨p, 0, none⟩) hw v)
theorem ints21_set (a : List Int) (j : Nat) (x : Int) : (ints21 a).setIfInBounds j (Value.int .i64 x) = ints21 (a.set j x) := by
  rw [ints21, List.setIfInBounds_toArray, ints21, List.map_set]
theorem RB.setA (h : RB w n Bi A B pa pb is a b Ds W) (j : Nat) (x : Int) : RB w n Bi A B pa pb is (a.set j x) b Ds (W.setCell ⟨A, j, none⟩ (.int .i64 x)) := by
  have key : ∀ k o, W.heap[k]? = some o → k ≠ A → (W.setCell ⟨A, j, none⟩ (.int .i64 x)).heap[k]? = some o := fun k o hk hne => (Below.heap_setCell W ⟨A, j, none⟩ _ k hne).trans hk
  refine ⟨key _ _ h.hi ?_, ?_, key _ _ h.hb (Ne.symm h.ne), key _ _ h.hpa ?_, key _ _ h.hpb ?_, h.li, by rw [List.length_set]; exact h.la, h.lb, h.lo, h.ne, fun D hd => ⟨(h.ds D hd).1, key _ _ (h.ds D hd).2 ?_⟩, h.nd, h.bel.setCell (p := ⟨A, j, none⟩) h.lo.1 _⟩
  · rintro rfl; have := h.hi.symm.trans h.ha; injection this with this; injection this with _ this; cases this
  · simp [World.setCell, Array.getElem?_modify, h.ha, ints21_set]
  · rintro rfl; have := h.hpa.symm.trans h.ha; injection this with this; injection this with _ this; cases this
  · rintro rfl; have := h.hpb.symm.trans h.ha; injection this with this; injection this with _ this; cases this
  · rintro rfl; have := (h.ds _ hd).2.symm.trans h.ha; cases this
theorem RB.setB (h : RB w n Bi A B pa pb is a b Ds W) (j : Nat) (x : Int) : RB w n Bi A B pa pb is a (b.set j x) Ds (W.setCell ⟨B, j, none⟩ (.int .i64 x)) := by
  have key : ∀ k o, W.heap[k]? = some o → k ≠ B → (W.setCell ⟨B, j, none⟩ (.int .i64 x)).heap[k]? = some o := fun k o hk hne => (Below.heap_setCell W ⟨B, j, none⟩ _ k hne).trans hk
  refine ⟨key _ _ h.hi ?_, key _ _ h.ha h.ne, ?_, key _ _ h.hpa ?_, key _ _ h.hpb ?_, h.li, h.la, by rw [List.length_set]; exact h.lb, h.lo, h.ne, fun D hd => ⟨(h.ds D hd).1, key _ _ (h.ds D hd).2 ?_⟩, h.nd, h.bel.setCell (p := ⟨B, j, none⟩) h.lo.2 _⟩
  · rintro rfl; have := h.hi.symm.trans h.hb; injection this with this; injection this with _ this; cases this
  · simp [World.setCell, Array.getElem?_modify, h.hb, ints21_set]
  · rintro rfl; have := h.hpa.symm.trans h.hb; injection this with this; injection this with _ this; cases this
  · rintro rfl; have := h.hpb.symm.trans h.hb; injection this with this; injection this with _ this; cases this
  · rintro rfl; have := (h.ds _ hd).2.symm.trans h.hb; cases this
theorem RB.more (h : RB w n Bi A B pa pb is a b Ds W) {D : Nat} (hD : W.heap[D]? = some (.deferred (some []))) (h1 : w.heap.size ≤ D) (h2 : ∀ x ∈ Ds, x < D) : RB w n Bi A B pa pb is a b (D :: Ds) W :=
  ⟨h.hi, h.ha, h.hb, h.hpa, h.hpb, h.li, h.la, h.lb, h.lo, h.ne, fun x hx => by rcases List.mem_cons.1 hx with rfl | hx; exact ⟨h1, hD⟩; exact h.ds x hx, List.nodup_cons.2 ⟨fun hm => by have := h2 D hm; omega, h.nd⟩, h.bel⟩
/-- The cells as a walk reads them. -/
theorem RB.cellA (h : RB w n Bi A B pa pb is a b Ds W) {j : Nat} (hj : j < n) : W.cell? ⟨A, j, none⟩ = some (.int .i64 (a.getD j 0)) := by
  simp [World.cell?, h.ha, ints21, List.getD_eq_getElem?_getD, h.la, hj]
theorem RB.cellB (h : RB w n Bi A B pa pb is a b Ds W) {j : Nat} (hj : j < n) : W.cell? ⟨B, j, none⟩ = some (.int .i64 (b.getD j 0)) := by
  simp [World.cell?, h.hb, ints21, List.getD_eq_getElem?_getD, h.lb, hj]
theorem RB.cellI (h : RB w n Bi A B pa pb is a b Ds W) {j : Nat} (hj : j < n) : W.cell? ⟨Bi, j, none⟩ = some (.bool (is.getD j false)) := by
  simp [World.cell?, h.hi, List.getD_eq_getElem?_getD, h.li, hj]
theorem RB.cellPa (h : RB w n Bi A B pa pb is a b Ds W) : W.cell? ⟨pa, 0, none⟩ = some (.slice (some ⟨A, 0, none⟩) n n) := by simp [World.cell?, h.hpa]
theorem RB.cellPb (h : RB w n Bi A B pa pb is a b Ds W) : W.cell? ⟨pb, 0, none⟩ = some (.slice (some ⟨B, 0, none⟩) n n) := by simp [World.cell?, h.hpb]
theorem RB.frozenA (h : RB w n Bi A B pa pb is a b Ds W) (j : Nat) : W.frozen? ⟨A, j, none⟩ = false := by simp [World.frozen?, h.ha]
theorem RB.frozenB (h : RB w n Bi A B pa pb is a b Ds W) (j : Nat) : W.frozen? ⟨B, j, none⟩ = false := by simp [World.frozen?, h.hb]
end
theorem made_zeros (n : Nat) : madeCells #[Value.int .i64 0] n = ints21 (List.replicate n 0) := by
  apply Array.ext
  · simp [madeCells, ints21]
  · intro i h1 h2
    simp [madeCells, Nat.mod_one, ints21]
theorem start4 (w : World) (o0 o1 o2 o3 : Obj) :
    ((((w.alloc o0).alloc o1).alloc o2).alloc o3).heap[w.heap.size]? = some o0 ∧ ((((w.alloc o0).alloc o1).alloc o2).alloc o3).heap[w.heap.size + 1]? = some o1 ∧
    ((((w.alloc o0).alloc o1).alloc o2).alloc o3).heap[w.heap.size + 1 + 1]? = some o2 ∧ ((((w.alloc o0).alloc o1).alloc o2).alloc o3).heap[w.heap.size + 1 + 1 + 1]? = some o3 := by
  obtain ⟨h0, h1, h2, h3, _⟩ := start5 w o0 o1 o2 o3 o3
  rw [heap_alloc_old _ _ (by simp <;> omega)] at h0 h1 h2 h3
  exact ⟨h0, h1, h2, h3⟩
theorem bel4 (w : World) (o0 o1 o2 o3 : Obj) : Below w.heap.size w ((((w.alloc o0).alloc o1).alloc o2).alloc o3).drew :=
  (((((Below.refl _ _).alloc (Nat.le_refl _) _).alloc (by simp) _).alloc (by simp; omega) _).alloc (by simp; omega) _).drew
theorem RB.start {w W1 W2 : World} {n Bi A B pa pb : Nat} {is : List Bool} (hi : W1.heap[Bi]? = some (.cells (is.map Value.bool).toArray 4 (0, 0))) (li : is.length = n) (bel : Below w.heap.size w W1) (hb : Below W1.heap.size W1 W2)
    (h1 : W2.heap[A]? = some (.cells (ints21 (List.replicate n 0)) 2 (0, 0))) (h2 : W2.heap[B]? = some (.cells (ints21 (List.replicate n 0)) 2 (0, 0)))
    (h3 : W2.heap[pa]? = some (.cells #[.slice (some ⟨A, 0, none⟩) n n] 25 (0, 0))) (h4 : W2.heap[pb]? = some (.cells #[.slice (some ⟨B, 0, none⟩) n n] 25 (0, 0)))
    (lo : W1.heap.size ≤ A ∧ W1.heap.size ≤ B) (ne : A ≠ B) : RB w n Bi A B pa pb is (List.replicate n 0) (List.replicate n 0) [] W2 :=
  ⟨(hb.block _ (Array.getElem?_eq_some_iff.1 hi).1).trans hi, h1, h2, h3, h4, li, by simp, by simp, ⟨Nat.le_trans bel.size lo.1, Nat.le_trans bel.size lo.2⟩, ne, by simp, List.nodup_nil, bel.trans (hb.mono bel.size)⟩
theorem box_cell21 {W : World} {b : Nat} {t : TypeId} {v : Value} (h : W.heap[b]? = some (.cells #[v] t (0, 0))) : W.cell? ⟨b, 0, none⟩ = some v := by simp [World.cell?, h]
theorem box_frozen {W : World} {b : Nat} {t : TypeId} {v : Value} (h : W.heap[b]? = some (.cells #[v] t (0, 0))) : W.frozen? ⟨b, 0, none⟩ = false := by simp [World.frozen?, h]
/-- How far the loop has still to go: what its counter's box holds. -/
def muB (a : Act) (W : World) : Nat := match a.tmps.getD 10 undef with | .pointer (some p) => (match W.cell? p with | some v => (intOf v + 1).toNat | none => 0) | _ => 0
theorem muB_eq {a : Act} {W : World} {p : Addr} {v : Value} (h : a.tmps.getD 10 undef = .pointer (some p)) (hc : W.cell? p = some v) : muB a W = (intOf v + 1).toNat := by simp only [muB, h, hc]
structure InvBs (l : List S53) (w : World) (n Bi A B pa pb : Nat) (is : List Bool) (FIN : List Int × List Int) (m : Nat) (ab : List Int × List Int) (Ds : List Nat) (pat : Nat) (W : World) : Prop where
  le : m ≤ n
  fin : back l is m ab = FIN
  rb : RB w n Bi A B pa pb is ab.1 ab.2 Ds W
  at_ : W.heap[pat]? = some (.cells #[.int .i64 ((m : Int) - 1)] 3 (0, 0))
  gt : Bi < pat
  lo : w.heap.size ≤ pat
def InvB (fr : Nat → (Nat → Value) → Array Value) (l : List S53) (w : World) (n Bi A B pa pb : Nat) (is : List Bool) (FIN : List Int × List Int) (a : Act) (W : World) : Prop :=
  ∃ (m : Nat) (ab : List Int × List Int) (Ds : List Nat) (pat : Nat) (u : Nat → Value), a.tmps = fr pat u ∧ a.defers = Ds.map mark ∧ Aside0 (InvBs l w n Bi A B pa pb is FIN m ab Ds pat W)
theorem InvB.intro {fr : Nat → (Nat → Value) → Array Value} {l : List S53} {w : World} {n Bi A B pa pb : Nat} {is : List Bool} {FIN : List Int × List Int} {a : Act} {W : World} (m : Nat) (ab : List Int × List Int) (Ds : List Nat) (pat : Nat)
    (h1 : a.tmps = fr pat (fun j => a.tmps.getD j undef)) (h2 : a.defers = Ds.map mark) (h : InvBs l w n Bi A B pa pb is FIN m ab Ds pat W) : InvB fr l w n Bi A B pa pb is FIN a W := ⟨m, ab, Ds, pat, _, h1, h2, ⟨h⟩⟩
theorem start3 (w : World) (o0 o1 o2 : Obj) :
    (((w.alloc o0).alloc o1).alloc o2).heap[w.heap.size]? = some o0 ∧ (((w.alloc o0).alloc o1).alloc o2).heap[w.heap.size + 1]? = some o1 ∧ (((w.alloc o0).alloc o1).alloc o2).heap[w.heap.size + 1 + 1]? = some o2 := by
  obtain ⟨h0, h1, h2, _⟩ := start4 w o0 o1 o2 o2
  rw [heap_alloc_old _ _ (by simp <;> omega)] at h0 h1 h2
  exact ⟨h0, h1, h2⟩
theorem ok_args2 {l : List S53} (h : okAll l = true) (k : Nat) (hk : k < l.length) : 1 ≤ (rd_T53 l k).f1 ∨ ((rd_T53 l k).f0 ≠ 21 ∧ (rd_T53 l k).f0 ≠ 22) := by
  have hm : mayB (rd_T53 l k).f0 (rd_T53 l k).f1 = true := List.all_eq_true.1 h _ (by unfold rd_T53; rw [List.getD_eq_getElem?_getD, List.getElem?_eq_getElem (by omega)]; exact List.getElem_mem _)
  by_cases hj : (rd_T53 l k).f0 = 21 ∨ (rd_T53 l k).f0 = 22
  · left
    unfold mayB at hm
    rw [if_neg (by omega), if_neg (by omega), if_neg (by omega), if_pos hj] at hm
    simp at hm
    exact hm.1
  · right; omega
theorem succs_gt {i : S53} {k : Nat} (h : 1 ≤ i.f1 ∨ (i.f0 ≠ 21 ∧ i.f0 ≠ 22)) : ∀ x ∈ succs i k, k < x.1 := by
  intro x hx
  unfold succs at hx
  split at hx
  · simp at hx
  split at hx
  · simp at hx; subst hx; simp; omega
  split at hx
  · simp at hx; rcases hx with rfl | rfl <;> simp; omega
  · simp at hx; subst hx; simp
theorem setAll_below {xs : List (Nat × Int)} {j k : Nat} (hx : ∀ x ∈ xs, k < x.1) (hj : j ≤ k) : ∀ is : List Bool, (setAll is xs).getD j false = is.getD j false := by
  induction xs with
  | nil => intro is; rfl
  | cons x r ih =>
    intro is
    have h1 := hx x (by simp)
    show (setAll (is.set x.1 true) r).getD j false = _
    rw [ih (fun y hy => hx y (by simp [hy]))]
    simp only [List.getD_eq_getElem?_getD, List.getElem?_set]
    rw [if_neg (by omega)]
theorem scan1_ok {n : Nat} {xs : List (Nat × Int)} (he : ∀ x ∈ xs, x.2 ≠ 0) : ∀ is, (scan1 n is xs).2 = 0 → (scan1 n is xs).1 = setAll is xs ∧ ∀ x ∈ xs, x.1 < n := by
  induction xs with
  | nil => intro is _; exact ⟨rfl, by simp⟩
  | cons x r ih =>
    intro is h
    rw [scan1] at h ⊢
    split at h
    · exact absurd h (he x (by simp))
    · rename_i hlt
      rw [if_neg hlt]
      obtain ⟨h1, h2⟩ := ih (fun y hy => he y (by simp [hy])) _ h
      exact ⟨h1, fun y hy => by rcases List.mem_cons.1 hy with rfl | hy; omega; exact h2 y hy⟩
theorem scan_spec {l : List S53} (hok : okAll l = true) : ∀ (d k : Nat) (is out : List Bool), d + k = l.length → scan l d k is = (out, 0) →
    (∀ j, j ≤ k → d = 0 ∨ j ≤ k → out.getD j false = is.getD j false ∨ (d = 0 ∧ out = is)) ∧ ∀ j, k ≤ j → j < l.length → out.getD j false = true → ∀ x ∈ succs (rd_T53 l j) j, x.1 < l.length
  | 0, k, is, out, hd, h => by
    simp only [scan, Prod.mk.injEq] at h
    exact ⟨fun j _ _ => .inl (by rw [h.1]), fun j h1 h2 => by omega⟩
  | d + 1, k, is, out, hd, h => by
    have hk : k < l.length := by omega
    have hg := succs_gt (k := k) (ok_args2 hok k hk)
    rw [scan] at h
    split at h
    · rename_i hb
      split at h
      · rename_i he
        obtain ⟨h1, h2⟩ := scan1_ok (fun x hx => by rcases succs_err hx with e | e <;> rw [e] <;> decide) _ he
        rw [h1] at h
        obtain ⟨h3, h4⟩ := scan_spec hok d (k + 1) _ out (by omega) h
        have key : ∀ j, j ≤ k → out.getD j false = is.getD j false := fun j hj => by
          rcases h3 j (by omega) (.inr (by omega)) with e | e
          · rw [e, setAll_below hg hj]
          · rw [e.2, setAll_below hg hj]
        refine ⟨fun j hj _ => .inl (key j hj), fun j hj hl ho x hx => ?_⟩
        rcases Nat.eq_or_lt_of_le hj with rfl | hj
        · exact h2 x hx
        · exact h4 j hj hl ho x hx
      · rename_i he
        simp only [Prod.mk.injEq] at h
        exact absurd h.2 he
    · rename_i hb
      obtain ⟨h3, h4⟩ := scan_spec hok d (k + 1) _ out (by omega) h
      have key : ∀ j, j ≤ k → out.getD j false = is.getD j false := fun j hj => by
        rcases h3 j (by omega) (.inr (by omega)) with e | e
        · exact e
        · rw [e.2]
      refine ⟨fun j hj _ => .inl (key j hj), fun j hj hl ho x hx => ?_⟩
      rcases Nat.eq_or_lt_of_le hj with rfl | hj
      · rw [key _ (Nat.le_refl _)] at ho; exact absurd ho hb
      · exact h4 j hj hl ho x hx
/-- What a reached instruction goes to is no place beyond. -/
theorem scan_in {l : List S53} {is : List Bool} (h : scan l l.length 0 (start21 l.length) = (is, 0)) (hok : okAll l = true) {k : Nat} (hk : k < l.length) (hb : is.getD k false = true) : ∀ x ∈ succs (rd_T53 l k) k, x.1 < l.length :=
  (scan_spec hok l.length 0 _ is (by omega) h).2 k (Nat.zero_le _) hk hb
def FrameIs (fr : (Nat → Value) → Array Value) (a : Act) : Prop := ∃ u : Nat → Value, a.tmps = fr u ∧ a.defers = []
theorem FrameIs.intro {fr : (Nat → Value) → Array Value} {a : Act} (h1 : a.tmps = fr (fun j => a.tmps.getD j undef)) (h2 : a.defers = []) : FrameIs fr a := ⟨_, h1, h2⟩
theorem keeps_drew (W : World) : KeepsOthers W W.drew := ⟨Nat.le_refl _, fun _ _ h _ => h⟩
theorem round_end {w : World} {n Bi A B pa pb : Nat} {is : List Bool} {a5 b : List Int} {Ds : List Nat} {W5 : World} {pf pat k : Nat} {fi : Bool} (H5 : RB w n Bi A B pa pb is a5 b Ds W5) (hF : W5.heap[pf]? = some (.cells #[.bool fi] 4 (0, 0)))
    (hA : W5.heap[pat]? = some (.cells #[.int .i64 (k : Int)] 3 (0, 0))) (hB : Bi < pf) (hw : w.heap.size ≤ pf) (v : Int) :
    RB w n Bi A B pa pb is a5 (b.set k v) Ds ((W5.setCell ⟨B, k, none⟩ (.int .i64 v)).setCell ⟨pf, 0, none⟩ (.bool false)).drew ∧
    ((W5.setCell ⟨B, k, none⟩ (.int .i64 v)).setCell ⟨pf, 0, none⟩ (.bool false)).drew.heap[pf]? = some (.cells #[.bool false] 4 (0, 0)) ∧
    ((W5.setCell ⟨B, k, none⟩ (.int .i64 v)).setCell ⟨pf, 0, none⟩ (.bool false)).drew.heap[pat]? = some (.cells #[.int .i64 (k : Int)] 3 (0, 0)) := by
  have n1 : pf ≠ B := by rintro rfl; have := hF.symm.trans H5.hb; injection this with this; injection this with _ this; cases this
  have n2 : pat ≠ B := by rintro rfl; have := hA.symm.trans H5.hb; injection this with this; injection this with _ this; cases this
  have n3 : pat ≠ pf := by rintro rfl; have := hA.symm.trans hF; injection this with this; injection this with _ this; cases this
  have hF' := (Below.heap_setCell W5 ⟨B, k, none⟩ (.int .i64 v) pf n1).trans hF
  have hA' := (Below.heap_setCell W5 ⟨B, k, none⟩ (.int .i64 v) pat n2).trans hA
  refine ⟨((H5.setB k v).other hF' (by decide) hB hw _).drew, ?_, ?_⟩
  · show ((W5.setCell ⟨B, k, none⟩ (.int .i64 v)).setCell ⟨pf, 0, none⟩ (.bool false)).heap[pf]? = _
    generalize W5.setCell ⟨B, k, none⟩ (.int .i64 v) = W6 at hF'
    simp [World.setCell, Array.getElem?_modify, hF']
  · exact (Below.heap_setCell _ ⟨pf, 0, none⟩ _ pat n3).trans hA'
theorem round_mid {w : World} {n Bi A B pa pb : Nat} {is : List Bool} {a b : List Int} {Ds : List Nat} {W : World} {p t j : Nat} {x : Value} (H : RB w n Bi A B pa pb is a b Ds W) (v : Value) (hF : W.heap[p]? = some (.cells #[x] t (0, 0))) (ht : t ≠ 2) :
    (W.setCell ⟨A, j, none⟩ v).heap[p]? = some (.cells #[x] t (0, 0)) :=
  (Below.heap_setCell W ⟨A, j, none⟩ v p (by rintro rfl; have := hF.symm.trans H.ha; injection this with this; injection this with _ this; exact ht this)).trans hF
end Go.Proofs.Ytlmpoojpbdmmfaa.H
set_option linter.unusedVariables false
set_option linter.unusedSimpArgs false
namespace Go.Proofs.Ytlmpoojpbdmmfaa.H
open Go.RowKit Go.Proofs.YtlmpoojpbdmmfaaW.PrintWords Go.Shelf
attribute [local go_sem] Oper.semAt_some
theorem ok_args {l : List S53} (h : okAll l = true) (k : Nat) (hk : k < l.length) : (1 ≤ (rd_T53 l k).f1 ∧ (rd_T53 l k).f1 ≤ 4096) ∨ ((rd_T53 l k).f0 ≠ 21 ∧ (rd_T53 l k).f0 ≠ 22) := by
  have hm : mayB (rd_T53 l k).f0 (rd_T53 l k).f1 = true := List.all_eq_true.1 h _ (by unfold rd_T53; rw [List.getD_eq_getElem?_getD, List.getElem?_eq_getElem (by omega)]; exact List.getElem_mem _)
  by_cases hj : (rd_T53 l k).f0 = 21 ∨ (rd_T53 l k).f0 = 22
  · left
    unfold mayB at hm
    rw [if_neg (by omega), if_neg (by omega), if_neg (by omega), if_pos hj] at hm
    simpa using hm
  · right; omega
set_option maxHeartbeats 8000000 in
set_option maxRecDepth 100000 in
theorem bound_calls (ad : Addr) (n c : Nat) (l : List S53) (w : World) (hr : Kd.C k53 w (some ad) n l) (hn : 0 < n) (hn2 : n ≤ 4096) :
    Calls Try.prog 26 #[.slice (some ad) n c] w fun e w' => e = .returned (.tuple #[.int .i64 (bound l).1, .int .i64 (bound l).2.1, .int .i64 (bound l).2.2]) ∧ Below w.heap.size w w' := by
  have HR := Aside0.mk hr
  have HLn := Aside0.mk hr.1
  clear hr
  refine (callsIn_wide (n := 4)).1 ?_
  refine callsIn_of_wp_marks Try.func26 rfl trivial ?_ rfl
  simp only [Try.ntmps26, List.size_toArray, List.length_cons, List.length_nil, Nat.reduceAdd, Nat.reduceSub, Array.replicate_succ, Array.replicate_zero, List.push_toArray, List.append_toArray, List.nil_append, List.cons_append]
  have hd0 : decide ((4096 : Nat) < n) = false := decide_eq_false (by omega)
  have hz0 : ((n : Int) == 0) = false := by simp; omega
  gi_wp2
  gi_loopw [19] (fun v19 wr => ∃ x : Nat, v19 = .int .i64 x ∧ Aside0 (x ≤ n ∧ okAll (l.take x) = true) ∧ Aside0 (Below w.heap.size w wr)) (fun v19 wr => n - (intOf v19).toNat)
  case atStart => exact ⟨0, rfl, ⟨Nat.zero_le _, by simp [okAll]⟩, ⟨Below.refl _ _⟩⟩
  case round =>
    obtain ⟨x, rfl, HX, HB⟩ := hrel
    by_cases hxn : x < n
    · have hd : decide (x < n) = true := decide_eq_true hxn
      obtain ⟨ad', e, hc1, hc2⟩ := at_T53 (Kd.C_below HR.out HB.out) (x : Int) (by omega) (by omega)
      injection e with e1
      subst e1
      simp only [Int.toNat_natCast] at hc1 hc2
      generalize hi : rd_T53 l (x : Int) = i at *
      have Hi := Aside0.mk hi
      clear hi
      obtain ⟨K, hK0⟩ := ev_may i.f0 i.f1
      have HK := Aside0.mk (hK0 K (Nat.le_refl _))
      clear hK0
      gi_wp2
      refine ⟨trivial, ?_⟩
      refine (callsIn_wide.2 (code_May.calls K i.f0 i.f1 _ _ HK.out)).mono ?_
      rintro e W1 ⟨rfl, hb1⟩
      have HB1 := Aside0.mk ((HB.out.alloc HB.out.size (.cells #[.int .u8 i.f0, .int .i64 i.f1] 53)).trans (hb1.mono (by have := HB.out.size; simp; omega)))
      clear hb1
      generalize hmay : mayB i.f0 i.f1 = b
      have HM := Aside0.mk hmay
      clear hmay
      have hlast : l.take (x + 1) = l.take x ++ [i] := by rw [take_rd (by rw [HLn.out]; exact hxn), Hi.out]
      have HT := Aside0.mk hlast
      clear hlast
      cases b with
      | false =>
        gi_wp2
        refine ⟨_, results_tmp3 rfl _ _ _, ?_, HB1.out⟩
        have hno : okAll l = false := by
          rw [Bool.eq_false_iff]
          intro hk
          have := List.all_eq_true.1 hk i (by rw [← Hi.out]; unfold rd_T53; rw [List.getD_eq_getElem?_getD, List.getElem?_eq_getElem (by rw [HLn.out]; omega)]; exact List.getElem_mem _)
          rw [HM.out] at this
          cases this
        simp [bound, HLn.out, hno, show ¬ 4096 < n by omega]
      | true =>
        gi_wp2
        refine ⟨⟨x + 1, rfl, ⟨by omega, ?_⟩, HB1⟩, by simp [intOf]; omega⟩
        rw [HT.out]
        simp only [okAll, List.all_append, List.all_cons, List.all_nil, Bool.and_true, Bool.and_eq_true]
        exact ⟨HX.out.2, HM.out⟩
    · have hd : decide (x < n) = false := decide_eq_false hxn
      have hok : okAll l = true := by
        have h1 := HX.out
        have h2 : l.take x = l := List.take_of_length_le (by rw [HLn.out]; omega)
        rw [h2] at h1
        exact h1.2
      have HOK := Aside0.mk hok
      clear hok
      have hI : (Try.prog.info? 2).map (fun i => (i.zero, i.size, i.bytes)) = some (some (.int .i64 0), 1, 8) := by kernel_rfl
      have hmk := print_make_of (P := Try.prog) 25 2 (.int .i64 0) 8 Try.underlying25 hI rfl (by decide) n (by omega)
      clear hI
      gi_wp2
      refine ⟨trivial, ?_⟩
      refine (callsIn_wide.2 (reached_calls ad n c l wr (Kd.C_below HR.out HB.out) hn hn2 (fun k hk => by rcases ok_args HOK.out k (by rw [HLn.out]; exact hk) with h | h; exact .inl ⟨by omega, h.2⟩; exact .inr h))).mono ?_
      rintro e W1 ⟨v, rfl, hb1, hsc⟩
      have HB1 := Aside0.mk (HB.out.trans (hb1.mono HB.out.size))
      generalize hout : scan l n 0 ((List.replicate n false).set 0 true) = out at hsc
      have HO := Aside0.mk hout
      clear hout
      obtain ⟨is, er⟩ := out
      simp only at hsc
      by_cases he : er = 0
      · subst he
        obtain ⟨Bi, hBi, rfl, hrow, hlen⟩ := hsc rfl
        have HI := Aside0.mk hrow
        have HL := Aside0.mk hlen
        clear hrow hlen hsc hb1
        gi_wp2
        rename_i K hK
        have key : ∀ (A B pa pb : Nat) (W2 : World), Aside0 (RB w n Bi A B pa pb is (List.replicate n 0) (List.replicate n 0) [] W2) → K { tmps := #[.slice (some ad) n c, undef, u2, u3, .int .i64 0, undef, u6, .slice (some ⟨Bi, 0, none⟩) n n, .pointer (some ⟨pa, 0, none⟩), .pointer (some ⟨pb, 0, none⟩), undef, undef, undef, undef, .slice (some ad) n c, .int .i64 n, .bool (decide ((4096 : Int) < n)), .slice (some ad) n c, .int .i64 n, .int .i64 x, .bool false, u21, u22, u23, u24, u25, u26, .slice (some ad) n c, .int .i64 n, .bool false, .tuple #[.slice (some ⟨Bi, 0, none⟩) n n, .int .i64 0], .slice (some ad) n c, .tuple #[.slice (some ⟨Bi, 0, none⟩) n n, .int .i64 0], .slice (some ⟨Bi, 0, none⟩) n n, .int .i64 0, .int .i64 0, .bool false, undef, .slice (some ad) n c, .int .i64 n, .slice (some ⟨A, 0, none⟩) n n, .slice (some ad) n c, .int .i64 n, .slice (some ⟨B, 0, none⟩) n n, undef, undef, undef, undef, undef, undef, undef, undef, undef, undef, undef, undef, undef, undef, undef, undef, undef, undef, undef, undef, undef, undef, undef, undef, undef, undef, undef, undef, undef, undef, undef, undef, undef, undef, undef, undef, undef, undef, undef, undef, undef, undef, undef, undef, undef, undef, undef, undef, undef, undef, undef, undef, undef, undef, undef, undef, undef, undef, undef, undef, undef, undef, undef, undef, undef, undef, undef, undef, undef, undef, undef, undef, undef, undef, undef], defers := [] } W2 := by
          intro A B pa pb W2 H
          refine hK _ _ ?_
          clear hK
          have hnn : (1 : Int) ≤ n := by omega
          gi_wp2
          generalize hfin : back l is n (List.replicate n 0, List.replicate n 0) = FIN
          have HF := Aside0.mk hfin
          clear hfin
          refine wpIn_loop (InvB (fun pat u => #[.slice (some ad) n c, undef, u2, u3, .int .i64 0, undef, u6, .slice (some ⟨Bi, 0, none⟩) n n, .pointer (some ⟨pa, 0, none⟩), .pointer (some ⟨pb, 0, none⟩), .pointer (some ⟨pat, 0, none⟩), u 11, u 12, u 13, .slice (some ad) n c, .int .i64 n, .bool (decide ((4096 : Int) < n)), .slice (some ad) n c, .int .i64 n, .int .i64 x, .bool false, u21, u22, u23, u24, u25, u26, .slice (some ad) n c, .int .i64 n, .bool false, .tuple #[.slice (some ⟨Bi, 0, none⟩) n n, .int .i64 0], .slice (some ad) n c, .tuple #[.slice (some ⟨Bi, 0, none⟩) n n, .int .i64 0], .slice (some ⟨Bi, 0, none⟩) n n, .int .i64 0, .int .i64 0, .bool false, undef, .slice (some ad) n c, .int .i64 n, .slice (some ⟨A, 0, none⟩) n n, .slice (some ad) n c, .int .i64 n, .slice (some ⟨B, 0, none⟩) n n, .slice (some ad) n c, .int .i64 n, .int .i64 ((n : Int) - 1), u 47, u 48, u 49, u 50, u 51, u 52, u 53, u 54, u 55, u 56, u 57, u 58, u 59, u 60, u 61, u 62, u 63, u 64, u 65, u 66, u 67, u 68, u 69, u 70, u 71, u 72, u 73, u 74, u 75, u 76, u 77, u 78, u 79, u 80, u 81, u 82, u 83, u 84, u 85, u 86, u 87, u 88, u 89, u 90, u 91, u 92, u 93, u 94, u 95, u 96, u 97, u 98, u 99, u 100, u 101, u 102, u 103, u 104, u 105, u 106, u 107, u 108, u 109, u 110, u 111, u 112, undef, undef, undef, undef, undef, undef]) l w n Bi A B pa pb is FIN) muB ?start ?round
          case start =>
            refine InvB.intro n (List.replicate n 0, List.replicate n 0) [] W2.heap.size rfl rfl ⟨Nat.le_refl _, HF.out, H.out.below ((Below.refl _ _).alloc (Nat.le_refl _) _), heap_alloc_new _ _, (Array.getElem?_eq_some_iff.1 H.out.hi).1, H.out.bel.size⟩
          case round =>
            rintro ⟨tm, df⟩ W ⟨m, ab, Ds, pat, u, ht, hdf, HS⟩
            simp only at ht hdf
            subst ht hdf
            have HC := HS.out.rb
            cases m with
            | zero =>
              have hcat : W.cell? ⟨pat, 0, none⟩ = some (.int .i64 (-1)) := by simp [World.cell?, HS.out.at_]
              have hcA := HC.cellA hn
              have hcB := HC.cellB hn
              have hpa := HC.cellPa
              have hpb := HC.cellPb
              have hn1 : (0 : Int) < (n : Int) := by omega
              clear HC
              gi_wp2
              gi_quiet (fail)
              gi_wp2
              refine leaves_marks (B := w.heap.size) Ds _ HS.out.rb.nd (fun y hy => HS.out.rb.ds y hy) ?_
              intro W' hW'
              refine ⟨_, results_tmp3 rfl _ _ _, ?_, HS.out.rb.bel.trans ((below_drewN (Below.refl _ _) _).trans hW')⟩
              have hfin := HS.out.fin
              simp only [back] at hfin
              simp [bound, HLn.out, HOK.out, show ¬ 4096 < n by omega, start21, HO.out, show n ≠ 0 by omega, HF.out, ← hfin]
            | succ k =>
              have hk : k < n := by have := HS.out.le; omega
              have hcat : W.cell? ⟨pat, 0, none⟩ = some (.int .i64 (k : Int)) := by simp [World.cell?, HS.out.at_]
              have hcI := HC.cellI hk
              clear HC
              generalize his : is.getD k false = bi at hcI
              have HB := Aside0.mk his
              clear his
              cases bi with
              | false =>
                gi_wp2
                refine ⟨InvB.intro k ab Ds W.heap.size rfl rfl ⟨by omega, ?_, HS.out.rb.below ((Below.refl _ _).alloc (Nat.le_refl _) _), heap_alloc_new _ _, (Array.getElem?_eq_some_iff.1 HS.out.rb.hi).1, HS.out.rb.bel.size⟩, ?_⟩
                · rw [← HS.out.fin, back, stepB, if_neg (by rw [HB.out]; simp)]
                · rw [muB_eq (v := .int .i64 ((k : Int) - 1)) rfl (box_cell21 (heap_alloc_new _ _)), muB_eq (v := .int .i64 (k : Int)) rfl hcat]
                  simp [intOf]
              | true =>
                have hpl : pat < W.heap.size := (Array.getElem?_eq_some_iff.1 HS.out.at_).1
                gi_wp2
                refine ⟨trivial, ?_⟩
                refine (callsIn_wide.2 (follows_calls (some ad) n c l (k : Int) _ (Kd.C_below HR.out (HS.out.rb.bel.alloc HS.out.rb.bel.size _)) (by omega) (by omega))).mono ?_
                rintro e W3 ⟨rfl, rfl⟩
                generalize hi : rd_T53 l (k : Int) = i
                have HI2 := Aside0.mk hi
                clear hi
                gi_wp2
                obtain ⟨W3, hW3⟩ : ∃ W3, ((W.alloc (.cells #[.bool true] 4)).alloc (.cells #[.int .i64 (k : Int)] 3)).alloc (.cells #[.int .u8 i.f0, .int .i64 i.f1] 53) = W3 := ⟨_, rfl⟩
                obtain ⟨hx0, hx1, hx2⟩ := start3 W (.cells #[.bool true] 4) (.cells #[.int .i64 (k : Int)] 3) (.cells #[.int .u8 i.f0, .int .i64 i.f1] 53)
                have hb3 : Below W.heap.size W (((W.alloc (.cells #[.bool true] 4)).alloc (.cells #[.int .i64 (k : Int)] 3)).alloc (.cells #[.int .u8 i.f0, .int .i64 i.f1] 53)) := (((Below.refl _ _).alloc (Nat.le_refl _) _).alloc (by simp) _).alloc (by simp; omega) _
                have hsz : (((W.alloc (.cells #[.bool true] 4)).alloc (.cells #[.int .i64 (k : Int)] 3)).alloc (.cells #[.int .u8 i.f0, .int .i64 i.f1] 53)).heap.size = W.heap.size + 1 + 1 + 1 := by simp
                rw [hW3] at hx0 hx1 hx2 hb3 hsz
                rw [hW3]
                have HS3 := Aside0.mk (HS.out.rb.below hb3)
                have hat3 : W3.heap[pat]? = some (.cells #[.int .i64 (k : Int)] 3 (0, 0)) := by rw [hb3.block _ hpl, HS.out.at_]; simp
                have hlD : ∀ D ∈ Ds, D < W3.heap.size := fun D hd => (Array.getElem?_eq_some_iff.1 (HS3.out.ds D hd).2).1
                have hBiW : Bi < W.heap.size := (Array.getElem?_eq_some_iff.1 HS.out.rb.hi).1
                have hin : ∀ y ∈ succs i k, y.1 < n := by
                  have h := scan_in (l := l) (is := is) (by rw [HLn.out]; exact HO.out) HOK.out (k := k) (by rw [HLn.out]; exact hk) HB.out
                  rw [HI2.out, HLn.out] at h
                  exact h
                have HLD := Aside0.mk hlD
                clear hlD
                have hwl : w.heap.size ≤ W.heap.size := HS.out.rb.bel.size
                refine wpIn_rangeFunc_ownG (F := Fence.wide) (n := 4) rfl (by decide) (gf := 75) (lb := #[.pointer (some ⟨W.heap.size + 1 + 1, 0, none⟩), .pointer (some ⟨W.heap.size + 1, 0, none⟩)]) rfl trivial (enters_of Try.func75 (by kernel_rfl) rfl)
                  (follows1_stopsP (fun y => y.1 < n) Fence.wide 3 trivial rfl (by decide) (W.heap.size + 1 + 1) (W.heap.size + 1) i k (by omega) (by rw [← HI2.out]; rcases ok_args HOK.out k (by rw [HLn.out]; exact hk) with h | h; exact .inl ⟨by omega, h.2⟩; exact .inr h) W3 hin hx2 hx1) ?hKt ?hKb (Below.refl _ _) (fun _ => rfl)
                  (fun pre W2 => RB w n Bi A B pa pb is (inner k (pre.map Subtype.val) ab.1 ab.2).2.1 (inner k (pre.map Subtype.val) ab.1 ab.2).2.2 Ds W2 ∧ W2.heap[W.heap.size]? = some (.cells #[.bool (inner k (pre.map Subtype.val) ab.1 ab.2).1] 4 (0, 0)) ∧ W2.heap[pat]? = some (.cells #[.int .i64 (k : Int)] 3 (0, 0)))
                  (fun cd pre W2 => False)
                  ?hI ?hIx ⟨HS3.out, hx0, hat3⟩
                  (fun y => { tmps := #[.slice (some ad) n c, undef, u2, u3, .int .i64 0, undef, u6, .slice (some ⟨Bi, 0, none⟩) n n, .pointer (some ⟨pa, 0, none⟩), .pointer (some ⟨pb, 0, none⟩), .pointer (some ⟨pat, 0, none⟩), .pointer (some ⟨W.heap.size, 0, none⟩), .int .i64 y.1.1, u 13, .slice (some ad) n c, .int .i64 n, .bool (decide ((4096 : Int) < n)), .slice (some ad) n c, .int .i64 n, .int .i64 x, .bool false, u21, u22, u23, u24, u25, u26, .slice (some ad) n c, .int .i64 n, .bool false, .tuple #[.slice (some ⟨Bi, 0, none⟩) n n, .int .i64 0], .slice (some ad) n c, .tuple #[.slice (some ⟨Bi, 0, none⟩) n n, .int .i64 0], .slice (some ⟨Bi, 0, none⟩) n n, .int .i64 0, .int .i64 0, .bool false, undef, .slice (some ad) n c, .int .i64 n, .slice (some ⟨A, 0, none⟩) n n, .slice (some ad) n c, .int .i64 n, .slice (some ⟨B, 0, none⟩) n n, .slice (some ad) n c, .int .i64 n, .int .i64 ((n : Int) - 1), .int .i64 k, .bool true, u 49, u 50, .slice (some ⟨Bi, 0, none⟩) n n, .int .i64 k, .pointer (some ⟨Bi, k, none⟩), .bool true, .bool false, .slice (some ad) n c, .int .i64 k, .func (.func 75) #[] #[.pointer (some ⟨W.heap.size + 1 + 1, 0, none⟩), .pointer (some ⟨W.heap.size + 1, 0, none⟩)], .int .i64 y.1.1, .int .i64 y.1.2, u 61, u 62, u 63, u 64, u 65, u 66, u 67, u 68, u 69, u 70, u 71, u 72, u 73, u 74, u 75, u 76, u 77, u 78, u 79, u 80, u 81, u 82, u 83, u 84, u 85, u 86, u 87, u 88, u 89, u 90, u 91, u 92, u 93, u 94, u 95, u 96, u 97, u 98, u 99, u 100, u 101, u 102, u 103, u 104, u 105, u 106, u 107, u 108, u 109, u 110, u 111, u 112, undef, undef, undef, undef, undef, undef], defers := [] }) ?assign ?body ?done ?stop
                case hKt => exact fun h k => ⟨k.1.trans h.1, k.2.trans h.2⟩
                case hKb => exact fun W l o o' hl _ _ _ => ⟨World.putObj_heap_other (by omega), World.putObj_heap_other (by omega)⟩
                case hI => exact fun s X Y row hs hg hr => ⟨hs.1.kept (by omega) HLD.out hg hr, kept_cells hg hr hs.2.1 (.inl rfl), kept_cells hg hr hs.2.2 (.inl rfl)⟩
                case hIx => exact fun cd s X Y row hs hg hr => hs
                case stop => exact fun D cd pre W2 hD hpre hx hK => hx.elim
                case assign =>
                  intro l x W K hK
                  simp only [encP]
                  gi_wp2
                  exact hK
                case done =>
                  rintro D ys W2 hD hS ⟨hR, hF, hA⟩ hK2
                  rw [hS] at hR
                  generalize hs : inner k (succs i k) ab.1 ab.2 = s at hR
                  have HSN := Aside0.mk hs
                  clear hs hS hF
                  obtain ⟨fi, a, b⟩ := s
                  simp only at hR
                  have HR2 := Aside0.mk (hR.more hK2 (by omega) (fun y hy => by have := HLD.out y hy; omega))
                  have HA := Aside0.mk hA
                  have hcat2 := box_cell21 hA
                  obtain ⟨ad', e, hc1, hc2⟩ := at_T53 (Kd.C_below HR.out HR2.out.bel) (k : Int) (by omega) (by omega)
                  injection e with e1
                  subst e1
                  simp only [Int.toNat_natCast, HI2.out] at hc1 hc2
                  obtain ⟨K5, hK5⟩ := ev_cycles i.f0
                  have HK5 := Aside0.mk (hK5 K5 (Nat.le_refl _))
                  clear hK5 hR hA hK2
                  gi_wp2
                  refine ⟨trivial, ?_⟩
                  refine (callsIn_wide.2 (code_Cycles.calls K5 i.f0 _ _ HK5.out)).mono ?_
                  rintro e W4 ⟨rfl, hdr⟩
                  have HR4 := Aside0.mk (HR2.out.below hdr.below)
                  have HA4 := Aside0.mk ((hdr.below.block _ (Array.getElem?_eq_some_iff.1 HA.out).1).trans HA.out)
                  clear hdr hc1 hc2 hcat2
                  obtain ⟨va, hva⟩ : ∃ v, a.getD k 0 = v := ⟨_, rfl⟩
                  obtain ⟨vb, hvb⟩ : ∃ v, b.getD k 0 = v := ⟨_, rfl⟩
                  have hct := box_cell21 HA4.out
                  have hpa := HR4.out.cellPa
                  have hpb := HR4.out.cellPb
                  have hak := HR4.out.cellA hk
                  have hbk := HR4.out.cellB hk
                  rw [hva] at hak
                  rw [hvb] at hbk
                  have HVA := Aside0.mk hva
                  have HVB := Aside0.mk hvb
                  have hfa := HR4.out.frozenA k
                  have hfb := HR4.out.frozenB k
                  have HNE := HR4.out.ne
                  have hpbA : pb ≠ A := by
                    intro e
                    have h1 := HR4.out.hpb
                    rw [e, HR4.out.ha] at h1
                    injection h1 with h1
                    injection h1 with _ h1
                    cases h1
                  have hpatA : pat ≠ A := by
                    intro e
                    have h1 := HA4.out
                    rw [e, HR4.out.ha] at h1
                    injection h1 with h1
                    injection h1 with _ h1
                    cases h1
                  have hpatB : pat ≠ B := by
                    intro e
                    have h1 := HA4.out
                    rw [e, HR4.out.hb] at h1
                    injection h1 with h1
                    injection h1 with _ h1
                    cases h1
                  clear hva hvb
                  gi_wp2
                  have HX5 := (HR4.out.setA k (wrap64 (va + cyc i.f0))).setB k (wrap64 (vb + cyc i.f0))
                  obtain ⟨X, hX⟩ : ∃ X, (W4.setCell ⟨A, k, none⟩ (.int .i64 (wrap64 (va + cyc i.f0)))).setCell ⟨B, k, none⟩ (.int .i64 (wrap64 (vb + cyc i.f0))) = X := ⟨_, rfl⟩
                  rw [hX] at HX5
                  rw [hX]
                  have hXs : X.heap.size = W4.heap.size := by rw [← hX]; simp
                  have hnew : (X.alloc (.cells #[.int .i64 ((k : Int) - 1)] 3)).heap[W4.heap.size]? = some (.cells #[.int .i64 ((k : Int) - 1)] 3 (0, 0)) := by rw [← hXs]; exact heap_alloc_new _ _
                  refine ⟨InvB.intro k (addAt a k (cyc i.f0), addAt b k (cyc i.f0)) (D :: Ds) _ rfl rfl ⟨by omega, ?_, ?_, hnew, by rw [← hXs]; exact (Array.getElem?_eq_some_iff.1 HX5.hi).1, by rw [← hXs]; exact HX5.bel.size⟩, ?_⟩
                  · rw [← HS.out.fin, back, stepB, if_pos HB.out, HI2.out, HSN.out]
                  · rw [addAt, addAt, HVA.out, HVB.out]
                    exact HX5.below ((Below.refl _ _).alloc (Nat.le_refl _) _)
                  · rw [muB_eq (v := .int .i64 ((k : Int) - 1)) rfl (box_cell21 hnew), muB_eq (v := .int .i64 (k : Int)) rfl hcat]
                    simp [intOf]
                case body =>
                  rintro lo pre ⟨⟨tt, er⟩, htt⟩ W2 ⟨hR, hF, hA⟩ hlen
                  generalize hs : inner k (pre.map Subtype.val) ab.1 ab.2 = s at hR hF
                  have HSN := Aside0.mk hs
                  clear hs
                  obtain ⟨fi, a, b⟩ := s
                  simp only at hR hF htt
                  have HR2 := Aside0.mk hR
                  have hcf := box_cell21 hF
                  have hct := box_cell21 hA
                  have HF2 := Aside0.mk hF
                  have HA := Aside0.mk hA
                  have hpa := hR.cellPa
                  have hpb := hR.cellPb
                  have hat := hR.cellA htt
                  have hak := hR.cellA hk
                  have hbt := hR.cellB htt
                  have hbk := hR.cellB hk
                  have hfa := hR.frozenA k
                  have hfb := hR.frozenB k
                  have hff := box_frozen hF
                  clear hR hF hA
                  have hAl : A < W.heap.size := (Array.getElem?_eq_some_iff.1 HS.out.rb.ha).1
                  have hBl : B < W.heap.size := (Array.getElem?_eq_some_iff.1 HS.out.rb.hb).1
                  obtain ⟨va, hva⟩ : ∃ v, a.getD tt 0 = v := ⟨_, rfl⟩
                  obtain ⟨vk, hvk⟩ : ∃ v, a.getD k 0 = v := ⟨_, rfl⟩
                  rw [hva] at hat
                  rw [hvk] at hak
                  have HVA := Aside0.mk hva
                  have HVK := Aside0.mk hvk
                  clear hva hvk
                  gi_wp2
                  rename_i K5 hK5 K6 hK6
                  have rest : ∀ (a' : Act) (a5 : List Int) (W5 : World), FrameIs (fun v => #[.slice (some ad) n c, undef, u2, u3, .int .i64 0, undef, u6, .slice (some ⟨Bi, 0, none⟩) n n, .pointer (some ⟨pa, 0, none⟩), .pointer (some ⟨pb, 0, none⟩), .pointer (some ⟨pat, 0, none⟩), .pointer (some ⟨W.heap.size, 0, none⟩), .int .i64 tt, u 13, .slice (some ad) n c, .int .i64 n, .bool (decide ((4096 : Int) < n)), .slice (some ad) n c, .int .i64 n, .int .i64 x, .bool false, u21, u22, u23, u24, u25, u26, .slice (some ad) n c, .int .i64 n, .bool false, .tuple #[.slice (some ⟨Bi, 0, none⟩) n n, .int .i64 0], .slice (some ad) n c, .tuple #[.slice (some ⟨Bi, 0, none⟩) n n, .int .i64 0], .slice (some ⟨Bi, 0, none⟩) n n, .int .i64 0, .int .i64 0, .bool false, undef, .slice (some ad) n c, .int .i64 n, .slice (some ⟨A, 0, none⟩) n n, .slice (some ad) n c, .int .i64 n, .slice (some ⟨B, 0, none⟩) n n, .slice (some ad) n c, .int .i64 n, .int .i64 ((n : Int) - 1), .int .i64 k, .bool true, u 49, u 50, .slice (some ⟨Bi, 0, none⟩) n n, .int .i64 k, .pointer (some ⟨Bi, k, none⟩), .bool true, .bool false, .slice (some ad) n c, .int .i64 k, .func (.func 75) #[] #[.pointer (some ⟨W.heap.size + 1 + 1, 0, none⟩), .pointer (some ⟨W.heap.size + 1, 0, none⟩)], .int .i64 tt, .int .i64 er, v 61, v 62, v 63, v 64, v 65, v 66, v 67, v 68, v 69, v 70, v 71, v 72, v 73, v 74, v 75, v 76, v 77, v 78, v 79, u 80, u 81, u 82, u 83, u 84, u 85, u 86, u 87, u 88, u 89, u 90, u 91, u 92, u 93, u 94, u 95, u 96, u 97, u 98, u 99, u 100, u 101, u 102, u 103, u 104, u 105, u 106, u 107, u 108, u 109, u 110, u 111, u 112, undef, undef, undef, undef, undef, undef]) a' → Aside0 (a5 = (if fi = true ∨ va < vk then a.set k va else a)) → Aside0 (RB w n Bi A B pa pb is a5 b Ds W5) → Aside0 (W5.heap[W.heap.size]? = some (.cells #[.bool fi] 4 (0, 0))) → Aside0 (W5.heap[pat]? = some (.cells #[.int .i64 (k : Int)] 3 (0, 0))) → Aside0 (KeepsOthers W2 W5 ∧ KpB (W.heap.size + 1 + 1) (W.heap.size + 1) W2 W5) → K5 a' W5 := by
                    rintro ⟨tm, df⟩ a5 W5 ⟨v, ht, hdf⟩ HE H5 HF5 HA5 HK5
                    simp only at ht hdf
                    subst ht hdf
                    refine hK5 _ _ ?_
                    clear hK6 K6 hK5 hcf hct hpa hpb hat hak hbt hbk hfa hfb hff
                    have hct := box_cell21 HA5.out
                    have hpb := H5.out.cellPb
                    have hbt := H5.out.cellB htt
                    have hbk := H5.out.cellB hk
                    obtain ⟨ub, hub⟩ : ∃ v, b.getD tt 0 = v := ⟨_, rfl⟩
                    obtain ⟨uk, huk⟩ : ∃ v, b.getD k 0 = v := ⟨_, rfl⟩
                    rw [hub] at hbt
                    rw [huk] at hbk
                    have HUB := Aside0.mk hub
                    have HUK := Aside0.mk huk
                    have hfb := H5.out.frozenB k
                    have hff := box_frozen HF5.out
                    have hff0 := box_cell21 HF5.out
                    clear hub huk
                    gi_wp2
                    refine wpIn_round_quiet_tail 12 (by kernel_rfl) (by kernel_rfl) (fun ⟨_, _, h⟩ => h) (by kernel_rfl) ?_
                    simp only [List.take_succ_cons, List.take_zero, List.drop_succ_cons, List.drop_zero]
                    repeat (gi_big_quiet_step (fail))
                    refine wpQuietIn_nil ?_
                    go_wp2
                    all_goals gi_wp2
                    · refine ⟨((HK5.out.1.trans ((KeepsOthers.setCell _ _ _).trans (KeepsOthers.setCell _ _ _))).trans (keeps_drew _)).from _, ?_⟩
                      have E := round_end H5.out HF5.out HA5.out hBiW hwl ub
                      refine ⟨⟨((Below.heap_setCell _ ⟨W.heap.size, 0, none⟩ _ _ (by simp; omega)).trans (Below.heap_setCell _ ⟨B, k, none⟩ _ _ (by simp; omega))).trans HK5.out.2.1, ((Below.heap_setCell _ ⟨W.heap.size, 0, none⟩ _ _ (by simp)).trans (Below.heap_setCell _ ⟨B, k, none⟩ _ _ (by simp; omega))).trans HK5.out.2.2⟩, ?_⟩
                      dsimp only
                      rw [List.map_append, List.map_singleton, inner_snoc, HSN.out]
                      simp only [stepI, HVA.out, HVK.out, HUB.out, HUK.out]
                      rw [show max uk ub = ub by omega, ← HE.out]
                      exact E
                    · refine ⟨((HK5.out.1.trans ((KeepsOthers.setCell _ _ _).trans (KeepsOthers.setCell _ _ _))).trans (keeps_drew _)).from _, ?_⟩
                      have E := round_end H5.out HF5.out HA5.out hBiW hwl uk
                      refine ⟨⟨((Below.heap_setCell _ ⟨W.heap.size, 0, none⟩ _ _ (by simp; omega)).trans (Below.heap_setCell _ ⟨B, k, none⟩ _ _ (by simp; omega))).trans HK5.out.2.1, ((Below.heap_setCell _ ⟨W.heap.size, 0, none⟩ _ _ (by simp)).trans (Below.heap_setCell _ ⟨B, k, none⟩ _ _ (by simp; omega))).trans HK5.out.2.2⟩, ?_⟩
                      dsimp only
                      rw [List.map_append, List.map_singleton, inner_snoc, HSN.out]
                      simp only [stepI, HVA.out, HVK.out, HUB.out, HUK.out]
                      rw [show max uk ub = uk by omega, ← HE.out]
                      exact E
                  clear hK5
                  cases fi with
                  | true =>
                    refine wpIn_round_quiet_tail 11 (by kernel_rfl) (by kernel_rfl) (fun ⟨_, _, h⟩ => h) (by kernel_rfl) ?_
                    simp only [List.take_succ_cons, List.take_zero, List.drop_succ_cons, List.drop_zero]
                    repeat (gi_big_quiet_step (fail))
                    refine wpQuietIn_nil ?_
                    go_wp2
                    gi_wp2
                    refine wpIn_round_quiet_tail 7 (by kernel_rfl) (by kernel_rfl) (fun ⟨_, _, h⟩ => h) (by kernel_rfl) ?_
                    simp only [List.take_succ_cons, List.take_zero, List.drop_succ_cons, List.drop_zero]
                    repeat (gi_big_quiet_step (fail))
                    refine wpQuietIn_nil ?_
                    go_wp2
                    refine rest _ (a.set k va) _ (FrameIs.intro rfl rfl) ⟨by simp⟩ ⟨(HR2.out.setA k va).drew.drew⟩ ⟨round_mid HR2.out _ HF2.out (by decide)⟩ ⟨round_mid HR2.out _ HA.out (by decide)⟩ ⟨((KeepsOthers.setCell _ _ _).trans (keeps_drew _)).trans (keeps_drew _), Below.heap_setCell _ ⟨A, k, none⟩ _ _ (by simp; omega), Below.heap_setCell _ ⟨A, k, none⟩ _ _ (by simp; omega)⟩
                  | false =>
                    by_cases hlt : va < vk
                    · have hdl : decide (va < vk) = true := decide_eq_true hlt
                      refine wpIn_round_quiet_tail 11 (by kernel_rfl) (by kernel_rfl) (fun ⟨_, _, h⟩ => h) (by kernel_rfl) ?_
                      simp only [List.take_succ_cons, List.take_zero, List.drop_succ_cons, List.drop_zero]
                      repeat (gi_big_quiet_step (fail))
                      refine wpQuietIn_nil ?_
                      go_wp2
                      gi_wp2
                      refine wpIn_round_quiet_tail 7 (by kernel_rfl) (by kernel_rfl) (fun ⟨_, _, h⟩ => h) (by kernel_rfl) ?_
                      simp only [List.take_succ_cons, List.take_zero, List.drop_succ_cons, List.drop_zero]
                      repeat (gi_big_quiet_step (fail))
                      refine wpQuietIn_nil ?_
                      go_wp2
                      refine rest _ (a.set k va) _ (FrameIs.intro rfl rfl) ⟨by simp [hlt]⟩ ⟨(HR2.out.setA k va).drew.drew⟩ ⟨round_mid HR2.out _ HF2.out (by decide)⟩ ⟨round_mid HR2.out _ HA.out (by decide)⟩ ⟨((KeepsOthers.setCell _ _ _).trans (keeps_drew _)).trans (keeps_drew _), Below.heap_setCell _ ⟨A, k, none⟩ _ _ (by simp; omega), Below.heap_setCell _ ⟨A, k, none⟩ _ _ (by simp; omega)⟩
                    · have hdl : decide (va < vk) = false := decide_eq_false hlt
                      refine wpIn_round_quiet_tail 11 (by kernel_rfl) (by kernel_rfl) (fun ⟨_, _, h⟩ => h) (by kernel_rfl) ?_
                      simp only [List.take_succ_cons, List.take_zero, List.drop_succ_cons, List.drop_zero]
                      repeat (gi_big_quiet_step (fail))
                      refine wpQuietIn_nil ?_
                      go_wp2
                      gi_wp2
                      refine rest _ a _ (FrameIs.intro rfl rfl) ⟨by rw [if_neg (by simp; omega)]⟩ ⟨HR2.out.drew⟩ HF2 HA ⟨keeps_drew _, rfl, rfl⟩

        clear hK
        have hlt : Bi < W1.heap.size := (Array.getElem?_eq_some_iff.1 HI.out).1
        gi_region
        all_goals refine key _ _ _ _ _ ⟨?_⟩
        all_goals clear key
        all_goals rw [made_zeros]
        all_goals refine RB.start HI.out HL.out HB1.out (bel4 _ _ _ _ _) ?_ ?_ ?_ ?_ (by omega) (by omega)
        all_goals first | exact (start4 W1 _ _ _ _).1 | exact (start4 W1 _ _ _ _).2.1 | exact (start4 W1 _ _ _ _).2.2.1 | exact (start4 W1 _ _ _ _).2.2.2
      · have hne : (er != 0) = true := by simpa using he
        clear hsc
        gi_wp2
        refine ⟨_, results_tmp3 rfl _ _ _, ?_, HB1.out⟩
        simp [bound, HLn.out, HOK.out, show ¬ 4096 < n by omega, start21, HO.out, he, show n ≠ 0 by omega]
end Go.Proofs.Ytlmpoojpbdmmfaa.H
set_option linter.unusedVariables false
set_option linter.unusedSimpArgs false
namespace Go.Proofs.Ytlmpoojpbdmmfaa.H
open Go.RowKit Go.Proofs.YtlmpoojpbdmmfaaW.PrintWords
def cost_Bound.f (l0 : List (S53)) : Option (Int × Int × Int) := some (bound l0)
set_option maxHeartbeats 2000000 in
set_option maxRecDepth 100000 in
theorem bound_long (A0 : Option Addr) (n c : Nat) (l : List S53) (w : World) (hr : Kd.C k53 w A0 n l) (hn : 4096 < n) :
    Calls Try.prog 26 #[.slice A0 n c] w fun e w' => e = .returned (.tuple #[.int .i64 0, .int .i64 0, .int .i64 4]) ∧ w' = w := by
  have hd : decide (4096 < n) = true := decide_eq_true hn
  go_enter Try.func26, Try.ntmps26
  go_wp2
  refine bodyPost_ret (results_tmp3 rfl _ _ _) rfl ?_
  exact ⟨rfl, rfl⟩
set_option maxHeartbeats 2000000 in
set_option maxRecDepth 100000 in
theorem bound_none (A0 : Option Addr) (c : Nat) (w : World) :
    Calls Try.prog 26 #[.slice A0 0 c] w fun e w' => e = .returned (.tuple #[.int .i64 0, .int .i64 0, .int .i64 195]) ∧ w' = w := by
  go_enter Try.func26, Try.ntmps26
  go_wp2
  go_loop [19] (fun v19 => v19 = .int .i64 0) (fun _ => 0)
  case atStart => rfl
  case round =>
    subst hrel
    go_wp2
    refine bodyPost_ret (results_tmp3 rfl _ _ _) rfl ?_
    exact ⟨rfl, rfl⟩
theorem cost_Bound.calls (A0 : Option Addr) (c0 : Nat) (l0 : List (S53)) (r1 : Int) (r2 : Int) (r3 : Int) (w : World) (hr0 : Kd.C k53 w A0 l0.length l0) (hc0 : l0.length ≤ c0) (h : cost_Bound.f l0 = some (r1, r2, r3)) :
    Calls Try.prog 26 #[.slice A0 l0.length c0] w fun e w' => e = .returned (.tuple #[.int .i64 r1, .int .i64 r2, .int .i64 r3]) ∧ Below w.heap.size w w' := by
  have hb : bound l0 = (r1, r2, r3) := Option.some.inj h
  by_cases hbig : 4096 < l0.length
  · refine (bound_long A0 l0.length c0 l0 w hr0 hbig).mono ?_
    rintro e w' ⟨rfl, rfl⟩
    rw [bound, if_pos hbig] at hb
    simp only [Prod.mk.injEq] at hb
    obtain ⟨rfl, rfl, rfl⟩ := hb
    exact ⟨rfl, Below.refl _ _⟩
  · by_cases h0 : l0.length = 0
    · have hb0 : bound l0 = (0, 0, 195) := by
        have : l0 = [] := List.length_eq_zero_iff.1 h0
        subst this
        rfl
      rw [hb0] at hb
      simp only [Prod.mk.injEq] at hb
      obtain ⟨rfl, rfl, rfl⟩ := hb
      rw [h0]
      refine (bound_none A0 c0 w).mono ?_
      rintro e w' ⟨rfl, rfl⟩
      exact ⟨rfl, Below.refl _ _⟩
    · obtain ⟨ad, rfl⟩ : ∃ ad, A0 = some ad := by
        obtain ⟨ad, e, _⟩ := at_T53 hr0 0 (by omega) (by omega)
        exact ⟨ad, e⟩
      have := bound_calls ad l0.length c0 l0 w hr0 (by omega) (by omega)
      rw [hb] at this
      exact this
end Go.Proofs.Ytlmpoojpbdmmfaa.H
