/- cost.Bound as a plain function, and what it holds in memory between its rounds. The conditions: what each names. -/
import Derived.Test.YtnaapecmooljaaaRwalk21
import Derived.Test.YtnaapecmooljaaaRin21
import Derived.Test.YtnaapecmooljaaaA18
import Derived.Sort.QuietIn
set_option linter.unusedVariables false
set_option linter.unusedSimpArgs false
namespace Go.Proofs.Ytnaapecmooljaaa.H
open Go.RowKit Go.Proofs.YtnaapecmooljaaaW.PrintWords Go.Shelf

def stepI (k : Nat) (s : Bool × List Int × List Int) (x : Nat × Int) : Bool × List Int × List Int :=
  (false, if s.1 = true ∨ s.2.1.getD x.1 0 < s.2.1.getD k 0 then s.2.1.set k (s.2.1.getD x.1 0) else s.2.1, s.2.2.set k (max (s.2.2.getD k 0) (s.2.2.getD x.1 0)))
def inner (k : Nat) (xs : List (Nat × Int)) (a b : List Int) : Bool × List Int × List Int := xs.foldl (stepI k) (true, a, b)
def addAt (a : List Int) (k : Nat) (c : Int) : List Int := a.set k (wrap64 (a.getD k 0 + c))
def stepB (l : List S26) (is : List Bool) (k : Nat) (ab : List Int × List Int) : List Int × List Int :=
  if is.getD k false = true then (addAt (inner k (succs (rd_T26 l k) k) ab.1 ab.2).2.1 k (cyc (rd_T26 l k).f0), addAt (inner k (succs (rd_T26 l k) k) ab.1 ab.2).2.2 k (cyc (rd_T26 l k).f0)) else ab
def back (l : List S26) (is : List Bool) : Nat → List Int × List Int → List Int × List Int
  | 0, ab => ab
  | k + 1, ab => back l is k (stepB l is k ab)
def start21 (n : Nat) : List Bool := (List.replicate n false).set 0 true
def bound (l : List S26) : Int × Int × Int :=
  if 4096 < l.length then (0, 0, 4) else if okAll l = true then
    (if l.length = 0 then (0, 0, 195) else if (scan l l.length 0 (start21 l.length)).2 = 0 then
      ((back l (scan l l.length 0 (start21 l.length)).1 l.length (List.replicate l.length 0, List.replicate l.length 0)).1.getD 0 0,
       (back l (scan l l.length 0 (start21 l.length)).1 l.length (List.replicate l.length 0, List.replicate l.length 0)).2.getD 0 0, 0)
      else (0, 0, (scan l l.length 0 (start21 l.length)).2))
  else (0, 0, 180)

theorem inner_snoc (k : Nat) (xs : List (Nat × Int)) (x : Nat × Int) (a b : List Int) : inner k (xs ++ [x]) a b = stepI k (inner k xs a b) x := by simp [inner]

theorem kept_cells {W W' : World} {row : Option Nat} {B k : Nat} {o : Obj} (hg : W.grownBy W' row) (hr : ∀ r, row = some r → B ≤ r ∧ ∃ o : Obj, W.heap[r]? = some o ∧ o.isCells = false) (hk : W.heap[k]? = some o) (ho : o.isCells = true ∨ k < B) :
    W'.heap[k]? = some o := by
  refine (hg.block k (Array.getElem?_eq_some_iff.1 hk).1 (fun e => ?_)).trans hk
  obtain ⟨h1, o', h2, h3⟩ := hr k e.symm
  rw [hk] at h2
  injection h2 with h2
  subst h2
  rcases ho with ho | ho
  · rw [h3] at ho; cases ho
  · omega
def ints (a : List Int) : Array Value := (a.map (Value.int .i64)).toArray
/-- What 'Bound' holds in memory between two rounds. -/
structure RB (w : World) (n Bi A B pa pb : Nat) (is : List Bool) (a b : List Int) (Ds : List Nat) (W : World) : Prop where
  hi : W.heap[Bi]? = some (.cells (is.map Value.bool).toArray 4 (0, 0))
  ha : W.heap[A]? = some (.cells (ints a) 2 (0, 0))
  hb : W.heap[B]? = some (.cells (ints b) 2 (0, 0))
  hpa : W.heap[pa]? = some (.cells #[.slice (some ⟨A, 0, none⟩) n n] 77 (0, 0))
  hpb : W.heap[pb]? = some (.cells #[.slice (some ⟨B, 0, none⟩) n n] 77 (0, 0))
  li : is.length = n
  la : a.length = n
  lb : b.length = n
  lo : w.heap.size ≤ A ∧ w.heap.size ≤ B
  ne : A ≠ B
  ds : ∀ D ∈ Ds, w.heap.size ≤ D ∧ W.heap[D]? = some (.deferred (some []))
  nd : Ds.Nodup
  bel : Below w.heap.size w W
section
variable {w : World} {n Bi A B pa pb : Nat} {is : List Bool} {a b : List Int} {Ds : List Nat} {W W' : World}
theorem RB.of (h : RB w n Bi A B pa pb is a b Ds W) (key : ∀ k o, W.heap[k]? = some o → (k = Bi ∨ k = A ∨ k = B ∨ k = pa ∨ k = pb ∨ k ∈ Ds) → W'.heap[k]? = some o) (hb : Below w.heap.size w W') : RB w n Bi A B pa pb is a b Ds W' :=
  ⟨key _ _ h.hi (by simp), key _ _ h.ha (by simp), key _ _ h.hb (by simp), key _ _ h.hpa (by simp), key _ _ h.hpb (by simp), h.li, h.la, h.lb, h.lo, h.ne, fun D hd => ⟨(h.ds D hd).1, key _ _ (h.ds D hd).2 (by simp [hd])⟩, h.nd, hb⟩
theorem RB.kept {B0 : Nat} {row : Option Nat} (h : RB w n Bi A B pa pb is a b Ds W) (hB : w.heap.size ≤ B0) (hD : ∀ D ∈ Ds, D < B0) (hg : W.grownBy W' row)
    (hr : ∀ r, row = some r → B0 ≤ r ∧ ∃ o : Obj, W.heap[r]? = some o ∧ o.isCells = false) : RB w n Bi A B pa pb is a b Ds W' :=
  h.of (fun k o hk hm => kept_cells hg hr hk (by
    rcases hm with rfl | rfl | rfl | rfl | rfl | hm
    · rw [h.hi] at hk; cases hk; exact .inl rfl
    · rw [h.ha] at hk; cases hk; exact .inl rfl
    · rw [h.hb] at hk; cases hk; exact .inl rfl
    · rw [h.hpa] at hk; cases hk; exact .inl rfl
    · rw [h.hpb] at hk; cases hk; exact .inl rfl
    · exact .inr (hD k hm))) (h.bel.grown hg h.bel.size (fun k e => Nat.le_trans hB (hr k e).1))
theorem RB.below (h : RB w n Bi A B pa pb is a b Ds W) (hb : Below W.heap.size W W') : RB w n Bi A B pa pb is a b Ds W' :=
  h.of (fun k o hk _ => (hb.block k (Array.getElem?_eq_some_iff.1 hk).1).trans hk) (h.bel.trans (hb.mono h.bel.size))
theorem RB.drew (h : RB w n Bi A B pa pb is a b Ds W) : RB w n Bi A B pa pb is a b Ds W.drew := h.of (fun _ _ hk _ => hk) h.bel.drew
/-- A store into a box that is none of these. -/
theorem RB.other (h : RB w n Bi A B pa pb is a b Ds W) {p : Nat} {t : TypeId} {x : Value} (hp : W.heap[p]? = some (.cells #[x] t (0, 0))) (ht : t ≠ 2 ∧ t ≠ 77) (hB : Bi < p) (hw : w.heap.size ≤ p) (v : Value) :
    RB w n Bi A B pa pb is a b Ds (W.setCell ⟨p, 0, none⟩ v) :=
  h.of (fun k o hk hm => (Below.heap_setCell W ⟨p, 0, none⟩ v k (by
    rintro rfl
    rcases hm with h1 | h1 | h1 | h1 | h1 | h1
    · omega
    · rw [h1, h.ha] at hp; injection hp with hp; injection hp with _ hp; exact ht.1 hp.symm
    · rw [h1, h.hb] at hp; injection hp with hp; injection hp with _ hp; exact ht.1 hp.symm
    · rw [h1, h.hpa] at hp; injection hp with hp; injection hp with _ hp; exact ht.2 hp.symm
    · rw [h1, h.hpb] at hp; injection hp with hp; injection hp with _ hp; exact ht.2 hp.symm
    · rw [(h.ds _ h1).2] at hp; cases hp)).trans hk) (h.bel.setCell (p := ⟨p, 0, none⟩) hw v)
theorem ints_set (a : List Int) (j : Nat) (x : Int) : (ints a).setIfInBounds j (Value.int .i64 x) = ints (a.set j x) := by
  rw [ints, List.setIfInBounds_toArray, ints, List.map_set]
theorem RB.setA (h : RB w n Bi A B pa pb is a b Ds W) (j : Nat) (x : Int) : RB w n Bi A B pa pb is (a.set j x) b Ds (W.setCell ⟨A, j, none⟩ (.int .i64 x)) := by
  have key : ∀ k o, W.heap[k]? = some o → k ≠ A → (W.setCell ⟨A, j, none⟩ (.int .i64 x)).heap[k]? = some o := fun k o hk hne => (Below.heap_setCell W ⟨A, j, none⟩ _ k hne).trans hk
  refine ⟨key _ _ h.hi ?_, ?_, key _ _ h.hb (Ne.symm h.ne), key _ _ h.hpa ?_, key _ _ h.hpb ?_, h.li, by rw [List.length_set]; exact h.la, h.lb, h.lo, h.ne, fun D hd => ⟨(h.ds D hd).1, key _ _ (h.ds D hd).2 ?_⟩, h.nd, h.bel.setCell (p := ⟨A, j, none⟩) h.lo.1 _⟩
  · rintro rfl; have := h.hi.symm.trans h.ha; injection this with this; injection this with _ this; cases this
  · simp [World.setCell, Array.getElem?_modify, h.ha, ints_set]
  · rintro rfl; have := h.hpa.symm.trans h.ha; injection this with this; injection this with _ this; cases this
  · rintro rfl; have := h.hpb.symm.trans h.ha; injection this with this; injection this with _ this; cases this
  · rintro rfl; have := (h.ds _ hd).2.symm.trans h.ha; cases this
theorem RB.setB (h : RB w n Bi A B pa pb is a b Ds W) (j : Nat) (x : Int) : RB w n Bi A B pa pb is a (b.set j x) Ds (W.setCell ⟨B, j, none⟩ (.int .i64 x)) := by
  have key : ∀ k o, W.heap[k]? = some o → k ≠ B → (W.setCell ⟨B, j, none⟩ (.int .i64 x)).heap[k]? = some o := fun k o hk hne => (Below.heap_setCell W ⟨B, j, none⟩ _ k hne).trans hk
  refine ⟨key _ _ h.hi ?_, key _ _ h.ha h.ne, ?_, key _ _ h.hpa ?_, key _ _ h.hpb ?_, h.li, h.la, by rw [List.length_set]; exact h.lb, h.lo, h.ne, fun D hd => ⟨(h.ds D hd).1, key _ _ (h.ds D hd).2 ?_⟩, h.nd, h.bel.setCell (p := ⟨B, j, none⟩) h.lo.2 _⟩
  · rintro rfl; have := h.hi.symm.trans h.hb; injection this with this; injection this with _ this; cases this
  · simp [World.setCell, Array.getElem?_modify, h.hb, ints_set]
  · rintro rfl; have := h.hpa.symm.trans h.hb; injection this with this; injection this with _ this; cases this
  · rintro rfl; have := h.hpb.symm.trans h.hb; injection this with this; injection this with _ this; cases this
  · rintro rfl; have := (h.ds _ hd).2.symm.trans h.hb; cases this
theorem RB.more (h : RB w n Bi A B pa pb is a b Ds W) {D : Nat} (hD : W.heap[D]? = some (.deferred (some []))) (h1 : w.heap.size ≤ D) (h2 : ∀ x ∈ Ds, x < D) : RB w n Bi A B pa pb is a b (D :: Ds) W :=
  ⟨h.hi, h.ha, h.hb, h.hpa, h.hpb, h.li, h.la, h.lb, h.lo, h.ne, fun x hx => by rcases List.mem_cons.1 hx with rfl | hx; exact ⟨h1, hD⟩; exact h.ds x hx, List.nodup_cons.2 ⟨fun hm => by have := h2 D hm; omega, h.nd⟩, h.bel⟩
/-- The cells as a walk reads them. -/
theorem RB.cellA (h : RB w n Bi A B pa pb is a b Ds W) {j : Nat} (hj : j < n) : W.cell? ⟨A, j, none⟩ = some (.int .i64 (a.getD j 0)) := by
  simp [World.cell?, h.ha, ints, List.getD_eq_getElem?_getD, h.la, hj]
theorem RB.cellB (h : RB w n Bi A B pa pb is a b Ds W) {j : Nat} (hj : j < n) : W.cell? ⟨B, j, none⟩ = some (.int .i64 (b.getD j 0)) := by
  simp [World.cell?, h.hb, ints, List.getD_eq_getElem?_getD, h.lb, hj]
theorem RB.cellI (h : RB w n Bi A B pa pb is a b Ds W) {j : Nat} (hj : j < n) : W.cell? ⟨Bi, j, none⟩ = some (.bool (is.getD j false)) := by
  simp [World.cell?, h.hi, List.getD_eq_getElem?_getD, h.li, hj]
theorem RB.cellPa (h : RB w n Bi A B pa pb is a b Ds W) : W.cell? ⟨pa, 0, none⟩ = some (.slice (some ⟨A, 0, none⟩) n n) := by simp [World.cell?, h.hpa]
theorem RB.cellPb (h : RB w n Bi A B pa pb is a b Ds W) : W.cell? ⟨pb, 0, none⟩ = some (.slice (some ⟨B, 0, none⟩) n n) := by simp [World.cell?, h.hpb]
theorem RB.frozenA (h : RB w n Bi A B pa pb is a b Ds W) (j : Nat) : W.frozen? ⟨A, j, none⟩ = false := by simp [World.frozen?, h.ha]
theorem RB.frozenB (h : RB w n Bi A B pa pb is a b Ds W) (j : Nat) : W.frozen? ⟨B, j, none⟩ = false := by simp [World.frozen?, h.hb]
end
theorem made_zeros (n : Nat) : madeCells #[Value.int .i64 0] n = ints (List.replicate n 0) := by
  apply Array.ext
  · simp [madeCells, ints]
  · intro i h1 h2
    simp [madeCells, Nat.mod_one, ints]
theorem start4 (w : World) (o0 o1 o2 o3 : Obj) :
    ((((w.alloc o0).alloc o1).alloc o2).alloc o3).heap[w.heap.size]? = some o0 ∧ ((((w.alloc o0).alloc o1).alloc o2).alloc o3).heap[w.heap.size + 1]? = some o1 ∧
    ((((w.alloc o0).alloc o1).alloc o2).alloc o3).heap[w.heap.size + 1 + 1]? = some o2 ∧ ((((w.alloc o0).alloc o1).alloc o2).alloc o3).heap[w.heap.size + 1 + 1 + 1]? = some o3 := by
  obtain ⟨h0, h1, h2, h3, _⟩ := start5 w o0 o1 o2 o3 o3
  rw [heap_alloc_old _ _ (by simp <;> omega)] at h0 h1 h2 h3
  exact ⟨h0, h1, h2, h3⟩
theorem bel4 (w : World) (o0 o1 o2 o3 : Obj) : Below w.heap.size w ((((w.alloc o0).alloc o1).alloc o2).alloc o3).drew :=
  (((((Below.refl _ _).alloc (Nat.le_refl _) _).alloc (by simp) _).alloc (by simp; omega) _).alloc (by simp; omega) _).drew
theorem RB.start {w W1 W2 : World} {n Bi A B pa pb : Nat} {is : List Bool} (hi : W1.heap[Bi]? = some (.cells (is.map Value.bool).toArray 4 (0, 0))) (li : is.length = n) (bel : Below w.heap.size w W1) (hb : Below W1.heap.size W1 W2)
    (h1 : W2.heap[A]? = some (.cells (ints (List.replicate n 0)) 2 (0, 0))) (h2 : W2.heap[B]? = some (.cells (ints (List.replicate n 0)) 2 (0, 0)))
    (h3 : W2.heap[pa]? = some (.cells #[.slice (some ⟨A, 0, none⟩) n n] 77 (0, 0))) (h4 : W2.heap[pb]? = some (.cells #[.slice (some ⟨B, 0, none⟩) n n] 77 (0, 0)))
    (lo : W1.heap.size ≤ A ∧ W1.heap.size ≤ B) (ne : A ≠ B) : RB w n Bi A B pa pb is (List.replicate n 0) (List.replicate n 0) [] W2 :=
  ⟨(hb.block _ (Array.getElem?_eq_some_iff.1 hi).1).trans hi, h1, h2, h3, h4, li, by simp, by simp, ⟨Nat.le_trans bel.size lo.1, Nat.le_trans bel.size lo.2⟩, ne, by simp, List.nodup_nil, bel.trans (hb.mono bel.size)⟩
theorem box_cell {W : World} {b : Nat} {t : TypeId} {v : Value} (h : W.heap[b]? = some (.cells #[v] t (0, 0))) : W.cell? ⟨b, 0, none⟩ = some v := by simp [World.cell?, h]
theorem box_frozen {W : World} {b : Nat} {t : TypeId} {v : Value} (h : W.heap[b]? = some (.cells #[v] t (0, 0))) : W.frozen? ⟨b, 0, none⟩ = false := by simp [World.frozen?, h]
/-- How far the loop has still to go: what its counter's box holds. -/
def muB (a : Act) (W : World) : Nat := match a.tmps.getD 10 undef with | .pointer (some p) => (match W.cell? p with | some v => (intOf v + 1).toNat | none => 0) | _ => 0
theorem muB_eq {a : Act} {W : World} {p : Addr} {v : Value} (h : a.tmps.getD 10 undef = .pointer (some p)) (hc : W.cell? p = some v) : muB a W = (intOf v + 1).toNat := by simp only [muB, h, hc]
structure InvBs (l : List S26) (w : World) (n Bi A B pa pb : Nat) (is : List Bool) (FIN : List Int × List Int) (m : Nat) (ab : List Int × List Int) (Ds : List Nat) (pat : Nat) (W : World) : Prop where
  le : m ≤ n
  fin : back l is m ab = FIN
  rb : RB w n Bi A B pa pb is ab.1 ab.2 Ds W
  at_ : W.heap[pat]? = some (.cells #[.int .i64 ((m : Int) - 1)] 3 (0, 0))
  gt : Bi < pat
  lo : w.heap.size ≤ pat
def InvB (fr : Nat → (Nat → Value) → Array Value) (l : List S26) (w : World) (n Bi A B pa pb : Nat) (is : List Bool) (FIN : List Int × List Int) (a : Act) (W : World) : Prop :=
  ∃ (m : Nat) (ab : List Int × List Int) (Ds : List Nat) (pat : Nat) (u : Nat → Value), a.tmps = fr pat u ∧ a.defers = Ds.map mark ∧ Aside0 (InvBs l w n Bi A B pa pb is FIN m ab Ds pat W)
theorem InvB.intro {fr : Nat → (Nat → Value) → Array Value} {l : List S26} {w : World} {n Bi A B pa pb : Nat} {is : List Bool} {FIN : List Int × List Int} {a : Act} {W : World} (m : Nat) (ab : List Int × List Int) (Ds : List Nat) (pat : Nat)
    (h1 : a.tmps = fr pat (fun j => a.tmps.getD j undef)) (h2 : a.defers = Ds.map mark) (h : InvBs l w n Bi A B pa pb is FIN m ab Ds pat W) : InvB fr l w n Bi A B pa pb is FIN a W := ⟨m, ab, Ds, pat, _, h1, h2, ⟨h⟩⟩
theorem start3 (w : World) (o0 o1 o2 : Obj) :
    (((w.alloc o0).alloc o1).alloc o2).heap[w.heap.size]? = some o0 ∧ (((w.alloc o0).alloc o1).alloc o2).heap[w.heap.size + 1]? = some o1 ∧ (((w.alloc o0).alloc o1).alloc o2).heap[w.heap.size + 1 + 1]? = some o2 := by
  obtain ⟨h0, h1, h2, _⟩ := start4 w o0 o1 o2 o2
  rw [heap_alloc_old _ _ (by simp <;> omega)] at h0 h1 h2
  exact ⟨h0, h1, h2⟩
theorem ok_args2 {l : List S26} (h : okAll l = true) (k : Nat) (hk : k < l.length) : 1 ≤ (rd_T26 l k).f1 ∨ ((rd_T26 l k).f0 ≠ 21 ∧ (rd_T26 l k).f0 ≠ 22) := by
  have hm : mayB (rd_T26 l k).f0 (rd_T26 l k).f1 = true := List.all_eq_true.1 h _ (by unfold rd_T26; rw [List.getD_eq_getElem?_getD, List.getElem?_eq_getElem (by omega)]; exact List.getElem_mem _)
  by_cases hj : (rd_T26 l k).f0 = 21 ∨ (rd_T26 l k).f0 = 22
  · left
    unfold mayB at hm
    rw [if_neg (by omega), if_neg (by omega), if_neg (by omega), if_pos hj] at hm
    simp at hm
    exact hm.1
  · right; omega
theorem succs_gt {i : S26} {k : Nat} (h : 1 ≤ i.f1 ∨ (i.f0 ≠ 21 ∧ i.f0 ≠ 22)) : ∀ x ∈ succs i k, k < x.1 := by
  intro x hx
  unfold succs at hx
  split at hx
  · simp at hx
  split at hx
  · simp at hx; subst hx; simp; omega
  split at hx
  · simp at hx; rcases hx with rfl | rfl <;> simp; omega
  · simp at hx; subst hx; simp
theorem setAll_below {xs : List (Nat × Int)} {j k : Nat} (hx : ∀ x ∈ xs, k < x.1) (hj : j ≤ k) : ∀ is : List Bool, (setAll is xs).getD j false = is.getD j false := by
  induction xs with
  | nil => intro is; rfl
  | cons x r ih =>
    intro is
    have h1 := hx x (by simp)
    show (setAll (is.set x.1 true) r).getD j false = _
    rw [ih (fun y hy => hx y (by simp [hy]))]
    simp only [List.getD_eq_getElem?_getD, List.getElem?_set]
    rw [if_neg (by omega)]
theorem scan1_ok {n : Nat} {xs : List (Nat × Int)} (he : ∀ x ∈ xs, x.2 ≠ 0) : ∀ is, (scan1 n is xs).2 = 0 → (scan1 n is xs).1 = setAll is xs ∧ ∀ x ∈ xs, x.1 < n := by
  induction xs with
  | nil => intro is _; exact ⟨rfl, by simp⟩
  | cons x r ih =>
    intro is h
    rw [scan1] at h ⊢
    split at h
    · exact absurd h (he x (by simp))
    · rename_i hlt
      rw [if_neg hlt]
      obtain ⟨h1, h2⟩ := ih (fun y hy => he y (by simp [hy])) _ h
      exact ⟨h1, fun y hy => by rcases List.mem_cons.1 hy with rfl | hy; omega; exact h2 y hy⟩
theorem scan_spec {l : List S26} (hok : okAll l = true) : ∀ (d k : Nat) (is out : List Bool), d + k = l.length → scan l d k is = (out, 0) →
    (∀ j, j ≤ k → d = 0 ∨ j ≤ k → out.getD j false = is.getD j false ∨ (d = 0 ∧ out = is)) ∧ ∀ j, k ≤ j → j < l.length → out.getD j false = true → ∀ x ∈ succs (rd_T26 l j) j, x.1 < l.length
  | 0, k, is, out, hd, h => by
    simp only [scan, Prod.mk.injEq] at h
    exact ⟨fun j _ _ => .inl (by rw [h.1]), fun j h1 h2 => by omega⟩
  | d + 1, k, is, out, hd, h => by
    have hk : k < l.length := by omega
    have hg := succs_gt (k := k) (ok_args2 hok k hk)
    rw [scan] at h
    split at h
    · rename_i hb
      split at h
      · rename_i he
        obtain ⟨h1, h2⟩ := scan1_ok (fun x hx => by rcases succs_err hx with e | e <;> rw [e] <;> decide) _ he
        rw [h1] at h
        obtain ⟨h3, h4⟩ := scan_spec hok d (k + 1) _ out (by omega) h
        have key : ∀ j, j ≤ k → out.getD j false = is.getD j false := fun j hj => by
          rcases h3 j (by omega) (.inr (by omega)) with e | e
          · rw [e, setAll_below hg hj]
          · rw [e.2, setAll_below hg hj]
        refine ⟨fun j hj _ => .inl (key j hj), fun j hj hl ho x hx => ?_⟩
        rcases Nat.eq_or_lt_of_le hj with rfl | hj
        · exact h2 x hx
        · exact h4 j hj hl ho x hx
      · rename_i he
        simp only [Prod.mk.injEq] at h
        exact absurd h.2 he
    · rename_i hb
      obtain ⟨h3, h4⟩ := scan_spec hok d (k + 1) _ out (by omega) h
      have key : ∀ j, j ≤ k → out.getD j false = is.getD j false := fun j hj => by
        rcases h3 j (by omega) (.inr (by omega)) with e | e
        · exact e
        · rw [e.2]
      refine ⟨fun j hj _ => .inl (key j hj), fun j hj hl ho x hx => ?_⟩
      rcases Nat.eq_or_lt_of_le hj with rfl | hj
      · rw [key _ (Nat.le_refl _)] at ho; exact absurd ho hb
      · exact h4 j hj hl ho x hx
/-- What a reached instruction goes to is no place beyond. -/
theorem scan_in {l : List S26} {is : List Bool} (h : scan l l.length 0 (start21 l.length) = (is, 0)) (hok : okAll l = true) {k : Nat} (hk : k < l.length) (hb : is.getD k false = true) : ∀ x ∈ succs (rd_T26 l k) k, x.1 < l.length :=
  (scan_spec hok l.length 0 _ is (by omega) h).2 k (Nat.zero_le _) hk hb
def FrameIs (fr : (Nat → Value) → Array Value) (a : Act) : Prop := ∃ u : Nat → Value, a.tmps = fr u ∧ a.defers = []
theorem FrameIs.intro {fr : (Nat → Value) → Array Value} {a : Act} (h1 : a.tmps = fr (fun j => a.tmps.getD j undef)) (h2 : a.defers = []) : FrameIs fr a := ⟨_, h1, h2⟩
theorem keeps_drew (W : World) : KeepsOthers W W.drew := ⟨Nat.le_refl _, fun _ _ h _ => h⟩
theorem round_end {w : World} {n Bi A B pa pb : Nat} {is : List Bool} {a5 b : List Int} {Ds : List Nat} {W5 : World} {pf pat k : Nat} {fi : Bool} (H5 : RB w n Bi A B pa pb is a5 b Ds W5) (hF : W5.heap[pf]? = some (.cells #[.bool fi] 4 (0, 0)))
    (hA : W5.heap[pat]? = some (.cells #[.int .i64 (k : Int)] 3 (0, 0))) (hB : Bi < pf) (hw : w.heap.size ≤ pf) (v : Int) :
    RB w n Bi A B pa pb is a5 (b.set k v) Ds ((W5.setCell ⟨B, k, none⟩ (.int .i64 v)).setCell ⟨pf, 0, none⟩ (.bool false)).drew ∧
    ((W5.setCell ⟨B, k, none⟩ (.int .i64 v)).setCell ⟨pf, 0, none⟩ (.bool false)).drew.heap[pf]? = some (.cells #[.bool false] 4 (0, 0)) ∧
    ((W5.setCell ⟨B, k, none⟩ (.int .i64 v)).setCell ⟨pf, 0, none⟩ (.bool false)).drew.heap[pat]? = some (.cells #[.int .i64 (k : Int)] 3 (0, 0)) := by
  have n1 : pf ≠ B := by rintro rfl; have := hF.symm.trans H5.hb; injection this with this; injection this with _ this; cases this
  have n2 : pat ≠ B := by rintro rfl; have := hA.symm.trans H5.hb; injection this with this; injection this with _ this; cases this
  have n3 : pat ≠ pf := by rintro rfl; have := hA.symm.trans hF; injection this with this; injection this with _ this; cases this
  have hF' := (Below.heap_setCell W5 ⟨B, k, none⟩ (.int .i64 v) pf n1).trans hF
  have hA' := (Below.heap_setCell W5 ⟨B, k, none⟩ (.int .i64 v) pat n2).trans hA
  refine ⟨((H5.setB k v).other hF' (by decide) hB hw _).drew, ?_, ?_⟩
  · show ((W5.setCell ⟨B, k, none⟩ (.int .i64 v)).setCell ⟨pf, 0, none⟩ (.bool false)).heap[pf]? = _
    generalize W5.setCell ⟨B, k, none⟩ (.int .i64 v) = W6 at hF'
    simp [World.setCell, Array.getElem?_modify, hF']
  · exact (Below.heap_setCell _ ⟨pf, 0, none⟩ _ pat n3).trans hA'
theorem round_mid {w : World} {n Bi A B pa pb : Nat} {is : List Bool} {a b : List Int} {Ds : List Nat} {W : World} {p t j : Nat} {x : Value} (H : RB w n Bi A B pa pb is a b Ds W) (v : Value) (hF : W.heap[p]? = some (.cells #[x] t (0, 0))) (ht : t ≠ 2) :
    (W.setCell ⟨A, j, none⟩ v).heap[p]? = some (.cells #[x] t (0, 0)) :=
  (Below.heap_setCell W ⟨A, j, none⟩ v p (by rintro rfl; have := hF.symm.trans H.ha; injection this with this; injection this with _ this; exact ht this)).trans hF
end Go.Proofs.Ytnaapecmooljaaa.H
