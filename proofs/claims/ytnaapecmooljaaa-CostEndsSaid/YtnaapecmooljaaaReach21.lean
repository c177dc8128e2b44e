/- cost.reached: which instructions are reached, or what is wrong. The conditions: what each names. -/
import Derived.Test.YtnaapecmooljaaaIter21
set_option linter.unusedVariables false
set_option linter.unusedSimpArgs false
namespace Go.Proofs.Ytnaapecmooljaaa.H
open Go.RowKit Go.Proofs.YtnaapecmooljaaaW.PrintWords Go.Shelf
attribute [local go_sem] Oper.semAt_some
/-- What a round marks, and what is wrong if one of the places is beyond. -/
def scan1 (n : Nat) (is : List Bool) : List (Nat × Int) → List Bool × Int
  | [] => (is, 0)
  | x :: r => if n ≤ x.1 then ([], x.2) else scan1 n (is.set x.1 true) r
/-- Which instructions are reached, from place k on, d of them. -/
def scan (l : List S26) : Nat → Nat → List Bool → List Bool × Int
  | 0, _, is => (is, 0)
  | d + 1, k, is => if is.getD k false = true then (if (scan1 l.length is (succs (rd_T26 l k) k)).2 = 0 then scan l d (k + 1) (scan1 l.length is (succs (rd_T26 l k) k)).1 else ([], (scan1 l.length is (succs (rd_T26 l k) k)).2)) else scan l d (k + 1) is
def setAll (is : List Bool) (pre : List (Nat × Int)) : List Bool := pre.foldl (fun s x => s.set x.1 true) is
theorem setAll_snoc (is : List Bool) (pre : List (Nat × Int)) (x : Nat × Int) : setAll is (pre ++ [x]) = (setAll is pre).set x.1 true := by simp [setAll]
theorem setAll_length (pre : List (Nat × Int)) : ∀ is : List Bool, (setAll is pre).length = is.length := by
  induction pre with
  | nil => intro is; rfl
  | cons x r ih => intro is; show (setAll (is.set x.1 true) r).length = _; rw [ih]; simp
theorem scan1_all (n : Nat) (xs : List (Nat × Int)) : ∀ is, (∀ x ∈ xs, x.1 < n) → scan1 n is xs = (setAll is xs, 0) := by
  induction xs with
  | nil => intro is _; rfl
  | cons x r ih =>
    intro is h
    have hx := h x (by simp)
    rw [scan1, if_neg (by omega), ih _ (fun y hy => h y (by simp [hy]))]
    rfl
theorem scan1_stop (n : Nat) (pre : List (Nat × Int)) (x : Nat × Int) (r : List (Nat × Int)) : ∀ is, (∀ y ∈ pre, y.1 < n) → n ≤ x.1 → scan1 n is (pre ++ [x] ++ r) = ([], x.2) := by
  induction pre with
  | nil => intro is _ hx; simp [scan1, hx]
  | cons y t ih =>
    intro is h hx
    have hy := h y (by simp)
    show scan1 n is (y :: (t ++ [x] ++ r)) = _
    rw [scan1, if_neg (by omega), ih _ (fun z hz => h z (by simp [hz])) hx]
theorem succs_err {i : S26} {p : Nat} {x : Nat × Int} (h : x ∈ succs i p) : x.2 = 190 ∨ x.2 = 195 := by
  unfold succs at h
  split at h
  · simp at h
  split at h
  · simp at h; subst h; simp
  split at h
  · simp at h; rcases h with rfl | rfl <;> simp
  · simp at h; subst h; simp
def mark (D : Nat) : Deferred := { target := .collected D, args := #[] }
/-- What 'reached' holds in memory between two rounds. -/
structure RS (w : World) (A0 : Option Addr) (n c : Nat) (r : Value) (e : Int) (is : List Bool) (Ds : List Nat) (W : World) : Prop where
  b0 : W.heap[w.heap.size]? = some (.cells #[.slice A0 n c] 22 (0, 0))
  b1 : W.heap[w.heap.size + 1]? = some (.cells #[r] 39 (0, 0))
  b2 : W.heap[w.heap.size + 1 + 1]? = some (.cells #[.int .i64 e] 27 (0, 0))
  b3 : W.heap[w.heap.size + 1 + 1 + 1]? = some (.cells (is.map Value.bool).toArray 4 (0, 0))
  b4 : W.heap[w.heap.size + 1 + 1 + 1 + 1]? = some (.cells #[.slice (some ⟨w.heap.size + 1 + 1 + 1, 0, none⟩) n n] 39 (0, 0))
  len : is.length = n
  ds : ∀ D ∈ Ds, w.heap.size + 1 + 1 + 1 + 1 < D ∧ W.heap[D]? = some (.deferred (some []))
  nd : Ds.Nodup
  bel : Below w.heap.size w W
theorem RS.kept {w : World} {A0 : Option Addr} {n c B : Nat} {r : Value} {e : Int} {is : List Bool} {Ds : List Nat} {W W' : World} {row : Option Nat} (h : RS w A0 n c r e is Ds W) (hB : w.heap.size ≤ B) (hD : ∀ D ∈ Ds, D < B) (hg : W.grownBy W' row)
    (hr : ∀ r, row = some r → B ≤ r ∧ ∃ o : Obj, W.heap[r]? = some o ∧ o.isCells = false) : RS w A0 n c r e is Ds W' := by
  have key : ∀ k o, W.heap[k]? = some o → (o.isCells = true ∨ k < B) → W'.heap[k]? = some o := by
    intro k o hk ho
    refine (hg.block k (Array.getElem?_eq_some_iff.1 hk).1 (fun e => ?_)).trans hk
    obtain ⟨h1, o', h2, h3⟩ := hr k e.symm
    rw [hk] at h2
    injection h2 with h2
    subst h2
    rcases ho with ho | ho
    · rw [h3] at ho; cases ho
    · omega
  exact ⟨key _ _ h.b0 (.inl rfl), key _ _ h.b1 (.inl rfl), key _ _ h.b2 (.inl rfl), key _ _ h.b3 (.inl rfl), key _ _ h.b4 (.inl rfl), h.len, fun D hd => ⟨(h.ds D hd).1, key _ _ (h.ds D hd).2 (.inr (hD D hd))⟩, h.nd,
    h.bel.grown hg h.bel.size (fun k e => Nat.le_trans hB (hr k e).1)⟩
/-- A place is marked. -/
theorem RS.put {w : World} {A0 : Option Addr} {n c : Nat} {r : Value} {e : Int} {is : List Bool} {Ds : List Nat} {W : World} (h : RS w A0 n c r e is Ds W) (j : Nat) :
    RS w A0 n c r e (is.set j true) Ds (W.setCell ⟨w.heap.size + 1 + 1 + 1, j, none⟩ (.bool true)) := by
  have key : ∀ k o, W.heap[k]? = some o → k ≠ w.heap.size + 1 + 1 + 1 → (W.setCell ⟨w.heap.size + 1 + 1 + 1, j, none⟩ (.bool true)).heap[k]? = some o := fun k o hk hne => (Below.heap_setCell W ⟨w.heap.size + 1 + 1 + 1, j, none⟩ _ k hne).trans hk
  refine ⟨key _ _ h.b0 (by omega), key _ _ h.b1 (by omega), key _ _ h.b2 (by omega), ?_, key _ _ h.b4 (by omega), by rw [List.length_set]; exact h.len, fun D hd => ⟨(h.ds D hd).1, key _ _ (h.ds D hd).2 (by have := (h.ds D hd).1; omega)⟩, h.nd, h.bel.setCell (p := ⟨w.heap.size + 1 + 1 + 1, j, none⟩) (by simp; omega) _⟩
  simp [World.setCell, Array.getElem?_modify, h.b3, List.map_set]
/-- What is answered is laid down. -/
theorem RS.ans {w : World} {A0 : Option Addr} {n c : Nat} {r : Value} {e : Int} {is : List Bool} {Ds : List Nat} {W : World} (h : RS w A0 n c r e is Ds W) (r' : Value) (e' : Int) :
    RS w A0 n c r' e' is Ds ((W.setCell ⟨w.heap.size + 1, 0, none⟩ r').setCell ⟨w.heap.size + 1 + 1, 0, none⟩ (.int .i64 e')) := by
  have key : ∀ k o, W.heap[k]? = some o → k ≠ w.heap.size + 1 → k ≠ w.heap.size + 1 + 1 → ((W.setCell ⟨w.heap.size + 1, 0, none⟩ r').setCell ⟨w.heap.size + 1 + 1, 0, none⟩ (.int .i64 e')).heap[k]? = some o :=
    fun k o hk h1 h2 => (Below.heap_setCell _ ⟨w.heap.size + 1 + 1, 0, none⟩ _ k h2).trans ((Below.heap_setCell _ ⟨w.heap.size + 1, 0, none⟩ _ k h1).trans hk)
  refine ⟨key _ _ h.b0 (by omega) (by omega), ?_, ?_, key _ _ h.b3 (by omega) (by omega), key _ _ h.b4 (by omega) (by omega), h.len, fun D hd => ⟨(h.ds D hd).1, key _ _ (h.ds D hd).2 (by have := (h.ds D hd).1; omega) (by have := (h.ds D hd).1; omega)⟩, h.nd, (h.bel.setCell (p := ⟨w.heap.size + 1, 0, none⟩) (by simp) _).setCell (p := ⟨w.heap.size + 1 + 1, 0, none⟩) (by simp; omega) _⟩
  · refine (Below.heap_setCell _ ⟨w.heap.size + 1 + 1, 0, none⟩ _ _ (by simp)).trans ?_
    simp [World.setCell, Array.getElem?_modify, h.b1]
  · have h2 := (Below.heap_setCell W ⟨w.heap.size + 1, 0, none⟩ r' (w.heap.size + 1 + 1) (by simp)).trans h.b2
    generalize W.setCell ⟨w.heap.size + 1, 0, none⟩ r' = W1 at h2
    simp [World.setCell, Array.getElem?_modify, h2]
theorem RS.below {w : World} {A0 : Option Addr} {n c : Nat} {r : Value} {e : Int} {is : List Bool} {Ds : List Nat} {W W' : World} (h : RS w A0 n c r e is Ds W) (hb : Below W.heap.size W W') : RS w A0 n c r e is Ds W' := by
  have key : ∀ k o, W.heap[k]? = some o → W'.heap[k]? = some o := fun k o hk => (hb.block k (Array.getElem?_eq_some_iff.1 hk).1).trans hk
  exact ⟨key _ _ h.b0, key _ _ h.b1, key _ _ h.b2, key _ _ h.b3, key _ _ h.b4, h.len, fun D hd => ⟨(h.ds D hd).1, key _ _ (h.ds D hd).2⟩, h.nd, h.bel.trans (hb.mono h.bel.size)⟩
theorem RS.more {w : World} {A0 : Option Addr} {n c : Nat} {r : Value} {e : Int} {is : List Bool} {Ds : List Nat} {W : World} (h : RS w A0 n c r e is Ds W) {D : Nat} (hD : W.heap[D]? = some (.deferred (some []))) (h1 : w.heap.size + 1 + 1 + 1 + 1 < D) (h2 : ∀ x ∈ Ds, x < D) : RS w A0 n c r e is (D :: Ds) W :=
  ⟨h.b0, h.b1, h.b2, h.b3, h.b4, h.len, fun x hx => by rcases List.mem_cons.1 hx with rfl | hx; exact ⟨h1, hD⟩; exact h.ds x hx, List.nodup_cons.2 ⟨fun hm => by have := h2 D hm; omega, h.nd⟩, h.bel⟩
theorem leaves_marks {F : Fence} {n : Nat} {P : Program} {fn : Func} {tmps : Array Value} {R : Ending → World → Prop} {B : Nat} : ∀ (Ds : List Nat) (W : World), Ds.Nodup → (∀ D ∈ Ds, B ≤ D ∧ W.heap[D]? = some (.deferred (some []))) →
    (∀ W', Below B W W' → ∃ v, (results fn tmps).run P W' = .ok v W' ∧ R (.returned v) W') → LeavesInM F n P fn tmps R (Ds.map mark) .returning W := by
  intro Ds
  induction Ds with
  | nil => intro W _ _ h; exact h W (Below.refl _ _)
  | cons D Ds ih =>
    intro W hnd hD h
    obtain ⟨hB, hd⟩ := hD D (by simp)
    obtain ⟨hn1, hn2⟩ := List.nodup_cons.1 hnd
    have hbp : Below B W (W.putObj D (.deferred none)) := (Below.refl _ _).grown (grownBy_putObj' W D _) (by have := (Array.getElem?_eq_some_iff.1 hd).1; omega) (fun k e => by cases e; exact hB)
    refine ⟨by simp, .inl ⟨D, _, rfl, run_takeDeferred hd, ih _ hn2 (fun x hx => ⟨(hD x (by simp [hx])).1, ?_⟩) (fun W' hW' => h W' (hbp.trans hW'))⟩⟩
    exact (World.putObj_heap_other (by rintro rfl; exact hn1 hx)).trans (hD x (by simp [hx])).2
theorem results_cell2 {P : Program} {fn : Func} {a b : Nat} {t u : TypeId} (h : fn.results = #[.cell a t, .cell b u]) {tmps : Array Value} {w : World} {A B : Addr} {v v' : Value}
    (ht : ∀ w, (isAgg t).run P w = .ok false w) (hu : ∀ w, (isAgg u).run P w = .ok false w) (ha : tmps.getD a undef = .pointer (some A)) (hb : tmps.getD b undef = .pointer (some B)) (hA : w.cell? A = some v) (hB : w.cell? B = some v') :
    (results fn tmps).run P w = .ok (.tuple #[v, v']) w := by
  rw [results, h]
  have ha' : tmps[a]?.getD undef = .pointer (some A) := by rw [← ha]; simp
  have hb' : tmps[b]?.getD undef = .pointer (some B) := by rw [← hb]; simp
  simp [Sem.run_bind, Result.andThen, loadVar, ht, hu, go_sem, ha', hb', asAddr, load]
  simp [Sem.run, hA, hB]
theorem start5 (w : World) (o0 o1 o2 o3 o4 : Obj) :
    (((((w.alloc o0).alloc o1).alloc o2).alloc o3).alloc o4).heap[w.heap.size]? = some o0 ∧ (((((w.alloc o0).alloc o1).alloc o2).alloc o3).alloc o4).heap[w.heap.size + 1]? = some o1 ∧
    (((((w.alloc o0).alloc o1).alloc o2).alloc o3).alloc o4).heap[w.heap.size + 1 + 1]? = some o2 ∧ (((((w.alloc o0).alloc o1).alloc o2).alloc o3).alloc o4).heap[w.heap.size + 1 + 1 + 1]? = some o3 ∧
    (((((w.alloc o0).alloc o1).alloc o2).alloc o3).alloc o4).heap[w.heap.size + 1 + 1 + 1 + 1]? = some o4 := by
  refine ⟨?_, ?_, ?_, ?_, ?_⟩
  · rw [heap_alloc_old _ _ (by simp <;> omega), heap_alloc_old _ _ (by simp <;> omega), heap_alloc_old _ _ (by simp <;> omega), heap_alloc_old _ _ (by simp)]; exact heap_alloc_new w o0
  · have := heap_alloc_new (w.alloc o0) o1
    rw [heap_alloc_old _ _ (by simp <;> omega), heap_alloc_old _ _ (by simp <;> omega), heap_alloc_old _ _ (by simp)]; simpa using this
  · have := heap_alloc_new ((w.alloc o0).alloc o1) o2
    rw [heap_alloc_old _ _ (by simp <;> omega), heap_alloc_old _ _ (by simp)]; simpa using this
  · have := heap_alloc_new (((w.alloc o0).alloc o1).alloc o2) o3
    rw [heap_alloc_old _ _ (by simp)]; simpa using this
  · have := heap_alloc_new ((((w.alloc o0).alloc o1).alloc o2).alloc o3) o4
    simpa using this
theorem made_false (n : Nat) : madeCells #[Value.bool false] n = ((List.replicate n false).map Value.bool).toArray := by
  apply Array.ext
  · simp [madeCells]
  · intro i h1 h2
    simp [madeCells, Nat.mod_one]
end Go.Proofs.Ytnaapecmooljaaa.H
