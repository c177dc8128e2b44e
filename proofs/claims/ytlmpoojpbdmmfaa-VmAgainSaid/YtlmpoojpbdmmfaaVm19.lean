/- verify's map of states in memory: the map itself, and a block for each state. The conditions: what each names. -/
import Derived.Test.YtlmpoojpbdmmfaaV19
import Derived.Maps.OwnSet
set_option linter.unusedVariables false
set_option linter.unusedSimpArgs false
namespace Go.Proofs.Ytlmpoojpbdmmfaa.H
open Go.RowKit Go.Proofs.YtlmpoojpbdmmfaaW.PrintWords Go.Proofs.YtlmpoojpbdmmfaaW.PrintLast Go.Proofs.YtlmpoojpbdmmfaaW.PrintMore Go.Maps

/-- How a pointer to a block reads: as the block's number. -/
def ptrR : Value → Option (DataW Unit × List MemPlace)
  | .pointer none => some (.nil, [])
  | .pointer (some ⟨b, 0, none⟩) => some (.lit (.int .i64 (b : Int)), [])
  | _ => none
theorem ptrR_mk (b : Nat) : ptrR (.pointer (some ⟨b, 0, none⟩)) = some (.lit (.int .i64 (b : Int)), []) := rfl
theorem ptrR_nil {v : Value} {ps : List MemPlace} (h : ptrR v = some (.nil, ps)) : v = .pointer none := by
  unfold ptrR at h
  split at h
  · rfl
  · simp at h
  · simp at h
theorem ptrR_inv {v : Value} {b : Nat} {ps : List MemPlace} (h : ptrR v = some (.lit (.int .i64 (b : Int)), ps)) : v = .pointer (some ⟨b, 0, none⟩) := by
  unfold ptrR at h
  split at h
  · simp at h
  · simp at h
    obtain ⟨h, _⟩ := h
    have : b = b := rfl
    rename_i b' _
    have e : b' = b := by omega
    rw [e]
  · simp at h
theorem key3 : Keyed Try.prog 3 := int_keyed (q := .i64) Try.underlying3
theorem under99 : Try.prog.underlying 99 = some (.map 3 94) := by kernel_rfl
theorem zero94 (w : World) : (zeroValue 94).run Try.prog w = .ok (.pointer none) w := by kernel_rfl
def keyI (k : Nat) : Lit := .int .i64 (k : Int)
theorem keyI_ne {j k : Nat} (h : j ≠ k) : keyI j ≠ keyI k := by
  intro e
  simp only [keyI, Lit.int.injEq, true_and] at e
  omega
theorem key_of (k : Nat) (hk : k ≤ 100000) : keyOf Try.prog 3 (.int .i64 (k : Int)) = some (keyI k) :=
  keyOf_int_mk (q := .i64) Try.underlying3 (by simp [Lit.wf, IntKind.min, IntKind.max, IntKind.bits, IntKind.signed]; omega)
/-- The map and its states in memory: 'w' is the world at the call's beginning. -/
structure VM (w : World) (M n : Nat) (m : Nat → Option Vst) (bl : Nat → Nat) (W : World) : Prop where
  own : ∃ D : DataW Unit, W.ownsMap Try.prog 3 ptrR M n D ∧ ∀ k, k ≤ 100000 → D.atKey (keyI k) .nil = match m k with | none => .nil | some _ => .lit (.int .i64 (bl k : Int))
  st : ∀ k s, m k = some s → W.heap[bl k]? = some (.cells (stArr s) 98 (0, 0)) ∧ w.heap.size ≤ bl k
  inj : ∀ j k, m j ≠ none → m k ≠ none → bl j = bl k → j = k
  low : w.heap.size ≤ M
/-- Nothing has turned but the map, its states and what is new. -/
structure Keeps (M : Nat) (m : Nat → Option Vst) (bl : Nat → Nat) (W W' : World) : Prop where
  os : W'.os = W.os
  tape : W'.tape = W.tape
  output : W'.output = W.output
  size : W.heap.size ≤ W'.heap.size
  block : ∀ k, k < W.heap.size → k ≠ M → (∀ j, m j ≠ none → k ≠ bl j) → W'.heap[k]? = W.heap[k]?
/-- Each state lies where it lay, or in a new block. -/
def Grows (B : Nat) (m : Nat → Option Vst) (bl : Nat → Nat) (m' : Nat → Option Vst) (bl' : Nat → Nat) : Prop := ∀ j, m' j ≠ none → (m j ≠ none ∧ bl' j = bl j) ∨ B ≤ bl' j
theorem Keeps.trans {M : Nat} {m m1 : Nat → Option Vst} {bl bl1 : Nat → Nat} {W W1 W2 : World} (h : Keeps M m bl W W1) (k : Keeps M m1 bl1 W1 W2) (g : Grows W.heap.size m bl m1 bl1) : Keeps M m bl W W2 :=
  ⟨k.os.trans h.os, k.tape.trans h.tape, k.output.trans h.output, Nat.le_trans h.size k.size, fun i hi h1 h2 => by
    rw [k.block i (Nat.lt_of_lt_of_le hi h.size) h1 (fun j hj e => ?_)]
    · exact h.block i hi h1 h2
    · rcases g j hj with ⟨g1, g2⟩ | g1
      · exact h2 j g1 (e.trans g2)
      · omega⟩
theorem Grows.refl (B : Nat) (m : Nat → Option Vst) (bl : Nat → Nat) : Grows B m bl m bl := fun _ hj => .inl ⟨hj, rfl⟩
theorem Grows.trans {B B1 : Nat} (hB : B ≤ B1) {m m1 m2 : Nat → Option Vst} {bl bl1 bl2 : Nat → Nat} (h : Grows B m bl m1 bl1) (k : Grows B1 m1 bl1 m2 bl2) : Grows B m bl m2 bl2 := fun j hj => by
  rcases k j hj with ⟨k1, k2⟩ | k1
  · rcases h j k1 with ⟨h1, h2⟩ | h1
    · exact .inl ⟨h1, k2.trans h2⟩
    · exact .inr (by omega)
  · exact .inr (by omega)
section
variable {w W W' : World} {M n : Nat} {m : Nat → Option Vst} {bl : Nat → Nat}
theorem VM.block {k : Nat} {a : Array Value} {t : TypeId} {f : Nat × Nat} (h : VM w M n m bl W) (hk : W.heap[k]? = some (.cells a t f)) (ht : t ≠ 98) : k ≠ M ∧ ∀ j, m j ≠ none → k ≠ bl j := by
  refine ⟨?_, fun j hj e => ?_⟩
  · rintro rfl
    obtain ⟨D, ⟨es, c, hb, _⟩, _⟩ := h.own
    rw [hb] at hk
    cases hk
  · subst e
    obtain ⟨s, hs⟩ := Option.ne_none_iff_exists'.1 hj
    rw [(h.st j s hs).1] at hk
    injection hk with hk
    injection hk with _ hk
    exact ht hk.symm
theorem Keeps.cells (hk : Keeps M m bl W W') (h : VM w M n m bl W) {k : Nat} {a : Array Value} {t : TypeId} {f : Nat × Nat} (hc : W.heap[k]? = some (.cells a t f)) (ht : t ≠ 98) : W'.heap[k]? = some (.cells a t f) := by
  obtain ⟨h1, h2⟩ := h.block hc ht
  rw [hk.block k (Array.getElem?_eq_some_iff.1 hc).1 h1 h2]
  exact hc
theorem Keeps.below (hk : Keeps M m bl W W') (h : VM w M n m bl W) (hb : Below w.heap.size w W) : Below w.heap.size w W' := by
  refine ⟨hk.os.trans hb.os, hk.tape.trans hb.tape, hk.output.trans hb.output, Nat.le_trans hb.size hk.size, fun k hlt => ?_⟩
  rw [hk.block k (Nat.lt_of_lt_of_le hlt hb.size) (by have := h.low; omega) (fun j hj e => ?_)]
  · exact hb.block k hlt
  · obtain ⟨s, hs⟩ := Option.ne_none_iff_exists'.1 hj
    have := (h.st j s hs).2
    omega
theorem Keeps.refl (M : Nat) (m : Nat → Option Vst) (bl : Nat → Nat) (W : World) : Keeps M m bl W W := ⟨rfl, rfl, rfl, Nat.le_refl _, fun _ _ _ _ => rfl⟩
/-- Of another world in which the map and the states lie as they lay. -/
theorem VM.kept (h : VM w M n m bl W) (hM : W'.heap[M]? = W.heap[M]?) (hs : ∀ j s, m j = some s → W'.heap[bl j]? = W.heap[bl j]?) : VM w M n m bl W' := by
  obtain ⟨D, ⟨es, c, hb, hF⟩, hD⟩ := h.own
  exact ⟨⟨D, ⟨es, c, hM.trans hb, hF⟩, hD⟩, fun k s hk => ⟨(hs k s hk).trans (h.st k s hk).1, (h.st k s hk).2⟩, h.inj, h.low⟩
theorem VM.more (h : VM w M n m bl W) {n' : Nat} (hn : n ≤ n') : VM w M n' m bl W := by
  obtain ⟨D, hD, hE⟩ := h.own
  exact ⟨⟨D, hD.mono hn, hE⟩, h.st, h.inj, h.low⟩
theorem VM.ltM (h : VM w M n m bl W) : M < W.heap.size := by
  obtain ⟨D, ⟨es, c, hb, _⟩, _⟩ := h.own
  exact (Array.getElem?_eq_some_iff.1 hb).1
theorem VM.lt (h : VM w M n m bl W) {j : Nat} {s : Vst} (hs : m j = some s) : bl j < W.heap.size := (Array.getElem?_eq_some_iff.1 (h.st j s hs).1).1
theorem VM.neM (h : VM w M n m bl W) {j : Nat} {s : Vst} (hs : m j = some s) : bl j ≠ M := by
  intro e
  obtain ⟨D, ⟨es, c, hb, _⟩, _⟩ := h.own
  rw [← e, (h.st j s hs).1] at hb
  cases hb
theorem VM.alloc (h : VM w M n m bl W) (o : Obj) : VM w M n m bl (W.alloc o) := h.kept (heap_alloc_old _ _ h.ltM) (fun j s hs => heap_alloc_old _ _ (h.lt hs))
theorem VM.below (h : VM w M n m bl W) (hb : Below W.heap.size W W') : VM w M n m bl W' := h.kept (hb.block _ h.ltM) (fun j s hs => hb.block _ (h.lt hs))
/-- A store into a box. -/
theorem VM.box (h : VM w M n m bl W) {k : Nat} {a : Array Value} {t : TypeId} {f : Nat × Nat} (hk : W.heap[k]? = some (.cells a t f)) (ht : t ≠ 98) (j : Nat) (v : Value) : VM w M n m bl (W.setCell ⟨k, j, none⟩ v) := by
  obtain ⟨h1, h2⟩ := h.block hk ht
  exact h.kept (Below.heap_setCell W ⟨k, j, none⟩ v M (fun e => h1 e.symm)) (fun i s hs => Below.heap_setCell W ⟨k, j, none⟩ v _ (fun e => h2 i (by rw [hs]; simp) e.symm))
/-- One state has turned. -/
theorem VM.turn (h : VM w M n m bl W) {j : Nat} {s s' : Vst} (hs : m j = some s) (hg : W.grownBy W' (some (bl j))) (hb : W'.heap[bl j]? = some (.cells (stArr s') 98 (0, 0))) : VM w M n (fun k => if k = j then some s' else m k) bl W' := by
  have hne := h.neM hs
  obtain ⟨D, ⟨es, c, hM, hF⟩, hD⟩ := h.own
  refine ⟨⟨D, ⟨es, c, (hg.block M h.ltM (by simp; exact fun e => hne e.symm)).trans hM, hF⟩, fun k hk => ?_⟩, fun k x hx => ?_, fun i k hi hk e => ?_, h.low⟩
  · rw [hD k hk]
    by_cases e : k = j
    · subst e; simp [hs]
    · simp [e]
  · by_cases e : k = j
    · subst e
      simp at hx
      subst hx
      exact ⟨hb, (h.st k s hs).2⟩
    · simp [e] at hx
      refine ⟨(hg.block _ (h.lt hx) ?_).trans (h.st k x hx).1, (h.st k x hx).2⟩
      simp
      exact fun e2 => e (h.inj k j (by rw [hx]; simp) (by rw [hs]; simp) e2)
  · refine h.inj i k ?_ ?_ e
    · by_cases e : i = j
      · subst e; rw [hs]; simp
      · simpa [e] using hi
    · by_cases e : k = j
      · subst e; rw [hs]; simp
      · simpa [e] using hk
theorem keeps_turn (h : VM w M n m bl W) {j : Nat} {s : Vst} (hs : m j = some s) (hg : W.grownBy W' (some (bl j))) : Keeps M m bl W W' :=
  ⟨hg.os, hg.tape, hg.output, hg.size, fun k hk _ hb => hg.block k hk (by simp; exact hb j (by rw [hs]; simp))⟩
/-- What the map tells of a key that is there, or is not. -/
theorem VM.look (h : VM w M n m bl W) (k : Nat) (hk : k ≤ 100000) : (Instr.lookup 99 (.map (some M)) (.int .i64 (k : Int)) false).run Try.prog W = .ok (match m k with | none => .pointer none | some _ => .pointer (some ⟨bl k, 0, none⟩)) W := by
  obtain ⟨D, hown, hD⟩ := h.own
  obtain ⟨v, ps, hrun, hv⟩ := hown.lookup key3 under99 (zero94 W) (zd := .nil) (zp := []) rfl (key_of k hk)
  rw [hD k hk] at hv
  rw [hrun]
  cases hm : m k with
  | none => rw [hm] at hv; rw [ptrR_nil hv]
  | some s => rw [hm] at hv; rw [ptrR_inv hv]
/-- A key more, whose state lies in a block of its own. -/
theorem VM.put (h : VM w M n m bl W) (hn : n < 1000000) {k b : Nat} {s : Vst} (hk : k ≤ 100000) (hm : m k = none) (hb : W.heap[b]? = some (.cells (stArr s) 98 (0, 0))) (hlo : w.heap.size ≤ b) (hne : ∀ j, m j ≠ none → bl j ≠ b) :
    ∃ W', (Instr.mapUpdate 99 (.map (some M)) (.int .i64 (k : Int)) (.pointer (some ⟨b, 0, none⟩))).run Try.prog W = .ok () W' ∧ VM w M (n + 1) (fun i => if i = k then some s else m i) (fun i => if i = k then b else bl i) W' ∧ W.grownBy W' (some M) := by
  have hM := h.ltM
  obtain ⟨D, hown, hD⟩ := h.own
  obtain ⟨W', hrun, hown', hg⟩ := hown.update key3 under99 (by unfold maxLen; omega) (key_of k hk) (ptrR_mk b)
  have hbM : b ≠ M := by
    rintro rfl
    obtain ⟨es, c, hx, _⟩ := hown
    rw [hb] at hx
    cases hx
  refine ⟨W', hrun, ⟨⟨_, hown', fun i hi => ?_⟩, fun i x hx => ?_, fun i j hi hj e => ?_, h.low⟩, hg⟩
  · by_cases e : i = k
    · subst e
      rw [atKey_put_same hown.isMap (key3.key (key_of i hi))]
      simp
    · rw [atKey_put_other (keyI_ne e), hD i hi]
      simp [e]
  · by_cases e : i = k
    · subst e
      simp at hx
      subst hx
      simp only [if_true]
      exact ⟨(hg.block b (Array.getElem?_eq_some_iff.1 hb).1 (by simp; exact hbM)).trans hb, hlo⟩
    · simp [e] at hx
      simp only [e, if_false]
      exact ⟨(hg.block _ (h.lt hx) (by simp; exact h.neM hx)).trans (h.st i x hx).1, (h.st i x hx).2⟩
  · by_cases e1 : i = k
    · by_cases e2 : j = k
      · rw [e1, e2]
      · simp only [e1, e2, if_true, if_false] at e
        simp [e2] at hj
        exact absurd e.symm (hne j hj)
    · by_cases e2 : j = k
      · simp only [e1, e2, if_true, if_false] at e
        simp [e1] at hi
        exact absurd e (hne i hi)
      · simp only [e1, e2, if_false] at e
        simp [e1] at hi
        simp [e2] at hj
        exact h.inj i j hi hj e
/-- A key less. -/
theorem VM.del (h : VM w M n m bl W) (k : Nat) (hk : k ≤ 100000) (ty : TypeId) :
    ∃ W', (Builtin.delete_ #[99, 3] ty #[.map (some M), .int .i64 (k : Int)]).run Try.prog W = .ok (.tuple #[]) W' ∧ VM w M n (fun i => if i = k then none else m i) bl W' ∧ W.grownBy W' (some M) := by
  obtain ⟨D, hown, hD⟩ := h.own
  obtain ⟨W', hrun, hown', ht⟩ := hown.drop key3 under99 (key_of k hk) ty
  have hg := ht.grown
  refine ⟨W', hrun, ⟨⟨_, hown', fun i hi => ?_⟩, fun i x hx => ?_, fun i j hi hj e => ?_, h.low⟩, hg⟩
  · by_cases e : i = k
    · subst e
      rw [atKey_del_same]
      simp
    · rw [atKey_del_other (keyI_ne e), hD i hi]
      simp [e]
  · by_cases e : i = k
    · subst e; simp at hx
    · simp [e] at hx
      exact ⟨(hg.block _ (h.lt hx) (by simp; exact h.neM hx)).trans (h.st i x hx).1, (h.st i x hx).2⟩
  · refine h.inj i j ?_ ?_ e
    · by_cases e : i = k
      · subst e; simp at hi
      · simpa [e] using hi
    · by_cases e : j = k
      · subst e; simp at hj
      · simpa [e] using hj
/-- The empty map, new. -/
theorem VM.made (hb : Below w.heap.size w W) : VM w W.heap.size 0 (fun _ => none) bl (W.alloc (.map #[] 0)) :=
  ⟨⟨_, World.ownsMap_made W Try.prog 3 ptrR, fun k hk => (by rfl)⟩, fun k s hs => (by cases hs), fun j k hj => absurd rfl hj, hb.size⟩
end
end Go.Proofs.Ytlmpoojpbdmmfaa.H
