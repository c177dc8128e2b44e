/- From what a row's argument reads as data to the print's kinds: each argument is some value of its kind, within the reach. The conditions: none beyond what each lemma names. -/
import Derived.SizedLaws
import Derived.ChangeArms
import Derived.DataReads
import Derived.Test.YtlmpoojpbdmmfaaWWords
set_option linter.unusedVariables false
namespace Go.Proofs.YtlmpoojpbdmmfaaOpen
open Go.Proofs.YtlmpoojpbdmmfaaW.PrintWords

/-- Whatever reads as data of type t (with fuel n), within the reach, is of kind k, and G holds of it. -/
def Fits (P : Program) (t : TypeId) {α : Type} (k : Kd α) (G : α → Prop) (n : Nat) : Prop :=
  ∀ (H : Type) (enc : TypeId × Value → H) (w : World) (base : Nat) (spare : Nat → Bool) (held : Bool) (cs : List Value) (x : DataW H × List MemPlace),
    DataW.trod enc P w base spare held n t cs = some x → (∀ m ∈ x.1.weights P t, m ≤ 140737488351232) → ∃ y, k.K w y cs ∧ G y

section
variable {P : Program} {t e : TypeId}

theorem fits_zero {α : Type} (k : Kd α) (G : α → Prop) : Fits P t k G 0 := by
  intro H enc w base spare held cs x h _
  simp [DataW.trod] at h
theorem fits_imp {α : Type} {k : Kd α} {G G' : α → Prop} {n : Nat} (h : Fits P t k G n) (hG : ∀ y, G y → G' y) : Fits P t k G' n := by
  intro H enc w base spare held cs x h1 h2
  obtain ⟨y, h3, h4⟩ := h H enc w base spare held cs x h1 h2
  exact ⟨y, h3, hG y h4⟩
theorem fits_int {k : IntKind} (hu : P.underlying t = some (.int k)) (n : Nat) : Fits P t (Kd.int k) (fun x => (Lit.int k x).wf = true) n := by
  intro H enc w base spare held cs x h _
  obtain ⟨y, rfl, _, hw⟩ := DataW.trod_int hu h
  exact ⟨y, rfl, hw⟩
theorem fits_bool (hu : P.underlying t = some .bool) (n : Nat) : Fits P t Kd.bool (fun _ => True) n := by
  intro H enc w base spare held cs x h _
  obtain ⟨y, rfl, _⟩ := DataW.trod_bool hu h
  exact ⟨y, rfl, trivial⟩
theorem fits_string (hu : P.underlying t = some .string) (n : Nat) : Fits P t Kd.string (fun s => s.size ≤ 140737488351232) n := by
  intro H enc w base spare held cs x h hW
  obtain ⟨s, rfl, rfl, hm⟩ := DataW.trod_string hu h
  refine ⟨s, rfl, ?_⟩
  have := hW s.data.toList.length (by simp [DataW.weights])
  rwa [data_length] at this

theorem list_of {α : Type} {p : Nat → α → Prop} : ∀ n, (∀ i, i < n → ∃ x, p i x) → ∃ l : List α, l.length = n ∧ ∀ i x, l[i]? = some x → p i x := by
  intro n
  induction n with
  | zero => exact fun _ => ⟨[], rfl, fun i x h => by simp at h⟩
  | succ n ih =>
    intro h
    obtain ⟨l, hl, hp⟩ := ih (fun i hi => h i (Nat.lt_succ_of_lt hi))
    obtain ⟨x, hx⟩ := h n (Nat.lt_succ_self n)
    refine ⟨l ++ [x], by simp [hl], fun i y hy => ?_⟩
    rcases Nat.lt_or_ge i l.length with hi | hi
    · rw [List.getElem?_append_left hi] at hy
      exact hp i y hy
    · rw [List.getElem?_append_right hi] at hy
      rcases Nat.eq_or_lt_of_le hi with he | he
      · subst he
        simp at hy
        subst hy
        rw [hl]
        exact hx
      · rw [List.getElem?_eq_none (by simp; omega)] at hy
        cases hy

theorem weightsAll_mem {H : Type} {d : DataW H} : ∀ {l : List (DataW H)}, d ∈ l → ∀ m ∈ d.weights P e, m ∈ DataW.weightsAll P e l
  | x :: l, hd, m, hm => by
    simp only [DataW.weightsAll, List.mem_append]
    rcases List.mem_cons.1 hd with rfl | hd
    · exact .inl hm
    · exact .inr (weightsAll_mem hd m hm)

theorem fits_slice {α : Type} {k : Kd α} {G : α → Prop} {n : Nat} (hu : P.underlying t = some (.slice e)) (hc : P.cellsOf e = k.sz) {B : Nat} (hB : P.bytesOf e = B) (h : Fits P e k G n) :
    Fits P t (Kd.slice e k) (fun l => l.length ≤ 9223372036854775807 ∧ l.length * B ≤ 140737488351232 ∧ ∀ x ∈ l, G x) (n + 1) := by
  intro H enc w base spare held cs x h' hW
  rcases DataW.trod_slice hu h' with ⟨rfl, rfl⟩ | ⟨a, len, cap, elems, rest, n', hn, rfl, rfl, hb, hl, hm, hlen, hel, _⟩
  · exact ⟨[], ⟨none, 0, rfl, Nat.le_refl _, Kd.C_nil _ _⟩, by simp, by simp, by simp⟩
  · obtain rfl : n' = n := by omega
    have hws : ∀ m, m ∈ (elems.length + rest.length) * P.bytesOf e :: (DataW.weightsAll P e (elems.map (·.1)) ++ DataW.weightsAll P e (rest.map (·.1))) → m ≤ 140737488351232 := by
      intro m hm'
      refine hW m ?_
      simpa [DataW.weights, hu] using hm'
    obtain ⟨ys, hys, hp⟩ := list_of (p := fun i y => ∃ c, w.cells? base (a.add (i * P.cellsOf e)) (P.cellsOf e) = some c ∧ k.K w y c ∧ G y) len (fun i hi => by
      have := hel i hi
      rw [List.getElem?_eq_getElem (by omega)] at this
      obtain ⟨c, h1, h2⟩ := Option.bind_eq_some_iff.1 this
      obtain ⟨y, h3, h4⟩ := h H enc w base spare held c _ h2 (fun m hm' => hws m (List.mem_cons_of_mem _ (List.mem_append_left _ (weightsAll_mem (List.mem_map.2 ⟨_, List.getElem_mem (by omega), rfl⟩) m hm'))))
      exact ⟨y, c, h1, h3, h4⟩)
    have hmx : len ≤ 9223372036854775807 := by simp only [maxLen] at hm; omega
    refine ⟨ys, ⟨some a, cap, by rw [hys], by omega, ?_⟩, by omega, ?_, ?_⟩
    · refine ⟨rfl, by omega, fun _ => ⟨a, rfl, fun j p hj => ?_⟩⟩
      obtain ⟨c, h1, h2, _⟩ := hp j p hj
      obtain ⟨_, hcl, hcell⟩ := World.cells?_some h1
      refine ⟨c, k.K_len h2, h2, fun i u hi => ?_⟩
      have hil : i < c.length := (List.getElem?_eq_some_iff.1 hi).1
      have := hcell i (by omega)
      rw [hi, hc] at this
      rw [← this]
      congr 1
      unfold Addr.add
      by_cases h0 : j * k.sz = 0 <;> by_cases h1 : i = 0 <;> simp [h0, h1, Nat.add_assoc]
    · have := hws _ List.mem_cons_self
      rw [hB] at this
      exact Nat.le_trans (Nat.mul_le_mul_right _ (by omega)) this
    · intro x hx
      obtain ⟨i, hi⟩ := List.mem_iff_getElem?.1 hx
      obtain ⟨_, _, _, h4⟩ := hp i x hi
      exact h4

/-- The fields of a struct, one behind the other, each read with fuel n. -/
def trodS {H : Type} (enc : TypeId × Value → H) (P : Program) (w : World) (base : Nat) (spare : Nat → Bool) (held : Bool) (n : Nat) : List TypeId → List Value → List (DataW H × List MemPlace) → Prop
  | [], cs, xs => cs = [] ∧ xs = []
  | t :: ts, cs, xs => ∃ x xs', xs = x :: xs' ∧ DataW.trod enc P w base spare held n t (cs.take (P.cellsOf t)) = some x ∧ trodS enc P w base spare held n ts (cs.drop (P.cellsOf t)) xs'
def FitsS (P : Program) (ts : List TypeId) {α : Type} (k : Kd α) (G : α → Prop) (n : Nat) : Prop :=
  ∀ (H : Type) (enc : TypeId × Value → H) (w : World) (base : Nat) (spare : Nat → Bool) (held : Bool) (cs : List Value) (xs : List (DataW H × List MemPlace)),
    trodS enc P w base spare held n ts cs xs → (∀ m ∈ DataW.weightsEach P ts (xs.map (·.1)), m ≤ 140737488351232) → ∃ y, k.K w y cs ∧ G y
theorem fitsS_one {α : Type} {k : Kd α} {G : α → Prop} {n : Nat} (h : Fits P t k G n) : FitsS P [t] k G n := by
  rintro H enc w base spare held cs xs ⟨x, xs', rfl, h1, h2, rfl⟩ hW
  obtain ⟨y, h3, h4⟩ := h H enc w base spare held _ x h1 (fun m hm => hW m (by simp [DataW.weightsEach, hm]))
  refine ⟨y, ?_, h4⟩
  have e : cs = cs.take (P.cellsOf t) := by
    conv => lhs; rw [← List.take_append_drop (P.cellsOf t) cs, h2, List.append_nil]
  rw [e]
  exact h3
theorem fitsS_pair {α β : Type} {k : Kd α} {k2 : Kd β} {G : α → Prop} {G2 : β → Prop} {ts : List TypeId} {n : Nat} (h : Fits P t k G n) (h2 : FitsS P ts k2 G2 n) : FitsS P (t :: ts) (Kd.pair k k2) (fun y => G y.1 ∧ G2 y.2) n := by
  rintro H enc w base spare held cs xs ⟨x, xs', rfl, h3, h4⟩ hW
  obtain ⟨y, h5, h6⟩ := h H enc w base spare held _ x h3 (fun m hm => hW m (by simp [DataW.weightsEach, hm]))
  obtain ⟨z, h7, h8⟩ := h2 H enc w base spare held _ xs' h4 (fun m hm => hW m (by simp [DataW.weightsEach, hm]))
  exact ⟨(y, z), ⟨_, _, (List.take_append_drop _ _).symm, h5, h7⟩, h6, h8⟩
def offs (P : Program) : List Field → Nat → Nat → Bool
  | [], off, n => off == n
  | f :: fs, off, n => f.offset == off && offs P fs (off + P.cellsOf f.type) n
theorem trodS_of {H : Type} {enc : TypeId × Value → H} {w : World} {base : Nat} {spare : Nat → Bool} {held : Bool} {n : Nat} {cs : List Value} : ∀ (fs : List Field) (off : Nat) (xs : List (DataW H × List MemPlace)),
    xs.length = fs.length → (∀ (i : Nat) (f : Field), fs[i]? = some f → DataW.trod enc P w base spare held n f.type ((cs.drop f.offset).take (P.cellsOf f.type)) = xs[i]?) → offs P fs off cs.length = true → trodS enc P w base spare held n (fs.map (·.type)) (cs.drop off) xs
  | [], off, xs, hl, _, ho => by
    simp [offs] at ho
    exact ⟨by simp [ho], List.eq_nil_of_length_eq_zero (by simpa using hl)⟩
  | f :: fs, off, [], hl, _, _ => by simp at hl
  | f :: fs, off, x :: xs, hl, h, ho => by
    simp [offs] at ho
    obtain ⟨rfl, ho⟩ := ho
    refine ⟨x, xs, rfl, by simpa using h 0 f rfl, ?_⟩
    have := trodS_of fs _ xs (by simpa using hl) (fun i g hg => by simpa using h (i + 1) g (by simpa using hg)) ho
    simpa [List.drop_drop, Nat.add_comm] using this
theorem fits_struct {α β : Type} {k : Kd α} {G : α → Prop} {n m : Nat} {fs : Array Field} {ts : List TypeId} (f : β → α) (g : α → β) (hfg : ∀ x, f (g x) = x) (hu : P.underlying t = some (.struct fs)) (hts : fs.toList.map (·.type) = ts) (hc : P.cellsOf t = m) (ho : offs P fs.toList 0 m = true)
    (h : FitsS P ts k G n) : Fits P t (Kd.iso k f) (fun y => G (f y)) (n + 1) := by
  subst hts
  subst hc
  intro H enc w base spare held cs x h' hW
  obtain ⟨xs, n', hn, rfl, hcl, hxl, hx⟩ := DataW.trod_struct hu h'
  obtain rfl : n' = n := by omega
  have ht := trodS_of (cs := cs) fs.toList 0 xs (by simpa using hxl) (fun i f hf => hx i f (by simpa using hf)) (by rw [hcl]; exact ho)
  obtain ⟨y, h1, h2⟩ := h H enc w base spare held cs xs (by simpa using ht) (fun m hm => hW m (by simpa [DataW.weights, hu] using hm))
  exact ⟨g y, by show k.K w (f (g y)) cs; rw [hfg]; exact h1, by show G (f (g y)); rw [hfg]; exact h2⟩
end

/-- A row's argument: its value is a kind's one cell (or a struct's cells). -/
theorem arg_of {H : Type} {enc : TypeId × Value → H} {P : Program} {W : World} {base : Nat} {spare : Nat → Bool} {held : Bool} {t : TypeId} {α : Type} {k : Kd α} {G : α → Prop} (hf : ∀ n, Fits P t k G n) {v : Value} {d : DataW H} {ps : List MemPlace} {ts : List TypeId} {ds : List (DataW H)} {j : Nat}
    (hsz : (DataW.weightsEach P ts ds).all (· ≤ reachBytes) = true) (ht : ts[j]? = some t) (hd : ds[j]? = some d) (h : DataW.Trod enc P W base spare held t v d ps) : ∃ y, k.K W y v.cells.toList ∧ G y := by
  obtain ⟨n, hn⟩ := h
  refine hf n H enc W base spare held _ _ hn (fun m hm => ?_)
  have := List.all_eq_true.1 hsz m (DataW.weights_mem_each ht hd m hm)
  have h2 := of_decide_eq_true this
  exact h2
end Go.Proofs.YtlmpoojpbdmmfaaOpen
