/- The law VmLoads: for every input it returns true, and its arguments read as they read before. The conditions: none. (Its parts: Open St37 Fits PureVmLoads LawVmLoads.) -/
import Derived.SizedLaws
import Derived.ChangeArms
import Derived.DataReads
import Derived.KernelRfl
import Derived.Test.YtlmpoojpbdmmfaaRows
import Derived.ChangeSlices
import Derived.WalkKit
import Derived.ProofKit
import Derived.OpenShut
import Derived.ShutString
import Derived.ChangeOld
import Derived.Below
import Derived.Test.YtlmpoojpbdmmfaaKL01
import Derived.Test.YtlmpoojpbdmmfaaKL02
import Derived.Test.YtlmpoojpbdmmfaaKL27
section
set_option linter.unusedVariables false
namespace Go.Proofs.YtlmpoojpbdmmfaaOpen
open Go.Proofs.YtlmpoojpbdmmfaaW.PrintWords
def Fits (P : Program) (t : TypeId) {α : Type} (k : Kd α) (G : α → Prop) (n : Nat) : Prop :=
  ∀ (H : Type) (enc : TypeId × Value → H) (w : World) (base : Nat) (spare : Nat → Bool) (held : Bool) (cs : List Value) (x : DataW H × List MemPlace),
    DataW.trod enc P w base spare held n t cs = some x → (∀ m ∈ x.1.weights P t, m ≤ 140737488351232) → ∃ y, k.K w y cs ∧ G y
section
variable {P : Program} {t e : TypeId}
theorem fits_zero {α : Type} (k : Kd α) (G : α → Prop) : Fits P t k G 0 := by
  intro H enc w base spare held cs x h _
  simp [DataW.trod] at h
theorem fits_imp {α : Type} {k : Kd α} {G G' : α → Prop} {n : Nat} (h : Fits P t k G n) (hG : ∀ y, G y → G' y) : Fits P t k G' n := by
  intro H enc w base spare held cs x h1 h2
  obtain ⟨y, h3, h4⟩ := h H enc w base spare held cs x h1 h2
  exact ⟨y, h3, hG y h4⟩
theorem fits_int {k : IntKind} (hu : P.underlying t = some (.int k)) (n : Nat) : Fits P t (Kd.int k) (fun x => (Lit.int k x).wf = true) n := by
  intro H enc w base spare held cs x h _
  obtain ⟨y, rfl, _, hw⟩ := DataW.trod_int hu h
  exact ⟨y, rfl, hw⟩
theorem fits_bool (hu : P.underlying t = some .bool) (n : Nat) : Fits P t Kd.bool (fun _ => True) n := by
  intro H enc w base spare held cs x h _
  obtain ⟨y, rfl, _⟩ := DataW.trod_bool hu h
  exact ⟨y, rfl, trivial⟩
theorem list_of {α : Type} {p : Nat → α → Prop} : ∀ n, (∀ i, i < n → ∃ x, p i x) → ∃ l : List α, l.length = n ∧ ∀ i x, l[i]? = some x → p i x := by
  intro n
  induction n with
  | zero => exact fun _ => ⟨[], rfl, fun i x h => by simp at h⟩
  | succ n ih =>
    intro h
    obtain ⟨l, hl, hp⟩ := ih (fun i hi => h i (Nat.lt_succ_of_lt hi))
    obtain ⟨x, hx⟩ := h n (Nat.lt_succ_self n)
    refine ⟨l ++ [x], by simp [hl], fun i y hy => ?_⟩
    rcases Nat.lt_or_ge i l.length with hi | hi
    · rw [List.getElem?_append_left hi] at hy
      exact hp i y hy
    · rw [List.getElem?_append_right hi] at hy
      rcases Nat.eq_or_lt_of_le hi with he | he
      · subst he
        simp at hy
        subst hy
        rw [hl]
        exact hx
      · rw [List.getElem?_eq_none (by simp; omega)] at hy
        cases hy
theorem weightsAll_mem {H : Type} {d : DataW H} : ∀ {l : List (DataW H)}, d ∈ l → ∀ m ∈ d.weights P e, m ∈ DataW.weightsAll P e l
  | x :: l, hd, m, hm => by
    simp only [DataW.weightsAll, List.mem_append]
    rcases List.mem_cons.1 hd with rfl | hd
    · exact .inl hm
    · exact .inr (weightsAll_mem hd m hm)
theorem fits_slice {α : Type} {k : Kd α} {G : α → Prop} {n : Nat} (hu : P.underlying t = some (.slice e)) (hc : P.cellsOf e = k.sz) {B : Nat} (hB : P.bytesOf e = B) (h : Fits P e k G n) :
    Fits P t (Kd.slice e k) (fun l => l.length ≤ 9223372036854775807 ∧ l.length * B ≤ 140737488351232 ∧ ∀ x ∈ l, G x) (n + 1) := by
  intro H enc w base spare held cs x h' hW
  rcases DataW.trod_slice hu h' with ⟨rfl, rfl⟩ | ⟨a, len, cap, elems, rest, n', hn, rfl, rfl, hb, hl, hm, hlen, hel, _⟩
  · exact ⟨[], ⟨none, 0, rfl, Nat.le_refl _, Kd.C_nil _ _⟩, by simp, by simp, by simp⟩
  · obtain rfl : n' = n := by omega
    have hws : ∀ m, m ∈ (elems.length + rest.length) * P.bytesOf e :: (DataW.weightsAll P e (elems.map (·.1)) ++ DataW.weightsAll P e (rest.map (·.1))) → m ≤ 140737488351232 := by
      intro m hm'
      refine hW m ?_
      simpa [DataW.weights, hu] using hm'
    obtain ⟨ys, hys, hp⟩ := list_of (p := fun i y => ∃ c, w.cells? base (a.add (i * P.cellsOf e)) (P.cellsOf e) = some c ∧ k.K w y c ∧ G y) len (fun i hi => by
      have := hel i hi
      rw [List.getElem?_eq_getElem (by omega)] at this
      obtain ⟨c, h1, h2⟩ := Option.bind_eq_some_iff.1 this
      obtain ⟨y, h3, h4⟩ := h H enc w base spare held c _ h2 (fun m hm' => hws m (List.mem_cons_of_mem _ (List.mem_append_left _ (weightsAll_mem (List.mem_map.2 ⟨_, List.getElem_mem (by omega), rfl⟩) m hm'))))
      exact ⟨y, c, h1, h3, h4⟩)
    have hmx : len ≤ 9223372036854775807 := by simp only [maxLen] at hm; omega
    refine ⟨ys, ⟨some a, cap, by rw [hys], by omega, ?_⟩, by omega, ?_, ?_⟩
    · refine ⟨rfl, by omega, fun _ => ⟨a, rfl, fun j p hj => ?_⟩⟩
      obtain ⟨c, h1, h2, _⟩ := hp j p hj
      obtain ⟨_, hcl, hcell⟩ := World.cells?_some h1
      refine ⟨c, k.K_len h2, h2, fun i u hi => ?_⟩
      have hil : i < c.length := (List.getElem?_eq_some_iff.1 hi).1
      have := hcell i (by omega)
      rw [hi, hc] at this
      rw [← this]
      congr 1
      unfold Addr.add
      by_cases h0 : j * k.sz = 0 <;> by_cases h1 : i = 0 <;> simp [h0, h1, Nat.add_assoc]
    · have := hws _ List.mem_cons_self
      rw [hB] at this
      exact Nat.le_trans (Nat.mul_le_mul_right _ (by omega)) this
    · intro x hx
      obtain ⟨i, hi⟩ := List.mem_iff_getElem?.1 hx
      obtain ⟨_, _, _, h4⟩ := hp i x hi
      exact h4
def trodS {H : Type} (enc : TypeId × Value → H) (P : Program) (w : World) (base : Nat) (spare : Nat → Bool) (held : Bool) (n : Nat) : List TypeId → List Value → List (DataW H × List MemPlace) → Prop
  | [], cs, xs => cs = [] ∧ xs = []
  | t :: ts, cs, xs => ∃ x xs', xs = x :: xs' ∧ DataW.trod enc P w base spare held n t (cs.take (P.cellsOf t)) = some x ∧ trodS enc P w base spare held n ts (cs.drop (P.cellsOf t)) xs'
def FitsS (P : Program) (ts : List TypeId) {α : Type} (k : Kd α) (G : α → Prop) (n : Nat) : Prop :=
  ∀ (H : Type) (enc : TypeId × Value → H) (w : World) (base : Nat) (spare : Nat → Bool) (held : Bool) (cs : List Value) (xs : List (DataW H × List MemPlace)),
    trodS enc P w base spare held n ts cs xs → (∀ m ∈ DataW.weightsEach P ts (xs.map (·.1)), m ≤ 140737488351232) → ∃ y, k.K w y cs ∧ G y
theorem fitsS_one {α : Type} {k : Kd α} {G : α → Prop} {n : Nat} (h : Fits P t k G n) : FitsS P [t] k G n := by
  rintro H enc w base spare held cs xs ⟨x, xs', rfl, h1, h2, rfl⟩ hW
  obtain ⟨y, h3, h4⟩ := h H enc w base spare held _ x h1 (fun m hm => hW m (by simp [DataW.weightsEach, hm]))
  refine ⟨y, ?_, h4⟩
  have e : cs = cs.take (P.cellsOf t) := by
    conv => lhs; rw [← List.take_append_drop (P.cellsOf t) cs, h2, List.append_nil]
  rw [e]
  exact h3
theorem fitsS_pair {α β : Type} {k : Kd α} {k2 : Kd β} {G : α → Prop} {G2 : β → Prop} {ts : List TypeId} {n : Nat} (h : Fits P t k G n) (h2 : FitsS P ts k2 G2 n) : FitsS P (t :: ts) (Kd.pair k k2) (fun y => G y.1 ∧ G2 y.2) n := by
  rintro H enc w base spare held cs xs ⟨x, xs', rfl, h3, h4⟩ hW
  obtain ⟨y, h5, h6⟩ := h H enc w base spare held _ x h3 (fun m hm => hW m (by simp [DataW.weightsEach, hm]))
  obtain ⟨z, h7, h8⟩ := h2 H enc w base spare held _ xs' h4 (fun m hm => hW m (by simp [DataW.weightsEach, hm]))
  exact ⟨(y, z), ⟨_, _, (List.take_append_drop _ _).symm, h5, h7⟩, h6, h8⟩
def offs (P : Program) : List Field → Nat → Nat → Bool
  | [], off, n => off == n
  | f :: fs, off, n => f.offset == off && offs P fs (off + P.cellsOf f.type) n
theorem trodS_of {H : Type} {enc : TypeId × Value → H} {w : World} {base : Nat} {spare : Nat → Bool} {held : Bool} {n : Nat} {cs : List Value} : ∀ (fs : List Field) (off : Nat) (xs : List (DataW H × List MemPlace)),
    xs.length = fs.length → (∀ (i : Nat) (f : Field), fs[i]? = some f → DataW.trod enc P w base spare held n f.type ((cs.drop f.offset).take (P.cellsOf f.type)) = xs[i]?) → offs P fs off cs.length = true → trodS enc P w base spare held n (fs.map (·.type)) (cs.drop off) xs
  | [], off, xs, hl, _, ho => by
    simp [offs] at ho
    exact ⟨by simp [ho], List.eq_nil_of_length_eq_zero (by simpa using hl)⟩
  | f :: fs, off, [], hl, _, _ => by simp at hl
  | f :: fs, off, x :: xs, hl, h, ho => by
    simp [offs] at ho
    obtain ⟨rfl, ho⟩ := ho
    refine ⟨x, xs, rfl, by simpa using h 0 f rfl, ?_⟩
    have := trodS_of fs _ xs (by simpa using hl) (fun i g hg => by simpa using h (i + 1) g (by simpa using hg)) ho
    simpa [List.drop_drop, Nat.add_comm] using this
theorem fits_struct {α β : Type} {k : Kd α} {G : α → Prop} {n m : Nat} {fs : Array Field} {ts : List TypeId} (f : β → α) (g : α → β) (hfg : ∀ x, f (g x) = x) (hu : P.underlying t = some (.struct fs)) (hts : fs.toList.map (·.type) = ts) (hc : P.cellsOf t = m) (ho : offs P fs.toList 0 m = true)
    (h : FitsS P ts k G n) : Fits P t (Kd.iso k f) (fun y => G (f y)) (n + 1) := by
  subst hts
  subst hc
  intro H enc w base spare held cs x h' hW
  obtain ⟨xs, n', hn, rfl, hcl, hxl, hx⟩ := DataW.trod_struct hu h'
  obtain rfl : n' = n := by omega
  have ht := trodS_of (cs := cs) fs.toList 0 xs (by simpa using hxl) (fun i f hf => hx i f (by simpa using hf)) (by rw [hcl]; exact ho)
  obtain ⟨y, h1, h2⟩ := h H enc w base spare held cs xs (by simpa using ht) (fun m hm => hW m (by simpa [DataW.weights, hu] using hm))
  exact ⟨g y, by show k.K w (f (g y)) cs; rw [hfg]; exact h1, by show G (f (g y)); rw [hfg]; exact h2⟩
end
theorem arg_of {H : Type} {enc : TypeId × Value → H} {P : Program} {W : World} {base : Nat} {spare : Nat → Bool} {held : Bool} {t : TypeId} {α : Type} {k : Kd α} {G : α → Prop} (hf : ∀ n, Fits P t k G n) {v : Value} {d : DataW H} {ps : List MemPlace} {ts : List TypeId} {ds : List (DataW H)} {j : Nat}
    (hsz : (DataW.weightsEach P ts ds).all (· ≤ reachBytes) = true) (ht : ts[j]? = some t) (hd : ds[j]? = some d) (h : DataW.Trod enc P W base spare held t v d ps) : ∃ y, k.K W y v.cells.toList ∧ G y := by
  obtain ⟨n, hn⟩ := h
  refine hf n H enc W base spare held _ _ hn (fun m hm => ?_)
  have := List.all_eq_true.1 hsz m (DataW.weights_mem_each ht hd m hm)
  have h2 := of_decide_eq_true this
  exact h2
end Go.Proofs.YtlmpoojpbdmmfaaOpen
end
section
set_option linter.unusedVariables false
namespace Go.Proofs.Ytlmpoojpbdmmfaa.H
open Go.RowKit Go.Proofs.YtlmpoojpbdmmfaaW.PrintWords
structure S37 where
  f0 : Int
  f1 : List Int
  f2 : List Int
  f3 : List Int
  f4 : List Int
  f5 : Int
  f6 : Bool
def k37 : Kd S37 := Kd.iso (Kd.pair (Kd.int .i64) (Kd.pair (Kd.slice 2 (Kd.int .i64)) (Kd.pair (Kd.slice 2 (Kd.int .i64)) (Kd.pair (Kd.slice 2 (Kd.int .i64)) (Kd.pair (Kd.slice 2 (Kd.int .i64)) (Kd.pair (Kd.int .i64) Kd.bool)))))) (fun x : S37 => (x.f0, x.f1, x.f2, x.f3, x.f4, x.f5, x.f6))
theorem k37_open {w : World} {x : S37} {cs : List Value} (h : k37.K w x cs) : ∃ A1 c1 A2 c2 A3 c3 A4 c4, cs = [.int .i64 x.f0, .slice A1 x.f1.length c1, .slice A2 x.f2.length c2, .slice A3 x.f3.length c3, .slice A4 x.f4.length c4, .int .i64 x.f5, .bool x.f6] ∧
    x.f1.length ≤ c1 ∧ Kd.C (Kd.int .i64) w A1 x.f1.length x.f1 ∧ x.f2.length ≤ c2 ∧ Kd.C (Kd.int .i64) w A2 x.f2.length x.f2 ∧ x.f3.length ≤ c3 ∧ Kd.C (Kd.int .i64) w A3 x.f3.length x.f3 ∧ x.f4.length ≤ c4 ∧ Kd.C (Kd.int .i64) w A4 x.f4.length x.f4 := by
  obtain ⟨_, _, rfl, rfl, ⟨_, _, rfl, ⟨A1, c1, rfl, l1, h1⟩, ⟨_, _, rfl, ⟨A2, c2, rfl, l2, h2⟩, ⟨_, _, rfl, ⟨A3, c3, rfl, l3, h3⟩, ⟨_, _, rfl, ⟨A4, c4, rfl, l4, h4⟩, ⟨_, _, rfl, rfl, rfl⟩⟩⟩⟩⟩⟩ := h
  exact ⟨A1, c1, A2, c2, A3, c3, A4, c4, rfl, l1, h1, l2, h2, l3, h3, l4, h4⟩
end Go.Proofs.Ytlmpoojpbdmmfaa.H
end
section
set_option linter.unusedVariables false
namespace Go.Proofs.Ytlmpoojpbdmmfaa.H
open Go.RowKit Go.Proofs.YtlmpoojpbdmmfaaW.PrintWords Go.Proofs.YtlmpoojpbdmmfaaOpen
theorem fits_5 (n : Nat) : Fits Try.prog 5 (Kd.int .u8) (fun x : Int => (Lit.int .u8 x).wf = true) n := fits_int Try.underlying5 n
theorem fits_2 (n : Nat) : Fits Try.prog 2 (Kd.int .i64) (fun x : Int => (Lit.int .i64 x).wf = true) n := fits_int Try.underlying2 n
def G53 (x : S53) : Prop := (fun x : Int => (Lit.int .u8 x).wf = true) x.f0 ∧ (fun x : Int => (Lit.int .i64 x).wf = true) x.f1
theorem fits_53 (n : Nat) : Fits Try.prog 53 k53 G53 n := by
  cases n with
  | zero => exact fits_zero _ _
  | succ n => exact fits_imp (fits_struct (m := 2) (fun x : S53 => (x.f0, x.f1)) (fun p => ⟨p.1, p.2⟩) (fun _ => rfl) Try.underlying53 rfl (by kernel_rfl) (by kernel_rfl) (fitsS_pair (fits_5 n) (fitsS_one (fits_2 n)))) (fun y h => h)
theorem fits_22 (n : Nat) : Fits Try.prog 22 (Kd.slice 53 k53) (fun l : List (S53) => l.length ≤ 9223372036854775807 ∧ l.length * 16 ≤ 140737488351232 ∧ ∀ x ∈ l, G53 x) n := by
  cases n with
  | zero => exact fits_zero _ _
  | succ n => exact fits_slice Try.underlying22 (by kernel_rfl) (by kernel_rfl) (fits_53 n)
theorem fits_3 (n : Nat) : Fits Try.prog 3 (Kd.int .i64) (fun x : Int => (Lit.int .i64 x).wf = true) n := fits_int Try.underlying3 n
def G24 (x : S24) : Prop := (fun x : Int => (Lit.int .i64 x).wf = true) x.f0 ∧ (fun x : Int => (Lit.int .i64 x).wf = true) x.f1 ∧ (fun x : Int => (Lit.int .i64 x).wf = true) x.f2 ∧ (fun x : Int => (Lit.int .i64 x).wf = true) x.f3
theorem fits_24 (n : Nat) : Fits Try.prog 24 k24 G24 n := by
  cases n with
  | zero => exact fits_zero _ _
  | succ n => exact fits_imp (fits_struct (m := 4) (fun x : S24 => (x.f0, x.f1, x.f2, x.f3)) (fun p => ⟨p.1, p.2.1, p.2.2.1, p.2.2.2⟩) (fun _ => rfl) Try.underlying24 rfl (by kernel_rfl) (by kernel_rfl) (fitsS_pair (fits_3 n) (fitsS_pair (fits_3 n) (fitsS_pair (fits_3 n) (fitsS_one (fits_3 n)))))) (fun y h => h)
theorem fits_25 (n : Nat) : Fits Try.prog 25 (Kd.slice 2 (Kd.int .i64)) (fun l : List (Int) => l.length ≤ 9223372036854775807 ∧ l.length * 8 ≤ 140737488351232 ∧ ∀ x ∈ l, (fun x : Int => (Lit.int .i64 x).wf = true) x) n := by
  cases n with
  | zero => exact fits_zero _ _
  | succ n => exact fits_slice Try.underlying25 (by kernel_rfl) (by kernel_rfl) (fits_2 n)
theorem fits_4 (n : Nat) : Fits Try.prog 4 Kd.bool (fun _ : Bool => True) n := fits_bool Try.underlying4 n
def G37 (x : S37) : Prop := (fun x : Int => (Lit.int .i64 x).wf = true) x.f0 ∧ (fun l : List (Int) => l.length ≤ 9223372036854775807 ∧ l.length * 8 ≤ 140737488351232 ∧ ∀ x ∈ l, (fun x : Int => (Lit.int .i64 x).wf = true) x) x.f1 ∧ (fun l : List (Int) => l.length ≤ 9223372036854775807 ∧ l.length * 8 ≤ 140737488351232 ∧ ∀ x ∈ l, (fun x : Int => (Lit.int .i64 x).wf = true) x) x.f2 ∧ (fun l : List (Int) => l.length ≤ 9223372036854775807 ∧ l.length * 8 ≤ 140737488351232 ∧ ∀ x ∈ l, (fun x : Int => (Lit.int .i64 x).wf = true) x) x.f3 ∧ (fun l : List (Int) => l.length ≤ 9223372036854775807 ∧ l.length * 8 ≤ 140737488351232 ∧ ∀ x ∈ l, (fun x : Int => (Lit.int .i64 x).wf = true) x) x.f4 ∧ (fun x : Int => (Lit.int .i64 x).wf = true) x.f5 ∧ (fun _ : Bool => True) x.f6
theorem fits_37 (n : Nat) : Fits Try.prog 37 k37 G37 n := by
  cases n with
  | zero => exact fits_zero _ _
  | succ n => exact fits_imp (fits_struct (m := 7) (fun x : S37 => (x.f0, x.f1, x.f2, x.f3, x.f4, x.f5, x.f6)) (fun p => ⟨p.1, p.2.1, p.2.2.1, p.2.2.2.1, p.2.2.2.2.1, p.2.2.2.2.2.1, p.2.2.2.2.2.2⟩) (fun _ => rfl) Try.underlying37 rfl (by kernel_rfl) (by kernel_rfl) (fitsS_pair (fits_3 n) (fitsS_pair (fits_25 n) (fitsS_pair (fits_25 n) (fitsS_pair (fits_25 n) (fitsS_pair (fits_25 n) (fitsS_pair (fits_2 n) (fitsS_one (fits_4 n))))))))) (fun y h => h)
end Go.Proofs.Ytlmpoojpbdmmfaa.H
end
section
namespace Go.Proofs.Ytlmpoojpbdmmfaa.H.Pure
open Go.RowKit Go.Proofs.YtlmpoojpbdmmfaaW.PrintWords Go.Proofs.YtlmpoojpbdmmfaaW.PrintLast
theorem VmLoads : ∀ (y0 : List (S53)) (y1 : S24) (y2 : S37), (fun l : List (S53) => l.length ≤ 9223372036854775807 ∧ l.length * 16 ≤ 140737488351232 ∧ ∀ x ∈ l, G53 x) y0 → G24 y1 → G37 y2 → ∃ _k : Nat, carillonlaw22_VmLoads.f y0 y1.f0 y1.f1 y1.f2 y1.f3 y2.f0 y2.f1 y2.f2 y2.f3 y2.f4 y2.f5 y2.f6 = some true :=
  fun y0 y1 y2 h0 _ h2 => ⟨0, by
    have hw : ∀ x : Int, (Lit.int .i64 x).wf = true → is64 x := fun x hx => by
      simp [Lit.wf, IntKind.min, IntKind.max, IntKind.bits, IntKind.signed] at hx
      unfold is64
      omega
    obtain ⟨_, g1, g2, g3, g4, _, _⟩ := h2
    unfold carillonlaw22_VmLoads.f
    rw [if_pos ⟨fun x hx => hw _ (h0.2.2 x hx).2, fun v hv => hw _ (g1.2.2 v hv), fun v hv => hw _ (g2.2.2 v hv), fun v hv => hw _ (g3.2.2 v hv), fun v hv => hw _ (g4.2.2 v hv), by have := g1.2.1; omega, by have := g2.2.1; omega, by have := g3.2.1; omega, by have := g4.2.1; omega⟩]⟩
end Go.Proofs.Ytlmpoojpbdmmfaa.H.Pure
end
section
namespace Go.Proofs.Ytlmpoojpbdmmfaa.H.vmLoadsRow
open Go.ChangeShapes Go.WideShapes Go.ChangeAt Go.RowKit Go.Proofs.YtlmpoojpbdmmfaaW.PrintWords Go.Proofs.YtlmpoojpbdmmfaaOpen
open Go.ChangeMaps (open_string shut_string)
set_option linter.unusedVariables false
theorem own : ownKnob Try.prog.godebug = none := by kernel_rfl
theorem laidOut : laidOutB Try.prog = true := by kernel_rfl
set_option maxRecDepth 100000 in
set_option maxHeartbeats 2000000 in
theorem lifted (os : Os) (started : os.Started) (H : Type) (enc : TypeId × Value → H) :
    ReturnsInHanded {} Try.checked os 6 .any (Rows.vmLoadsSpec.pre6 enc Try.prog Try.f6 Rows.vmLoadsRow.domain false) (Rows.vmLoadsSpec.post enc Try.prog Try.f6 false true false false) := by
  refine returnsInHanded_of_change_sized (C := Try.checked) own started (by kernel_rfl) Try.func6
    (ChangeSpec.witness6 (enc := enc) (C := Try.checked) false ⟨#[], #[.slice none 0 0, .agg #[.int .i64 0, .int .i64 0, .int .i64 0, .int .i64 0], .agg #[.int .i64 0, .slice none 0 0, .slice none 0 0, .slice none 0 0, .slice none 0 0, .int .i64 0, .bool false]], []⟩ 8 (by kernel_rfl) (by kernel_rfl) (by kernel_rfl) (by kernel_rfl)) ?_
  intro W base args ds gs before hval0 hW hcnd hsz0 _
  have hsz : (DataW.weightsEach Try.prog (Try.f6.params.toList ++ Rows.vmLoadsSpec.plain.varTypes Try.prog) (ds ++ gs)).all (· ≤ reachBytes) = true := hsz0
  have hval : ∀ (j : Nat) t v, Try.f6.params[j]? = some t → args[j]? = some v → Value.okWide Try.prog W .any base t v := hval0
  have hW' := hW
  obtain ⟨p, q, hA0, hV, rfl, hfz, hnd⟩ := hW
  have hA : DataW.TrodAll enc Try.prog W 0 (fun _ => true) true Try.f6.params.toList args.toList ds p := hA0
  rw [Try.params6] at hA hval hsz
  obtain ⟨v0, vs0, d0, ds0, p0, q0, hargs, rfl, rfl, h0, r0⟩ := trodAll_cons hA
  obtain ⟨v1, vs1, d1, ds1, p1, q1, rfl, rfl, rfl, h1, r1⟩ := trodAll_cons r0
  obtain ⟨v2, vs2, d2, ds2, p2, q2, rfl, rfl, rfl, h2, r2⟩ := trodAll_cons r1
  obtain ⟨rfl, rfl, rfl⟩ := trodAll_nil r2
  obtain rfl : args = #[v0, v1, v2] := by cases args; simp_all
  obtain ⟨rfl, rfl⟩ := trodVars_none hV
  have k0 := h0
  have lt0 : ∀ x ∈ p0, x.block < W.heap.size := by obtain ⟨m, hm⟩ := k0; exact DataW.trod_lt m _ _ _ hm
  obtain ⟨y0, hy0, g0⟩ := arg_of (fits_22) hsz (j := 0) (t := 22) rfl rfl h0
  obtain ⟨a0, len0, cap0, rfl⟩ := okWide_slice Try.underlying22 (hval 0 22 v0 rfl rfl)
  obtain ⟨A0, c0, he0, hl0, hC0⟩ := hy0
  simp only [Value.cells, List.cons.injEq, Value.slice.injEq, and_true] at he0
  obtain ⟨rfl, rfl, rfl⟩ := he0
  have k1 := h1
  have lt1 : ∀ x ∈ p1, x.block < W.heap.size := by obtain ⟨m, hm⟩ := k1; exact DataW.trod_lt m _ _ _ hm
  obtain ⟨y1, hy1, g1⟩ := arg_of (fits_24) hsz (j := 1) (t := 24) rfl rfl h1
  obtain ⟨cs1, rfl, hcs1⟩ := okWide_struct Try.underlying24 (hval 1 24 v1 rfl rfl)
  have he1 := k24_open hy1
  have he1' : cs1.toList = _ := he1
  replace he1' := congrArg List.toArray he1'
  rw [Array.toArray_toList] at he1'
  subst he1'
  have k2 := h2
  have lt2 : ∀ x ∈ p2, x.block < W.heap.size := by obtain ⟨m, hm⟩ := k2; exact DataW.trod_lt m _ _ _ hm
  obtain ⟨y2, hy2, g2⟩ := arg_of (fits_37) hsz (j := 2) (t := 37) rfl rfl h2
  obtain ⟨cs2, rfl, hcs2⟩ := okWide_struct Try.underlying37 (hval 2 37 v2 rfl rfl)
  obtain ⟨A2_1, c2_1, A2_2, c2_2, A2_3, c2_3, A2_4, c2_4, he2, hl2_1, hC2_1, hl2_2, hC2_2, hl2_3, hC2_3, hl2_4, hC2_4⟩ := k37_open hy2
  have he2' : cs2.toList = _ := he2
  replace he2' := congrArg List.toArray he2'
  rw [Array.toArray_toList] at he2'
  subst he2'
  obtain ⟨k, hk⟩ := Pure.VmLoads y0 y1 y2 g0 g1 g2
  clear hA0 hval0 hsz0 hsz
  refine (carillonlaw22_VmLoads.calls (A0 := a0) (c0 := cap0) (l0 := y0) (hr0 := hC0) (hc0 := hl0) (a1_0 := y1.f0) (a1_1 := y1.f1) (a1_2 := y1.f2) (a1_3 := y1.f3) (A2_1 := A2_1) (c2_1 := c2_1) (hr2_1 := hC2_1) (hc2_1 := hl2_1) (A2_2 := A2_2) (c2_2 := c2_2) (hr2_2 := hC2_2) (hc2_2 := hl2_2) (A2_3 := A2_3) (c2_3 := c2_3) (hr2_3 := hC2_3) (hc2_3 := hl2_3) (A2_4 := A2_4) (c2_4 := c2_4) (hr2_4 := hC2_4) (hc2_4 := hl2_4) (a2_0 := y2.f0) (l2_1 := y2.f1) (l2_2 := y2.f2) (l2_3 := y2.f3) (l2_4 := y2.f4) (a2_5 := y2.f5) (a2_6 := y2.f6) (r := true) (w := W) (h := hk)).mono fun e W' ⟨he, bel0⟩ => ?_
  have bel : Below W.heap.size W W' := bel0
  subst he
  exact ⟨_, rfl, _, _, _, [], _, [], hW', trodAll_mk1 (shut_bool Try.underlying4 _), (trodAll_cons_mk (Below.trod laidOut (by kernel_rfl) (of_decide_eq_true (by kernel_rfl)) k0 bel lt0) (trodAll_cons_mk (Below.trod laidOut (by kernel_rfl) (of_decide_eq_true (by kernel_rfl)) k1 bel lt1) (trodAll_cons_mk (Below.trod laidOut (by kernel_rfl) (of_decide_eq_true (by kernel_rfl)) k2 bel lt2) trodAll_mk0))), rfl, bel.frame _, fun h => by cases h⟩
theorem over : Rows.vmLoadsRow.holds Try.pinned (OpenSpec.ofChange Rows.vmLoadsSpec) :=
  OpenClaim.holds_of_wide 6 Try.f6 rfl rfl rfl rfl rfl rfl rfl ⟨rfl, rfl, rfl, rfl, rfl⟩ rfl rfl rfl rfl rfl (by kernel_rfl) Try.func6 (by kernel_rfl)
    (of_decide_eq_true (by kernel_rfl)) (by unfold Func.isWrapper; first | (rw [if_pos (by decide +kernel)]; kernel_rfl) | (rw [if_neg (by decide +kernel)]; exact ⟨rfl, rfl⟩))
    (fun os started H enc _ => lifted os started H enc)
theorem proved : Rows.VmLoadsSaid := over
#print axioms proved
end Go.Proofs.Ytlmpoojpbdmmfaa.H.vmLoadsRow
namespace Go.Proofs.Ytlmpoojpbdmmfaa
theorem vmLoads_holds : Rows.VmLoadsSaid := H.vmLoadsRow.proved
end Go.Proofs.Ytlmpoojpbdmmfaa
end
