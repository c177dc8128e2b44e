/- The law LexApart: for every input it returns true, and its arguments read as they read before; and the tied card. The conditions: none. (Its parts: Open RowApart.) -/
import Derived.SizedLaws
import Derived.ChangeArms
import Derived.DataReads
import Derived.Test.YtpgdmghhbbekjaaDoorTie
import Derived.Test.YtpgdmghhbbekjaaDoorCards
import Derived.ChangeSlices
import Derived.WalkKit
import Derived.ProofKit
import Derived.OpenShut
import Derived.ShutString
import Derived.ChangeOld
import Derived.Below
import Derived.LaidMore
import Derived.Stop.Joined
import Derived.SevenTiedAt
import Derived.Test.YtpgdmghhbbekjaaDoorKLA01
import Derived.Test.YtpgdmghhbbekjaaDoorKLA06
section
set_option linter.unusedVariables false
namespace Go.Proofs.YtpgdmghhbbekjaaDoorOpen
open Go.Proofs.YtpgdmghhbbekjaaDoorW.PrintWords
def Fits (P : Program) (t : TypeId) {α : Type} (k : Kd α) (G : α → Prop) (n : Nat) : Prop :=
  ∀ (H : Type) (enc : TypeId × Value → H) (w : World) (base : Nat) (spare : Nat → Bool) (held : Bool) (cs : List Value) (x : DataW H × List MemPlace),
    DataW.trod enc P w base spare held n t cs = some x → (∀ m ∈ x.1.weights P t, m ≤ 140737488351232) → ∃ y, k.K w y cs ∧ G y
section
variable {P : Program} {t e : TypeId}
theorem fits_zero {α : Type} (k : Kd α) (G : α → Prop) : Fits P t k G 0 := by
  intro H enc w base spare held cs x h _
  simp [DataW.trod] at h
theorem fits_int {k : IntKind} (hu : P.underlying t = some (.int k)) (n : Nat) : Fits P t (Kd.int k) (fun x => (Lit.int k x).wf = true) n := by
  intro H enc w base spare held cs x h _
  obtain ⟨y, rfl, _, hw⟩ := DataW.trod_int hu h
  exact ⟨y, rfl, hw⟩
theorem fits_string (hu : P.underlying t = some .string) (n : Nat) : Fits P t Kd.string (fun s => s.size ≤ 140737488351232) n := by
  intro H enc w base spare held cs x h hW
  obtain ⟨s, rfl, rfl, hm⟩ := DataW.trod_string hu h
  refine ⟨s, rfl, ?_⟩
  have := hW s.data.toList.length (by simp [DataW.weights])
  rwa [data_length] at this
theorem list_of {α : Type} {p : Nat → α → Prop} : ∀ n, (∀ i, i < n → ∃ x, p i x) → ∃ l : List α, l.length = n ∧ ∀ i x, l[i]? = some x → p i x := by
  intro n
  induction n with
  | zero => exact fun _ => ⟨[], rfl, fun i x h => by simp at h⟩
  | succ n ih =>
    intro h
    obtain ⟨l, hl, hp⟩ := ih (fun i hi => h i (Nat.lt_succ_of_lt hi))
    obtain ⟨x, hx⟩ := h n (Nat.lt_succ_self n)
    refine ⟨l ++ [x], by simp [hl], fun i y hy => ?_⟩
    rcases Nat.lt_or_ge i l.length with hi | hi
    · rw [List.getElem?_append_left hi] at hy
      exact hp i y hy
    · rw [List.getElem?_append_right hi] at hy
      rcases Nat.eq_or_lt_of_le hi with he | he
      · subst he
        simp at hy
        subst hy
        rw [hl]
        exact hx
      · rw [List.getElem?_eq_none (by simp; omega)] at hy
        cases hy
theorem weightsAll_mem {H : Type} {d : DataW H} : ∀ {l : List (DataW H)}, d ∈ l → ∀ m ∈ d.weights P e, m ∈ DataW.weightsAll P e l
  | x :: l, hd, m, hm => by
    simp only [DataW.weightsAll, List.mem_append]
    rcases List.mem_cons.1 hd with rfl | hd
    · exact .inl hm
    · exact .inr (weightsAll_mem hd m hm)
theorem fits_slice {α : Type} {k : Kd α} {G : α → Prop} {n : Nat} (hu : P.underlying t = some (.slice e)) (hc : P.cellsOf e = k.sz) {B : Nat} (hB : P.bytesOf e = B) (h : Fits P e k G n) :
    Fits P t (Kd.slice e k) (fun l => l.length ≤ 9223372036854775807 ∧ l.length * B ≤ 140737488351232 ∧ ∀ x ∈ l, G x) (n + 1) := by
  intro H enc w base spare held cs x h' hW
  rcases DataW.trod_slice hu h' with ⟨rfl, rfl⟩ | ⟨a, len, cap, elems, rest, n', hn, rfl, rfl, hb, hl, hm, hlen, hel, _⟩
  · exact ⟨[], ⟨none, 0, rfl, Nat.le_refl _, Kd.C_nil _ _⟩, by simp, by simp, by simp⟩
  · obtain rfl : n' = n := by omega
    have hws : ∀ m, m ∈ (elems.length + rest.length) * P.bytesOf e :: (DataW.weightsAll P e (elems.map (·.1)) ++ DataW.weightsAll P e (rest.map (·.1))) → m ≤ 140737488351232 := by
      intro m hm'
      refine hW m ?_
      simpa [DataW.weights, hu] using hm'
    obtain ⟨ys, hys, hp⟩ := list_of (p := fun i y => ∃ c, w.cells? base (a.add (i * P.cellsOf e)) (P.cellsOf e) = some c ∧ k.K w y c ∧ G y) len (fun i hi => by
      have := hel i hi
      rw [List.getElem?_eq_getElem (by omega)] at this
      obtain ⟨c, h1, h2⟩ := Option.bind_eq_some_iff.1 this
      obtain ⟨y, h3, h4⟩ := h H enc w base spare held c _ h2 (fun m hm' => hws m (List.mem_cons_of_mem _ (List.mem_append_left _ (weightsAll_mem (List.mem_map.2 ⟨_, List.getElem_mem (by omega), rfl⟩) m hm'))))
      exact ⟨y, c, h1, h3, h4⟩)
    have hmx : len ≤ 9223372036854775807 := by simp only [maxLen] at hm; omega
    refine ⟨ys, ⟨some a, cap, by rw [hys], by omega, ?_⟩, by omega, ?_, ?_⟩
    · refine ⟨rfl, by omega, fun _ => ⟨a, rfl, fun j p hj => ?_⟩⟩
      obtain ⟨c, h1, h2, _⟩ := hp j p hj
      obtain ⟨_, hcl, hcell⟩ := World.cells?_some h1
      refine ⟨c, k.K_len h2, h2, fun i u hi => ?_⟩
      have hil : i < c.length := (List.getElem?_eq_some_iff.1 hi).1
      have := hcell i (by omega)
      rw [hi, hc] at this
      rw [← this]
      congr 1
      unfold Addr.add
      by_cases h0 : j * k.sz = 0 <;> by_cases h1 : i = 0 <;> simp [h0, h1, Nat.add_assoc]
    · have := hws _ List.mem_cons_self
      rw [hB] at this
      exact Nat.le_trans (Nat.mul_le_mul_right _ (by omega)) this
    · intro x hx
      obtain ⟨i, hi⟩ := List.mem_iff_getElem?.1 hx
      obtain ⟨_, _, _, h4⟩ := hp i x hi
      exact h4
end
theorem arg_of {H : Type} {enc : TypeId × Value → H} {P : Program} {W : World} {base : Nat} {spare : Nat → Bool} {held : Bool} {t : TypeId} {α : Type} {k : Kd α} {G : α → Prop} (hf : ∀ n, Fits P t k G n) {v : Value} {d : DataW H} {ps : List MemPlace} {ts : List TypeId} {ds : List (DataW H)} {j : Nat}
    (hsz : (DataW.weightsEach P ts ds).all (· ≤ reachBytes) = true) (ht : ts[j]? = some t) (hd : ds[j]? = some d) (h : DataW.Trod enc P W base spare held t v d ps) : ∃ y, k.K W y v.cells.toList ∧ G y := by
  obtain ⟨n, hn⟩ := h
  refine hf n H enc W base spare held _ _ hn (fun m hm => ?_)
  have := List.all_eq_true.1 hsz m (DataW.weights_mem_each ht hd m hm)
  have h2 := of_decide_eq_true this
  exact h2
end Go.Proofs.YtpgdmghhbbekjaaDoorOpen
end
section
namespace Go.Proofs.YtpgdmghhbbekjaaDoor.L.ApartRow
open Go.ChangeShapes Go.WideShapes Go.ChangeAt Go.RowKit Go.Proofs.YtpgdmghhbbekjaaDoorW.PrintWords Go.Proofs.YtpgdmghhbbekjaaDoorOpen Go.Proofs.YtpgdmghhbbekjaaDoor.L
open Go.ChangeMaps (open_string shut_string)
set_option linter.unusedVariables false
theorem own : ownKnob Tryd.prog.godebug = none := by kernel_rfl
theorem laidOut : laidOutB Tryd.prog = true := by kernel_rfl
set_option maxRecDepth 100000 in
theorem lib_of {W : World} (h : laidMetH Tryd.prog Rows.lexApartRow.laid W) : Lib3 W := by
  rw [MakeChecks.laidMetH_plain _ _ _ (by kernel_rfl)] at h
  exact lib_of_three h.tail.tail.tail h.tail.tail.tail.tail h.tail.tail.tail.tail.tail.tail
theorem door_met (os : Os) (args : Array Value) : laidMetH Tryd.prog Rows.lexApartRow.laid ((World.doorLaid Tryd.prog 86 os).forCall (fun _ _ => 0) ⟨#[], args, []⟩).memory :=
  laidMetH_of_parts3 (fuel := 8) (laidMet_of_run' 8 (by kernel_rfl) (by kernel_rfl)) (by kernel_rfl) (by kernel_rfl)
theorem fits_bytes (n : Nat) : Fits Tryd.prog 27 (Kd.slice 5 (Kd.int .u8)) (fun l : List Int => l.length ≤ 9223372036854775807 ∧ l.length * 1 ≤ 140737488351232 ∧ ∀ x ∈ l, (fun x : Int => (Lit.int .u8 x).wf = true) x) n := by
  cases n with
  | zero => exact fits_zero _ _
  | succ n => exact fits_slice Tryd.underlying27 (by kernel_rfl) (by kernel_rfl) (fits_int Tryd.underlying5 n)
set_option maxRecDepth 100000 in
set_option maxHeartbeats 2000000 in
theorem lifted (os : Os) (started : os.Started) (H : Type) (enc : TypeId × Value → H) :
    ReturnsInHanded {} Tryd.checked os 4 .any (fun w args => (Rows.lexApartSpec.pre enc Tryd.prog Tryd.f4 [] false w args ∧ laidMetH Tryd.prog Rows.lexApartRow.laid w) ∧ sizedMet enc Tryd.prog Tryd.f4 (OpenSpec.ofChange Rows.lexApartSpec) false w args)
      (Rows.lexApartSpec.post enc Tryd.prog Tryd.f4 false true false false) := by
  refine returnsInHanded_of_change_and (C := Tryd.checked) (X := fun w _ => laidMetH Tryd.prog Rows.lexApartRow.laid w) (fun _ _ _ hh h => h.of_heap hh) own started (by kernel_rfl) Tryd.func4
    (ChangeSpec.witness_shaped (enc := enc) (C := Tryd.checked) (os := os) (X := fun w _ => laidMetH Tryd.prog Rows.lexApartRow.laid w) false (World.doorLaid Tryd.prog 86 os) #[.string ByteArray.empty, .slice none 0 0] 8 rfl (World.shaped_of_RefB (by kernel_rfl) (by kernel_rfl)) (by kernel_rfl) (by kernel_rfl) (by kernel_rfl) (door_met os _)) ?_
  intro W base args ds gs before hval0 hW _ hsz0 hL _
  have hsz : (DataW.weightsEach Tryd.prog (Tryd.f4.params.toList ++ Rows.lexApartSpec.plain.varTypes Tryd.prog) (ds ++ gs)).all (· ≤ reachBytes) = true := hsz0
  have hval : ∀ (j : Nat) t v, Tryd.f4.params[j]? = some t → args[j]? = some v → Value.okWide Tryd.prog W .any base t v := hval0
  have hW' := hW
  obtain ⟨p, q, hA0, hV, rfl, hfz, hnd⟩ := hW
  have hA : DataW.TrodAll enc Tryd.prog W 0 (fun _ => true) true Tryd.f4.params.toList args.toList ds p := hA0
  rw [Tryd.params4] at hA hval
  obtain ⟨v0, vs0, d0, ds0, p0, q0, hargs, rfl, rfl, h0, r0⟩ := trodAll_cons hA
  obtain ⟨v1, vs1, d1, ds1, p1, q1, rfl, rfl, rfl, h1, r1⟩ := trodAll_cons r0
  obtain ⟨rfl, rfl, rfl⟩ := trodAll_nil r1
  obtain rfl : args = #[v0, v1] := by cases args; simp_all
  obtain ⟨rfl, rfl⟩ := trodVars_none hV
  have k0 := h0
  have k1 := h1
  have lt0 : ∀ x ∈ p0, x.block < W.heap.size := by obtain ⟨m, hm⟩ := k0; exact DataW.trod_lt m _ _ _ hm
  have lt1 : ∀ x ∈ p1, x.block < W.heap.size := by obtain ⟨m, hm⟩ := k1; exact DataW.trod_lt m _ _ _ hm
  obtain ⟨y0, hy0, g0⟩ := arg_of (fun n => fits_string Tryd.underlying9 n) hsz (j := 0) (t := 9) rfl rfl h0
  obtain ⟨y1, hy1, g1⟩ := arg_of fits_bytes hsz (j := 1) (t := 27) rfl rfl h1
  obtain ⟨x0, rfl⟩ := okWide_string Tryd.underlying9 (hval 0 9 v0 rfl rfl)
  have he0 : [_] = [_] := hy0
  simp only [List.cons.injEq, and_true, Value.string.injEq] at he0
  subst he0
  obtain ⟨a1, len1, cap1, rfl⟩ := okWide_slice Tryd.underlying27 (hval 1 27 v1 rfl rfl)
  obtain ⟨A1, c1, he1, hl1, hC1⟩ := hy1
  simp only [Value.cells, List.cons.injEq, Value.slice.injEq, and_true] at he1
  obtain ⟨rfl, rfl, rfl⟩ := he1
  have hg : ∀ g ∈ y1, 0 ≤ g ∧ g ≤ 255 := fun g hgm => by
    have e : IntKind.min .u8 = 0 ∧ IntKind.max .u8 = 255 := ⟨rfl, rfl⟩
    have := g1.2.2 g hgm
    simp [Lit.wf] at this
    have h2 : IntKind.min .u8 ≤ g ∧ g ≤ IntKind.max .u8 := this
    rw [e.1, e.2] at h2
    exact h2
  have hlib := lib_of hL
  clear hA0 hval0 hsz0 hsz
  refine (apart_calls x0 a1 cap1 y1 W (by omega) hC1 hg (by have := g1.2.1; omega) hlib).mono fun e W' ⟨he, bel⟩ => ?_
  subst he
  exact ⟨_, rfl, _, _, _, [], _, [], hW', trodAll_mk1 (shut_bool Tryd.underlying4 _), (trodAll_cons_mk (Below.trod laidOut (by kernel_rfl) (of_decide_eq_true (by kernel_rfl)) k0 bel lt0) (trodAll_cons_mk (Below.trod laidOut (by kernel_rfl) (of_decide_eq_true (by kernel_rfl)) k1 bel lt1) trodAll_mk0)), rfl, bel.frame _, fun h => by cases h⟩
theorem over : Rows.lexApartRow.holds Tryd.pinned (OpenSpec.ofChange Rows.lexApartSpec) :=
  OpenClaim.holds_of_wide 4 Tryd.f4 rfl rfl rfl rfl rfl rfl rfl ⟨rfl, rfl, rfl, rfl, rfl⟩ rfl rfl rfl rfl rfl (by kernel_rfl) Tryd.func4 (by kernel_rfl)
    (of_decide_eq_true (by kernel_rfl)) (by unfold Func.isWrapper; first | (rw [if_pos (by decide +kernel)]; kernel_rfl) | (rw [if_neg (by decide +kernel)]; exact ⟨rfl, rfl⟩))
    (fun os started H enc _ => lifted os started H enc)
theorem card_holds : Rows.LexApartCardSaid :=
  Claim7.holds_tied_plain_at .later [] [.data, .data, .data, .sentinel, .sentinel, .listed, .data] true (true, "86a7f981822497cc945efd7c46acf1d587d1d9e8c99a68fb5098d41cb1b9cd4d") true
    over (fun _ h => by cases h) (by kernel_rfl) (fun _ h => by cases h) lexApart_row_tie rfl ⟨rfl, rfl⟩ (by kernel_rfl) rfl
    (fun f fn hf hfn => by
      obtain rfl : f = 4 := Option.some.inj ((show Tryd.prog.funcNamed "carillon/carillonlaw03.LexApart" = some 4 by kernel_rfl).symm.trans hf) |>.symm
      obtain rfl : fn = Tryd.f4 := (Option.some.inj (Tryd.func4.symm.trans hfn)).symm
      exact ⟨by kernel_rfl, fun j t ht => by
        rw [Tryd.params4] at ht
        have hm : t ∈ [9, 27] := by simpa using Array.mem_of_getElem? ht
        have hall : ([9, 27].all fun u => !Tryd.prog.wantsStandIn u) = true := by kernel_rfl
        exact (show Tryd.prog.wantsStandIn t = false by simpa using List.all_eq_true.1 hall t hm)⟩)
    (by kernel_rfl)
#print axioms card_holds
end Go.Proofs.YtpgdmghhbbekjaaDoor.L.ApartRow
namespace Go.Proofs.YtpgdmghhbbekjaaDoor
theorem lexApart_holds : Rows.LexApartCardSaid := L.ApartRow.card_holds
end Go.Proofs.YtpgdmghhbbekjaaDoor
end
