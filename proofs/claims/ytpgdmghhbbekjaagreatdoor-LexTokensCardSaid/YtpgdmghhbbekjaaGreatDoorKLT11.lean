/- The law LexTokens: for every input it returns true, and its arguments read as they read before; and the tied card. The conditions: none. (Its parts: Lxp Open RowTokens.) -/
import Derived.Test.YtpgdmghhbbekjaaGreatDoorRows
import Derived.Stop.LaidErr
import Derived.Stop.Texts
import Derived.MakeChecks
import Derived.Lib.LaidTab
import Derived.LaidMore
import Derived.SizedLaws
import Derived.ChangeArms
import Derived.DataReads
import Derived.Test.YtpgdmghhbbekjaaGreatDoorTie
import Derived.Test.YtpgdmghhbbekjaaGreatDoorCards
import Derived.ChangeSlices
import Derived.WalkKit
import Derived.ProofKit
import Derived.OpenShut
import Derived.ShutString
import Derived.ChangeOld
import Derived.Below
import Derived.Stop.Joined
import Derived.SevenTiedAt
import Derived.Test.YtpgdmghhbbekjaaGreatDoorKLT01
import Derived.Test.YtpgdmghhbbekjaaGreatDoorKLT04
import Derived.Test.YtpgdmghhbbekjaaGreatDoorKLT10
section
set_option linter.unusedVariables false
namespace Go.Proofs.YtpgdmghhbbekjaaGreatDoor.L
open Go.RowKit Go.Stop
theorem pE : Tryz.prog.globalNamed "strconv.ErrRange" = some 5 := by kernel_rfl
theorem pS : Tryz.prog.globalNamed "strconv.ErrSyntax" = some 4 := by kernel_rfl
theorem pT : Tryz.prog.globalNamed "strings.asciiSpace" = some 2 := by kernel_rfl
theorem tyE : (Tryz.prog.globals[5]?).map (·.type) = some 25 := by kernel_rfl
theorem tyS : (Tryz.prog.globals[4]?).map (·.type) = some 25 := by kernel_rfl
theorem tyT : (Tryz.prog.globals[2]?).map (·.type) = some 102 := by kernel_rfl
theorem starE : "*" ++ "errors.errorString" = "*errors.errorString" := by decide
theorem rowE (u : TypeId) (h : Tryz.prog.typeName? 3 u = some "*errors.errorString") : u = 139 :=
  typeName_ptr_named (nm := "errors.errorString") (by rw [starE]; kernel_rfl) (by kernel_rfl) (by decide) u (by rw [starE]; exact h)
theorem lib_of_three {W : World} {r1 r2 r3 : List (String × DataW Unit)} {d1 d2 : List UInt8} (h1 : laidMet Tryz.prog (("strconv.ErrRange", .iface "*errors.errorString" (.ptr (.agg [.lit (.string d1)]))) :: r1) W)
    (h2 : laidMet Tryz.prog (("strconv.ErrSyntax", .iface "*errors.errorString" (.ptr (.agg [.lit (.string d2)]))) :: r2) W)
    (h3 : laidMet Tryz.prog (("strings.asciiSpace", Lib.tabData .u8 Lib.asciiSpaceTab) :: r3) W) : Lib3 W := by
  obtain ⟨a1, s1, v1, _⟩ := laid_sentinel h1 pE tyE Tryz.underlying25 rowE Tryz.underlying139 Tryz.underlying141 rfl rfl Tryz.underlying9 (by kernel_rfl) (by kernel_rfl)
  obtain ⟨a2, s2, v2, _⟩ := laid_sentinel h2 pS tyS Tryz.underlying25 rowE Tryz.underlying139 Tryz.underlying141 rfl rfl Tryz.underlying9 (by kernel_rfl) (by kernel_rfl)
  exact ⟨Lib.tabIs_of_head pT tyT Tryz.underlying102 Tryz.underlying5 (by kernel_rfl) (by kernel_rfl) h3, ⟨_, _, v2⟩, ⟨_, _, v1⟩⟩
end Go.Proofs.YtpgdmghhbbekjaaGreatDoor.L
end
section
set_option linter.unusedVariables false
namespace Go.Proofs.YtpgdmghhbbekjaaGreatDoorOpen
open Go.Proofs.YtpgdmghhbbekjaaGreatDoorW.PrintWords
def Fits (P : Program) (t : TypeId) {α : Type} (k : Kd α) (G : α → Prop) (n : Nat) : Prop :=
  ∀ (H : Type) (enc : TypeId × Value → H) (w : World) (base : Nat) (spare : Nat → Bool) (held : Bool) (cs : List Value) (x : DataW H × List MemPlace),
    DataW.trod enc P w base spare held n t cs = some x → (∀ m ∈ x.1.weights P t, m ≤ 140737488351232) → ∃ y, k.K w y cs ∧ G y
section
variable {P : Program} {t e : TypeId}
theorem fits_string (hu : P.underlying t = some .string) (n : Nat) : Fits P t Kd.string (fun s => s.size ≤ 140737488351232) n := by
  intro H enc w base spare held cs x h hW
  obtain ⟨s, rfl, rfl, hm⟩ := DataW.trod_string hu h
  refine ⟨s, rfl, ?_⟩
  have := hW s.data.toList.length (by simp [DataW.weights])
  rwa [data_length] at this
end
theorem arg_of {H : Type} {enc : TypeId × Value → H} {P : Program} {W : World} {base : Nat} {spare : Nat → Bool} {held : Bool} {t : TypeId} {α : Type} {k : Kd α} {G : α → Prop} (hf : ∀ n, Fits P t k G n) {v : Value} {d : DataW H} {ps : List MemPlace} {ts : List TypeId} {ds : List (DataW H)} {j : Nat}
    (hsz : (DataW.weightsEach P ts ds).all (· ≤ reachBytes) = true) (ht : ts[j]? = some t) (hd : ds[j]? = some d) (h : DataW.Trod enc P W base spare held t v d ps) : ∃ y, k.K W y v.cells.toList ∧ G y := by
  obtain ⟨n, hn⟩ := h
  refine hf n H enc W base spare held _ _ hn (fun m hm => ?_)
  have := List.all_eq_true.1 hsz m (DataW.weights_mem_each ht hd m hm)
  have h2 := of_decide_eq_true this
  exact h2
end Go.Proofs.YtpgdmghhbbekjaaGreatDoorOpen
end
section
namespace Go.Proofs.YtpgdmghhbbekjaaGreatDoor.L.TokRow
open Go.ChangeShapes Go.WideShapes Go.ChangeAt Go.RowKit Go.Proofs.YtpgdmghhbbekjaaGreatDoorW.PrintWords Go.Proofs.YtpgdmghhbbekjaaGreatDoorOpen Go.Proofs.YtpgdmghhbbekjaaGreatDoor.L
open Go.ChangeMaps (open_string shut_string)
set_option linter.unusedVariables false
theorem own : ownKnob Tryz.prog.godebug = none := by kernel_rfl
theorem laidOut : laidOutB Tryz.prog = true := by kernel_rfl
theorem rtT : (Tryz.prog.cutTypes.find? (·.1 == "internal/reflectlite.rtype")).map (·.2) = some 83 := by kernel_rfl
theorem sizeT : Tryz.prog.types.size = 185 := by kernel_rfl
theorem oneRowT : ((List.range 185).filter fun t => Tryz.prog.rowNamed t [101, 114, 114, 111, 114]) = [25] := by kernel_rfl
theorem gT : Tryz.prog.globalNamed "errors.errorType" = some 0 := by kernel_rfl
set_option maxRecDepth 100000 in
theorem parts_of {W : World} (h : laidMetH Tryz.prog Rows.lexTokensRow.laid W) : laidMet Tryz.prog [("math/bits.deBruijn32tab", Rows.laid_math_bits_deBruijn32tab), ("math/bits.deBruijn64tab", Rows.laid_math_bits_deBruijn64tab), ("internal/strconv.uint64pow10", Rows.laid_internal_strconv_uint64pow10), ("strconv.ErrRange", Rows.laid_strconv_ErrRange), ("strconv.ErrSyntax", Rows.laid_strconv_ErrSyntax), ("unicode.White_Space", Rows.laid_unicode_White_Space), ("strings.asciiSpace", Rows.laid_strings_asciiSpace)] W ∧ handlesMet Tryz.prog [("errors.errorType", Rows.laid_errors_errorType)] W := h
set_option maxRecDepth 100000 in
theorem lib_of {W : World} (h : laidMetH Tryz.prog Rows.lexTokensRow.laid W) : Lib3 W ∧ EtIs W := by
  obtain ⟨h1, h2⟩ := parts_of h
  refine ⟨lib_of_three h1.tail.tail.tail h1.tail.tail.tail.tail h1.tail.tail.tail.tail.tail.tail, ?_⟩
  obtain ⟨name, u, ty, e1, e2, e3, e4, e5⟩ := h2 _ (List.mem_singleton.2 rfl)
  have en : name = [101, 114, 114, 111, 114] := (Option.some.inj e1).symm
  subst en
  obtain rfl := Option.some.inj (rtT.symm.trans e2)
  have hm : ty ∈ (List.range 185).filter fun t => Tryz.prog.rowNamed t [101, 114, 114, 111, 114] := List.mem_filter.2 ⟨List.mem_range.2 (by rw [← sizeT]; exact e3), e4⟩
  rw [oneRowT] at hm
  obtain rfl := List.mem_singleton.1 hm
  have hh : typeHandle Tryz.prog 25 = .pointer (some ⟨10, 25, none⟩) := by kernel_rfl
  rw [hh] at e5
  unfold EtIs
  simpa using World.var?_cell gT e5 0
theorem door_met (os : Os) (args : Array Value) : laidMetH Tryz.prog Rows.lexTokensRow.laid ((World.doorLaid Tryz.prog 93 os).forCall (fun _ _ => 0) ⟨#[], args, []⟩).memory :=
  laidMetH_of_parts3 (fuel := 8) (laidMet_of_run' 8 (by kernel_rfl) (by kernel_rfl)) (by kernel_rfl) (by kernel_rfl)
set_option maxRecDepth 100000 in
set_option maxHeartbeats 2000000 in
theorem lifted (os : Os) (started : os.Started) (H : Type) (enc : TypeId × Value → H) :
    ReturnsInHanded {} Tryz.checked os 3 .any (fun w args => (Rows.lexTokensSpec.pre enc Tryz.prog Tryz.f3 [] false w args ∧ laidMetH Tryz.prog Rows.lexTokensRow.laid w) ∧ sizedMet enc Tryz.prog Tryz.f3 (OpenSpec.ofChange Rows.lexTokensSpec) false w args)
      (Rows.lexTokensSpec.post enc Tryz.prog Tryz.f3 false true false false) := by
  refine returnsInHanded_of_change_and (C := Tryz.checked) (X := fun w _ => laidMetH Tryz.prog Rows.lexTokensRow.laid w) (fun _ _ _ hh h => h.of_heap hh) own started (by kernel_rfl) Tryz.func3
    (ChangeSpec.witness_shaped (enc := enc) (C := Tryz.checked) (os := os) (X := fun w _ => laidMetH Tryz.prog Rows.lexTokensRow.laid w) false (World.doorLaid Tryz.prog 93 os) #[.string ByteArray.empty] 8 rfl (World.shaped_of_RefB (by kernel_rfl) (by kernel_rfl)) (by kernel_rfl) (by kernel_rfl) (by kernel_rfl) (door_met os _)) ?_
  intro W base args ds gs before hval0 hW _ hsz0 hL _
  have hsz : (DataW.weightsEach Tryz.prog (Tryz.f3.params.toList ++ Rows.lexTokensSpec.plain.varTypes Tryz.prog) (ds ++ gs)).all (· ≤ reachBytes) = true := hsz0
  have hval : ∀ (j : Nat) t v, Tryz.f3.params[j]? = some t → args[j]? = some v → Value.okWide Tryz.prog W .any base t v := hval0
  have hW' := hW
  obtain ⟨p, q, hA0, hV, rfl, hfz, hnd⟩ := hW
  have hA : DataW.TrodAll enc Tryz.prog W 0 (fun _ => true) true Tryz.f3.params.toList args.toList ds p := hA0
  rw [Tryz.params3] at hA hval
  obtain ⟨v0, vs0, d0, ds0, p0, q0, hargs, rfl, rfl, h0, r0⟩ := trodAll_cons hA
  obtain ⟨rfl, rfl, rfl⟩ := trodAll_nil r0
  obtain rfl : args = #[v0] := by cases args; simp_all
  obtain ⟨rfl, rfl⟩ := trodVars_none hV
  have k0 := h0
  have lt0 : ∀ x ∈ p0, x.block < W.heap.size := by obtain ⟨m, hm⟩ := k0; exact DataW.trod_lt m _ _ _ hm
  obtain ⟨y0, hy0, g0⟩ := arg_of (fun n => fits_string Tryz.underlying9 n) hsz (j := 0) (t := 9) rfl rfl h0
  obtain ⟨x0, rfl⟩ := okWide_string Tryz.underlying9 (hval 0 9 v0 rfl rfl)
  have he0 : [_] = [_] := hy0
  simp only [List.cons.injEq, and_true, Value.string.injEq] at he0
  subst he0
  have hlib := lib_of hL
  clear hA0 hval0 hsz0 hsz
  refine (lextokens_calls x0 (by omega) W hlib.1 hlib.2).mono fun e W' ⟨he, bel⟩ => ?_
  subst he
  exact ⟨_, rfl, _, _, _, [], _, [], hW', trodAll_mk1 (shut_bool Tryz.underlying4 _), (trodAll_cons_mk (Below.trod laidOut (by kernel_rfl) (of_decide_eq_true (by kernel_rfl)) k0 bel lt0) trodAll_mk0), rfl, bel.frame _, fun h => by cases h⟩
theorem over : Rows.lexTokensRow.holds Tryz.pinned (OpenSpec.ofChange Rows.lexTokensSpec) :=
  OpenClaim.holds_of_wide 3 Tryz.f3 rfl rfl rfl rfl rfl rfl rfl ⟨rfl, rfl, rfl, rfl, rfl⟩ rfl rfl rfl rfl rfl (by kernel_rfl) Tryz.func3 (by kernel_rfl)
    (of_decide_eq_true (by kernel_rfl)) (by unfold Func.isWrapper; first | (rw [if_pos (by decide +kernel)]; kernel_rfl) | (rw [if_neg (by decide +kernel)]; exact ⟨rfl, rfl⟩))
    (fun os started H enc _ => lifted os started H enc)
theorem card_holds : Rows.LexTokensCardSaid :=
  Claim7.holds_tied_plain_at .later [] [.data, .data, .data, .handle, .sentinel, .sentinel, .listed, .data] true (true, "4c79ec175676d200efe44a0bf5ec1c639678ff4f6b5ac054d891d43274648538") true
    over (fun _ h => by cases h) (by kernel_rfl) (fun _ h => by cases h) lexTokens_row_tie rfl ⟨rfl, rfl⟩ (by kernel_rfl) rfl
    (fun f fn hf hfn => by
      obtain rfl : f = 3 := Option.some.inj ((show Tryz.prog.funcNamed "carillon/carillonlaw03.LexTokens" = some 3 by kernel_rfl).symm.trans hf) |>.symm
      obtain rfl : fn = Tryz.f3 := (Option.some.inj (Tryz.func3.symm.trans hfn)).symm
      exact ⟨by kernel_rfl, fun j t ht => by
        rw [Tryz.params3] at ht
        have hm : t ∈ [9] := by simpa using Array.mem_of_getElem? ht
        have hall : ([9].all fun u => !Tryz.prog.wantsStandIn u) = true := by kernel_rfl
        exact (show Tryz.prog.wantsStandIn t = false by simpa using List.all_eq_true.1 hall t hm)⟩)
    (by kernel_rfl)
#print axioms card_holds
end Go.Proofs.YtpgdmghhbbekjaaGreatDoor.L.TokRow
namespace Go.Proofs.YtpgdmghhbbekjaaGreatDoor
theorem lexTokens_holds : Rows.LexTokensCardSaid := L.TokRow.card_holds
end Go.Proofs.YtpgdmghhbbekjaaGreatDoor
end
