/- The law LexLong: for every input it returns true, and its arguments read as they read before; and the tied card. The conditions: none. (Its parts: Lxz Lxp Open RowLong.) -/
import Derived.Test.YtpgdmghhbbekjaaGreatDoorRows
import Derived.Stop.LaidErr
import Derived.Stop.Texts
import Derived.MakeChecks
import Derived.Lib.LaidTab
import Derived.LaidMore
import Derived.SizedLaws
import Derived.ChangeArms
import Derived.DataReads
import Derived.Test.YtpgdmghhbbekjaaGreatDoorTie
import Derived.Test.YtpgdmghhbbekjaaGreatDoorCards
import Derived.ChangeSlices
import Derived.WalkKit
import Derived.ProofKit
import Derived.OpenShut
import Derived.ShutString
import Derived.ChangeOld
import Derived.Below
import Derived.Stop.Joined
import Derived.SevenTiedAt
import Derived.Test.YtpgdmghhbbekjaaGreatDoorKLL01
import Derived.Test.YtpgdmghhbbekjaaGreatDoorKLL04
import Derived.Test.YtpgdmghhbbekjaaGreatDoorKLL05
section
set_option linter.unusedVariables false
set_option linter.unusedSimpArgs false
namespace Go.Proofs.YtpgdmghhbbekjaaGreatDoor.L
open Go.RowKit Go.Proofs.YtpgdmghhbbekjaaGreatDoorW.PrintWords Go.Proofs.YtpgdmghhbbekjaaGreatDoorW.PrintLast Go.Maps
theorem info8 : (Tryz.prog.info? 5).map (fun i => (i.zero, i.size, i.bytes)) = some (some (.int .u8 0), 1, 1) := by kernel_rfl
def Fl (w : World) (base g n i : Nat) (c : UInt8) : Prop := w.ownsRow base 5 1 (.slice (some ⟨g, 0, none⟩) n n) n (nums .u8 (List.replicate i (c.toNat : Int) ++ List.replicate (n - i) 0))
theorem Fl.step {w : World} {base g n i : Nat} {c : UInt8} (h : Fl w base g n i c) (hi : i < n) : Fl (w.setCell ⟨g, i, none⟩ (.int .u8 (c.toNat : Int))) base g n (i + 1) c := by
  have h1 := (own_store h (i : Int) (c.toNat : Int)).1
  rw [Int.toNat_natCast] at h1
  unfold Fl
  have e : (List.replicate i (c.toNat : Int) ++ List.replicate (n - i) 0).set i (c.toNat : Int) = List.replicate (i + 1) (c.toNat : Int) ++ List.replicate (n - (i + 1)) 0 := by
    obtain ⟨k, hk⟩ : ∃ k, n - i = k + 1 := ⟨n - i - 1, by omega⟩
    rw [hk, show n - (i + 1) = k by omega, List.replicate_succ (n := k), List.set_append_right _ _ (by simp)]
    simp [List.replicate_succ']
  rw [e] at h1
  exact h1
theorem Fl.string {w : World} {base g n : Nat} {c : UInt8} (h : Fl w base g n n c) : (convert 37 9 (.slice (some ⟨g, 0, none⟩) n n)).run Tryz.prog w = .ok (.string (reps n c)) w := by
  have h1 := own_string (P := Tryz.prog) Tryz.underlying37 Tryz.underlying5 Tryz.underlying9 h
  have e : strOfNums (List.replicate n (c.toNat : Int) ++ List.replicate (n - n) 0) = reps n c := bytes_eq (by
    rw [Nat.sub_self, List.replicate_zero, List.append_nil]
    unfold strOfNums reps
    simp)
  rw [h1, e]
set_option maxHeartbeats 16000000 in
set_option maxRecDepth 100000 in
theorem long_semis (ov : Int) (ho : -128 ≤ ov ∧ ov ≤ 127) (w : World) (hL : Lib3 w) (hE : EtIs w) : Calls Tryz.prog 4 #[.int .i8 ov, .bool true] w fun e w' => e = .returned (.bool true) ∧ Below w.heap.size w w' := by
  obtain ⟨m, hm⟩ : ∃ m : Nat, (m : Int) = 16383 + ov := ⟨(16383 + ov).toNat, by omega⟩
  have hmk := print_make (P := Tryz.prog) 37 5 .u8 1 Tryz.underlying37 info8 (by decide) m (by omega)
  have hown := own_made w w.heap.size 5 .u8 m (Nat.le_refl _) (by omega)
  have HF : Aside0 (Fl (w.alloc (.cells (madeCells #[.int .u8 0] m) 5)) w.heap.size w.heap.size m 0 59) := ⟨hown⟩
  have HB := Aside0.mk ((Below.refl w.heap.size w).alloc (Nat.le_refl _) (.cells (madeCells #[Value.int .u8 0] m) 5))
  have HL := Aside0.mk hL
  have HE := Aside0.mk hE
  have HM : Aside0 ((m : Int) = 16383 + ov ∧ m ≤ 20000 ∧ 16000 ≤ m) := ⟨by omega⟩
  have hw2 : 16383 + ov = (m : Int) := by omega
  obtain ⟨G, hG⟩ : ∃ G, w.heap.size = G := ⟨_, rfl⟩
  have HG := Aside0.mk hG
  rw [hG] at HF
  clear hown hL hE hm
  go_enter Tryz.func4, Tryz.ntmps4
  go_wp2
  go_loopg [7] (m) (fun kq v7 wr => ∃ (i : Nat), v7 = .int .i64 (i : Int) ∧ Aside0 (kq + i = m) ∧ Aside0 (Fl wr G G m i 59) ∧ Aside0 (Below w.heap.size w wr))
  case atStart => exact ⟨0, rfl, ⟨rfl⟩, HF, HB⟩
  case round =>
    clear HF HB
    obtain ⟨i, rfl, HK, HF, HB⟩ := hrel
    by_cases hi : i < m
    · have dl : decide ((i : Int) < (m : Int)) = true := decide_eq_true (by omega)
      have dl2 : decide (i < m) = true := decide_eq_true hi
      obtain ⟨go, rfl⟩ : ∃ go, gk = go + 1 := ⟨gk - 1, by have := HK.out; omega⟩
      have hil : (i : Int) < (m : Int) := by omega
      obtain ⟨c1, c2⟩ := own_at HF.out (i : Int) (by omega) (by omega)
      rw [Int.toNat_natCast] at c1 c2
      have HF2 := Aside0.mk (HF.out.step hi)
      have HB2 : Aside0 (Below w.heap.size w (wr.setCell ⟨G, i, none⟩ (.int .u8 59))) := ⟨HB.out.setCell (p := ⟨G, i, none⟩) (by rw [HG.out]; exact Nat.le_refl _) _⟩
      have him : i + 1 ≤ 20000 := by have := HM.out; omega
      clear HF HB
      go_wp2
      go_roundg go
      case measure => omega
      case rel => exact ⟨i + 1, by first | rfl | simp, ⟨by have := HK.out; omega⟩, HF2, HB2⟩
    · have dl : decide ((i : Int) < (m : Int)) = false := decide_eq_false (by omega)
      have dl2 : decide (i < m) = false := decide_eq_false hi
      obtain rfl : i = m := by have := HK.out; omega
      have hst := HF.out.string
      have hsm := semis i (by have := HM.out; omega)
      have htc := tokens_calls (reps i 59) (by rw [reps_size]; have := HM.out; omega) wr (HL.out.below HB.out)
      have HTC := Aside0.mk htc
      have HSM := Aside0.mk hsm
      clear htc hsm HF hi
      by_cases hov : 0 < ov
      · have k1 : decide (0 < ov) = true := decide_eq_true hov
        have ht := HSM.out.2 (by have := HM.out; omega)
        rw [ht] at HTC
        clear hov ht HSM
        go_wp2_with fail
        refine HTC.out.mono ?_
        rintro e w2 ⟨⟨v, rfl, hr⟩, hb⟩
        obtain ⟨A2, c2, rfl⟩ := Kd.R_slice hr
        have HB2 := Aside0.mk (HB.out.trans (hb.mono HB.out.size))
        have HT := Aside0.mk (told_calls 16383 6 w2 (HE.out.below HB2.out))
        clear hb hr HTC HB
        rw [show ([] : List Tk).length = 0 from rfl]
        go_wp2_with fail
        refine HT.out.mono ?_
        rintro e w3 ⟨rfl, hb⟩
        have HB3 := Aside0.mk (HB2.out.trans (hb.mono HB2.out.size))
        have HA := Aside0.mk (alive_calls w3 (HL.out.below HB3.out))
        clear hb HT HB2
        go_wp2_with fail
        refine HA.out.mono ?_
        rintro e w4 ⟨rfl, hb⟩
        have HB4 := Aside0.mk (HB3.out.trans (hb.mono HB3.out.size))
        clear hb
        go_wp2
        go_ret
        exact ⟨rfl, HB4.out⟩
      · have k1 : decide (0 < ov) = false := decide_eq_false hov
        obtain ⟨l, ht, hl, hlast⟩ := HSM.out.1 (by have := HM.out; omega)
        rw [ht] at HTC
        have HLN := Aside0.mk hl
        have HLT := Aside0.mk hlast
        clear hov ht hl hlast HSM
        go_wp2_with fail
        refine HTC.out.mono ?_
        rintro e w2 ⟨⟨v, rfl, hr⟩, hb⟩
        rw [show faultV (0, 0) = .nilIface from rfl]
        obtain ⟨g2, cap2, rfl, hg0, hg2, hrow⟩ := tk_row hr (by rw [HLN.out]; omega)
        have HB2 := Aside0.mk (HB.out.trans (hb.mono HB.out.size))
        have HR := Aside0.mk (hrow i ⟨0, ⟨#[]⟩, 0, (i : Int)⟩ HLT.out)
        have HA := Aside0.mk (alive_calls w2 (HL.out.below HB2.out))
        clear hb hr HTC HB hrow hg0 hg2
        rw [HLN.out]
        have hzt := zeroT
        have him : i + 1 ≤ 20000 := by have := HM.out; omega
        have hil : (i : Int) < ((i + 1 : Nat) : Int) := by omega
        go_wp2_with first | ((with_reducible refine gate_ (.load 39 (.tmp 60)) rfl ?_); refine wpList_tkmid (by rfl) (.tmp 60) rfl rfl (o := i * 4) HR.out rfl ?_)
        refine HA.out.mono ?_
        rintro e w4 ⟨rfl, hb⟩
        have HB4 := Aside0.mk (HB2.out.trans (hb.mono HB2.out.size))
        clear hb
        go_wp2
        go_ret
        exact ⟨rfl, HB4.out⟩
set_option maxHeartbeats 16000000 in
set_option maxRecDepth 100000 in
theorem long_blanks (ov : Int) (ho : -128 ≤ ov ∧ ov ≤ 127) (w : World) (hL : Lib3 w) (hE : EtIs w) : Calls Tryz.prog 4 #[.int .i8 ov, .bool false] w fun e w' => e = .returned (.bool true) ∧ Below w.heap.size w w' := by
  obtain ⟨m, hm⟩ : ∃ m : Nat, (m : Int) = 65536 + ov := ⟨(65536 + ov).toNat, by omega⟩
  have hmk := print_make (P := Tryz.prog) 37 5 .u8 1 Tryz.underlying37 info8 (by decide) m (by omega)
  have hown := own_made w w.heap.size 5 .u8 m (Nat.le_refl _) (by omega)
  have HF : Aside0 (Fl (w.alloc (.cells (madeCells #[.int .u8 0] m) 5)) w.heap.size w.heap.size m 0 32) := ⟨hown⟩
  have HB := Aside0.mk ((Below.refl w.heap.size w).alloc (Nat.le_refl _) (.cells (madeCells #[Value.int .u8 0] m) 5))
  have HL := Aside0.mk hL
  have HE := Aside0.mk hE
  have HM : Aside0 ((m : Int) = 65536 + ov ∧ m ≤ 66000 ∧ 65000 ≤ m) := ⟨by omega⟩
  have hw2 : 65536 + ov = (m : Int) := by omega
  obtain ⟨G, hG⟩ : ∃ G, w.heap.size = G := ⟨_, rfl⟩
  have HG := Aside0.mk hG
  rw [hG] at HF
  clear hown hL hE hm
  go_enter Tryz.func4, Tryz.ntmps4
  go_wp2
  go_loopg [12] (m) (fun kq v12 wr => ∃ (i : Nat), v12 = .int .i64 (i : Int) ∧ Aside0 (kq + i = m) ∧ Aside0 (Fl wr G G m i 32) ∧ Aside0 (Below w.heap.size w wr))
  case atStart => exact ⟨0, rfl, ⟨rfl⟩, HF, HB⟩
  case round =>
    clear HF HB
    obtain ⟨i, rfl, HK, HF, HB⟩ := hrel
    by_cases hi : i < m
    · have dl : decide ((i : Int) < (m : Int)) = true := decide_eq_true (by omega)
      have dl2 : decide (i < m) = true := decide_eq_true hi
      obtain ⟨go, rfl⟩ : ∃ go, gk = go + 1 := ⟨gk - 1, by have := HK.out; omega⟩
      have hil : (i : Int) < (m : Int) := by omega
      obtain ⟨c1, c2⟩ := own_at HF.out (i : Int) (by omega) (by omega)
      rw [Int.toNat_natCast] at c1 c2
      have HF2 := Aside0.mk (HF.out.step hi)
      have HB2 : Aside0 (Below w.heap.size w (wr.setCell ⟨G, i, none⟩ (.int .u8 32))) := ⟨HB.out.setCell (p := ⟨G, i, none⟩) (by rw [HG.out]; exact Nat.le_refl _) _⟩
      have him : i + 1 ≤ 66000 := by have := HM.out; omega
      clear HF HB
      go_wp2
      go_roundg go
      case measure => omega
      case rel => exact ⟨i + 1, by first | rfl | simp, ⟨by have := HK.out; omega⟩, HF2, HB2⟩
    · have dl : decide ((i : Int) < (m : Int)) = false := decide_eq_false (by omega)
      have dl2 : decide (i < m) = false := decide_eq_false hi
      obtain rfl : i = m := by have := HK.out; omega
      have hst := HF.out.string
      have hsm := blanks i
      have htc := tokens_calls (reps i 32) (by rw [reps_size]; have := HM.out; omega) wr (HL.out.below HB.out)
      have HTC := Aside0.mk htc
      have HSM := Aside0.mk hsm
      clear htc hsm HF hi
      by_cases hov : 0 < ov
      · have k1 : decide (0 < ov) = true := decide_eq_true hov
        have ht := HSM.out.2 (by have := HM.out; omega)
        rw [ht] at HTC
        clear hov ht HSM
        go_wp2_with fail
        refine HTC.out.mono ?_
        rintro e w2 ⟨⟨v, rfl, hr⟩, hb⟩
        obtain ⟨A2, c2, rfl⟩ := Kd.R_slice hr
        have HB2 := Aside0.mk (HB.out.trans (hb.mono HB.out.size))
        have HT := Aside0.mk (told_calls 65536 4 w2 (HE.out.below HB2.out))
        clear hb hr HTC HB
        rw [show ([] : List Tk).length = 0 from rfl]
        go_wp2_with fail
        refine HT.out.mono ?_
        rintro e w3 ⟨rfl, hb⟩
        have HB3 := Aside0.mk (HB2.out.trans (hb.mono HB2.out.size))
        have HA := Aside0.mk (alive_calls w3 (HL.out.below HB3.out))
        clear hb HT HB2
        go_wp2_with fail
        refine HA.out.mono ?_
        rintro e w4 ⟨rfl, hb⟩
        have HB4 := Aside0.mk (HB3.out.trans (hb.mono HB3.out.size))
        clear hb
        go_wp2
        go_ret
        exact ⟨rfl, HB4.out⟩
      · have k1 : decide (0 < ov) = false := decide_eq_false hov
        have ht := HSM.out.1 (by have := HM.out; omega)
        rw [ht] at HTC
        clear hov ht HSM
        go_wp2_with fail
        refine HTC.out.mono ?_
        rintro e w2 ⟨⟨v, rfl, hr⟩, hb⟩
        rw [show faultV (0, 0) = .nilIface from rfl]
        obtain ⟨g2, cap2, rfl, hg0, hg2, hrow⟩ := tk_row hr Nat.zero_lt_one
        have HB2 := Aside0.mk (HB.out.trans (hb.mono HB.out.size))
        have HR := Aside0.mk (hrow 0 ⟨0, ⟨#[]⟩, 0, (i : Int)⟩ rfl)
        have HA := Aside0.mk (alive_calls w2 (HL.out.below HB2.out))
        clear hb hr HTC HB hrow hg0 hg2
        rw [show ([⟨0, ⟨#[]⟩, 0, (i : Int)⟩] : List Tk).length = 1 from rfl]
        have hzt := zeroT
        have him : i + 1 ≤ 66000 := by have := HM.out; omega
        have hil : (i : Int) < ((i + 1 : Nat) : Int) := by omega
        go_wp2_with first | ((with_reducible refine gate_ (.load 39 (.tmp 110)) rfl ?_); refine wpList_tkmid (by rfl) (.tmp 110) rfl rfl (o := 0) HR.out rfl ?_)
        refine HA.out.mono ?_
        rintro e w4 ⟨rfl, hb⟩
        have HB4 := Aside0.mk (HB2.out.trans (hb.mono HB2.out.size))
        clear hb
        go_wp2
        go_ret
        exact ⟨rfl, HB4.out⟩
end Go.Proofs.YtpgdmghhbbekjaaGreatDoor.L
end
section
set_option linter.unusedVariables false
namespace Go.Proofs.YtpgdmghhbbekjaaGreatDoor.L
open Go.RowKit Go.Stop
theorem pE : Tryz.prog.globalNamed "strconv.ErrRange" = some 5 := by kernel_rfl
theorem pS : Tryz.prog.globalNamed "strconv.ErrSyntax" = some 4 := by kernel_rfl
theorem pT : Tryz.prog.globalNamed "strings.asciiSpace" = some 2 := by kernel_rfl
theorem tyE : (Tryz.prog.globals[5]?).map (·.type) = some 25 := by kernel_rfl
theorem tyS : (Tryz.prog.globals[4]?).map (·.type) = some 25 := by kernel_rfl
theorem tyT : (Tryz.prog.globals[2]?).map (·.type) = some 102 := by kernel_rfl
theorem starE : "*" ++ "errors.errorString" = "*errors.errorString" := by decide
theorem rowE (u : TypeId) (h : Tryz.prog.typeName? 3 u = some "*errors.errorString") : u = 139 :=
  typeName_ptr_named (nm := "errors.errorString") (by rw [starE]; kernel_rfl) (by kernel_rfl) (by decide) u (by rw [starE]; exact h)
theorem lib_of_three {W : World} {r1 r2 r3 : List (String × DataW Unit)} {d1 d2 : List UInt8} (h1 : laidMet Tryz.prog (("strconv.ErrRange", .iface "*errors.errorString" (.ptr (.agg [.lit (.string d1)]))) :: r1) W)
    (h2 : laidMet Tryz.prog (("strconv.ErrSyntax", .iface "*errors.errorString" (.ptr (.agg [.lit (.string d2)]))) :: r2) W)
    (h3 : laidMet Tryz.prog (("strings.asciiSpace", Lib.tabData .u8 Lib.asciiSpaceTab) :: r3) W) : Lib3 W := by
  obtain ⟨a1, s1, v1, _⟩ := laid_sentinel h1 pE tyE Tryz.underlying25 rowE Tryz.underlying139 Tryz.underlying141 rfl rfl Tryz.underlying9 (by kernel_rfl) (by kernel_rfl)
  obtain ⟨a2, s2, v2, _⟩ := laid_sentinel h2 pS tyS Tryz.underlying25 rowE Tryz.underlying139 Tryz.underlying141 rfl rfl Tryz.underlying9 (by kernel_rfl) (by kernel_rfl)
  exact ⟨Lib.tabIs_of_head pT tyT Tryz.underlying102 Tryz.underlying5 (by kernel_rfl) (by kernel_rfl) h3, ⟨_, _, v2⟩, ⟨_, _, v1⟩⟩
end Go.Proofs.YtpgdmghhbbekjaaGreatDoor.L
end
section
set_option linter.unusedVariables false
namespace Go.Proofs.YtpgdmghhbbekjaaGreatDoorOpen
open Go.Proofs.YtpgdmghhbbekjaaGreatDoorW.PrintWords
def Fits (P : Program) (t : TypeId) {α : Type} (k : Kd α) (G : α → Prop) (n : Nat) : Prop :=
  ∀ (H : Type) (enc : TypeId × Value → H) (w : World) (base : Nat) (spare : Nat → Bool) (held : Bool) (cs : List Value) (x : DataW H × List MemPlace),
    DataW.trod enc P w base spare held n t cs = some x → (∀ m ∈ x.1.weights P t, m ≤ 140737488351232) → ∃ y, k.K w y cs ∧ G y
section
variable {P : Program} {t e : TypeId}
theorem fits_int {k : IntKind} (hu : P.underlying t = some (.int k)) (n : Nat) : Fits P t (Kd.int k) (fun x => (Lit.int k x).wf = true) n := by
  intro H enc w base spare held cs x h _
  obtain ⟨y, rfl, _, hw⟩ := DataW.trod_int hu h
  exact ⟨y, rfl, hw⟩
end
theorem arg_of {H : Type} {enc : TypeId × Value → H} {P : Program} {W : World} {base : Nat} {spare : Nat → Bool} {held : Bool} {t : TypeId} {α : Type} {k : Kd α} {G : α → Prop} (hf : ∀ n, Fits P t k G n) {v : Value} {d : DataW H} {ps : List MemPlace} {ts : List TypeId} {ds : List (DataW H)} {j : Nat}
    (hsz : (DataW.weightsEach P ts ds).all (· ≤ reachBytes) = true) (ht : ts[j]? = some t) (hd : ds[j]? = some d) (h : DataW.Trod enc P W base spare held t v d ps) : ∃ y, k.K W y v.cells.toList ∧ G y := by
  obtain ⟨n, hn⟩ := h
  refine hf n H enc W base spare held _ _ hn (fun m hm => ?_)
  have := List.all_eq_true.1 hsz m (DataW.weights_mem_each ht hd m hm)
  have h2 := of_decide_eq_true this
  exact h2
end Go.Proofs.YtpgdmghhbbekjaaGreatDoorOpen
end
section
namespace Go.Proofs.YtpgdmghhbbekjaaGreatDoor.L.LongRow
open Go.ChangeShapes Go.WideShapes Go.ChangeAt Go.RowKit Go.Proofs.YtpgdmghhbbekjaaGreatDoorW.PrintWords Go.Proofs.YtpgdmghhbbekjaaGreatDoorOpen Go.Proofs.YtpgdmghhbbekjaaGreatDoor.L
open Go.ChangeMaps (open_string shut_string)
set_option linter.unusedVariables false
theorem long_calls (ov : Int) (k : Bool) (ho : -128 ≤ ov ∧ ov ≤ 127) (w : World) (hL : Lib3 w) (hE : EtIs w) : Calls Tryz.prog 4 #[.int .i8 ov, .bool k] w fun e w' => e = .returned (.bool true) ∧ Below w.heap.size w w' := by
  cases k
  · exact long_blanks ov ho w hL hE
  · exact long_semis ov ho w hL hE
theorem own : ownKnob Tryz.prog.godebug = none := by kernel_rfl
theorem laidOut : laidOutB Tryz.prog = true := by kernel_rfl
theorem rtT : (Tryz.prog.cutTypes.find? (·.1 == "internal/reflectlite.rtype")).map (·.2) = some 83 := by kernel_rfl
theorem sizeT : Tryz.prog.types.size = 185 := by kernel_rfl
theorem oneRowT : ((List.range 185).filter fun t => Tryz.prog.rowNamed t [101, 114, 114, 111, 114]) = [25] := by kernel_rfl
theorem gT : Tryz.prog.globalNamed "errors.errorType" = some 0 := by kernel_rfl
set_option maxRecDepth 100000 in
theorem parts_of {W : World} (h : laidMetH Tryz.prog Rows.lexLongRow.laid W) : laidMet Tryz.prog [("math/bits.deBruijn32tab", Rows.laid_math_bits_deBruijn32tab), ("math/bits.deBruijn64tab", Rows.laid_math_bits_deBruijn64tab), ("internal/strconv.uint64pow10", Rows.laid_internal_strconv_uint64pow10), ("strconv.ErrRange", Rows.laid_strconv_ErrRange), ("strconv.ErrSyntax", Rows.laid_strconv_ErrSyntax), ("unicode.White_Space", Rows.laid_unicode_White_Space), ("strings.asciiSpace", Rows.laid_strings_asciiSpace)] W ∧ handlesMet Tryz.prog [("errors.errorType", Rows.laid_errors_errorType)] W := h
set_option maxRecDepth 100000 in
theorem lib_of {W : World} (h : laidMetH Tryz.prog Rows.lexLongRow.laid W) : Lib3 W ∧ EtIs W := by
  obtain ⟨h1, h2⟩ := parts_of h
  refine ⟨lib_of_three h1.tail.tail.tail h1.tail.tail.tail.tail h1.tail.tail.tail.tail.tail.tail, ?_⟩
  obtain ⟨name, u, ty, e1, e2, e3, e4, e5⟩ := h2 _ (List.mem_singleton.2 rfl)
  have en : name = [101, 114, 114, 111, 114] := (Option.some.inj e1).symm
  subst en
  obtain rfl := Option.some.inj (rtT.symm.trans e2)
  have hm : ty ∈ (List.range 185).filter fun t => Tryz.prog.rowNamed t [101, 114, 114, 111, 114] := List.mem_filter.2 ⟨List.mem_range.2 (by rw [← sizeT]; exact e3), e4⟩
  rw [oneRowT] at hm
  obtain rfl := List.mem_singleton.1 hm
  have hh : typeHandle Tryz.prog 25 = .pointer (some ⟨10, 25, none⟩) := by kernel_rfl
  rw [hh] at e5
  unfold EtIs
  simpa using World.var?_cell gT e5 0
theorem door_met (os : Os) (args : Array Value) : laidMetH Tryz.prog Rows.lexLongRow.laid ((World.doorLaid Tryz.prog 93 os).forCall (fun _ _ => 0) ⟨#[], args, []⟩).memory :=
  laidMetH_of_parts3 (fuel := 8) (laidMet_of_run' 8 (by kernel_rfl) (by kernel_rfl)) (by kernel_rfl) (by kernel_rfl)
set_option maxRecDepth 100000 in
set_option maxHeartbeats 2000000 in
theorem lifted (os : Os) (started : os.Started) (H : Type) (enc : TypeId × Value → H) :
    ReturnsInHanded {} Tryz.checked os 4 .any (fun w args => (Rows.lexLongSpec.pre enc Tryz.prog Tryz.f4 [] false w args ∧ laidMetH Tryz.prog Rows.lexLongRow.laid w) ∧ sizedMet enc Tryz.prog Tryz.f4 (OpenSpec.ofChange Rows.lexLongSpec) false w args)
      (Rows.lexLongSpec.post enc Tryz.prog Tryz.f4 false true false false) := by
  refine returnsInHanded_of_change_and (C := Tryz.checked) (X := fun w _ => laidMetH Tryz.prog Rows.lexLongRow.laid w) (fun _ _ _ hh h => h.of_heap hh) own started (by kernel_rfl) Tryz.func4
    (ChangeSpec.witness_shaped (enc := enc) (C := Tryz.checked) (os := os) (X := fun w _ => laidMetH Tryz.prog Rows.lexLongRow.laid w) false (World.doorLaid Tryz.prog 93 os) #[.int .i8 0, .bool false] 8 rfl (World.shaped_of_RefB (by kernel_rfl) (by kernel_rfl)) (by kernel_rfl) (by kernel_rfl) (by kernel_rfl) (door_met os _)) ?_
  intro W base args ds gs before hval0 hW _ hsz0 hL _
  have hsz : (DataW.weightsEach Tryz.prog (Tryz.f4.params.toList ++ Rows.lexLongSpec.plain.varTypes Tryz.prog) (ds ++ gs)).all (· ≤ reachBytes) = true := hsz0
  have hval : ∀ (j : Nat) t v, Tryz.f4.params[j]? = some t → args[j]? = some v → Value.okWide Tryz.prog W .any base t v := hval0
  have hW' := hW
  obtain ⟨p, q, hA0, hV, rfl, hfz, hnd⟩ := hW
  have hA : DataW.TrodAll enc Tryz.prog W 0 (fun _ => true) true Tryz.f4.params.toList args.toList ds p := hA0
  rw [Tryz.params4] at hA hval
  obtain ⟨v0, vs0, d0, ds0, p0, q0, hargs, rfl, rfl, h0, r0⟩ := trodAll_cons hA
  obtain ⟨v1, vs1, d1, ds1, p1, q1, rfl, rfl, rfl, h1, r1⟩ := trodAll_cons r0
  obtain ⟨rfl, rfl, rfl⟩ := trodAll_nil r1
  obtain rfl : args = #[v0, v1] := by cases args; simp_all
  obtain ⟨rfl, rfl⟩ := trodVars_none hV
  have k0 := h0
  have k1 := h1
  have lt0 : ∀ x ∈ p0, x.block < W.heap.size := by obtain ⟨m, hm⟩ := k0; exact DataW.trod_lt m _ _ _ hm
  have lt1 : ∀ x ∈ p1, x.block < W.heap.size := by obtain ⟨m, hm⟩ := k1; exact DataW.trod_lt m _ _ _ hm
  obtain ⟨y0, hy0, g0⟩ := arg_of (fun n => fits_int Tryz.underlying36 n) hsz (j := 0) (t := 36) rfl rfl h0
  obtain ⟨x0, rfl⟩ := okWide_int Tryz.underlying36 (hval 0 36 v0 rfl rfl)
  have he0 : [_] = [_] := hy0
  simp only [List.cons.injEq, and_true, Value.int.injEq, true_and] at he0
  subst he0
  obtain ⟨x1, rfl⟩ := okWide_bool Tryz.underlying4 (hval 1 4 v1 rfl rfl)
  have hx0 : -128 ≤ x0 ∧ x0 ≤ 127 := by
    have e : IntKind.min .i8 = -128 ∧ IntKind.max .i8 = 127 := ⟨rfl, rfl⟩
    have := g0
    simp [Lit.wf] at this
    have h2 : IntKind.min .i8 ≤ x0 ∧ x0 ≤ IntKind.max .i8 := this
    rw [e.1, e.2] at h2
    exact h2
  have hlib := lib_of hL
  clear hA0 hval0 hsz0 hsz
  refine (long_calls x0 x1 hx0 W hlib.1 hlib.2).mono fun e W' ⟨he, bel⟩ => ?_
  subst he
  exact ⟨_, rfl, _, _, _, [], _, [], hW', trodAll_mk1 (shut_bool Tryz.underlying4 _), (trodAll_cons_mk (Below.trod laidOut (by kernel_rfl) (of_decide_eq_true (by kernel_rfl)) k0 bel lt0) (trodAll_cons_mk (Below.trod laidOut (by kernel_rfl) (of_decide_eq_true (by kernel_rfl)) k1 bel lt1) trodAll_mk0)), rfl, bel.frame _, fun h => by cases h⟩
theorem over : Rows.lexLongRow.holds Tryz.pinned (OpenSpec.ofChange Rows.lexLongSpec) :=
  OpenClaim.holds_of_wide 4 Tryz.f4 rfl rfl rfl rfl rfl rfl rfl ⟨rfl, rfl, rfl, rfl, rfl⟩ rfl rfl rfl rfl rfl (by kernel_rfl) Tryz.func4 (by kernel_rfl)
    (of_decide_eq_true (by kernel_rfl)) (by unfold Func.isWrapper; first | (rw [if_pos (by decide +kernel)]; kernel_rfl) | (rw [if_neg (by decide +kernel)]; exact ⟨rfl, rfl⟩))
    (fun os started H enc _ => lifted os started H enc)
theorem card_holds : Rows.LexLongCardSaid :=
  Claim7.holds_tied_plain_at .later [] [.data, .data, .data, .handle, .sentinel, .sentinel, .listed, .data] true (true, "4c79ec175676d200efe44a0bf5ec1c639678ff4f6b5ac054d891d43274648538") true
    over (fun _ h => by cases h) (by kernel_rfl) (fun _ h => by cases h) lexLong_row_tie rfl ⟨rfl, rfl⟩ (by kernel_rfl) rfl
    (fun f fn hf hfn => by
      obtain rfl : f = 4 := Option.some.inj ((show Tryz.prog.funcNamed "carillon/carillonlaw03.LexLong" = some 4 by kernel_rfl).symm.trans hf) |>.symm
      obtain rfl : fn = Tryz.f4 := (Option.some.inj (Tryz.func4.symm.trans hfn)).symm
      exact ⟨by kernel_rfl, fun j t ht => by
        rw [Tryz.params4] at ht
        have hm : t ∈ [36, 4] := by simpa using Array.mem_of_getElem? ht
        have hall : ([36, 4].all fun u => !Tryz.prog.wantsStandIn u) = true := by kernel_rfl
        exact (show Tryz.prog.wantsStandIn t = false by simpa using List.all_eq_true.1 hall t hm)⟩)
    (by kernel_rfl)
#print axioms card_holds
end Go.Proofs.YtpgdmghhbbekjaaGreatDoor.L.LongRow
namespace Go.Proofs.YtpgdmghhbbekjaaGreatDoor
theorem lexLong_holds : Rows.LexLongCardSaid := L.LongRow.card_holds
end Go.Proofs.YtpgdmghhbbekjaaGreatDoor
end
