/- Part 6 of the proof of the law LA. The conditions: none. (Its parts: WRepsOne Hx0 Hx13 Hx6 Hx7 Hx8 Hx9 Hx10 Hx11 Hx12 Lxm Lxt Lxp.) -/
import Derived.Test.YtpgdmghhbbekjaaDoorProg
import Derived.Below
import Derived.Deep.Draws
import Derived.Deep.AppendLies
import Derived.Maps.AppendAt
import Derived.OwnWalk
import Derived.Laws.BytesArg
import Derived.Laws.MakeOwn
import Derived.Laws.OwnMore
import Derived.Deep.OwnRows
import Derived.Tactics
import Derived.Lib.ConvBytes
import Derived.Laws.Slices
import Derived.WalkKit
import Derived.KernelRfl
import Derived.RowKit3
import Derived.Deep.LoopGhost
import Derived.Deep.QuietTactic
import Derived.BigQuiet
import Derived.WideLaws
import Derived.Deep.DeepCutAuto
import Derived.Deep.CutBlock
import Derived.Deep.RegionHeld3
import Derived.Laws.Rows
import Derived.Lib.AppendStr
import Derived.ArgAppend
import Derived.Laws.IdiomCopy
import Derived.OrdersHeld
import Derived.Laws.BitsLemmas
import Derived.RowKit
import Derived.Laws.StructEq
import Derived.Test.YtpgdmghhbbekjaaDoorRows
import Derived.Stop.LaidErr
import Derived.Stop.Texts
import Derived.MakeChecks
import Derived.Lib.LaidTab
import Derived.LaidMore
import Derived.Test.YtpgdmghhbbekjaaDoorKLA01
import Derived.Test.YtpgdmghhbbekjaaDoorKLA02
import Derived.Test.YtpgdmghhbbekjaaDoorKLA04
import Derived.Test.YtpgdmghhbbekjaaDoorKLA05
section
namespace Go.Proofs.YtpgdmghhbbekjaaDoorW.PrintWords
theorem Reps.one {α : Type} {R : α → List Value → Prop} {ps : List α} {cs : List Value} {p : α} {v : Value} (hp : R p [v]) (h : Reps R 1 ps cs) : Reps R 1 (p :: ps) (v :: cs) := by
  refine ⟨by simp [h.1], fun j q hq => ?_⟩
  cases j with
  | zero =>
    simp only [List.getElem?_cons_zero, Option.some.injEq] at hq
    subst hq
    simpa using hp
  | succ j =>
    simp only [List.getElem?_cons_succ] at hq
    have h1 := h.2 j q hq
    simpa [Nat.mul_one] using h1
theorem Reps.front {α : Type} {R : α → List Value → Prop} {size : Nat} {ps : List α} {cs c all : List Value} {p : α} (hp : R p c) (hc : c.length = size) (h : Reps R size ps cs) (ha : c ++ cs = all) : Reps R size (p :: ps) all := by
  subst ha
  refine ⟨by rw [List.length_append, hc, h.1, List.length_cons, Nat.succ_mul, Nat.add_comm], fun j q hq => ?_⟩
  cases j with
  | zero =>
    simp only [List.getElem?_cons_zero, Option.some.injEq] at hq
    subst hq
    rw [Nat.zero_mul, List.drop_zero, List.take_append_of_le_length (by omega), List.take_of_length_le (by omega)]
    exact hp
  | succ j =>
    simp only [List.getElem?_cons_succ] at hq
    have h1 := h.2 j q hq
    rw [Nat.succ_mul, List.drop_append, List.drop_of_length_le (by rw [hc]; exact Nat.le_add_left _ _), List.nil_append, hc, Nat.add_sub_cancel]
    exact h1
theorem Reps.c2 {α : Type} {R : α → List Value → Prop} {ps : List α} {cs : List Value} {p : α} {va vb : Value} (hp : R p [va, vb]) (h : Reps R 2 ps cs) : Reps R 2 (p :: ps) (va :: vb :: cs) := Reps.front hp rfl h rfl
theorem Reps.c3 {α : Type} {R : α → List Value → Prop} {ps : List α} {cs : List Value} {p : α} {va vb vc : Value} (hp : R p [va, vb, vc]) (h : Reps R 3 ps cs) : Reps R 3 (p :: ps) (va :: vb :: vc :: cs) := Reps.front hp rfl h rfl
theorem Reps.c4 {α : Type} {R : α → List Value → Prop} {ps : List α} {cs : List Value} {p : α} {va vb vc vd : Value} (hp : R p [va, vb, vc, vd]) (h : Reps R 4 ps cs) : Reps R 4 (p :: ps) (va :: vb :: vc :: vd :: cs) := Reps.front hp rfl h rfl
theorem Reps.c5 {α : Type} {R : α → List Value → Prop} {ps : List α} {cs : List Value} {p : α} {va vb vc vd ve : Value} (hp : R p [va, vb, vc, vd, ve]) (h : Reps R 5 ps cs) : Reps R 5 (p :: ps) (va :: vb :: vc :: vd :: ve :: cs) := Reps.front hp rfl h rfl
theorem Reps.c6 {α : Type} {R : α → List Value → Prop} {ps : List α} {cs : List Value} {p : α} {va vb vc vd ve vf : Value} (hp : R p [va, vb, vc, vd, ve, vf]) (h : Reps R 6 ps cs) : Reps R 6 (p :: ps) (va :: vb :: vc :: vd :: ve :: vf :: cs) := Reps.front hp rfl h rfl
theorem Reps.c9 {α : Type} {R : α → List Value → Prop} {ps : List α} {cs : List Value} {p : α} {va vb vc vd ve vf vg vh vi : Value} (hp : R p [va, vb, vc, vd, ve, vf, vg, vh, vi]) (h : Reps R 9 ps cs) : Reps R 9 (p :: ps) (va :: vb :: vc :: vd :: ve :: vf :: vg :: vh :: vi :: cs) := Reps.front hp rfl h rfl
end Go.Proofs.YtpgdmghhbbekjaaDoorW.PrintWords
end
section
namespace Go.Proofs.YtpgdmghhbbekjaaDoor.H
open Go.RowKit Go.Proofs.YtpgdmghhbbekjaaDoorW.PrintWords Go.Proofs.YtpgdmghhbbekjaaDoorW.PrintLast Go.Proofs.YtpgdmghhbbekjaaDoorW.PrintMore
attribute [local go_sem] max2_int min2_int max_two min_two max_three min_three max_four min_four   -- for this text's walks alone
set_option linter.unusedVariables false
set_option linter.unusedSimpArgs false
def errW : Option Int → Value
  | none => .nilIface
  | some c => .iface 88 (.int .i64 c)
theorem errW_none : errW none = .nilIface := rfl
theorem errW_some (c : Int) : errW (some c) = .iface 88 (.int .i64 c) := rfl
end Go.Proofs.YtpgdmghhbbekjaaDoor.H
end
section
namespace Go.Proofs.YtpgdmghhbbekjaaDoor.H
open Go.RowKit Go.Proofs.YtpgdmghhbbekjaaDoorW.PrintWords Go.Proofs.YtpgdmghhbbekjaaDoorW.PrintLast Go.Proofs.YtpgdmghhbbekjaaDoorW.PrintMore
attribute [local go_sem] max2_int min2_int max_two min_two max_three min_three max_four min_four   -- for this text's walks alone
set_option linter.unusedVariables false
set_option linter.unusedSimpArgs false
def carillonlaw03_blanks.f (a0 : Int) : Option (ByteArray) := (some (([(⟨#[32]⟩ : ByteArray), (⟨#[10]⟩ : ByteArray), (⟨#[9, 32]⟩ : ByteArray), (⟨#[13, 10]⟩ : ByteArray), (⟨#[32, 45, 45, 32, 120, 10]⟩ : ByteArray), (⟨#[32, 45, 45, 10, 45, 45, 121, 32, 122, 10]⟩ : ByteArray)] : List ByteArray) : List ByteArray)).bind fun y162 => (if 0 ≤ (Int.tmod a0 6) then (if (Int.tmod a0 6) < (y162.length : Int) then (some (rdOf ByteArray.empty y162 (Int.tmod a0 6))) else (none)) else (none))
set_option maxHeartbeats 8000000 in
set_option maxRecDepth 100000 in
theorem carillonlaw03_blanks.calls (a0 : Int) (r : ByteArray) (w : World) (h : carillonlaw03_blanks.f a0 = some r) :
    Calls Tryd.prog 13 #[.int .u8 a0] w fun e w' => e = .returned (.string r) ∧ Below w.heap.size w w' := by
  have HB := Aside0.mk (Below.refl w.heap.size w)
  have H : ((some (([(⟨#[32]⟩ : ByteArray), (⟨#[10]⟩ : ByteArray), (⟨#[9, 32]⟩ : ByteArray), (⟨#[13, 10]⟩ : ByteArray), (⟨#[32, 45, 45, 32, 120, 10]⟩ : ByteArray), (⟨#[32, 45, 45, 10, 45, 45, 121, 32, 122, 10]⟩ : ByteArray)] : List ByteArray) : List ByteArray)).bind fun y162 => (if 0 ≤ (Int.tmod a0 6) then (if (Int.tmod a0 6) < (y162.length : Int) then (some (rdOf ByteArray.empty y162 (Int.tmod a0 6))) else (none)) else (none))) = some r := h
  clear h
  obtain ⟨y162, hy162⟩ : ∃ y_ : List ByteArray, y_ = (([(⟨#[32]⟩ : ByteArray), (⟨#[10]⟩ : ByteArray), (⟨#[9, 32]⟩ : ByteArray), (⟨#[13, 10]⟩ : ByteArray), (⟨#[32, 45, 45, 32, 120, 10]⟩ : ByteArray), (⟨#[32, 45, 45, 10, 45, 45, 121, 32, 122, 10]⟩ : ByteArray)] : List ByteArray)) := ⟨_, rfl⟩
  replace H : (if 0 ≤ (Int.tmod a0 6) then (if (Int.tmod a0 6) < (y162.length : Int) then (some (rdOf ByteArray.empty y162 (Int.tmod a0 6))) else (none)) else (none)) = some r := by first | (rw [hy162]; with_reducible exact H) | (have H2_ := (Option.bind_some _ _).symm.trans H; rw [hy162]; with_reducible exact H2_) | (have H2_ := (Option.bind_some _ _).symm.trans H; with_reducible exact H2_) | with_reducible exact H | (rw [hy162]; exact H) | exact H
  have Ny162 := Aside0.mk hy162
  clear hy162
  obtain ⟨ji2, hji2⟩ : ∃ j_ : Int, (Int.tmod a0 6) = j_ := ⟨_, rfl⟩
  replace H : (if 0 ≤ (ji2) then (if (ji2) < (y162.length : Int) then (some (rdOf ByteArray.empty y162 (ji2))) else (none)) else (none)) = some r := by first | (rw [hji2] at H; exact H) | (simp only [hji2] at H ⊢; exact H)
  by_cases c3 : 0 ≤ (ji2)
  · rw [if_pos c3] at H
    have c3b0 : decide (0 ≤ (ji2)) = true := decide_eq_true c3
    clear c3
    by_cases c4 : (ji2) < (y162.length : Int)
    · rw [if_pos c4] at H
      have c4b0 : decide ((ji2) < (y162.length : Int)) = true := decide_eq_true c4
      clear c4
      obtain rfl := Option.some.inj H
      go_enter Tryd.func13, Tryd.ntmps13
      go_wp2_with (first | ((with_reducible refine gate_dst (N := 3) rfl ?_); refine Kd.R_lit Kd.string _ 9 ?hg (N := 3) ?hd (xs := ([(⟨#[32]⟩ : ByteArray), (⟨#[10]⟩ : ByteArray), (⟨#[9, 32]⟩ : ByteArray), (⟨#[13, 10]⟩ : ByteArray), (⟨#[32, 45, 45, 32, 120, 10]⟩ : ByteArray), (⟨#[32, 45, 45, 10, 45, 45, 121, 32, 122, 10]⟩ : ByteArray)] : List ByteArray)) (inner := [.string (⟨#[32]⟩ : ByteArray), .string (⟨#[10]⟩ : ByteArray), .string (⟨#[9, 32]⟩ : ByteArray), .string (⟨#[13, 10]⟩ : ByteArray), .string (⟨#[32, 45, 45, 32, 120, 10]⟩ : ByteArray), .string (⟨#[32, 45, 45, 10, 45, 45, 121, 32, 122, 10]⟩ : ByteArray)]) (ok := fun _ => True) (okp := fun _ => True) ?hr ?hp (fun _ hk => hk) trivial (Below.refl _ _) (Nat.le_refl _) (by simp) ?_; (case hd => rfl); (case hg => rfl); (case hr => first | (go_simp; done) | (go_simp; rfl)); (case hp => exact (Reps.one (show Kd.M Kd.string _ _ _ (⟨#[32]⟩ : ByteArray) [.string (⟨#[32]⟩ : ByteArray)] from rfl) (Reps.one (show Kd.M Kd.string _ _ _ (⟨#[10]⟩ : ByteArray) [.string (⟨#[10]⟩ : ByteArray)] from rfl) (Reps.one (show Kd.M Kd.string _ _ _ (⟨#[9, 32]⟩ : ByteArray) [.string (⟨#[9, 32]⟩ : ByteArray)] from rfl) (Reps.one (show Kd.M Kd.string _ _ _ (⟨#[13, 10]⟩ : ByteArray) [.string (⟨#[13, 10]⟩ : ByteArray)] from rfl) (Reps.one (show Kd.M Kd.string _ _ _ (⟨#[32, 45, 45, 32, 120, 10]⟩ : ByteArray) [.string (⟨#[32, 45, 45, 32, 120, 10]⟩ : ByteArray)] from rfl) (Reps.one (show Kd.M Kd.string _ _ _ (⟨#[32, 45, 45, 10, 45, 45, 121, 32, 122, 10]⟩ : ByteArray) [.string (⟨#[32, 45, 45, 10, 45, 45, 121, 32, 122, 10]⟩ : ByteArray)] from rfl) (Reps.none _ _)))))))); intro v163 w5 ho6 hb hg_ hnew_; clear hg_ hnew_; (first | rw [← Ny162.out] at ho6 | (simp only [Int.reduceToNat] at ho6; rw [← Ny162.out] at ho6)); have n0_ := Aside0.mk (Kd.R_lower ho6 (below_size (by repeat (first | (with_reducible first | exact HB.out | apply below_alloc | apply pw_below_drewN | apply below_drew1) | exact HB.out)))); have n1_ := Aside0.mk (below_step (by repeat (first | (with_reducible first | exact HB.out | apply below_alloc | apply pw_below_drewN | apply below_drew1) | exact HB.out)) hb); clear HB; have HO164 := n0_; have HB := n1_; clear n0_ n1_; clear hb ho6; obtain ⟨Ao7, co7, eo7⟩ := Kd.R_slice HO164.out; subst eo7; have p165 : 0 ≤ ((ji2) : Int) := of_decide_eq_true (by first | (with_reducible assumption) | assumption); have q165 : (ji2) < (y162.length : Int) := of_decide_eq_true (by first | (with_reducible assumption) | assumption); obtain ⟨ad165, e165, hx165_0⟩ := Kd.at_string (Kd.R_reads' HO164.out).2.2 (ji2) p165 q165; cases e165; replace p165 := eq_true p165; replace q165 := eq_true q165))
      go_ret
      exact ⟨by first | rfl | (simp [errW_none, errW_some] <;> rfl) | (simp only [← hji2]; first | rfl | (simp [errW_none, errW_some] <;> rfl)) | (simp [*, errW_none, errW_some] <;> rfl), by repeat (first | (with_reducible first | exact HB.out | apply below_alloc | apply pw_below_drewN | apply below_drew1) | exact HB.out)⟩
    · rw [if_neg c4] at H
      exact absurd H (by simp)
  · rw [if_neg c3] at H
    exact absurd H (by simp)
end Go.Proofs.YtpgdmghhbbekjaaDoor.H
end
section
namespace Go.Proofs.YtpgdmghhbbekjaaDoor.H
open Go.RowKit Go.Proofs.YtpgdmghhbbekjaaDoorW.PrintWords Go.Proofs.YtpgdmghhbbekjaaDoorW.PrintLast Go.Proofs.YtpgdmghhbbekjaaDoorW.PrintMore
attribute [local go_sem] max2_int min2_int max_two min_two max_three min_three max_four min_four   -- for this text's walks alone
set_option linter.unusedVariables false
set_option linter.unusedSimpArgs false
mutual
def carillonref03_Line.l0 : Nat → ByteArray → Int → Int → Int → Int → Option (Int × Int)
  | 0, _, _, _, _, _ => none
  | k + 1, x0, x1, x6, x7, x8 => if x8 < (x0.size : Int) then (carillonref03_Line.j1 k x0 x1 x6 x7 x8 (decide (x8 < x1))) else (carillonref03_Line.j1 k x0 x1 x6 x7 x8 false)
def carillonref03_Line.j1 : Nat → ByteArray → Int → Int → Int → Int → Bool → Option (Int × Int)
  | 0, _, _, _, _, _, _ => none
  | k + 1, x0, x1, x6, x7, x8, x17 => if x17 = true then (if 0 ≤ x8 then (if x8 < (x0.size : Int) then (if (bt x0 x8) = 10 then (carillonref03_Line.l0 k x0 x1 (wrap64 (x6 + 1)) 1 (wrap64 (x8 + 1))) else (carillonref03_Line.l0 k x0 x1 x6 (wrap64 (x7 + 1)) (wrap64 (x8 + 1)))) else (none)) else (none)) else (some (x6, x7))
end
def carillonref03_Line.f (k : Nat) (a0 : ByteArray) (a1 : Int) : Option (Int × Int) := carillonref03_Line.l0 k a0 a1 1 1 0
theorem carillonref03_Line.mono_l : ∀ k, (∀ y0 y1 y2 y3 y4, LeO (carillonref03_Line.l0 k y0 y1 y2 y3 y4) (carillonref03_Line.l0 (k + 1) y0 y1 y2 y3 y4)) ∧ (∀ y0 y1 y2 y3 y4 y5, LeO (carillonref03_Line.j1 k y0 y1 y2 y3 y4 y5) (carillonref03_Line.j1 (k + 1) y0 y1 y2 y3 y4 y5))
  | 0 => ⟨fun _ _ _ _ _ r h => by simp [carillonref03_Line.l0] at h, fun _ _ _ _ _ _ r h => by simp [carillonref03_Line.j1] at h⟩
  | k + 1 => by
    obtain ⟨ih0, ih1⟩ := carillonref03_Line.mono_l k
    refine ⟨?_, ?_⟩
    · intro y0 y1 y2 y3 y4
      unfold carillonref03_Line.l0
      repeat' first
      | (with_reducible exact ih0 _ _ _ _ _)
      | (with_reducible exact ih1 _ _ _ _ _ _)
      | (with_reducible exact LeO.refl _)
      | (with_reducible exact LeO.none _)
      | (with_reducible refine LeO.ite ?_ ?_)
      | (with_reducible refine LeO.bind ?_ (fun _ => ?_))
      | exact ih0 _ _ _ _ _
      | exact ih1 _ _ _ _ _ _
      | exact LeO.none _
      | refine LeO.ite ?_ ?_
      | refine LeO.bind ?_ (fun _ => ?_)
    · intro y0 y1 y2 y3 y4 y5
      unfold carillonref03_Line.j1
      repeat' first
      | (with_reducible exact ih0 _ _ _ _ _)
      | (with_reducible exact ih1 _ _ _ _ _ _)
      | (with_reducible exact LeO.refl _)
      | (with_reducible exact LeO.none _)
      | (with_reducible refine LeO.ite ?_ ?_)
      | (with_reducible refine LeO.bind ?_ (fun _ => ?_))
      | exact ih0 _ _ _ _ _
      | exact ih1 _ _ _ _ _ _
      | exact LeO.none _
      | refine LeO.ite ?_ ?_
      | refine LeO.bind ?_ (fun _ => ?_)
theorem carillonref03_Line.mono : ∀ a0 a1 k, LeO (carillonref03_Line.f k a0 a1) (carillonref03_Line.f (k + 1) a0 a1) := by
  intro a0 a1 k
  obtain ⟨ih0, ih1⟩ := carillonref03_Line.mono_l k
  unfold carillonref03_Line.f
  repeat' first
      | (with_reducible exact ih0 _ _ _ _ _)
      | (with_reducible exact ih1 _ _ _ _ _ _)
      | (with_reducible exact LeO.refl _)
      | (with_reducible exact LeO.none _)
      | (with_reducible refine LeO.ite ?_ ?_)
      | (with_reducible refine LeO.bind ?_ (fun _ => ?_))
      | exact ih0 _ _ _ _ _
      | exact ih1 _ _ _ _ _ _
      | exact LeO.none _
      | refine LeO.ite ?_ ?_
      | refine LeO.bind ?_ (fun _ => ?_)
end Go.Proofs.YtpgdmghhbbekjaaDoor.H
end
section
namespace Go.Proofs.YtpgdmghhbbekjaaDoor.H
open Go.RowKit Go.Proofs.YtpgdmghhbbekjaaDoorW.PrintWords Go.Proofs.YtpgdmghhbbekjaaDoorW.PrintLast Go.Proofs.YtpgdmghhbbekjaaDoorW.PrintMore
attribute [local go_sem] max2_int min2_int max_two min_two max_three min_three max_four min_four   -- for this text's walks alone
set_option linter.unusedVariables false
set_option linter.unusedSimpArgs false
def carillonref03_in.l0 : Nat → List ByteArray → ByteArray → Int → Option (Bool)
  | 0, _, _, _ => none
  | k + 1, x0, x1, x5 => if x5 < (x0.length : Int) then (if 0 ≤ x5 then (if (rdOf ByteArray.empty x0 x5).toList = x1.toList then (some true) else (carillonref03_in.l0 k x0 x1 (wrap64 (x5 + 1)))) else (none)) else (some false)
def carillonref03_in.f (k : Nat) (l0 : List ByteArray) (a1 : ByteArray) : Option (Bool) := carillonref03_in.l0 k l0 a1 0
theorem carillonref03_in.mono_l : ∀ k, (∀ y0 y1 y2, LeO (carillonref03_in.l0 k y0 y1 y2) (carillonref03_in.l0 (k + 1) y0 y1 y2))
  | 0 => fun _ _ _ r h => by simp [carillonref03_in.l0] at h
  | k + 1 => by
    have ih0 := carillonref03_in.mono_l k
    · intro y0 y1 y2
      unfold carillonref03_in.l0
      repeat' first
      | (with_reducible exact ih0 _ _ _)
      | (with_reducible exact LeO.refl _)
      | (with_reducible exact LeO.none _)
      | (with_reducible refine LeO.ite ?_ ?_)
      | (with_reducible refine LeO.bind ?_ (fun _ => ?_))
      | exact ih0 _ _ _
      | exact LeO.none _
      | refine LeO.ite ?_ ?_
      | refine LeO.bind ?_ (fun _ => ?_)
theorem carillonref03_in.mono : ∀ a0 a1 k, LeO (carillonref03_in.f k a0 a1) (carillonref03_in.f (k + 1) a0 a1) := by
  intro a0 a1 k
  have ih0 := carillonref03_in.mono_l k
  unfold carillonref03_in.f
  repeat' first
      | (with_reducible exact ih0 _ _ _)
      | (with_reducible exact LeO.refl _)
      | (with_reducible exact LeO.none _)
      | (with_reducible refine LeO.ite ?_ ?_)
      | (with_reducible refine LeO.bind ?_ (fun _ => ?_))
      | exact ih0 _ _ _
      | exact LeO.none _
      | refine LeO.ite ?_ ?_
      | refine LeO.bind ?_ (fun _ => ?_)
end Go.Proofs.YtpgdmghhbbekjaaDoor.H
end
section
namespace Go.Proofs.YtpgdmghhbbekjaaDoor.H
open Go.RowKit Go.Proofs.YtpgdmghhbbekjaaDoorW.PrintWords Go.Proofs.YtpgdmghhbbekjaaDoorW.PrintLast Go.Proofs.YtpgdmghhbbekjaaDoorW.PrintMore
attribute [local go_sem] max2_int min2_int max_two min_two max_three min_three max_four min_four   -- for this text's walks alone
set_option linter.unusedVariables false
set_option linter.unusedSimpArgs false
def carillonref03_Words.f  : Option (List ByteArray) := some (([(⟨#[110, 111, 100, 101]⟩ : ByteArray), (⟨#[102, 108, 111, 119]⟩ : ByteArray), (⟨#[114, 101, 116, 117, 114, 110, 115]⟩ : ByteArray), (⟨#[118, 97, 114]⟩ : ByteArray), (⟨#[108, 101, 116]⟩ : ByteArray), (⟨#[116, 101, 108]⟩ : ByteArray), (⟨#[105, 110, 116]⟩ : ByteArray), (⟨#[98, 111, 111, 108]⟩ : ByteArray), (⟨#[114, 97, 116, 101]⟩ : ByteArray), (⟨#[100, 117, 101]⟩ : ByteArray), (⟨#[105, 102]⟩ : ByteArray), (⟨#[116, 104, 101, 110]⟩ : ByteArray), (⟨#[101, 108, 115, 101]⟩ : ByteArray), (⟨#[97, 110, 100]⟩ : ByteArray), (⟨#[111, 114]⟩ : ByteArray), (⟨#[110, 111, 116]⟩ : ByteArray), (⟨#[116, 114, 117, 101]⟩ : ByteArray), (⟨#[102, 97, 108, 115, 101]⟩ : ByteArray), (⟨#[102, 98, 121]⟩ : ByteArray), (⟨#[116, 97, 105, 108]⟩ : ByteArray)] : List ByteArray))
end Go.Proofs.YtpgdmghhbbekjaaDoor.H
end
section
namespace Go.Proofs.YtpgdmghhbbekjaaDoor.H
open Go.RowKit Go.Proofs.YtpgdmghhbbekjaaDoorW.PrintWords Go.Proofs.YtpgdmghhbbekjaaDoorW.PrintLast Go.Proofs.YtpgdmghhbbekjaaDoorW.PrintMore
attribute [local go_sem] max2_int min2_int max_two min_two max_three min_three max_four min_four   -- for this text's walks alone
set_option linter.unusedVariables false
set_option linter.unusedSimpArgs false
def carillonref03_Word.f (k : Nat) (a0 : ByteArray) : Option (Bool) := (carillonref03_Words.f).bind fun t154 => ((carillonref03_in.f k t154 a0).bind fun t157 => (some t157))
theorem carillonref03_Word.mono : ∀ a0 k, LeO (carillonref03_Word.f k a0) (carillonref03_Word.f (k + 1) a0) := by
  intro a0 k
  unfold carillonref03_Word.f
  repeat' first
      | (with_reducible exact carillonref03_in.mono _ _ _)
      | (with_reducible exact LeO.refl _)
      | (with_reducible exact LeO.none _)
      | (with_reducible refine LeO.ite ?_ ?_)
      | (with_reducible refine LeO.bind ?_ (fun _ => ?_))
      | exact carillonref03_in.mono _ _ _
      | exact LeO.none _
      | refine LeO.ite ?_ ?_
      | refine LeO.bind ?_ (fun _ => ?_)
end Go.Proofs.YtpgdmghhbbekjaaDoor.H
end
section
namespace Go.Proofs.YtpgdmghhbbekjaaDoor.H
open Go.RowKit Go.Proofs.YtpgdmghhbbekjaaDoorW.PrintWords Go.Proofs.YtpgdmghhbbekjaaDoorW.PrintLast Go.Proofs.YtpgdmghhbbekjaaDoorW.PrintMore
attribute [local go_sem] max2_int min2_int max_two min_two max_three min_three max_four min_four   -- for this text's walks alone
set_option linter.unusedVariables false
set_option linter.unusedSimpArgs false
def carillonref03_Letter.f (a0 : Int) : Option (Bool) := if a0 ≥ 65 then (if a0 ≤ 90 then (some true) else (if a0 ≥ 97 then (if a0 ≤ 122 then (some true) else (some (a0 == 95))) else (some (a0 == 95)))) else (if a0 ≥ 97 then (if a0 ≤ 122 then (some true) else (some (a0 == 95))) else (some (a0 == 95)))
end Go.Proofs.YtpgdmghhbbekjaaDoor.H
end
section
namespace Go.Proofs.YtpgdmghhbbekjaaDoor.H
open Go.RowKit Go.Proofs.YtpgdmghhbbekjaaDoorW.PrintWords Go.Proofs.YtpgdmghhbbekjaaDoorW.PrintLast Go.Proofs.YtpgdmghhbbekjaaDoorW.PrintMore
attribute [local go_sem] max2_int min2_int max_two min_two max_three min_three max_four min_four   -- for this text's walks alone
set_option linter.unusedVariables false
set_option linter.unusedSimpArgs false
def carillonref03_Digit.f (a0 : Int) : Option (Bool) := if a0 ≥ 48 then (some (decide (a0 ≤ 57))) else (some false)
end Go.Proofs.YtpgdmghhbbekjaaDoor.H
end
section
namespace Go.Proofs.YtpgdmghhbbekjaaDoor.H
open Go.RowKit Go.Proofs.YtpgdmghhbbekjaaDoorW.PrintWords Go.Proofs.YtpgdmghhbbekjaaDoorW.PrintLast Go.Proofs.YtpgdmghhbbekjaaDoorW.PrintMore
attribute [local go_sem] max2_int min2_int max_two min_two max_three min_three max_four min_four   -- for this text's walks alone
set_option linter.unusedVariables false
set_option linter.unusedSimpArgs false
mutual
def carillonref03_Name.j0 : Nat → ByteArray → Bool → Option (Bool)
  | 0, _, _ => none
  | k + 1, x0, x20 => if x20 = true then (some false) else (carillonref03_Name.l0 k x0 0)
def carillonref03_Name.l0 : Nat → ByteArray → Int → Option (Bool)
  | 0, _, _ => none
  | k + 1, x0, x3 => if x3 < (x0.size : Int) then (if 0 ≤ x3 then ((carillonref03_Letter.f (bt x0 x3)).bind fun t160 => (if t160 = true then (carillonref03_Name.l0 k x0 (wrap64 (x3 + 1))) else ((carillonref03_Digit.f (bt x0 x3)).bind fun t161 => (if t161 = true then (carillonref03_Name.l0 k x0 (wrap64 (x3 + 1))) else (some false))))) else (none)) else (some true)
end
def carillonref03_Name.f (k : Nat) (a0 : ByteArray) : Option (Bool) := if a0.toList = ([] : List UInt8) then (carillonref03_Name.j0 k a0 true) else (if (a0.size : Int) > 32 then (carillonref03_Name.j0 k a0 true) else (if 0 < (a0.size : Int) then ((carillonref03_Letter.f (bt a0 0)).bind fun t158 => (if t158 = true then ((carillonref03_Word.f k a0).bind fun t159 => (carillonref03_Name.j0 k a0 t159)) else (carillonref03_Name.j0 k a0 true))) else (none)))
theorem carillonref03_Name.mono_l : ∀ k, (∀ y0 y1, LeO (carillonref03_Name.j0 k y0 y1) (carillonref03_Name.j0 (k + 1) y0 y1)) ∧ (∀ y0 y1, LeO (carillonref03_Name.l0 k y0 y1) (carillonref03_Name.l0 (k + 1) y0 y1))
  | 0 => ⟨fun _ _ r h => by simp [carillonref03_Name.j0] at h, fun _ _ r h => by simp [carillonref03_Name.l0] at h⟩
  | k + 1 => by
    obtain ⟨ih0, ih1⟩ := carillonref03_Name.mono_l k
    refine ⟨?_, ?_⟩
    · intro y0 y1
      unfold carillonref03_Name.j0
      repeat' first
      | (with_reducible exact ih0 _ _)
      | (with_reducible exact ih1 _ _)
      | (with_reducible exact carillonref03_Word.mono _ _)
      | (with_reducible exact LeO.refl _)
      | (with_reducible exact LeO.none _)
      | (with_reducible refine LeO.ite ?_ ?_)
      | (with_reducible refine LeO.bind ?_ (fun _ => ?_))
      | exact ih0 _ _
      | exact ih1 _ _
      | exact carillonref03_Word.mono _ _
      | exact LeO.none _
      | refine LeO.ite ?_ ?_
      | refine LeO.bind ?_ (fun _ => ?_)
    · intro y0 y1
      unfold carillonref03_Name.l0
      repeat' first
      | (with_reducible exact ih0 _ _)
      | (with_reducible exact ih1 _ _)
      | (with_reducible exact carillonref03_Word.mono _ _)
      | (with_reducible exact LeO.refl _)
      | (with_reducible exact LeO.none _)
      | (with_reducible refine LeO.ite ?_ ?_)
      | (with_reducible refine LeO.bind ?_ (fun _ => ?_))
      | exact ih0 _ _
      | exact ih1 _ _
      | exact carillonref03_Word.mono _ _
      | exact LeO.none _
      | refine LeO.ite ?_ ?_
      | refine LeO.bind ?_ (fun _ => ?_)
theorem carillonref03_Name.mono : ∀ a0 k, LeO (carillonref03_Name.f k a0) (carillonref03_Name.f (k + 1) a0) := by
  intro a0 k
  obtain ⟨ih0, ih1⟩ := carillonref03_Name.mono_l k
  unfold carillonref03_Name.f
  repeat' first
      | (with_reducible exact ih0 _ _)
      | (with_reducible exact ih1 _ _)
      | (with_reducible exact carillonref03_Word.mono _ _)
      | (with_reducible exact LeO.refl _)
      | (with_reducible exact LeO.none _)
      | (with_reducible refine LeO.ite ?_ ?_)
      | (with_reducible refine LeO.bind ?_ (fun _ => ?_))
      | exact ih0 _ _
      | exact ih1 _ _
      | exact carillonref03_Word.mono _ _
      | exact LeO.none _
      | refine LeO.ite ?_ ?_
      | refine LeO.bind ?_ (fun _ => ?_)
end Go.Proofs.YtpgdmghhbbekjaaDoor.H
end
section
set_option linter.unusedVariables false
set_option linter.unusedSimpArgs false
namespace Go.Proofs.YtpgdmghhbbekjaaDoor.L
open Go.RowKit Go.Proofs.YtpgdmghhbbekjaaDoorW.PrintWords Go.Proofs.YtpgdmghhbbekjaaDoorW.PrintLast Go.Proofs.YtpgdmghhbbekjaaDoorW.PrintMore Go.Maps
open Go.Proofs.YtpgdmghhbbekjaaDoor.H
theorem wr (n : Int) (h0 : 0 ≤ n) (h1 : n ≤ 9223372036854775807) : wrap64 n = n := by unfold wrap64; omega
end Go.Proofs.YtpgdmghhbbekjaaDoor.L
end
section
set_option linter.unusedVariables false
set_option linter.unusedSimpArgs false
namespace Go.Proofs.YtpgdmghhbbekjaaDoor.L
open Go.RowKit Go.Proofs.YtpgdmghhbbekjaaDoorW.PrintWords Go.Proofs.YtpgdmghhbbekjaaDoorW.PrintLast Go.Proofs.YtpgdmghhbbekjaaDoorW.PrintMore Go.Maps
open Go.Proofs.YtpgdmghhbbekjaaDoor.H
theorem J_take {b : Nat → List UInt8} : ∀ l k i, (J b k (l.take i)).length ≤ (J b k l).length
  | [], k, i => by rw [List.take_nil]; exact Nat.le_refl _
  | t :: l, k, 0 => Nat.zero_le _
  | t :: l, k, i + 1 => by
    have := J_take (b := b) l (k + 1) i
    rw [List.take_succ_cons, J, J]
    simp only [List.length_append]
    omega
theorem Inc_at : ∀ {l : List Tk} {p : Int} {j : Nat} {a b : Tk}, Inc p l → l[j]? = some a → l[j + 1]? = some b → a.a < b.a
  | [], _, _, _, _, _, h, _ => by simp at h
  | [x], _, j, a, b, _, _, h => by simp at h
  | x :: y :: r, p, 0, a, b, hi, h1, h2 => by
    simp at h1 h2
    subst h1 h2
    have := hi.2.1
    omega
  | x :: y :: r, p, j + 1, a, b, hi, h1, h2 => Inc_at (l := y :: r) (j := j) hi.2 (by simpa using h1) (by simpa using h2)
def bkB (g : Int) : ByteArray := ⟨(blanksL.getD (g.tmod 6).toNat []).toArray⟩
theorem bk_f (g : Int) (h0 : 0 ≤ g) : carillonlaw03_blanks.f g = some (bkB g) ∧ (bkB g).data.toList ∈ blanksL := by
  have h1 : 0 ≤ g.tmod 6 := Int.tmod_nonneg 6 h0
  have h2 : g.tmod 6 < 6 := Int.tmod_lt_of_pos g (by decide)
  unfold carillonlaw03_blanks.f bkB
  obtain ⟨m, hm⟩ : ∃ m, g.tmod 6 = m := ⟨_, rfl⟩
  rw [hm] at h1 h2 ⊢
  rw [Option.bind_some, if_pos h1, if_pos (by simpa using h2)]
  have h3 : m = 0 ∨ m = 1 ∨ m = 2 ∨ m = 3 ∨ m = 4 ∨ m = 5 := by omega
  rcases h3 with rfl | rfl | rfl | rfl | rfl | rfl <;> exact ⟨rfl, by simp [blanksL]⟩
def gapG (gs : List Int) (i : Nat) : Int := if i < gs.length then rd gs (i : Int) else (i : Int) % 256
theorem tokens_ok {s : ByteArray} (h : (tokens s).2.2 = 0) : ∃ l, tokens s = (l, 0, 0) ∧ 0 < l.length := by
  have h0 : ∀ n i c, (tgo s n i c).2.2 = 0 → (tgo s n i c).2.1 = 0 ∧ 0 < (tgo s n i c).1.length := by
    intro n
    induction n with
    | zero => intro i c h; exact ⟨rfl, Nat.zero_lt_one⟩
    | succ n ih =>
      intro i c h
      rw [tgo] at h ⊢
      by_cases h1 : i < s.size
      · rw [if_pos h1] at h ⊢
        by_cases h2 : tkE (s.extract i s.size) ≠ 0
        · rw [if_pos h2] at h; exact absurd h h2
        · rw [if_neg h2] at h ⊢
          by_cases h3 : 16384 ≤ c + 1
          · rw [if_pos h3] at h; exact absurd h (show ¬ (6 : Int) = 0 by decide)
          · rw [if_neg h3] at h ⊢
            by_cases h4 : (tgo s n (skp s s.size (i + (tkT (s.extract i s.size) i).t.size)) (c + 1)).2.2 = 0
            · rw [if_pos h4]; exact ⟨rfl, Nat.succ_pos _⟩
            · rw [if_neg h4] at h; exact absurd h h4
      · rw [if_neg h1]; exact ⟨rfl, Nat.zero_lt_one⟩
  unfold tokens at h ⊢
  by_cases hl : 65536 < s.size
  · rw [if_pos hl] at h; exact absurd h (show ¬ (4 : Int) = 0 by decide)
  · rw [if_neg hl] at h ⊢
    obtain ⟨e1, e2⟩ := h0 _ _ _ h
    exact ⟨_, Prod.ext rfl (Prod.ext e1 h), e2⟩
set_option maxHeartbeats 16000000 in
set_option maxRecDepth 100000 in
theorem apart_calls (s : ByteArray) (A : Option Addr) (cp : Nat) (gs : List Int) (w : World) (hs : s.size ≤ 140737488355328) (hC : Kd.C (Kd.int .u8) w A gs.length gs) (hg : ∀ g ∈ gs, 0 ≤ g ∧ g ≤ 255) (hgl : gs.length ≤ 140737488355328) (hL : Lib3 w) :
    Calls Tryd.prog 4 #[.string s, .slice A gs.length cp] w fun e w' => e = .returned (.bool true) ∧ Below w.heap.size w w' := by
  have HL := Aside0.mk hL
  clear hL
  by_cases hlong : 1024 < s.size
  · have d1 : decide ((1024 : Int) < (s.size : Int)) = true := decide_eq_true (by omega)
    have d2 : decide (1024 < s.size) = true := decide_eq_true hlong
    have HA := Aside0.mk (alive_calls w HL.out)
    clear hlong hC
    go_enter Tryd.func4, Tryd.ntmps4
    go_wp2_with fail
    refine HA.out.mono ?_
    rintro e w1 ⟨rfl, hb⟩
    have HB := Aside0.mk hb
    clear hb
    go_wp2
    go_ret
    exact ⟨rfl, HB.out⟩
  have d1 : decide ((1024 : Int) < (s.size : Int)) = false := decide_eq_false (by omega)
  have d2 : decide (1024 < s.size) = false := decide_eq_false hlong
  have HC := Aside0.mk hC
  have HS := Aside0.mk hs
  have HGG := Aside0.mk hg
  have HGL := Aside0.mk hgl
  have HT := Aside0.mk (tokens_calls s hs w HL.out)
  have HLO := Aside0.mk hlong
  clear hC hs hg hgl hlong
  by_cases he : (tokens s).2.2 = 0
  case neg =>
    have HE := Aside0.mk he
    clear he
    go_enter Tryd.func4, Tryd.ntmps4
    go_wp2_with fail
    refine HT.out.mono ?_
    rintro e w1 ⟨⟨v, rfl, _⟩, hb⟩
    rw [show faultV (tokens s).2 = errV (tokens s).2.1 (tokens s).2.2 by unfold faultV; rw [if_neg HE.out]]
    have HA := Aside0.mk (alive_calls w1 (HL.out.below hb))
    have HB1 := Aside0.mk hb
    clear hb
    unfold errV
    go_wp2_with fail
    refine HA.out.mono ?_
    rintro e w2 ⟨rfl, hb⟩
    have HB := Aside0.mk (HB1.out.trans (hb.mono HB1.out.size))
    clear hb
    go_wp2
    go_ret
    exact ⟨rfl, HB.out⟩
  obtain ⟨l, hl, hl0⟩ := tokens_ok he
  rw [hl] at HT
  have HTL := Aside0.mk hl
  have HL0 := Aside0.mk hl0
  clear he hl hl0
  go_enter Tryd.func4, Tryd.ntmps4
  go_wp2_with fail
  refine HT.out.mono ?_
  rintro e w1 ⟨⟨v, rfl, hr⟩, hb⟩
  rw [show faultV (0, 0) = .nilIface from rfl]
  obtain ⟨g, cap, rfl, hg0, hg1, hrow⟩ := tk_row hr HL0.out
  have HR1 := Aside0.mk hrow
  have HB1 := Aside0.mk hb
  have HG0 := Aside0.mk hg0
  have HG1 := Aside0.mk hg1
  clear hrow hb hg0 hg1 hr HT
  have hgap : ∀ k, 0 ≤ gapG gs k := fun k => by
    unfold gapG
    split
    · rename_i hk
      have : rd gs (k : Int) ∈ gs := by
        unfold rd
        rw [Int.toNat_natCast, List.getD_eq_getElem?_getD, List.getElem?_eq_getElem hk]
        exact List.getElem_mem hk
      exact (HGG.out _ this).1
    · omega
  have HGAP := Aside0.mk hgap
  obtain ⟨b, hb⟩ : ∃ b : Nat → List UInt8, (fun k => (bkB (gapG gs k)).data.toList) = b := ⟨_, rfl⟩
  have hbl : ∀ k, b k ∈ blanksL := fun k => by rw [← hb]; exact (bk_f _ (hgap k)).2
  have HBK := Aside0.mk hb
  have HBL := Aside0.mk hbl
  have hj := tokens_join (y := ⟨(J b 0 l ++ [10]).toArray⟩) hbl (by have := HLO.out; omega) HTL.out (by simp)
  have HJ := Aside0.mk hj
  clear hj hbl hb hgap HTL
  go_wp2
  go_loopg [7, 8] (l.length) (fun kq v7 v8 wr => ∃ (i : Nat) (u : ByteArray), v7 = .string u ∧ v8 = .int .i64 (i : Int) ∧ Aside0 (kq + i = l.length) ∧ Aside0 (u.data.toList = J b 0 (l.take i)) ∧ Aside0 (Below w.heap.size w wr) ∧ Aside0 (TkRow wr g l) ∧ Aside0 (g < wr.heap.size))
  case atStart => exact ⟨0, ⟨#[]⟩, rfl, rfl, ⟨rfl⟩, ⟨rfl⟩, HB1, HR1, HG1⟩
  case round =>
    clear HR1 HB1 HG1
    obtain ⟨i, u, rfl, rfl, HK, HU, HB, HR, HG⟩ := hrel
    by_cases hi : i < l.length
    · have dl : decide ((i : Int) < (l.length : Int)) = true := decide_eq_true (by omega)
      have dl2 : decide (i < l.length) = true := decide_eq_true hi
      obtain ⟨go, rfl⟩ : ∃ go, gk = go + 1 := ⟨gk - 1, by have := HK.out; omega⟩
      obtain ⟨t, ht⟩ : ∃ t, l[i] = t := ⟨_, rfl⟩
      have htg : l[i]? = some t := by rw [List.getElem?_eq_getElem hi, ht]
      have HTG := Aside0.mk htg
      obtain ⟨a, ha, hsz, hex⟩ := HJ.out.1 t (by rw [← ht]; exact List.getElem_mem hi)
      have hr := HR.out i t htg
      have c1 : wr.cell? ⟨g, i * 4 + 1, none⟩ = some (.string t.t) := hr 1 _ rfl
      have c3 : wr.cell? ⟨g, i * 4 + 3, none⟩ = some (.int .i64 (a : Int)) := by rw [← ha]; exact hr 3 _ rfl
      have hil : (i : Int) < (l.length : Int) := by omega
      have hil2 := HJ.out.2.1
      have da : decide ((a : Int) < 0) = false := decide_eq_false (by omega)
      have hw : IntKind.wrap .i64 ((a : Int) + (t.t.size : Int)) = (a : Int) + (t.t.size : Int) := by
        have h1 := HLO.out
        rw [i64_w, L.wr _ (by omega) (by omega)]
      have db : decide ((s.size : Int) < (a : Int) + (t.t.size : Int)) = false := decide_eq_false (by omega)
      have db2 : decide (s.size < a + t.t.size) = false := decide_eq_false (by omega)
      have pa : (0 ≤ (a : Int)) = True := eq_true (by omega)
      have pb : ((a : Int) + (t.t.size : Int) ≤ (s.size : Int)) = True := eq_true (by omega)
      have pc : ((a : Int) ≤ (a : Int) + (t.t.size : Int)) = True := eq_true (by omega)
      clear hr htg
      by_cases hgi : i < gs.length
      · have e1 : decide ((i : Int) < (gs.length : Int)) = true := decide_eq_true (by omega)
        have e2 : decide (i < gs.length) = true := decide_eq_true hgi
        have p150 : 0 ≤ (i : Int) := by omega
        have q150 : (i : Int) < (gs.length : Int) := by omega
        obtain ⟨ad150, e150, hx150⟩ := Kd.at_int (Kd.C_below HC.out HB.out) (i : Int) p150 q150
        subst e150
        rw [Int.toNat_natCast] at hx150
        obtain ⟨gv, hgv⟩ : ∃ gv, rd gs (i : Int) = gv := ⟨_, rfl⟩
        rw [hgv] at hx150
        have HGV : Aside0 (gapG gs i = gv) := ⟨by unfold gapG; rw [if_pos hgi, hgv]⟩
        clear hgv
        replace p150 := eq_true p150
        replace q150 := eq_true q150
        go_wp2
        go_quiet (fail)
        go_wp2
        have hus : u.size ≤ 20000 := by
          have h1 := J_take (b := b) l 0 i
          have h2 := HJ.out.2.2.1
          rw [← len_list, HU.out]
          have h3 : (⟨(J b 0 l ++ [10]).toArray⟩ : ByteArray).size = (J b 0 l ++ [10]).length := by rw [← len_list]
          rw [h3, List.length_append] at h2
          omega
        have hbk : (bkB gv).size ≤ 10 := by
          have h1 : ∀ v ∈ blanksL, v.length ≤ 10 := by decide
          have h2 := h1 _ (bk_f gv (by have := HGAP.out i; rw [HGV.out] at this; exact this)).2
          rw [len_list] at h2
          exact h2
        have k1 : (9223372036854775807 < u.size + (bkB gv).size) = False := eq_false (by omega)
        have k2 : (9223372036854775807 < u.size + (bkB gv).size + t.t.size) = False := eq_false (by have := HLO.out; omega)
        have k3 : (9223372036854775807 < (u ++ bkB gv).size + t.t.size) = False := by rw [ByteArray.size_append]; exact k2
        have cw : (wr.drewN nq).drew.cell? ⟨g, i * 4 + 1, none⟩ = some (.string t.t) := c1
        have HB5 : Aside0 (Below w.heap.size w (wr.drewN nq).drew) := ⟨below_drew1 (pw_below_drewN HB.out nq)⟩
        have HR5 : Aside0 (TkRow (wr.drewN nq).drew g l) := ⟨fun i t h => HR.out i t h⟩
        have HG5 : Aside0 (g < (wr.drewN nq).drew.heap.size) := ⟨HG.out⟩
        refine start_ (n := 11) (S := fun w' => w'.cell? ⟨g, i * 4 + 1, none⟩ = some (.string t.t)) (ds := []) #[false, false, false, false, false, false, false, false, false, false, false] (by kernel_rfl) rfl rfl cw (fun hHeld => ?_)
        generalize (wr.drewN nq).drew = W5 at HB5 HR5 HG5 hHeld ⊢
        clear HB HR HG c1 c3 cw
        refine pure_ (i := 0) (N := some 91) (v := ?_) (a' := ?_) #[true, false, false, false, false, false, false, false, false, false, false] rfl rfl (by kernel_rfl) (fun _ _ _ h => h) (Or.inl ⟨by rfl, ?_⟩) ?_ ?_
        rotate_left
        · intro w'
          go_simp
          with_reducible rfl
        rotate_left
        · simp only [Act.put, List.setIfInBounds_toArray, List.set_cons_zero, List.set_cons_succ, i64_w, i32_w]
          rfl
        refine pure_ (i := 1) (N := some 92) (v := ?_) (a' := ?_) #[true, true, false, false, false, false, false, false, false, false, false] rfl rfl (by kernel_rfl) (fun _ _ _ h => h) (Or.inl ⟨by rfl, ?_⟩) ?_ ?_
        rotate_left
        · intro w'
          go_simp
          with_reducible rfl
        rotate_left
        · simp only [Act.put, List.setIfInBounds_toArray, List.set_cons_zero, List.set_cons_succ, i64_w, i32_w]
          rfl
        refine pure_ (i := 4) (N := some 95) (v := ?_) (a' := ?_) #[true, true, false, false, true, false, false, false, false, false, false] rfl rfl (by kernel_rfl) (fun _ _ _ h => h) (Or.inl ⟨by rfl, ?_⟩) ?_ ?_
        rotate_left
        · intro w'
          go_simp
          with_reducible rfl
        rotate_left
        · simp only [Act.put, List.setIfInBounds_toArray, List.set_cons_zero, List.set_cons_succ, i64_w, i32_w]
          rfl
        refine pure_ (i := 5) (N := some 96) (v := ?_) (a' := ?_) #[true, true, false, false, true, true, false, false, false, false, false] rfl rfl (by kernel_rfl) (fun _ _ _ h => h) (Or.inl ⟨by rfl, ?_⟩) ?_ ?_
        rotate_left
        · intro w'
          go_simp
          with_reducible rfl
        rotate_left
        · simp only [Act.put, List.setIfInBounds_toArray, List.set_cons_zero, List.set_cons_succ, i64_w, i32_w]
          rfl
        refine pure_ (i := 6) (N := some 97) (v := ?_) (a' := ?_) #[true, true, false, false, true, true, true, false, false, false, false] rfl rfl (by kernel_rfl) (fun _ _ _ h => h) (Or.inl ⟨by rfl, ?_⟩) ?_ ?_
        rotate_left
        · intro w'
          go_simp
          with_reducible rfl
        rotate_left
        · simp only [Act.put, List.setIfInBounds_toArray, List.set_cons_zero, List.set_cons_succ, i64_w, i32_w]
          rfl
        refine pure_ (i := 7) (N := some 98) (v := ?_) (a' := ?_) #[true, true, false, false, true, true, true, true, false, false, false] rfl rfl (by kernel_rfl) (fun _ _ _ h => h) (Or.inl ⟨by rfl, ?_⟩) ?_ ?_
        rotate_left
        · intro w'
          go_simp
          with_reducible rfl
        rotate_left
        · simp only [Act.put, List.setIfInBounds_toArray, List.set_cons_zero, List.set_cons_succ, i64_w, i32_w]
          rfl
        refine take_ (i := 8) (N := some 99) (v := ?_) (a' := ?_) #[true, true, false, false, true, true, true, true, true, false, false] rfl rfl (by kernel_rfl) (fun _ _ _ h => h) (Or.inl ⟨by rfl, ?_⟩) hHeld ?_ ?_
        rotate_left
        · rintro w' s0
          go_simp
          with_reducible rfl
        rotate_left
        · simp only [Act.put, List.setIfInBounds_toArray, List.set_cons_zero, List.set_cons_succ, i64_w, i32_w]
          rfl
        refine one_ (i := 2) (N := some 93) #[true, true, true, false, true, true, true, true, true, false, false] rfl rfl (by kernel_rfl) (by decide) (fun K hK => ?_)
        refine goes_ Tryd.func13 (by kernel_rfl) rfl #[.int .u8 gv] (by rfl) rfl rfl (by simp only [List.map_toArray, List.map_cons, List.map_nil]; rfl) ?_
        refine (carillonlaw03_blanks.calls gv _ W5 (bk_f gv (by have := HGAP.out i; rw [HGV.out] at this; exact this)).1).mono ?_
        rintro e W6 ⟨rfl, hb⟩
        have c6 : W6.cell? ⟨g, i * 4 + 1, none⟩ = some (.string t.t) := by simpa [World.cell?, hb.block g HG5.out] using hHeld
        refine ⟨_, rfl, hK.out _ _ c6 (fun _ => ?_)⟩
        clear hK K hHeld
        have HB6 := Aside0.mk (HB5.out.trans (hb.mono HB5.out.size))
        have HR6 := Aside0.mk (HR5.out.below HG5.out hb)
        have HG6 : Aside0 (g < W6.heap.size) := ⟨Nat.lt_of_lt_of_le HG5.out hb.size⟩
        clear hb HB5 HR5 HG5
        refine norm_ (a' := ?_) ?_ ?_
        rotate_left
        · simp only [Act.put, List.setIfInBounds_toArray, List.set_cons_zero, List.set_cons_succ, i64_w, i32_w]
          rfl
        refine pure_ (i := 3) (N := some 94) (v := ?_) (a' := ?_) #[true, true, true, true, true, true, true, true, true, false, false] rfl rfl (by kernel_rfl) (fun _ _ _ h => h) (Or.inl ⟨by rfl, ?_⟩) ?_ ?_
        rotate_left
        · intro w'
          go_simp
          with_reducible rfl
        rotate_left
        · simp only [Act.put, List.setIfInBounds_toArray, List.set_cons_zero, List.set_cons_succ, i64_w, i32_w]
          rfl
        refine pure_ (i := 9) (N := some 100) (v := ?_) (a' := ?_) #[true, true, true, true, true, true, true, true, true, true, false] rfl rfl (by kernel_rfl) (fun _ _ _ h => h) (Or.inl ⟨by rfl, ?_⟩) ?_ ?_
        rotate_left
        · intro w'
          go_simp
          with_reducible rfl
        rotate_left
        · simp only [Act.put, List.setIfInBounds_toArray, List.set_cons_zero, List.set_cons_succ, i64_w, i32_w]
          rfl
        refine pure_ (i := 10) (N := some 7) (v := ?_) (a' := ?_) #[true, true, true, true, true, true, true, true, true, true, true] rfl rfl (by kernel_rfl) (fun _ _ _ h => h) (Or.inl ⟨by rfl, ?_⟩) ?_ ?_
        rotate_left
        · intro w'
          go_simp
          with_reducible rfl
        rotate_left
        · simp only [Act.put, List.setIfInBounds_toArray, List.set_cons_zero, List.set_cons_succ, i64_w, i32_w]
          rfl
        refine done_ (by kernel_rfl) ?_
        go_wp2
        go_roundg go
        case measure => omega
        case rel =>
          refine ⟨i + 1, (u ++ bkB gv) ++ t.t, by first | rfl | simp, by first | rfl | simp, ⟨by have := HK.out; omega⟩, ⟨?_⟩, HB6, HR6, HG6⟩
          rw [ByteArray.data_append, ByteArray.data_append, Array.toList_append, Array.toList_append, HU.out, List.take_add_one, HTG.out, Option.toList_some, J_snoc, List.length_take, Nat.min_eq_left (by omega), Nat.zero_add, ← HBK.out]
          simp only [HGV.out]
          rw [List.append_assoc]
      · have e1 : decide ((i : Int) < (gs.length : Int)) = false := decide_eq_false (by omega)
        have e2 : decide (i < gs.length) = false := decide_eq_false hgi
        obtain ⟨gv, hgv⟩ : ∃ gv, (i : Int) % 256 = gv := ⟨_, rfl⟩
        have HGV : Aside0 (gapG gs i = gv) := ⟨by unfold gapG; rw [if_neg hgi, hgv]⟩
        have hgw : IntKind.wrap .u8 (i : Int) = gv := by rw [← hgv]; rfl
        clear hgv
        go_wp2
        go_quiet (fail)
        go_wp2
        have hus : u.size ≤ 20000 := by
          have h1 := J_take (b := b) l 0 i
          have h2 := HJ.out.2.2.1
          rw [← len_list, HU.out]
          have h3 : (⟨(J b 0 l ++ [10]).toArray⟩ : ByteArray).size = (J b 0 l ++ [10]).length := by rw [← len_list]
          rw [h3, List.length_append] at h2
          omega
        have hbk : (bkB gv).size ≤ 10 := by
          have h1 : ∀ v ∈ blanksL, v.length ≤ 10 := by decide
          have h2 := h1 _ (bk_f gv (by have := HGAP.out i; rw [HGV.out] at this; exact this)).2
          rw [len_list] at h2
          exact h2
        have k1 : (9223372036854775807 < u.size + (bkB gv).size) = False := eq_false (by omega)
        have k2 : (9223372036854775807 < u.size + (bkB gv).size + t.t.size) = False := eq_false (by have := HLO.out; omega)
        have k3 : (9223372036854775807 < (u ++ bkB gv).size + t.t.size) = False := by rw [ByteArray.size_append]; exact k2
        have cw : (wr.drewN nq).drew.cell? ⟨g, i * 4 + 1, none⟩ = some (.string t.t) := c1
        have HB5 : Aside0 (Below w.heap.size w (wr.drewN nq).drew) := ⟨below_drew1 (pw_below_drewN HB.out nq)⟩
        have HR5 : Aside0 (TkRow (wr.drewN nq).drew g l) := ⟨fun i t h => HR.out i t h⟩
        have HG5 : Aside0 (g < (wr.drewN nq).drew.heap.size) := ⟨HG.out⟩
        refine start_ (n := 11) (S := fun w' => w'.cell? ⟨g, i * 4 + 1, none⟩ = some (.string t.t)) (ds := []) #[false, false, false, false, false, false, false, false, false, false, false] (by kernel_rfl) rfl rfl cw (fun hHeld => ?_)
        generalize (wr.drewN nq).drew = W5 at HB5 HR5 HG5 hHeld ⊢
        clear HB HR HG c1 c3 cw
        refine pure_ (i := 0) (N := some 91) (v := ?_) (a' := ?_) #[true, false, false, false, false, false, false, false, false, false, false] rfl rfl (by kernel_rfl) (fun _ _ _ h => h) (Or.inl ⟨by rfl, ?_⟩) ?_ ?_
        rotate_left
        · intro w'
          go_simp
          with_reducible rfl
        rotate_left
        · simp only [Act.put, List.setIfInBounds_toArray, List.set_cons_zero, List.set_cons_succ, i64_w, i32_w]
          rfl
        refine pure_ (i := 1) (N := some 92) (v := ?_) (a' := ?_) #[true, true, false, false, false, false, false, false, false, false, false] rfl rfl (by kernel_rfl) (fun _ _ _ h => h) (Or.inl ⟨by rfl, ?_⟩) ?_ ?_
        rotate_left
        · intro w'
          go_simp
          with_reducible rfl
        rotate_left
        · simp only [Act.put, List.setIfInBounds_toArray, List.set_cons_zero, List.set_cons_succ, i64_w, i32_w]
          rfl
        refine pure_ (i := 4) (N := some 95) (v := ?_) (a' := ?_) #[true, true, false, false, true, false, false, false, false, false, false] rfl rfl (by kernel_rfl) (fun _ _ _ h => h) (Or.inl ⟨by rfl, ?_⟩) ?_ ?_
        rotate_left
        · intro w'
          go_simp
          with_reducible rfl
        rotate_left
        · simp only [Act.put, List.setIfInBounds_toArray, List.set_cons_zero, List.set_cons_succ, i64_w, i32_w]
          rfl
        refine pure_ (i := 5) (N := some 96) (v := ?_) (a' := ?_) #[true, true, false, false, true, true, false, false, false, false, false] rfl rfl (by kernel_rfl) (fun _ _ _ h => h) (Or.inl ⟨by rfl, ?_⟩) ?_ ?_
        rotate_left
        · intro w'
          go_simp
          with_reducible rfl
        rotate_left
        · simp only [Act.put, List.setIfInBounds_toArray, List.set_cons_zero, List.set_cons_succ, i64_w, i32_w]
          rfl
        refine pure_ (i := 6) (N := some 97) (v := ?_) (a' := ?_) #[true, true, false, false, true, true, true, false, false, false, false] rfl rfl (by kernel_rfl) (fun _ _ _ h => h) (Or.inl ⟨by rfl, ?_⟩) ?_ ?_
        rotate_left
        · intro w'
          go_simp
          with_reducible rfl
        rotate_left
        · simp only [Act.put, List.setIfInBounds_toArray, List.set_cons_zero, List.set_cons_succ, i64_w, i32_w]
          rfl
        refine pure_ (i := 7) (N := some 98) (v := ?_) (a' := ?_) #[true, true, false, false, true, true, true, true, false, false, false] rfl rfl (by kernel_rfl) (fun _ _ _ h => h) (Or.inl ⟨by rfl, ?_⟩) ?_ ?_
        rotate_left
        · intro w'
          go_simp
          with_reducible rfl
        rotate_left
        · simp only [Act.put, List.setIfInBounds_toArray, List.set_cons_zero, List.set_cons_succ, i64_w, i32_w]
          rfl
        refine take_ (i := 8) (N := some 99) (v := ?_) (a' := ?_) #[true, true, false, false, true, true, true, true, true, false, false] rfl rfl (by kernel_rfl) (fun _ _ _ h => h) (Or.inl ⟨by rfl, ?_⟩) hHeld ?_ ?_
        rotate_left
        · rintro w' s0
          go_simp
          with_reducible rfl
        rotate_left
        · simp only [Act.put, List.setIfInBounds_toArray, List.set_cons_zero, List.set_cons_succ, i64_w, i32_w]
          rfl
        refine one_ (i := 2) (N := some 93) #[true, true, true, false, true, true, true, true, true, false, false] rfl rfl (by kernel_rfl) (by decide) (fun K hK => ?_)
        refine goes_ Tryd.func13 (by kernel_rfl) rfl #[.int .u8 gv] (by rfl) rfl rfl (by simp only [List.map_toArray, List.map_cons, List.map_nil]; rfl) ?_
        refine (carillonlaw03_blanks.calls gv _ W5 (bk_f gv (by have := HGAP.out i; rw [HGV.out] at this; exact this)).1).mono ?_
        rintro e W6 ⟨rfl, hb⟩
        have c6 : W6.cell? ⟨g, i * 4 + 1, none⟩ = some (.string t.t) := by simpa [World.cell?, hb.block g HG5.out] using hHeld
        refine ⟨_, rfl, hK.out _ _ c6 (fun _ => ?_)⟩
        clear hK K hHeld
        have HB6 := Aside0.mk (HB5.out.trans (hb.mono HB5.out.size))
        have HR6 := Aside0.mk (HR5.out.below HG5.out hb)
        have HG6 : Aside0 (g < W6.heap.size) := ⟨Nat.lt_of_lt_of_le HG5.out hb.size⟩
        clear hb HB5 HR5 HG5
        refine norm_ (a' := ?_) ?_ ?_
        rotate_left
        · simp only [Act.put, List.setIfInBounds_toArray, List.set_cons_zero, List.set_cons_succ, i64_w, i32_w]
          rfl
        refine pure_ (i := 3) (N := some 94) (v := ?_) (a' := ?_) #[true, true, true, true, true, true, true, true, true, false, false] rfl rfl (by kernel_rfl) (fun _ _ _ h => h) (Or.inl ⟨by rfl, ?_⟩) ?_ ?_
        rotate_left
        · intro w'
          go_simp
          with_reducible rfl
        rotate_left
        · simp only [Act.put, List.setIfInBounds_toArray, List.set_cons_zero, List.set_cons_succ, i64_w, i32_w]
          rfl
        refine pure_ (i := 9) (N := some 100) (v := ?_) (a' := ?_) #[true, true, true, true, true, true, true, true, true, true, false] rfl rfl (by kernel_rfl) (fun _ _ _ h => h) (Or.inl ⟨by rfl, ?_⟩) ?_ ?_
        rotate_left
        · intro w'
          go_simp
          with_reducible rfl
        rotate_left
        · simp only [Act.put, List.setIfInBounds_toArray, List.set_cons_zero, List.set_cons_succ, i64_w, i32_w]
          rfl
        refine pure_ (i := 10) (N := some 7) (v := ?_) (a' := ?_) #[true, true, true, true, true, true, true, true, true, true, true] rfl rfl (by kernel_rfl) (fun _ _ _ h => h) (Or.inl ⟨by rfl, ?_⟩) ?_ ?_
        rotate_left
        · intro w'
          go_simp
          with_reducible rfl
        rotate_left
        · simp only [Act.put, List.setIfInBounds_toArray, List.set_cons_zero, List.set_cons_succ, i64_w, i32_w]
          rfl
        refine done_ (by kernel_rfl) ?_
        go_wp2
        go_roundg go
        case measure => omega
        case rel =>
          refine ⟨i + 1, (u ++ bkB gv) ++ t.t, by first | rfl | simp, by first | rfl | simp, ⟨by have := HK.out; omega⟩, ⟨?_⟩, HB6, HR6, HG6⟩
          rw [ByteArray.data_append, ByteArray.data_append, Array.toList_append, Array.toList_append, HU.out, List.take_add_one, HTG.out, Option.toList_some, J_snoc, List.length_take, Nat.min_eq_left (by omega), Nat.zero_add, ← HBK.out]
          simp only [HGV.out]
          rw [List.append_assoc]
    · have dl : decide ((i : Int) < (l.length : Int)) = false := decide_eq_false (by omega)
      have dl2 : decide (i < l.length) = false := decide_eq_false hi
      have hu := HU.out
      rw [List.take_of_length_le (by omega)] at hu
      have hy : u ++ (⟨#[10]⟩ : ByteArray) = ⟨(J b 0 l ++ [10]).toArray⟩ := bytes_eq (by rw [ByteArray.data_append, Array.toList_append, hu])
      obtain ⟨_, hl1026, hy2, l2, ht2, hsame, hinc⟩ := HJ.out
      have HSZ2 := Aside0.mk hl1026
      rw [← hy] at hy2 ht2
      have hlen2 : l2.length = l.length := by simpa using congrArg List.length hsame
      have hus : u.size + 1 ≤ 20000 := by
        have h1 : (u ++ (⟨#[10]⟩ : ByteArray)).size = u.size + 1 := by rw [ByteArray.size_append]; rfl
        omega
      have k1 : (9223372036854775807 < u.size + 1) = False := eq_false (by omega)
      have htc := tokens_calls (u ++ (⟨#[10]⟩ : ByteArray)) (by omega) wr (HL.out.below HB.out)
      rw [ht2] at htc
      have HTC := Aside0.mk htc
      have HSM := Aside0.mk hsame
      have HIN := Aside0.mk hinc
      have HLN := Aside0.mk hlen2
      clear hl1026 htc hsame hinc hy hy2 ht2 hlen2 hus HJ HBL HBK HGAP HU hi hu
      go_wp2_with fail
      refine HTC.out.mono ?_
      rintro e w2 ⟨⟨v, rfl, hr⟩, hb⟩
      rw [show faultV (0, 0) = .nilIface from rfl]
      obtain ⟨g2, cap2, rfl, hg0, hg2, hrow2⟩ := tk_row hr (by rw [HLN.out]; exact HL0.out)
      have HRa := Aside0.mk (HR.out.below HG.out hb)
      have HGa : Aside0 (g < w2.heap.size) := ⟨Nat.lt_of_lt_of_le HG.out hb.size⟩
      have HBa := Aside0.mk (HB.out.trans (hb.mono HB.out.size))
      have HRb := Aside0.mk hrow2
      have HGb := Aside0.mk hg2
      clear hb hr hg0 hg2 hrow2 HTC HR HG HB
      rw [HLN.out]
      go_wp2
      go_loopg [12] (l.length) (fun kq v12 wr => ∃ (i : Nat), v12 = .int .i64 (i : Int) ∧ Aside0 (kq + i = l.length) ∧ Aside0 (Below w.heap.size w wr) ∧ Aside0 (TkRow wr g l) ∧ Aside0 (TkRow wr g2 l2))
      case atStart => exact ⟨0, rfl, ⟨rfl⟩, HBa, HRa, HRb⟩
      case round =>
        clear HRa HGa HBa HRb HGb HK
        obtain ⟨i, rfl, HK, HB, HR, HR2⟩ := hrel
        by_cases hi : i < l.length
        · have dl3 : decide ((i : Int) < (l.length : Int)) = true := decide_eq_true (by omega)
          have dl4 : decide (i < l.length) = true := decide_eq_true hi
          obtain ⟨go, rfl⟩ : ∃ go, gk = go + 1 := ⟨gk - 1, by have := HK.out; omega⟩
          have hi2 : i < l2.length := by have := HLN.out; omega
          obtain ⟨t, ht⟩ : ∃ t, l[i] = t := ⟨_, rfl⟩
          obtain ⟨t2, ht2⟩ : ∃ t2, l2[i] = t2 := ⟨_, rfl⟩
          have htg : l[i]? = some t := by rw [List.getElem?_eq_getElem hi, ht]
          have htg2 : l2[i]? = some t2 := by rw [List.getElem?_eq_getElem hi2, ht2]
          have hsm : same3 t2 = same3 t := by
            have h1 := congrArg (fun z => z[i]?) HSM.out
            simp only [List.getElem?_map, htg, htg2, Option.map_some] at h1
            exact Option.some.inj h1
          have s1 : t2.k = t.k := congrArg (·.1) hsm
          have s2 : t2.t = t.t := congrArg (·.2.1) hsm
          have s3 : t2.n = t.n := congrArg (·.2.2) hsm
          have hr := HR.out i t htg
          have hr2 := HR2.out i t2 htg2
          have c0 : wr.cell? ⟨g, i * 4, none⟩ = some (.int .u8 t.k) := hr 0 _ rfl
          have c1 : wr.cell? ⟨g, i * 4 + 1, none⟩ = some (.string t.t) := hr 1 _ rfl
          have c2 : wr.cell? ⟨g, i * 4 + 2, none⟩ = some (.int .i64 t.n) := hr 2 _ rfl
          have e0 : wr.cell? ⟨g2, i * 4, none⟩ = some (.int .u8 t.k) := by rw [← s1]; exact hr2 0 _ rfl
          have e1 : wr.cell? ⟨g2, i * 4 + 1, none⟩ = some (.string t.t) := by rw [← s2]; exact hr2 1 _ rfl
          have e2 : wr.cell? ⟨g2, i * 4 + 2, none⟩ = some (.int .i64 t.n) := by rw [← s3]; exact hr2 2 _ rfl
          have e3 : wr.cell? ⟨g2, i * 4 + 3, none⟩ = some (.int .i64 t2.a) := hr2 3 _ rfl
          have hil : (i : Int) < (l.length : Int) := by omega
          have HT2 := Aside0.mk htg2
          clear hr hr2 s1 s2 s3 hsm htg htg2 hi2 ht ht2
          by_cases h0 : i = 0
          · subst h0
            rw [Nat.zero_mul] at c0 e0
            rw [Nat.zero_mul, Nat.zero_add] at c1 c2 e1 e2 e3
            go_wp2
            go_quiet (fail)
            go_wp2
            go_roundg go
            case measure => omega
            case rel => exact ⟨1, by first | rfl | simp, ⟨by have := HK.out; omega⟩, ⟨pw_below_drewN HB.out _⟩, ⟨fun i t h => HR.out i t h⟩, ⟨fun i t h => HR2.out i t h⟩⟩
          · obtain ⟨j, hj⟩ : ∃ j, j + 1 = i := ⟨i - 1, by omega⟩
            have hj2 : j < l2.length := by have := HLN.out; omega
            obtain ⟨tp, htp⟩ : ∃ tp, l2[j] = tp := ⟨_, rfl⟩
            have htpg : l2[j]? = some tp := by rw [List.getElem?_eq_getElem hj2, htp]
            have e4 : wr.cell? ⟨g2, j * 4 + 3, none⟩ = some (.int .i64 tp.a) := HR2.out j tp htpg 3 _ rfl
            have hlt := Inc_at HIN.out htpg (by rw [hj]; exact HT2.out)
            have dd : decide (t2.a ≤ tp.a) = false := decide_eq_false (by omega)
            have dp : decide ((0 : Int) < (i : Int)) = true := decide_eq_true (by omega)
            have dp2 : decide (0 < i) = true := decide_eq_true (by omega)
            have hw : IntKind.wrap .i64 ((i : Int) - 1) = (j : Int) := by
              have := HSZ2.out
              rw [i64_w, L.wr _ (by omega) (by omega)]
              omega
            have pj : (0 ≤ (j : Int)) = True := eq_true (by omega)
            have qj : ((j : Int) < (l.length : Int)) = True := eq_true (by omega)
            clear htp htpg hlt h0 hj hj2
            go_wp2
            go_quiet (fail)
            go_wp2
            go_roundg go
            case measure => omega
            case rel => exact ⟨i + 1, by first | rfl | (rw [L.wr _ (by omega) (by have := HSZ2.out; omega)]; simp), ⟨by have := HK.out; omega⟩, ⟨pw_below_drewN HB.out _⟩, ⟨fun i t h => HR.out i t h⟩, ⟨fun i t h => HR2.out i t h⟩⟩
        · have dl3 : decide ((i : Int) < (l.length : Int)) = false := decide_eq_false (by omega)
          have dl4 : decide (i < l.length) = false := decide_eq_false hi
          have HA := Aside0.mk (alive_calls wr (HL.out.below HB.out))
          clear hi
          go_wp2_with fail
          refine HA.out.mono ?_
          rintro e w3 ⟨rfl, hb⟩
          have HBz := Aside0.mk (HB.out.trans (hb.mono HB.out.size))
          clear hb
          go_wp2
          go_ret
          exact ⟨rfl, HBz.out⟩
end Go.Proofs.YtpgdmghhbbekjaaDoor.L
end
section
set_option linter.unusedVariables false
namespace Go.Proofs.YtpgdmghhbbekjaaDoor.L
open Go.RowKit Go.Stop
theorem pE : Tryd.prog.globalNamed "strconv.ErrRange" = some 4 := by kernel_rfl
theorem pS : Tryd.prog.globalNamed "strconv.ErrSyntax" = some 3 := by kernel_rfl
theorem pT : Tryd.prog.globalNamed "strings.asciiSpace" = some 1 := by kernel_rfl
theorem tyE : (Tryd.prog.globals[4]?).map (·.type) = some 30 := by kernel_rfl
theorem tyS : (Tryd.prog.globals[3]?).map (·.type) = some 30 := by kernel_rfl
theorem tyT : (Tryd.prog.globals[1]?).map (·.type) = some 76 := by kernel_rfl
theorem starE : "*" ++ "errors.errorString" = "*errors.errorString" := by decide
theorem rowE (u : TypeId) (h : Tryd.prog.typeName? 3 u = some "*errors.errorString") : u = 117 :=
  typeName_ptr_named (nm := "errors.errorString") (by rw [starE]; kernel_rfl) (by kernel_rfl) (by decide) u (by rw [starE]; exact h)
theorem lib_of_three {W : World} {r1 r2 r3 : List (String × DataW Unit)} {d1 d2 : List UInt8} (h1 : laidMet Tryd.prog (("strconv.ErrRange", .iface "*errors.errorString" (.ptr (.agg [.lit (.string d1)]))) :: r1) W)
    (h2 : laidMet Tryd.prog (("strconv.ErrSyntax", .iface "*errors.errorString" (.ptr (.agg [.lit (.string d2)]))) :: r2) W)
    (h3 : laidMet Tryd.prog (("strings.asciiSpace", Lib.tabData .u8 Lib.asciiSpaceTab) :: r3) W) : Lib3 W := by
  obtain ⟨a1, s1, v1, _⟩ := laid_sentinel h1 pE tyE Tryd.underlying30 rowE Tryd.underlying117 Tryd.underlying119 rfl rfl Tryd.underlying9 (by kernel_rfl) (by kernel_rfl)
  obtain ⟨a2, s2, v2, _⟩ := laid_sentinel h2 pS tyS Tryd.underlying30 rowE Tryd.underlying117 Tryd.underlying119 rfl rfl Tryd.underlying9 (by kernel_rfl) (by kernel_rfl)
  exact ⟨Lib.tabIs_of_head pT tyT Tryd.underlying76 Tryd.underlying5 (by kernel_rfl) (by kernel_rfl) h3, ⟨_, _, v2⟩, ⟨_, _, v1⟩⟩
end Go.Proofs.YtpgdmghhbbekjaaDoor.L
end
