-- Printed by a program (hyb.py) out of the translation. Lean checks it.
import Derived.Test.YtnaapecmooljaaaHx0
namespace Go.Proofs.Ytnaapecmooljaaa.H
open Go.RowKit Go.Proofs.YtnaapecmooljaaaW.PrintWords Go.Proofs.YtnaapecmooljaaaW.PrintLast Go.Proofs.YtnaapecmooljaaaW.PrintMore
attribute [local go_sem] max2_int min2_int max_two min_two max_three min_three max_four min_four   -- for this text's walks alone
set_option linter.unusedVariables false
set_option linter.unusedSimpArgs false

/-! ### carillonlaw19_good: function 45 -/
def carillonlaw19_good.f  : Option ((List (S26))) := some (([(⟨4, 0⟩ : S26), (⟨5, 0⟩ : S26), (⟨23, 0⟩ : S26)] : List (S26)))
set_option maxHeartbeats 8000000 in
set_option maxRecDepth 100000 in
theorem carillonlaw19_good.calls  (r : List (S26)) (w : World) (h : carillonlaw19_good.f  = some r) :
    Calls Try.prog 45 #[] w fun e w' => ∃ v0_ : Value, e = .returned (v0_) ∧ Kd.R k26 26 w' w.heap.size (fun _ => True) v0_ r ∧ Below w.heap.size w w' := by
  have hu26 := Try.underlying26
  have HB := Aside0.mk (Below.refl w.heap.size w)
  have H : (some (([(⟨4, 0⟩ : S26), (⟨5, 0⟩ : S26), (⟨23, 0⟩ : S26)] : List (S26)))) = some r := h
  clear h
  obtain ⟨y418, hy418⟩ : ∃ y_ : List (S26), y_ = (([(⟨4, 0⟩ : S26), (⟨5, 0⟩ : S26), (⟨23, 0⟩ : S26)] : List (S26))) := ⟨_, rfl⟩
  replace H : (some y418) = some r := by first | (rw [hy418]; with_reducible exact H) | (have H2_ := (Option.bind_some _ _).symm.trans H; rw [hy418]; with_reducible exact H2_) | (have H2_ := (Option.bind_some _ _).symm.trans H; with_reducible exact H2_) | with_reducible exact H | (rw [hy418]; exact H) | exact H
  have Ny418 := Aside0.mk hy418
  clear hy418
  obtain rfl := Option.some.inj H
  go_enter Try.func45, Try.ntmps45
  go_wp2_with (first | ((with_reducible refine gate_dst (N := 4) rfl ?_); refine Kd.R_lit k26 _ 26 ?hg (N := 4) ?hd (xs := ([(⟨4, 0⟩ : S26), (⟨5, 0⟩ : S26), (⟨23, 0⟩ : S26)] : List (S26))) (inner := [.int .u8 4, .int .i64 0, .int .u8 5, .int .i64 0, .int .u8 23, .int .i64 0]) (ok := fun _ => True) (okp := fun _ => True) ?hr ?hp (fun _ hk => hk) trivial (Below.refl _ _) (Nat.le_refl _) (by simp) ?_; (case hd => rfl); (case hg => rfl); (case hr => first | (go_simp; done) | (go_simp; rfl)); (case hp => exact (Reps.c2 (show Kd.M k26 _ _ _ (⟨4, 0⟩ : S26) [.int .u8 4, .int .i64 0] from (k26_mkM _ _ _ (⟨4, 0⟩ : S26) )) (Reps.c2 (show Kd.M k26 _ _ _ (⟨5, 0⟩ : S26) [.int .u8 5, .int .i64 0] from (k26_mkM _ _ _ (⟨5, 0⟩ : S26) )) (Reps.c2 (show Kd.M k26 _ _ _ (⟨23, 0⟩ : S26) [.int .u8 23, .int .i64 0] from (k26_mkM _ _ _ (⟨23, 0⟩ : S26) )) (Reps.none _ _))))); intro v419 w1 ho2 hb hg_ hnew_; clear hg_ hnew_; (first | rw [← Ny418.out] at ho2 | (simp only [Int.reduceToNat] at ho2; rw [← Ny418.out] at ho2)); have n0_ := Aside0.mk (Kd.R_lower ho2 (below_size (by repeat (first | (with_reducible first | exact HB.out | apply below_alloc | apply pw_below_drewN | apply below_drew1) | exact HB.out)))); have n1_ := Aside0.mk (below_step (by repeat (first | (with_reducible first | exact HB.out | apply below_alloc | apply pw_below_drewN | apply below_drew1) | exact HB.out)) hb); clear HB; have HO420 := n0_; have HB := n1_; clear n0_ n1_; clear hb ho2))
  go_ret
  exact ⟨_, by first | rfl | (simp [errW_none, errW_some] <;> rfl) | (simp [*, errW_none, errW_some] <;> rfl), by (with_reducible repeat (first | apply Kd.R_alloc | apply Kd.R_drewN | apply Kd.R_drew)); exact HO420.out, by repeat (first | (with_reducible first | exact HB.out | apply below_alloc | apply pw_below_drewN | apply below_drew1) | exact HB.out)⟩

end Go.Proofs.Ytnaapecmooljaaa.H
