/- cost.follows' iterator: it tells what follows an instruction. The conditions: the two boxes hold the instruction and its place. -/
import Derived.Test.YtnaapecmooljaaaD18
import Derived.RangeFuncNested
import Derived.RangeFuncBound
import Derived.RangeFuncCalls
import Derived.RangeFuncLeaves
import Derived.Shelf.Abstract
import Derived.Shelf.RegionOpen
import Derived.WalkKit
import Derived.OwnWalkIn
import Derived.TacticsInMore
import Derived.LoopNIn
import Derived.LoopIn
import Derived.Outline
set_option linter.unusedVariables false
set_option linter.unusedSimpArgs false
namespace Go.Proofs.Ytnaapecmooljaaa.H
open Go.RowKit Go.Proofs.YtnaapecmooljaaaW.PrintWords
attribute [local go_sem] Oper.semAt_some

/-- What follows an instruction: the places, and what it is if there is none. -/
def succs (i : S26) (at_ : Nat) : List (Nat × Int) :=
  if i.f0 = 23 then [] else if i.f0 = 21 then [(at_ + i.f1.toNat, 190)] else if i.f0 = 22 then [(at_ + 1, 195), (at_ + i.f1.toNat, 190)] else [(at_ + 1, 195)]
/-- The two boxes lie as they lay. -/
def KpB (bi ba : Nat) (W W' : World) : Prop := W'.heap[bi]? = W.heap[bi]? ∧ W'.heap[ba]? = W.heap[ba]?
def encP (x : Nat × Int) : Array Value := #[.int .i64 (x.1 : Int), .int .i64 x.2]
set_option maxHeartbeats 1000000 in
set_option maxRecDepth 100000 in
theorem follows1_stops (F : Fence) (n : Nat) (hF : F.fn 53) (hro : F.round = none) (hn : 1 ≤ n) (bi ba : Nat) (i : S26) (p : Nat) (hp : p ≤ 4096) (ha : 0 ≤ i.f1 ∧ i.f1 ≤ 4096 ∨ (i.f0 ≠ 21 ∧ i.f0 ≠ 22)) (w : World)
    (hbi : w.heap[bi]? = some (.cells #[.int .u8 i.f0, .int .i64 i.f1] 26 (0, 0))) (hba : w.heap[ba]? = some (.cells #[.int .i64 (p : Int)] 3 (0, 0))) :
    SeqStopsK F n Try.prog 53 #[.pointer (some ⟨bi, 0, none⟩), .pointer (some ⟨ba, 0, none⟩)] encP (KpB bi ba) (fun xs => xs = succs i p) (fun pre => pre <+: succs i p) 2 w := by
  intro l J Jx W hW hJ hJx hY h0
  have hli : bi < w.heap.size := (Array.getElem?_eq_some_iff.1 hbi).1
  have hla : ba < w.heap.size := (Array.getElem?_eq_some_iff.1 hba).1
  have hWi := (hW.block bi hli).trans hbi
  have hWa := (hW.block ba hla).trans hba
  have c0 : W.cell? ⟨bi, 0, none⟩ = some (.int .u8 i.f0) := by simp [World.cell?, hWi]
  have c1 : W.cell? ⟨bi, 1, none⟩ = some (.int .i64 i.f1) := by simp [World.cell?, hWi]
  have c2 : W.cell? ⟨ba, 0, none⟩ = some (.int .i64 (p : Int)) := by simp [World.cell?, hWa]
  refine callsIn_of_wp Try.func53 rfl hF ?_ hro
  simp only [Try.ntmps53, List.size_toArray, List.length_cons, List.length_nil, Nat.reduceAdd, Nat.reduceSub, Array.replicate_succ, Array.replicate_zero, List.push_toArray, List.append_toArray, List.nil_append, List.cons_append]
  by_cases h23 : i.f0 = 23
  · have b23 : (i.f0 == 23) = true := beq_iff_eq.mpr h23
    gi_wp2
    refine bodyPost_ret (results_none rfl _ _ _) rfl ?_
    exact ⟨⟨_, rfl⟩, .inl ⟨[], by simp [succs, h23], h0⟩⟩
  · have b23 : (i.f0 == 23) = false := beq_eq_false_iff_ne.mpr h23
    by_cases h21 : i.f0 = 21
    · have hs : succs i p = [(p + i.f1.toNat, 190)] := by simp [succs, h21]
      have b21 : (i.f0 == 21) = true := beq_iff_eq.mpr h21
      have n21 : (i.f0 != 21) = false := by simp [h21]
      have hb1 : 0 ≤ i.f1 := by omega
      have hb2 : i.f1 ≤ 4096 := by omega
      have HS := Aside0.mk hs
      clear hs h21 h23 ha
      obtain ⟨fn, tmps, assign, body, hy, hR⟩ := hY [] (p + i.f1.toNat, 190) W h0 (by simp)
      simp only [encP] at hy
      rw [show ((p + i.f1.toNat : Nat) : Int) = (p : Int) + i.f1 by omega] at hy
      gi_wp2
      refine ⟨fun _ h => (by cases h), ?_⟩
      gi_wp2
      refine hR.mono ?_
      rintro e W' (⟨rfl, hJ', hk⟩ | ⟨rfl, hJx'⟩)
      · gi_wp2
        go_end0
        exact ⟨⟨_, rfl⟩, .inl ⟨_, HS.out.symm, hJ'⟩⟩
      · gi_wp2
        go_end0
        exact ⟨⟨_, rfl⟩, .inr ⟨_, by rw [HS.out]; exact ⟨[], rfl⟩, hJx'⟩⟩
    · have b21 : (i.f0 == 21) = false := beq_eq_false_iff_ne.mpr h21
      have n21 : (i.f0 != 21) = true := by simp [h21]
      by_cases h22 : i.f0 = 22
      · have b22 : (i.f0 == 22) = true := beq_iff_eq.mpr h22
        have hs : succs i p = [(p + 1, 195), (p + i.f1.toNat, 190)] := by simp [succs, h22]
        have hb1 : 0 ≤ i.f1 := by omega
        have hb2 : i.f1 ≤ 4096 := by omega
        have HS := Aside0.mk hs
        clear hs h21 h22 h23 ha
        obtain ⟨fn, tmps, assign, body, hy, hR⟩ := hY [] (p + 1, 195) W h0 (by simp)
        simp only [encP] at hy
        rw [show ((p + 1 : Nat) : Int) = (p : Int) + 1 by omega] at hy
        gi_wp2
        refine hR.mono ?_
        rintro e W' (⟨rfl, hJ', hk⟩ | ⟨rfl, hJx'⟩)
        · obtain ⟨fn2, tmps2, assign2, body2, hy2, hR2⟩ := hY _ (p + i.f1.toNat, 190) W' hJ' (by simp)
          simp only [encP] at hy2
          rw [show ((p + i.f1.toNat : Nat) : Int) = (p : Int) + i.f1 by omega] at hy2
          have d0 : W'.cell? ⟨bi, 0, none⟩ = some (.int .u8 i.f0) := by simp [World.cell?, hk.1, hWi]
          have d1 : W'.cell? ⟨bi, 1, none⟩ = some (.int .i64 i.f1) := by simp [World.cell?, hk.1, hWi]
          have d2 : W'.cell? ⟨ba, 0, none⟩ = some (.int .i64 (p : Int)) := by simp [World.cell?, hk.2, hWa]
          clear hR
          gi_wp2
          refine hR2.mono ?_
          rintro e W2 (⟨rfl, hJ2, hk2⟩ | ⟨rfl, hJx2⟩)
          · gi_wp2
            go_end0
            exact ⟨⟨_, rfl⟩, .inl ⟨_, HS.out.symm, hJ2⟩⟩
          · gi_wp2
            go_end0
            exact ⟨⟨_, rfl⟩, .inr ⟨_, by rw [HS.out]; exact ⟨[], rfl⟩, hJx2⟩⟩
        · gi_wp2
          refine bodyPost_ret (results_none rfl _ _ _) rfl ?_
          exact ⟨⟨_, rfl⟩, .inr ⟨_, by rw [HS.out]; exact ⟨[(p + i.f1.toNat, 190)], rfl⟩, hJx'⟩⟩
      · have b22 : (i.f0 == 22) = false := beq_eq_false_iff_ne.mpr h22
        have hs : succs i p = [(p + 1, 195)] := by simp [succs, h21, h22, h23]
        have HS := Aside0.mk hs
        clear hs h21 h22 h23 ha
        obtain ⟨fn, tmps, assign, body, hy, hR⟩ := hY [] (p + 1, 195) W h0 (by simp)
        simp only [encP] at hy
        rw [show ((p + 1 : Nat) : Int) = (p : Int) + 1 by omega] at hy
        gi_wp2
        refine hR.mono ?_
        rintro e W' (⟨rfl, hJ', hk⟩ | ⟨rfl, hJx'⟩)
        · have d0 : W'.cell? ⟨bi, 0, none⟩ = some (.int .u8 i.f0) := by simp [World.cell?, hk.1, hWi]
          have d1 : W'.cell? ⟨bi, 1, none⟩ = some (.int .i64 i.f1) := by simp [World.cell?, hk.1, hWi]
          have d2 : W'.cell? ⟨ba, 0, none⟩ = some (.int .i64 (p : Int)) := by simp [World.cell?, hk.2, hWa]
          clear hR
          gi_wp2
          go_end0
          exact ⟨⟨_, rfl⟩, .inl ⟨_, HS.out.symm, hJ'⟩⟩
        · gi_wp2
          refine bodyPost_ret (results_none rfl _ _ _) rfl ?_
          exact ⟨⟨_, rfl⟩, .inr ⟨_, by rw [HS.out]; exact ⟨[], rfl⟩, hJx'⟩⟩
set_option maxHeartbeats 1000000 in
set_option maxRecDepth 100000 in
theorem follows1_stopsP (p_ : Nat × Int → Prop) (F : Fence) (n : Nat) (hF : F.fn 53) (hro : F.round = none) (hn : 1 ≤ n) (bi ba : Nat) (i : S26) (p : Nat) (hp : p ≤ 4096) (ha : 0 ≤ i.f1 ∧ i.f1 ≤ 4096 ∨ (i.f0 ≠ 21 ∧ i.f0 ≠ 22)) (w : World) (hP : ∀ x ∈ succs i p, p_ x)
    (hbi : w.heap[bi]? = some (.cells #[.int .u8 i.f0, .int .i64 i.f1] 26 (0, 0))) (hba : w.heap[ba]? = some (.cells #[.int .i64 (p : Int)] 3 (0, 0))) :
    SeqStopsK F n Try.prog 53 #[.pointer (some ⟨bi, 0, none⟩), .pointer (some ⟨ba, 0, none⟩)] (fun x : {x : Nat × Int // p_ x} => encP x.1) (KpB bi ba) (fun xs => xs.map Subtype.val = succs i p) (fun pre => pre.map Subtype.val <+: succs i p) 2 w := by
  intro l J Jx W hW hJ hJx hY h0
  have hli : bi < w.heap.size := (Array.getElem?_eq_some_iff.1 hbi).1
  have hla : ba < w.heap.size := (Array.getElem?_eq_some_iff.1 hba).1
  have hWi := (hW.block bi hli).trans hbi
  have hWa := (hW.block ba hla).trans hba
  have c0 : W.cell? ⟨bi, 0, none⟩ = some (.int .u8 i.f0) := by simp [World.cell?, hWi]
  have c1 : W.cell? ⟨bi, 1, none⟩ = some (.int .i64 i.f1) := by simp [World.cell?, hWi]
  have c2 : W.cell? ⟨ba, 0, none⟩ = some (.int .i64 (p : Int)) := by simp [World.cell?, hWa]
  refine callsIn_of_wp Try.func53 rfl hF ?_ hro
  simp only [Try.ntmps53, List.size_toArray, List.length_cons, List.length_nil, Nat.reduceAdd, Nat.reduceSub, Array.replicate_succ, Array.replicate_zero, List.push_toArray, List.append_toArray, List.nil_append, List.cons_append]
  by_cases h23 : i.f0 = 23
  · have b23 : (i.f0 == 23) = true := beq_iff_eq.mpr h23
    gi_wp2
    refine bodyPost_ret (results_none rfl _ _ _) rfl ?_
    exact ⟨⟨_, rfl⟩, .inl ⟨[], by simp [succs, h23], h0⟩⟩
  · have b23 : (i.f0 == 23) = false := beq_eq_false_iff_ne.mpr h23
    by_cases h21 : i.f0 = 21
    · have hs : succs i p = [(p + i.f1.toNat, 190)] := by simp [succs, h21]
      have b21 : (i.f0 == 21) = true := beq_iff_eq.mpr h21
      have n21 : (i.f0 != 21) = false := by simp [h21]
      have hb1 : 0 ≤ i.f1 := by omega
      have hb2 : i.f1 ≤ 4096 := by omega
      have HS := Aside0.mk hs
      clear hs h21 h23 ha
      obtain ⟨fn, tmps, assign, body, hy, hR⟩ := hY [] ⟨(p + i.f1.toNat, 190), hP _ (by rw [HS.out]; simp)⟩ W h0 (by simp)
      simp only [encP] at hy
      rw [show ((p + i.f1.toNat : Nat) : Int) = (p : Int) + i.f1 by omega] at hy
      gi_wp2
      refine ⟨fun _ h => (by cases h), ?_⟩
      gi_wp2
      refine hR.mono ?_
      rintro e W' (⟨rfl, hJ', hk⟩ | ⟨rfl, hJx'⟩)
      · gi_wp2
        go_end0
        exact ⟨⟨_, rfl⟩, .inl ⟨_, by exact HS.out.symm, hJ'⟩⟩
      · gi_wp2
        go_end0
        exact ⟨⟨_, rfl⟩, .inr ⟨_, by exact ⟨[], HS.out.symm⟩, hJx'⟩⟩
    · have b21 : (i.f0 == 21) = false := beq_eq_false_iff_ne.mpr h21
      have n21 : (i.f0 != 21) = true := by simp [h21]
      by_cases h22 : i.f0 = 22
      · have b22 : (i.f0 == 22) = true := beq_iff_eq.mpr h22
        have hs : succs i p = [(p + 1, 195), (p + i.f1.toNat, 190)] := by simp [succs, h22]
        have hb1 : 0 ≤ i.f1 := by omega
        have hb2 : i.f1 ≤ 4096 := by omega
        have HS := Aside0.mk hs
        clear hs h21 h22 h23 ha
        obtain ⟨fn, tmps, assign, body, hy, hR⟩ := hY [] ⟨(p + 1, 195), hP _ (by rw [HS.out]; simp)⟩ W h0 (by simp)
        simp only [encP] at hy
        rw [show ((p + 1 : Nat) : Int) = (p : Int) + 1 by omega] at hy
        gi_wp2
        refine hR.mono ?_
        rintro e W' (⟨rfl, hJ', hk⟩ | ⟨rfl, hJx'⟩)
        · obtain ⟨fn2, tmps2, assign2, body2, hy2, hR2⟩ := hY _ ⟨(p + i.f1.toNat, 190), hP _ (by rw [HS.out]; simp)⟩ W' hJ' (by simp)
          simp only [encP] at hy2
          rw [show ((p + i.f1.toNat : Nat) : Int) = (p : Int) + i.f1 by omega] at hy2
          have d0 : W'.cell? ⟨bi, 0, none⟩ = some (.int .u8 i.f0) := by simp [World.cell?, hk.1, hWi]
          have d1 : W'.cell? ⟨bi, 1, none⟩ = some (.int .i64 i.f1) := by simp [World.cell?, hk.1, hWi]
          have d2 : W'.cell? ⟨ba, 0, none⟩ = some (.int .i64 (p : Int)) := by simp [World.cell?, hk.2, hWa]
          clear hR
          gi_wp2
          refine hR2.mono ?_
          rintro e W2 (⟨rfl, hJ2, hk2⟩ | ⟨rfl, hJx2⟩)
          · gi_wp2
            go_end0
            exact ⟨⟨_, rfl⟩, .inl ⟨_, by exact HS.out.symm, hJ2⟩⟩
          · gi_wp2
            go_end0
            exact ⟨⟨_, rfl⟩, .inr ⟨_, by exact ⟨[], HS.out.symm⟩, hJx2⟩⟩
        · gi_wp2
          refine bodyPost_ret (results_none rfl _ _ _) rfl ?_
          exact ⟨⟨_, rfl⟩, .inr ⟨_, by exact ⟨[(p + i.f1.toNat, 190)], HS.out.symm⟩, hJx'⟩⟩
      · have b22 : (i.f0 == 22) = false := beq_eq_false_iff_ne.mpr h22
        have hs : succs i p = [(p + 1, 195)] := by simp [succs, h21, h22, h23]
        have HS := Aside0.mk hs
        clear hs h21 h22 h23 ha
        obtain ⟨fn, tmps, assign, body, hy, hR⟩ := hY [] ⟨(p + 1, 195), hP _ (by rw [HS.out]; simp)⟩ W h0 (by simp)
        simp only [encP] at hy
        rw [show ((p + 1 : Nat) : Int) = (p : Int) + 1 by omega] at hy
        gi_wp2
        refine hR.mono ?_
        rintro e W' (⟨rfl, hJ', hk⟩ | ⟨rfl, hJx'⟩)
        · have d0 : W'.cell? ⟨bi, 0, none⟩ = some (.int .u8 i.f0) := by simp [World.cell?, hk.1, hWi]
          have d1 : W'.cell? ⟨bi, 1, none⟩ = some (.int .i64 i.f1) := by simp [World.cell?, hk.1, hWi]
          have d2 : W'.cell? ⟨ba, 0, none⟩ = some (.int .i64 (p : Int)) := by simp [World.cell?, hk.2, hWa]
          clear hR
          gi_wp2
          go_end0
          exact ⟨⟨_, rfl⟩, .inl ⟨_, by exact HS.out.symm, hJ'⟩⟩
        · gi_wp2
          refine bodyPost_ret (results_none rfl _ _ _) rfl ?_
          exact ⟨⟨_, rfl⟩, .inr ⟨_, by exact ⟨[], HS.out.symm⟩, hJx'⟩⟩
theorem follows_calls (A0 : Option Addr) (n c : Nat) (l : List S26) (p : Int) (w : World) (hr : Kd.C k26 w A0 n l) (h0 : 0 ≤ p) (h1 : p < n) :
    Calls Try.prog 42 #[.slice A0 n c, .int .i64 p] w fun e w' => e = .returned (.func (.func 53) #[] #[.pointer (some ⟨w.heap.size + 1, 0, none⟩), .pointer (some ⟨w.heap.size, 0, none⟩)]) ∧
      w' = (w.alloc (.cells #[.int .i64 p] 3)).alloc (.cells #[.int .u8 (rd_T26 l p).f0, .int .i64 (rd_T26 l p).f1] 26) := by
  have hr' := Kd.C_below hr (below_alloc (Below.refl _ _) (.cells #[.int .i64 p] 3))
  have HR := Aside0.mk hr
  obtain ⟨ad, e, hc1, hc2⟩ := at_T26 hr' p h0 h1
  subst e
  clear hr hr'
  generalize rd_T26 l p = i at *
  go_enter Try.func42, Try.ntmps42
  go_wp2
  go_ret
  exact ⟨rfl, rfl⟩
end Go.Proofs.Ytnaapecmooljaaa.H
