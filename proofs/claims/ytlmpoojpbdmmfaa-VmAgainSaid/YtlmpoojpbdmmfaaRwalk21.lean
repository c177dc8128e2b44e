/- cost.follows' iterator: it tells what follows an instruction. The conditions: the two boxes hold the instruction and its place. cost.reached: which instructions are reached, or what is wrong. The conditions: what each names. cost.reached, walked. The conditions: what each names. A region that draws its order, inside a round of a range-over-func loop: from the walk outside all fences. The conditions: no operation defers; what follows holds nothing of a run that outgrew. -/
import Derived.Test.YtlmpoojpbdmmfaaD18
import Derived.RangeFuncNested
import Derived.RangeFuncBound
import Derived.RangeFuncCalls
import Derived.RangeFuncLeaves
import Derived.Shelf.Abstract
import Derived.Shelf.RegionOpen
import Derived.WalkKit
import Derived.OwnWalkIn
import Derived.TacticsInMore
import Derived.LoopNIn
import Derived.LoopIn
import Derived.Outline
import Derived.StillTailTactics
import Derived.Orders
import Derived.OrdersIn
import Derived.Sort.QuietIn
set_option linter.unusedVariables false
set_option linter.unusedSimpArgs false
namespace Go.Proofs.Ytlmpoojpbdmmfaa.H
open Go.RowKit Go.Proofs.YtlmpoojpbdmmfaaW.PrintWords
attribute [local go_sem] Oper.semAt_some

/-- What follows an instruction: the places, and what it is if there is none. -/
def succs (i : S53) (at_ : Nat) : List (Nat × Int) :=
  if i.f0 = 23 then [] else if i.f0 = 21 then [(at_ + i.f1.toNat, 190)] else if i.f0 = 22 then [(at_ + 1, 195), (at_ + i.f1.toNat, 190)] else [(at_ + 1, 195)]
/-- The two boxes lie as they lay. -/
def KpB (bi ba : Nat) (W W' : World) : Prop := W'.heap[bi]? = W.heap[bi]? ∧ W'.heap[ba]? = W.heap[ba]?
def encP (x : Nat × Int) : Array Value := #[.int .i64 (x.1 : Int), .int .i64 x.2]
set_option maxHeartbeats 1000000 in
set_option maxRecDepth 100000 in
theorem follows1_stops (F : Fence) (n : Nat) (hF : F.fn 75) (hro : F.round = none) (hn : 1 ≤ n) (bi ba : Nat) (i : S53) (p : Nat) (hp : p ≤ 4096) (ha : 0 ≤ i.f1 ∧ i.f1 ≤ 4096 ∨ (i.f0 ≠ 21 ∧ i.f0 ≠ 22)) (w : World)
    (hbi : w.heap[bi]? = some (.cells #[.int .u8 i.f0, .int .i64 i.f1] 53 (0, 0))) (hba : w.heap[ba]? = some (.cells #[.int .i64 (p : Int)] 3 (0, 0))) :
    SeqStopsK F n Try.prog 75 #[.pointer (some ⟨bi, 0, none⟩), .pointer (some ⟨ba, 0, none⟩)] encP (KpB bi ba) (fun xs => xs = succs i p) (fun pre => pre <+: succs i p) 2 w := by
  intro l J Jx W hW hJ hJx hY h0
  have hli : bi < w.heap.size := (Array.getElem?_eq_some_iff.1 hbi).1
  have hla : ba < w.heap.size := (Array.getElem?_eq_some_iff.1 hba).1
  have hWi := (hW.block bi hli).trans hbi
  have hWa := (hW.block ba hla).trans hba
  have c0 : W.cell? ⟨bi, 0, none⟩ = some (.int .u8 i.f0) := by simp [World.cell?, hWi]
  have c1 : W.cell? ⟨bi, 1, none⟩ = some (.int .i64 i.f1) := by simp [World.cell?, hWi]
  have c2 : W.cell? ⟨ba, 0, none⟩ = some (.int .i64 (p : Int)) := by simp [World.cell?, hWa]
  refine callsIn_of_wp Try.func75 rfl hF ?_ hro
  simp only [Try.ntmps75, List.size_toArray, List.length_cons, List.length_nil, Nat.reduceAdd, Nat.reduceSub, Array.replicate_succ, Array.replicate_zero, List.push_toArray, List.append_toArray, List.nil_append, List.cons_append]
  by_cases h23 : i.f0 = 23
  · have b23 : (i.f0 == 23) = true := beq_iff_eq.mpr h23
    gi_wp2
    refine bodyPost_ret (results_none rfl _ _ _) rfl ?_
    exact ⟨⟨_, rfl⟩, .inl ⟨[], by simp [succs, h23], h0⟩⟩
  · have b23 : (i.f0 == 23) = false := beq_eq_false_iff_ne.mpr h23
    by_cases h21 : i.f0 = 21
    · have hs : succs i p = [(p + i.f1.toNat, 190)] := by simp [succs, h21]
      have b21 : (i.f0 == 21) = true := beq_iff_eq.mpr h21
      have n21 : (i.f0 != 21) = false := by simp [h21]
      have hb1 : 0 ≤ i.f1 := by omega
      have hb2 : i.f1 ≤ 4096 := by omega
      have HS := Aside0.mk hs
      clear hs h21 h23 ha
      obtain ⟨fn, tmps, assign, body, hy, hR⟩ := hY [] (p + i.f1.toNat, 190) W h0 (by simp)
      simp only [encP] at hy
      rw [show ((p + i.f1.toNat : Nat) : Int) = (p : Int) + i.f1 by omega] at hy
      gi_wp2
      refine ⟨fun _ h => (by cases h), ?_⟩
      gi_wp2
      refine hR.mono ?_
      rintro e W' (⟨rfl, hJ', hk⟩ | ⟨rfl, hJx'⟩)
      · gi_wp2
        go_end0
        exact ⟨⟨_, rfl⟩, .inl ⟨_, HS.out.symm, hJ'⟩⟩
      · gi_wp2
        go_end0
        exact ⟨⟨_, rfl⟩, .inr ⟨_, by rw [HS.out]; exact ⟨[], rfl⟩, hJx'⟩⟩
    · have b21 : (i.f0 == 21) = false := beq_eq_false_iff_ne.mpr h21
      have n21 : (i.f0 != 21) = true := by simp [h21]
      by_cases h22 : i.f0 = 22
      · have b22 : (i.f0 == 22) = true := beq_iff_eq.mpr h22
        have hs : succs i p = [(p + 1, 195), (p + i.f1.toNat, 190)] := by simp [succs, h22]
        have hb1 : 0 ≤ i.f1 := by omega
        have hb2 : i.f1 ≤ 4096 := by omega
        have HS := Aside0.mk hs
        clear hs h21 h22 h23 ha
        obtain ⟨fn, tmps, assign, body, hy, hR⟩ := hY [] (p + 1, 195) W h0 (by simp)
        simp only [encP] at hy
        rw [show ((p + 1 : Nat) : Int) = (p : Int) + 1 by omega] at hy
        gi_wp2
        refine hR.mono ?_
        rintro e W' (⟨rfl, hJ', hk⟩ | ⟨rfl, hJx'⟩)
        · obtain ⟨fn2, tmps2, assign2, body2, hy2, hR2⟩ := hY _ (p + i.f1.toNat, 190) W' hJ' (by simp)
          simp only [encP] at hy2
          rw [show ((p + i.f1.toNat : Nat) : Int) = (p : Int) + i.f1 by omega] at hy2
          have d0 : W'.cell? ⟨bi, 0, none⟩ = some (.int .u8 i.f0) := by simp [World.cell?, hk.1, hWi]
          have d1 : W'.cell? ⟨bi, 1, none⟩ = some (.int .i64 i.f1) := by simp [World.cell?, hk.1, hWi]
          have d2 : W'.cell? ⟨ba, 0, none⟩ = some (.int .i64 (p : Int)) := by simp [World.cell?, hk.2, hWa]
          clear hR
          gi_wp2
          refine hR2.mono ?_
          rintro e W2 (⟨rfl, hJ2, hk2⟩ | ⟨rfl, hJx2⟩)
          · gi_wp2
            go_end0
            exact ⟨⟨_, rfl⟩, .inl ⟨_, HS.out.symm, hJ2⟩⟩
          · gi_wp2
            go_end0
            exact ⟨⟨_, rfl⟩, .inr ⟨_, by rw [HS.out]; exact ⟨[], rfl⟩, hJx2⟩⟩
        · gi_wp2
          refine bodyPost_ret (results_none rfl _ _ _) rfl ?_
          exact ⟨⟨_, rfl⟩, .inr ⟨_, by rw [HS.out]; exact ⟨[(p + i.f1.toNat, 190)], rfl⟩, hJx'⟩⟩
      · have b22 : (i.f0 == 22) = false := beq_eq_false_iff_ne.mpr h22
        have hs : succs i p = [(p + 1, 195)] := by simp [succs, h21, h22, h23]
        have HS := Aside0.mk hs
        clear hs h21 h22 h23 ha
        obtain ⟨fn, tmps, assign, body, hy, hR⟩ := hY [] (p + 1, 195) W h0 (by simp)
        simp only [encP] at hy
        rw [show ((p + 1 : Nat) : Int) = (p : Int) + 1 by omega] at hy
        gi_wp2
        refine hR.mono ?_
        rintro e W' (⟨rfl, hJ', hk⟩ | ⟨rfl, hJx'⟩)
        · have d0 : W'.cell? ⟨bi, 0, none⟩ = some (.int .u8 i.f0) := by simp [World.cell?, hk.1, hWi]
          have d1 : W'.cell? ⟨bi, 1, none⟩ = some (.int .i64 i.f1) := by simp [World.cell?, hk.1, hWi]
          have d2 : W'.cell? ⟨ba, 0, none⟩ = some (.int .i64 (p : Int)) := by simp [World.cell?, hk.2, hWa]
          clear hR
          gi_wp2
          go_end0
          exact ⟨⟨_, rfl⟩, .inl ⟨_, HS.out.symm, hJ'⟩⟩
        · gi_wp2
          refine bodyPost_ret (results_none rfl _ _ _) rfl ?_
          exact ⟨⟨_, rfl⟩, .inr ⟨_, by rw [HS.out]; exact ⟨[], rfl⟩, hJx'⟩⟩
set_option maxHeartbeats 1000000 in
set_option maxRecDepth 100000 in
theorem follows1_stopsP (p_ : Nat × Int → Prop) (F : Fence) (n : Nat) (hF : F.fn 75) (hro : F.round = none) (hn : 1 ≤ n) (bi ba : Nat) (i : S53) (p : Nat) (hp : p ≤ 4096) (ha : 0 ≤ i.f1 ∧ i.f1 ≤ 4096 ∨ (i.f0 ≠ 21 ∧ i.f0 ≠ 22)) (w : World) (hP : ∀ x ∈ succs i p, p_ x)
    (hbi : w.heap[bi]? = some (.cells #[.int .u8 i.f0, .int .i64 i.f1] 53 (0, 0))) (hba : w.heap[ba]? = some (.cells #[.int .i64 (p : Int)] 3 (0, 0))) :
    SeqStopsK F n Try.prog 75 #[.pointer (some ⟨bi, 0, none⟩), .pointer (some ⟨ba, 0, none⟩)] (fun x : {x : Nat × Int // p_ x} => encP x.1) (KpB bi ba) (fun xs => xs.map Subtype.val = succs i p) (fun pre => pre.map Subtype.val <+: succs i p) 2 w := by
  intro l J Jx W hW hJ hJx hY h0
  have hli : bi < w.heap.size := (Array.getElem?_eq_some_iff.1 hbi).1
  have hla : ba < w.heap.size := (Array.getElem?_eq_some_iff.1 hba).1
  have hWi := (hW.block bi hli).trans hbi
  have hWa := (hW.block ba hla).trans hba
  have c0 : W.cell? ⟨bi, 0, none⟩ = some (.int .u8 i.f0) := by simp [World.cell?, hWi]
  have c1 : W.cell? ⟨bi, 1, none⟩ = some (.int .i64 i.f1) := by simp [World.cell?, hWi]
  have c2 : W.cell? ⟨ba, 0, none⟩ = some (.int .i64 (p : Int)) := by simp [World.cell?, hWa]
  refine callsIn_of_wp Try.func75 rfl hF ?_ hro
  simp only [Try.ntmps75, List.size_toArray, List.length_cons, List.length_nil, Nat.reduceAdd, Nat.reduceSub, Array.replicate_succ, Array.replicate_zero, List.push_toArray, List.append_toArray, List.nil_append, List.cons_append]
  by_cases h23 : i.f0 = 23
  · have b23 : (i.f0 == 23) = true := beq_iff_eq.mpr h23
    gi_wp2
    refine bodyPost_ret (results_none rfl _ _ _) rfl ?_
    exact ⟨⟨_, rfl⟩, .inl ⟨[], by simp [succs, h23], h0⟩⟩
  · have b23 : (i.f0 == 23) = false := beq_eq_false_iff_ne.mpr h23
    by_cases h21 : i.f0 = 21
    · have hs : succs i p = [(p + i.f1.toNat, 190)] := by simp [succs, h21]
      have b21 : (i.f0 == 21) = true := beq_iff_eq.mpr h21
      have n21 : (i.f0 != 21) = false := by simp [h21]
      have hb1 : 0 ≤ i.f1 := by omega
      have hb2 : i.f1 ≤ 4096 := by omega
      have HS := Aside0.mk hs
      clear hs h21 h23 ha
      obtain ⟨fn, tmps, assign, body, hy, hR⟩ := hY [] ⟨(p + i.f1.toNat, 190), hP _ (by rw [HS.out]; simp)⟩ W h0 (by simp)
      simp only [encP] at hy
      rw [show ((p + i.f1.toNat : Nat) : Int) = (p : Int) + i.f1 by omega] at hy
      gi_wp2
      refine ⟨fun _ h => (by cases h), ?_⟩
      gi_wp2
      refine hR.mono ?_
      rintro e W' (⟨rfl, hJ', hk⟩ | ⟨rfl, hJx'⟩)
      · gi_wp2
        go_end0
        exact ⟨⟨_, rfl⟩, .inl ⟨_, by exact HS.out.symm, hJ'⟩⟩
      · gi_wp2
        go_end0
        exact ⟨⟨_, rfl⟩, .inr ⟨_, by exact ⟨[], HS.out.symm⟩, hJx'⟩⟩
    · have b21 : (i.f0 == 21) = false := beq_eq_false_iff_ne.mpr h21
      have n21 : (i.f0 != 21) = true := by simp [h21]
      by_cases h22 : i.f0 = 22
      · have b22 : (i.f0 == 22) = true := beq_iff_eq.mpr h22
        have hs : succs i p = [(p + 1, 195), (p + i.f1.toNat, 190)] := by simp [succs, h22]
        have hb1 : 0 ≤ i.f1 := by omega
        have hb2 : i.f1 ≤ 4096 := by omega
        have HS := Aside0.mk hs
        clear hs h21 h22 h23 ha
        obtain ⟨fn, tmps, assign, body, hy, hR⟩ := hY [] ⟨(p + 1, 195), hP _ (by rw [HS.out]; simp)⟩ W h0 (by simp)
        simp only [encP] at hy
        rw [show ((p + 1 : Nat) : Int) = (p : Int) + 1 by omega] at hy
        gi_wp2
        refine hR.mono ?_
        rintro e W' (⟨rfl, hJ', hk⟩ | ⟨rfl, hJx'⟩)
        · obtain ⟨fn2, tmps2, assign2, body2, hy2, hR2⟩ := hY _ ⟨(p + i.f1.toNat, 190), hP _ (by rw [HS.out]; simp)⟩ W' hJ' (by simp)
          simp only [encP] at hy2
          rw [show ((p + i.f1.toNat : Nat) : Int) = (p : Int) + i.f1 by omega] at hy2
          have d0 : W'.cell? ⟨bi, 0, none⟩ = some (.int .u8 i.f0) := by simp [World.cell?, hk.1, hWi]
          have d1 : W'.cell? ⟨bi, 1, none⟩ = some (.int .i64 i.f1) := by simp [World.cell?, hk.1, hWi]
          have d2 : W'.cell? ⟨ba, 0, none⟩ = some (.int .i64 (p : Int)) := by simp [World.cell?, hk.2, hWa]
          clear hR
          gi_wp2
          refine hR2.mono ?_
          rintro e W2 (⟨rfl, hJ2, hk2⟩ | ⟨rfl, hJx2⟩)
          · gi_wp2
            go_end0
            exact ⟨⟨_, rfl⟩, .inl ⟨_, by exact HS.out.symm, hJ2⟩⟩
          · gi_wp2
            go_end0
            exact ⟨⟨_, rfl⟩, .inr ⟨_, by exact ⟨[], HS.out.symm⟩, hJx2⟩⟩
        · gi_wp2
          refine bodyPost_ret (results_none rfl _ _ _) rfl ?_
          exact ⟨⟨_, rfl⟩, .inr ⟨_, by exact ⟨[(p + i.f1.toNat, 190)], HS.out.symm⟩, hJx'⟩⟩
      · have b22 : (i.f0 == 22) = false := beq_eq_false_iff_ne.mpr h22
        have hs : succs i p = [(p + 1, 195)] := by simp [succs, h21, h22, h23]
        have HS := Aside0.mk hs
        clear hs h21 h22 h23 ha
        obtain ⟨fn, tmps, assign, body, hy, hR⟩ := hY [] ⟨(p + 1, 195), hP _ (by rw [HS.out]; simp)⟩ W h0 (by simp)
        simp only [encP] at hy
        rw [show ((p + 1 : Nat) : Int) = (p : Int) + 1 by omega] at hy
        gi_wp2
        refine hR.mono ?_
        rintro e W' (⟨rfl, hJ', hk⟩ | ⟨rfl, hJx'⟩)
        · have d0 : W'.cell? ⟨bi, 0, none⟩ = some (.int .u8 i.f0) := by simp [World.cell?, hk.1, hWi]
          have d1 : W'.cell? ⟨bi, 1, none⟩ = some (.int .i64 i.f1) := by simp [World.cell?, hk.1, hWi]
          have d2 : W'.cell? ⟨ba, 0, none⟩ = some (.int .i64 (p : Int)) := by simp [World.cell?, hk.2, hWa]
          clear hR
          gi_wp2
          go_end0
          exact ⟨⟨_, rfl⟩, .inl ⟨_, by exact HS.out.symm, hJ'⟩⟩
        · gi_wp2
          refine bodyPost_ret (results_none rfl _ _ _) rfl ?_
          exact ⟨⟨_, rfl⟩, .inr ⟨_, by exact ⟨[], HS.out.symm⟩, hJx'⟩⟩
theorem follows_calls (A0 : Option Addr) (n c : Nat) (l : List S53) (p : Int) (w : World) (hr : Kd.C k53 w A0 n l) (h0 : 0 ≤ p) (h1 : p < n) :
    Calls Try.prog 46 #[.slice A0 n c, .int .i64 p] w fun e w' => e = .returned (.func (.func 75) #[] #[.pointer (some ⟨w.heap.size + 1, 0, none⟩), .pointer (some ⟨w.heap.size, 0, none⟩)]) ∧
      w' = (w.alloc (.cells #[.int .i64 p] 3)).alloc (.cells #[.int .u8 (rd_T53 l p).f0, .int .i64 (rd_T53 l p).f1] 53) := by
  have hr' := Kd.C_below hr (below_alloc (Below.refl _ _) (.cells #[.int .i64 p] 3))
  have HR := Aside0.mk hr
  obtain ⟨ad, e, hc1, hc2⟩ := at_T53 hr' p h0 h1
  subst e
  clear hr hr'
  generalize rd_T53 l p = i at *
  go_enter Try.func46, Try.ntmps46
  go_wp2
  go_ret
  exact ⟨rfl, rfl⟩
end Go.Proofs.Ytlmpoojpbdmmfaa.H
set_option linter.unusedVariables false
set_option linter.unusedSimpArgs false
namespace Go.Proofs.Ytlmpoojpbdmmfaa.H
open Go.RowKit Go.Proofs.YtlmpoojpbdmmfaaW.PrintWords Go.Shelf
attribute [local go_sem] Oper.semAt_some
/-- What a round marks, and what is wrong if one of the places is beyond. -/
def scan1 (n : Nat) (is : List Bool) : List (Nat × Int) → List Bool × Int
  | [] => (is, 0)
  | x :: r => if n ≤ x.1 then ([], x.2) else scan1 n (is.set x.1 true) r
/-- Which instructions are reached, from place k on, d of them. -/
def scan (l : List S53) : Nat → Nat → List Bool → List Bool × Int
  | 0, _, is => (is, 0)
  | d + 1, k, is => if is.getD k false = true then (if (scan1 l.length is (succs (rd_T53 l k) k)).2 = 0 then scan l d (k + 1) (scan1 l.length is (succs (rd_T53 l k) k)).1 else ([], (scan1 l.length is (succs (rd_T53 l k) k)).2)) else scan l d (k + 1) is
def setAll (is : List Bool) (pre : List (Nat × Int)) : List Bool := pre.foldl (fun s x => s.set x.1 true) is
theorem setAll_snoc (is : List Bool) (pre : List (Nat × Int)) (x : Nat × Int) : setAll is (pre ++ [x]) = (setAll is pre).set x.1 true := by simp [setAll]
theorem setAll_length (pre : List (Nat × Int)) : ∀ is : List Bool, (setAll is pre).length = is.length := by
  induction pre with
  | nil => intro is; rfl
  | cons x r ih => intro is; show (setAll (is.set x.1 true) r).length = _; rw [ih]; simp
theorem scan1_all (n : Nat) (xs : List (Nat × Int)) : ∀ is, (∀ x ∈ xs, x.1 < n) → scan1 n is xs = (setAll is xs, 0) := by
  induction xs with
  | nil => intro is _; rfl
  | cons x r ih =>
    intro is h
    have hx := h x (by simp)
    rw [scan1, if_neg (by omega), ih _ (fun y hy => h y (by simp [hy]))]
    rfl
theorem scan1_stop (n : Nat) (pre : List (Nat × Int)) (x : Nat × Int) (r : List (Nat × Int)) : ∀ is, (∀ y ∈ pre, y.1 < n) → n ≤ x.1 → scan1 n is (pre ++ [x] ++ r) = ([], x.2) := by
  induction pre with
  | nil => intro is _ hx; simp [scan1, hx]
  | cons y t ih =>
    intro is h hx
    have hy := h y (by simp)
    show scan1 n is (y :: (t ++ [x] ++ r)) = _
    rw [scan1, if_neg (by omega), ih _ (fun z hz => h z (by simp [hz])) hx]
theorem succs_err {i : S53} {p : Nat} {x : Nat × Int} (h : x ∈ succs i p) : x.2 = 190 ∨ x.2 = 195 := by
  unfold succs at h
  split at h
  · simp at h
  split at h
  · simp at h; subst h; simp
  split at h
  · simp at h; rcases h with rfl | rfl <;> simp
  · simp at h; subst h; simp
def mark (D : Nat) : Deferred := { target := .collected D, args := #[] }
/-- What 'reached' holds in memory between two rounds. -/
structure RS (w : World) (A0 : Option Addr) (n c : Nat) (r : Value) (e : Int) (is : List Bool) (Ds : List Nat) (W : World) : Prop where
  b0 : W.heap[w.heap.size]? = some (.cells #[.slice A0 n c] 22 (0, 0))
  b1 : W.heap[w.heap.size + 1]? = some (.cells #[r] 88 (0, 0))
  b2 : W.heap[w.heap.size + 1 + 1]? = some (.cells #[.int .i64 e] 28 (0, 0))
  b3 : W.heap[w.heap.size + 1 + 1 + 1]? = some (.cells (is.map Value.bool).toArray 4 (0, 0))
  b4 : W.heap[w.heap.size + 1 + 1 + 1 + 1]? = some (.cells #[.slice (some ⟨w.heap.size + 1 + 1 + 1, 0, none⟩) n n] 88 (0, 0))
  len : is.length = n
  ds : ∀ D ∈ Ds, w.heap.size + 1 + 1 + 1 + 1 < D ∧ W.heap[D]? = some (.deferred (some []))
  nd : Ds.Nodup
  bel : Below w.heap.size w W
theorem RS.kept {w : World} {A0 : Option Addr} {n c B : Nat} {r : Value} {e : Int} {is : List Bool} {Ds : List Nat} {W W' : World} {row : Option Nat} (h : RS w A0 n c r e is Ds W) (hB : w.heap.size ≤ B) (hD : ∀ D ∈ Ds, D < B) (hg : W.grownBy W' row)
    (hr : ∀ r, row = some r → B ≤ r ∧ ∃ o : Obj, W.heap[r]? = some o ∧ o.isCells = false) : RS w A0 n c r e is Ds W' := by
  have key : ∀ k o, W.heap[k]? = some o → (o.isCells = true ∨ k < B) → W'.heap[k]? = some o := by
    intro k o hk ho
    refine (hg.block k (Array.getElem?_eq_some_iff.1 hk).1 (fun e => ?_)).trans hk
    obtain ⟨h1, o', h2, h3⟩ := hr k e.symm
    rw [hk] at h2
    injection h2 with h2
    subst h2
    rcases ho with ho | ho
    · rw [h3] at ho; cases ho
    · omega
  exact ⟨key _ _ h.b0 (.inl rfl), key _ _ h.b1 (.inl rfl), key _ _ h.b2 (.inl rfl), key _ _ h.b3 (.inl rfl), key _ _ h.b4 (.inl rfl), h.len, fun D hd => ⟨(h.ds D hd).1, key _ _ (h.ds D hd).2 (.inr (hD D hd))⟩, h.nd,
    h.bel.grown hg h.bel.size (fun k e => Nat.le_trans hB (hr k e).1)⟩
/-- A place is marked. -/
theorem RS.put {w : World} {A0 : Option Addr} {n c : Nat} {r : Value} {e : Int} {is : List Bool} {Ds : List Nat} {W : World} (h : RS w A0 n c r e is Ds W) (j : Nat) :
    RS w A0 n c r e (is.set j true) Ds (W.setCell ⟨w.heap.size + 1 + 1 + 1, j, none⟩ (.bool true)) := by
  have key : ∀ k o, W.heap[k]? = some o → k ≠ w.heap.size + 1 + 1 + 1 → (W.setCell ⟨w.heap.size + 1 + 1 + 1, j, none⟩ (.bool true)).heap[k]? = some o := fun k o hk hne => (Below.heap_setCell W ⟨w.heap.size + 1 + 1 + 1, j, none⟩ _ k hne).trans hk
  refine ⟨key _ _ h.b0 (by omega), key _ _ h.b1 (by omega), key _ _ h.b2 (by omega), ?_, key _ _ h.b4 (by omega), by rw [List.length_set]; exact h.len, fun D hd => ⟨(h.ds D hd).1, key _ _ (h.ds D hd).2 (by have := (h.ds D hd).1; omega)⟩, h.nd, h.bel.setCell (p := ⟨w.heap.size + 1 + 1 + 1, j, none⟩) (by simp; omega) _⟩
  simp [World.setCell, Array.getElem?_modify, h.b3, List.map_set]
/-- What is answered is laid down. -/
theorem RS.ans {w : World} {A0 : Option Addr} {n c : Nat} {r : Value} {e : Int} {is : List Bool} {Ds : List Nat} {W : World} (h : RS w A0 n c r e is Ds W) (r' : Value) (e' : Int) :
    RS w A0 n c r' e' is Ds ((W.setCell ⟨w.heap.size + 1, 0, none⟩ r').setCell ⟨w.heap.size + 1 + 1, 0, none⟩ (.int .i64 e')) := by
  have key : ∀ k o, W.heap[k]? = some o → k ≠ w.heap.size + 1 → k ≠ w.heap.size + 1 + 1 → ((W.setCell ⟨w.heap.size + 1, 0, none⟩ r').setCell ⟨w.heap.size + 1 + 1, 0, none⟩ (.int .i64 e')).heap[k]? = some o :=
    fun k o hk h1 h2 => (Below.heap_setCell _ ⟨w.heap.size + 1 + 1, 0, none⟩ _ k h2).trans ((Below.heap_setCell _ ⟨w.heap.size + 1, 0, none⟩ _ k h1).trans hk)
  refine ⟨key _ _ h.b0 (by omega) (by omega), ?_, ?_, key _ _ h.b3 (by omega) (by omega), key _ _ h.b4 (by omega) (by omega), h.len, fun D hd => ⟨(h.ds D hd).1, key _ _ (h.ds D hd).2 (by have := (h.ds D hd).1; omega) (by have := (h.ds D hd).1; omega)⟩, h.nd, (h.bel.setCell (p := ⟨w.heap.size + 1, 0, none⟩) (by simp) _).setCell (p := ⟨w.heap.size + 1 + 1, 0, none⟩) (by simp; omega) _⟩
  · refine (Below.heap_setCell _ ⟨w.heap.size + 1 + 1, 0, none⟩ _ _ (by simp)).trans ?_
    simp [World.setCell, Array.getElem?_modify, h.b1]
  · have h2 := (Below.heap_setCell W ⟨w.heap.size + 1, 0, none⟩ r' (w.heap.size + 1 + 1) (by simp)).trans h.b2
    generalize W.setCell ⟨w.heap.size + 1, 0, none⟩ r' = W1 at h2
    simp [World.setCell, Array.getElem?_modify, h2]
theorem RS.below {w : World} {A0 : Option Addr} {n c : Nat} {r : Value} {e : Int} {is : List Bool} {Ds : List Nat} {W W' : World} (h : RS w A0 n c r e is Ds W) (hb : Below W.heap.size W W') : RS w A0 n c r e is Ds W' := by
  have key : ∀ k o, W.heap[k]? = some o → W'.heap[k]? = some o := fun k o hk => (hb.block k (Array.getElem?_eq_some_iff.1 hk).1).trans hk
  exact ⟨key _ _ h.b0, key _ _ h.b1, key _ _ h.b2, key _ _ h.b3, key _ _ h.b4, h.len, fun D hd => ⟨(h.ds D hd).1, key _ _ (h.ds D hd).2⟩, h.nd, h.bel.trans (hb.mono h.bel.size)⟩
theorem RS.more {w : World} {A0 : Option Addr} {n c : Nat} {r : Value} {e : Int} {is : List Bool} {Ds : List Nat} {W : World} (h : RS w A0 n c r e is Ds W) {D : Nat} (hD : W.heap[D]? = some (.deferred (some []))) (h1 : w.heap.size + 1 + 1 + 1 + 1 < D) (h2 : ∀ x ∈ Ds, x < D) : RS w A0 n c r e is (D :: Ds) W :=
  ⟨h.b0, h.b1, h.b2, h.b3, h.b4, h.len, fun x hx => by rcases List.mem_cons.1 hx with rfl | hx; exact ⟨h1, hD⟩; exact h.ds x hx, List.nodup_cons.2 ⟨fun hm => by have := h2 D hm; omega, h.nd⟩, h.bel⟩
theorem leaves_marks {F : Fence} {n : Nat} {P : Program} {fn : Func} {tmps : Array Value} {R : Ending → World → Prop} {B : Nat} : ∀ (Ds : List Nat) (W : World), Ds.Nodup → (∀ D ∈ Ds, B ≤ D ∧ W.heap[D]? = some (.deferred (some []))) →
    (∀ W', Below B W W' → ∃ v, (results fn tmps).run P W' = .ok v W' ∧ R (.returned v) W') → LeavesInM F n P fn tmps R (Ds.map mark) .returning W := by
  intro Ds
  induction Ds with
  | nil => intro W _ _ h; exact h W (Below.refl _ _)
  | cons D Ds ih =>
    intro W hnd hD h
    obtain ⟨hB, hd⟩ := hD D (by simp)
    obtain ⟨hn1, hn2⟩ := List.nodup_cons.1 hnd
    have hbp : Below B W (W.putObj D (.deferred none)) := (Below.refl _ _).grown (grownBy_putObj' W D _) (by have := (Array.getElem?_eq_some_iff.1 hd).1; omega) (fun k e => by cases e; exact hB)
    refine ⟨by simp, .inl ⟨D, _, rfl, run_takeDeferred hd, ih _ hn2 (fun x hx => ⟨(hD x (by simp [hx])).1, ?_⟩) (fun W' hW' => h W' (hbp.trans hW'))⟩⟩
    exact (World.putObj_heap_other (by rintro rfl; exact hn1 hx)).trans (hD x (by simp [hx])).2
theorem results_cell2 {P : Program} {fn : Func} {a b : Nat} {t u : TypeId} (h : fn.results = #[.cell a t, .cell b u]) {tmps : Array Value} {w : World} {A B : Addr} {v v' : Value}
    (ht : ∀ w, (isAgg t).run P w = .ok false w) (hu : ∀ w, (isAgg u).run P w = .ok false w) (ha : tmps.getD a undef = .pointer (some A)) (hb : tmps.getD b undef = .pointer (some B)) (hA : w.cell? A = some v) (hB : w.cell? B = some v') :
    (results fn tmps).run P w = .ok (.tuple #[v, v']) w := by
  rw [results, h]
  have ha' : tmps[a]?.getD undef = .pointer (some A) := by rw [← ha]; simp
  have hb' : tmps[b]?.getD undef = .pointer (some B) := by rw [← hb]; simp
  simp [Sem.run_bind, Result.andThen, loadVar, ht, hu, go_sem, ha', hb', asAddr, load]
  simp [Sem.run, hA, hB]
theorem start5 (w : World) (o0 o1 o2 o3 o4 : Obj) :
    (((((w.alloc o0).alloc o1).alloc o2).alloc o3).alloc o4).heap[w.heap.size]? = some o0 ∧ (((((w.alloc o0).alloc o1).alloc o2).alloc o3).alloc o4).heap[w.heap.size + 1]? = some o1 ∧
    (((((w.alloc o0).alloc o1).alloc o2).alloc o3).alloc o4).heap[w.heap.size + 1 + 1]? = some o2 ∧ (((((w.alloc o0).alloc o1).alloc o2).alloc o3).alloc o4).heap[w.heap.size + 1 + 1 + 1]? = some o3 ∧
    (((((w.alloc o0).alloc o1).alloc o2).alloc o3).alloc o4).heap[w.heap.size + 1 + 1 + 1 + 1]? = some o4 := by
  refine ⟨?_, ?_, ?_, ?_, ?_⟩
  · rw [heap_alloc_old _ _ (by simp <;> omega), heap_alloc_old _ _ (by simp <;> omega), heap_alloc_old _ _ (by simp <;> omega), heap_alloc_old _ _ (by simp)]; exact heap_alloc_new w o0
  · have := heap_alloc_new (w.alloc o0) o1
    rw [heap_alloc_old _ _ (by simp <;> omega), heap_alloc_old _ _ (by simp <;> omega), heap_alloc_old _ _ (by simp)]; simpa using this
  · have := heap_alloc_new ((w.alloc o0).alloc o1) o2
    rw [heap_alloc_old _ _ (by simp <;> omega), heap_alloc_old _ _ (by simp)]; simpa using this
  · have := heap_alloc_new (((w.alloc o0).alloc o1).alloc o2) o3
    rw [heap_alloc_old _ _ (by simp)]; simpa using this
  · have := heap_alloc_new ((((w.alloc o0).alloc o1).alloc o2).alloc o3) o4
    simpa using this
theorem made_false (n : Nat) : madeCells #[Value.bool false] n = ((List.replicate n false).map Value.bool).toArray := by
  apply Array.ext
  · simp [madeCells]
  · intro i h1 h2
    simp [madeCells, Nat.mod_one]
end Go.Proofs.Ytlmpoojpbdmmfaa.H
set_option linter.unusedVariables false
set_option linter.unusedSimpArgs false
namespace Go.Proofs.Ytlmpoojpbdmmfaa.H
open Go.RowKit Go.Proofs.YtlmpoojpbdmmfaaW.PrintWords Go.Shelf
attribute [local go_sem] Oper.semAt_some
theorem made_zero {n : Nat} (h : 0 < n) : (madeCells #[Value.bool false] n)[0]? = some (.bool false) := by
  simp [madeCells, h]
set_option maxHeartbeats 4000000 in
set_option maxRecDepth 100000 in
theorem reached_calls (ad : Addr) (n c : Nat) (l : List S53) (w : World) (hr : Kd.C k53 w (some ad) n l) (hn : 0 < n) (hn2 : n ≤ 4096) (hok : ∀ k : Nat, k < n → (0 ≤ (rd_T53 l k).f1 ∧ (rd_T53 l k).f1 ≤ 4096) ∨ ((rd_T53 l k).f0 ≠ 21 ∧ (rd_T53 l k).f0 ≠ 22)) :
    Calls Try.prog 45 #[.slice (some ad) n c] w fun e w' => ∃ v : Value, e = .returned (.tuple #[v, .int .i64 (scan l n 0 ((List.replicate n false).set 0 true)).2]) ∧ Below w.heap.size w w' ∧
      ((scan l n 0 ((List.replicate n false).set 0 true)).2 = 0 → ∃ B, w.heap.size ≤ B ∧ v = .slice (some ⟨B, 0, none⟩) n n ∧ w'.heap[B]? = some (.cells ((scan l n 0 ((List.replicate n false).set 0 true)).1.map Value.bool).toArray 4 (0, 0)) ∧ (scan l n 0 ((List.replicate n false).set 0 true)).1.length = n) := by
  have HOK := Aside0.mk hok
  clear hok
  have HR := Aside0.mk hr
  have hl : l.length = n := hr.1
  have HLn := Aside0.mk hl
  clear hr hl
  refine (callsIn_wide (n := 3)).1 ?_
  refine callsIn_of_wp_marks Try.func45 rfl trivial ?_ rfl
  simp only [Try.ntmps45, List.size_toArray, List.length_cons, List.length_nil, Nat.reduceAdd, Nat.reduceSub, Array.replicate_succ, Array.replicate_zero, List.push_toArray, List.append_toArray, List.nil_append, List.cons_append]
  have hI : (Try.prog.info? 4).map (fun i => (i.zero, i.size, i.bytes)) = some (some (.bool false), 1, 1) := by kernel_rfl
  have hmk := print_make_of (P := Try.prog) 88 4 (.bool false) 1 Try.underlying88 hI rfl (by decide) n (by omega)
  have hmz := made_zero hn
  clear hI
  gi_wp2
  refine wpIn_loop (fun a W => ∃ (k : Nat) (is : List Bool) (Ds : List Nat) (u5 u6 u7 u8 u9 u10 u11 u12 u13 u16 u17 u18 u19 u20 u21 u22 u23 u24 u25 u26 u27 u28 u29 u30 u31 u32 u33 u34 u35 u36 u37 : Value), a = { tmps := #[.slice (some ad) n c, .pointer (some ⟨w.heap.size, 0, none⟩), .pointer (some ⟨w.heap.size + 1, 0, none⟩), .pointer (some ⟨w.heap.size + 1 + 1, 0, none⟩), .pointer (some ⟨w.heap.size + 1 + 1 + 1 + 1, 0, none⟩), u5, u6, u7, u8, u9, u10, u11, u12, u13, .int .i64 n, .int .i64 k, u16, u17, u18, u19, u20, u21, u22, u23, u24, u25, u26, u27, u28, u29, u30, u31, u32, u33, u34, u35, u36, u37], defers := Ds.map mark } ∧ k ≤ n ∧ Aside0 (scan l (n - k) k is = scan l n 0 ((List.replicate n false).set 0 true)) ∧ Aside0 (RS w (some ad) n c (.slice none 0 0) 0 is Ds W)) (fun a _ => n - (intOf (a.tmps.getD 15 undef)).toNat) ?start ?round
  case start =>
    refine ⟨0, (List.replicate n false).set 0 true, [], _, _, _, _, _, _, _, _, _, _, _, _, _, _, _, _, _, _, _, _, _, _, _, _, _, _, _, _, _, _, _, rfl, by omega, ⟨rfl⟩, ⟨?_⟩⟩
    have e3 : ((madeCells #[Value.bool false] n).setIfInBounds 0 (Value.bool true)) = (((List.replicate n false).set 0 true).map Value.bool).toArray := by
      rw [made_false, List.map_set]; exact List.setIfInBounds_toArray _ _ _
    rw [e3]
    obtain ⟨s0, s1, s2, s3, s4⟩ := start5 w (.cells #[.slice (some ad) n c] 22) (.cells #[.slice none 0 0] 88) (.cells #[.int .i64 0] 28) (.cells (((List.replicate n false).set 0 true).map Value.bool).toArray 4) (.cells #[.slice (some ⟨w.heap.size + 1 + 1 + 1, 0, none⟩) n n] 88)
    refine ⟨s0, s1, s2, s3, s4, by simp, by simp, List.nodup_nil, ?_⟩
    · exact (((((Below.refl _ _).alloc (Nat.le_refl _) _).alloc (by simp) _).alloc (by simp; omega) _).alloc (by simp; omega) _).alloc (by simp; omega) _
  case round =>
    rintro a W ⟨k, is, Ds, u5, u6, u7, u8, u9, u10, u11, u12, u13, u16, u17, u18, u19, u20, u21, u22, u23, u24, u25, u26, u27, u28, u29, u30, u31, u32, u33, u34, u35, u36, u37, rfl, hk, HSC, HS⟩
    have c0 := HS.out.b0
    have hc0 : W.cell? ⟨w.heap.size, 0, none⟩ = some (.slice (some ad) n c) := by simp [World.cell?, HS.out.b0]
    have hc4 : W.cell? ⟨w.heap.size + 1 + 1 + 1 + 1, 0, none⟩ = some (.slice (some ⟨w.heap.size + 1 + 1 + 1, 0, none⟩) n n) := by simp [World.cell?, HS.out.b4]
    have hb4 : w.heap.size + 1 + 1 + 1 + 1 < W.heap.size := (Array.getElem?_eq_some_iff.1 HS.out.b4).1
    clear c0
    by_cases hkn : k < n
    · have hd : decide (k < n) = true := decide_eq_true hkn
      have hb : W.cell? ⟨w.heap.size + 1 + 1 + 1, k, none⟩ = some (.bool (is.getD k false)) := by
        simp [World.cell?, HS.out.b3, HS.out.len, hkn, List.getD_eq_getElem?_getD]
      generalize his : is.getD k false = b at hb
      have HB := Aside0.mk his
      clear his
      cases b with
      | false =>
        gi_wp2
        exact ⟨⟨k + 1, is, Ds, _, _, _, _, _, _, _, _, _, _, _, _, _, _, _, _, _, _, _, _, _, _, _, _, _, _, _, _, _, _, _, rfl, by omega, ⟨by rw [← HSC.out, show n - k = (n - (k + 1)) + 1 by omega, scan, if_neg (by rw [HB.out]; simp)]⟩, HS⟩, by simp [intOf]; omega⟩
      | true =>
        gi_wp2
        refine ⟨trivial, ?_⟩
        refine (callsIn_wide.2 (follows_calls (some ad) n c l (k : Int) W (Kd.C_below HR.out HS.out.bel) (by omega) (by omega))).mono ?_
        rintro e W1 ⟨rfl, rfl⟩
        generalize hi : rd_T53 l (k : Int) = i
        have HI := Aside0.mk hi
        clear hi
        gi_wp2
        obtain ⟨W1, hW1⟩ : ∃ W1, (W.alloc (.cells #[.int .i64 (k : Int)] 3)).alloc (.cells #[.int .u8 i.f0, .int .i64 i.f1] 53) = W1 := ⟨_, rfl⟩
        have hb1 : Below W.heap.size W W1 := by rw [← hW1]; exact ((Below.refl _ _).alloc (Nat.le_refl _) _).alloc (by simp) _
        have hsz : W1.heap.size = W.heap.size + 1 + 1 := by rw [← hW1]; simp
        have hx0 : W1.heap[W.heap.size]? = some (.cells #[.int .i64 (k : Int)] 3 (0, 0)) := by rw [← hW1, heap_alloc_old _ _ (by simp)]; exact heap_alloc_new W _
        have hx1 : W1.heap[W.heap.size + 1]? = some (.cells #[.int .u8 i.f0, .int .i64 i.f1] 53 (0, 0)) := by
          rw [← hW1]
          have := heap_alloc_new (W.alloc (.cells #[.int .i64 (k : Int)] 3)) (.cells #[.int .u8 i.f0, .int .i64 i.f1] 53)
          rwa [World.size_alloc] at this
        rw [hW1]
        have HS1 := Aside0.mk (HS.out.below hb1)
        refine wpIn_rangeFunc_ownG (F := Fence.wide) (n := 3) rfl (by decide) (gf := 75) (lb := #[.pointer (some ⟨W.heap.size + 1, 0, none⟩), .pointer (some ⟨W.heap.size, 0, none⟩)]) rfl trivial (enters_of Try.func75 (by kernel_rfl) rfl)
          (follows1_stops Fence.wide 2 trivial rfl (by decide) (W.heap.size + 1) W.heap.size i k (by omega) (by rw [← HI.out]; exact HOK.out k hkn) W1 hx1 hx0) ?hKt ?hKb (Below.refl _ _) (fun _ => rfl)
          (fun pre W2 => RS w (some ad) n c (.slice none 0 0) 0 (setAll is pre) Ds W2 ∧ ∀ x ∈ pre, x.1 < n)
          (fun cd pre W2 => (cd = .ret ∧ ∃ pre' x, pre = pre' ++ [x] ∧ (∀ y ∈ pre', y.1 < n) ∧ n ≤ x.1 ∧ RS w (some ad) n c (.slice none 0 0) x.2 (setAll is pre') Ds W2))
          ?hI ?hIx ⟨HS1.out, by simp⟩
          (fun x => { tmps := #[.slice (some ad) n c, .pointer (some ⟨w.heap.size, 0, none⟩), .pointer (some ⟨w.heap.size + 1, 0, none⟩), .pointer (some ⟨w.heap.size + 1 + 1, 0, none⟩), .pointer (some ⟨w.heap.size + 1 + 1 + 1 + 1, 0, none⟩), .int .i64 k, .int .i64 x.1, .int .i64 x.2, u8, u9, u10, u11, u12, u13, .int .i64 n, .int .i64 k, .bool true, .int .i64 k, .slice (some ⟨w.heap.size + 1 + 1 + 1, 0, none⟩) n n, .int .i64 k, .pointer (some ⟨w.heap.size + 1 + 1 + 1, k, none⟩), .bool true, .bool false, .slice (some ad) n c, .int .i64 k, .func (.func 75) #[] #[.pointer (some ⟨W.heap.size + 1, 0, none⟩), .pointer (some ⟨W.heap.size, 0, none⟩)], .int .i64 x.1, .int .i64 x.2, u28, u29, u30, u31, u32, u33, u34, u35, u36, u37], defers := [] }) ?assign ?body ?done ?stop
        case hKt => exact fun h k => ⟨k.1.trans h.1, k.2.trans h.2⟩
        case hKb => exact fun W l o o' hl _ _ _ => ⟨World.putObj_heap_other (by omega), World.putObj_heap_other (by omega)⟩
        case hI => exact fun s A B row hs hg hr => ⟨hs.1.kept (by omega) (fun D hd => by have := (Array.getElem?_eq_some_iff.1 (HS1.out.ds D hd).2).1; omega) hg hr, hs.2⟩
        case hIx => exact fun cd s A B row ⟨h1, pre', x, h2, h3, h4, hs⟩ hg hr => ⟨h1, pre', x, h2, h3, h4, hs.kept (by omega) (fun D hd => by have := (Array.getElem?_eq_some_iff.1 (HS1.out.ds D hd).2).1; omega) hg hr⟩
        case assign =>
          intro l x W K hK
          simp only [encP]
          gi_wp2
          exact hK
        case body =>
          rintro lo pre x W2 ⟨hR, hp⟩ hlen
          have HR2 := Aside0.mk hR
          have HP := Aside0.mk hp
          have hq0 : W2.cell? ⟨w.heap.size, 0, none⟩ = some (.slice (some ad) n c) := by simp [World.cell?, hR.b0]
          have hq1 : W2.cell? ⟨w.heap.size + 1, 0, none⟩ = some (.slice none 0 0) := by simp [World.cell?, hR.b1]
          have hq2 : W2.cell? ⟨w.heap.size + 1 + 1, 0, none⟩ = some (.int .i64 0) := by simp [World.cell?, hR.b2]
          have hq4 : W2.cell? ⟨w.heap.size + 1 + 1 + 1 + 1, 0, none⟩ = some (.slice (some ⟨w.heap.size + 1 + 1 + 1, 0, none⟩) n n) := by simp [World.cell?, hR.b4]
          have hls : (setAll is pre).length = n := hR.len
          have hq3 : x.1 < n → ∃ b, W2.cell? ⟨w.heap.size + 1 + 1 + 1, x.1, none⟩ = some (.bool b) := by
            intro hx
            exact ⟨(setAll is pre).getD x.1 false, by simp [World.cell?, hR.b3, hls, hx, List.getD_eq_getElem?_getD]⟩
          have hf1 : W2.frozen? ⟨w.heap.size + 1, 0, none⟩ = false := by simp [World.frozen?, hR.b1]
          have hf2 : W2.frozen? ⟨w.heap.size + 1 + 1, 0, none⟩ = false := by simp [World.frozen?, hR.b2]
          have hf3 : W2.frozen? ⟨w.heap.size + 1 + 1 + 1, x.1, none⟩ = false := by simp [World.frozen?, hR.b3]
          clear hR hp hls
          obtain ⟨tt, er⟩ := x
          simp only at hq3 hf3
          by_cases hx : n ≤ tt
          · have hd2 : decide (n ≤ tt) = true := decide_eq_true hx
            clear hq3 hf3
            gi_wp2
            refine ⟨(((KeepsOthers.setCell _ _ _).trans (KeepsOthers.setCell _ _ _)).from _), rfl, pre, (tt, er), rfl, HP.out, hx, HR2.out.ans _ _⟩
          · have hd2 : decide (n ≤ tt) = false := decide_eq_false hx
            obtain ⟨b, hq3⟩ := hq3 (by omega)
            gi_wp2
            refine ⟨(KeepsOthers.setCell _ _ _).from _, ⟨Below.heap_setCell _ _ _ _ (by simp; omega), Below.heap_setCell _ _ _ _ (by simp; omega)⟩, ?_, ?_⟩
            · rw [setAll_snoc]; exact HR2.out.put tt
            · intro y hy
              rcases List.mem_append.1 hy with hy | hy
              · exact HP.out y hy
              · rw [List.mem_singleton.1 hy]; exact Nat.lt_of_not_le hx
        case done =>
          rintro D ys W2 hD rfl ⟨hR, hp⟩ hK
          gi_wp2
          refine ⟨⟨k + 1, setAll is (succs i k), D :: Ds, _, _, _, _, _, _, _, _, _, _, _, _, _, _, _, _, _, _, _, _, _, _, _, _, _, _, _, _, _, _, _, rfl, by omega, ⟨?_⟩, ⟨?_⟩⟩, by simp [intOf]; omega⟩
          · have hL := HLn.out
            rw [← HSC.out, show n - k = (n - (k + 1)) + 1 by omega, scan, if_pos HB.out, HI.out, hL, scan1_all n _ _ hp, if_pos rfl]
          · refine hR.more hK ?_ (fun y hy => ?_)
            · have := (Array.getElem?_eq_some_iff.1 HS.out.b4).1; omega
            · have := (Array.getElem?_eq_some_iff.1 (HS1.out.ds y hy).2).1; omega
        case stop =>
          rintro D cd pre W2 hD hpre ⟨rfl, pre', x, rfl, hp, hx, hR⟩ hK
          gi_wp2
          have hout : scan l n 0 ((List.replicate n false).set 0 true) = ([], x.2) := by
            have hL := HLn.out
            obtain ⟨r, hr⟩ := hpre
            have he : x.2 ≠ 0 := by rcases succs_err (i := i) (p := k) (x := x) (by rw [← hr]; simp) with h | h <;> rw [h] <;> decide
            rw [← HSC.out, show n - k = (n - (k + 1)) + 1 by omega, scan, if_pos HB.out, HI.out, hL, ← hr, scan1_stop n pre' x r is hp hx, if_neg he]
          have HA := hR.more hK (by omega) (fun y hy => by have := (Array.getElem?_eq_some_iff.1 (HS1.out.ds y hy).2).1; omega)
          refine leaves_marks (B := w.heap.size + 1 + 1 + 1 + 1) (D :: Ds) W2 HA.nd (fun y hy => ⟨by have := (HA.ds y hy).1; omega, (HA.ds y hy).2⟩) ?_
          · intro W' hW'
            refine ⟨.tuple #[.slice none 0 0, .int .i64 x.2], ?_, _, by rw [hout], hR.bel.trans (hW'.mono (by omega)), fun h0 => ?_⟩
            · refine results_cell2 (A := ⟨w.heap.size + 1, 0, none⟩) (B := ⟨w.heap.size + 1 + 1, 0, none⟩) rfl Try.isAgg88 Try.isAgg28 rfl rfl ?_ ?_
              · simp [World.cell?, hW'.block (w.heap.size + 1) (by omega), HA.b1]
              · simp [World.cell?, hW'.block (w.heap.size + 1 + 1) (by omega), HA.b2]
            · rw [hout] at h0
              exfalso
              obtain ⟨r, hr⟩ := hpre
              rcases succs_err (i := i) (p := k) (x := x) (by rw [← hr]; simp) with h | h <;> (rw [h] at h0; exact absurd h0 (by decide))
    · have hd : decide (k < n) = false := decide_eq_false hkn
      have hq1 : W.cell? ⟨w.heap.size + 1, 0, none⟩ = some (.slice none 0 0) := by simp [World.cell?, HS.out.b1]
      have hq2 : W.cell? ⟨w.heap.size + 1 + 1, 0, none⟩ = some (.int .i64 0) := by simp [World.cell?, HS.out.b2]
      have hf1 : W.frozen? ⟨w.heap.size + 1, 0, none⟩ = false := by simp [World.frozen?, HS.out.b1]
      have hf2 : W.frozen? ⟨w.heap.size + 1 + 1, 0, none⟩ = false := by simp [World.frozen?, HS.out.b2]
      gi_wp2
      have hout : scan l n 0 ((List.replicate n false).set 0 true) = (is, 0) := by
        rw [← HSC.out, show n - k = 0 by omega]; rfl
      have HA := HS.out.ans (.slice (some ⟨w.heap.size + 1 + 1 + 1, 0, none⟩) n n) 0
      refine leaves_marks (B := w.heap.size + 1 + 1 + 1 + 1) Ds _ HA.nd (fun y hy => ⟨by have := (HA.ds y hy).1; omega, (HA.ds y hy).2⟩) ?_
      intro W' hW'
      refine ⟨.tuple #[.slice (some ⟨w.heap.size + 1 + 1 + 1, 0, none⟩) n n, .int .i64 0], ?_, _, by rw [hout], HA.bel.trans (hW'.mono (by omega)), fun h0 => ⟨w.heap.size + 1 + 1 + 1, by omega, rfl, ?_, ?_⟩⟩
      · refine results_cell2 (A := ⟨w.heap.size + 1, 0, none⟩) (B := ⟨w.heap.size + 1 + 1, 0, none⟩) rfl Try.isAgg88 Try.isAgg28 rfl rfl ?_ ?_
        · simp [World.cell?, hW'.block (w.heap.size + 1) (by omega), HA.b1]
        · simp [World.cell?, hW'.block (w.heap.size + 1 + 1) (by omega), HA.b2]
      · rw [hout]; exact (hW'.block _ (by omega)).trans HA.b3
      · rw [hout]; exact HA.len
end Go.Proofs.Ytlmpoojpbdmmfaa.H
namespace Go.Proofs.Ytlmpoojpbdmmfaa.H
open Go

def noDefer (ops : Array Oper) : Bool := ops.all fun o => match o.op with | .defer _ => false | _ => true
theorem noDefer_spec {ops : Array Oper} (h : noDefer ops = true) {i : Nat} {o : Oper} (hi : ops[i]? = some o) : ∀ c, o.op ≠ .defer c := by
  intro c hc
  have hm : o ∈ ops := Array.mem_of_getElem? hi
  have := (Array.all_eq_true_iff_forall_mem.1 h) o hm
  rw [hc] at this
  cases this
theorem wpOpIn_of_wpOp {P : Program} {ops : Array Oper} {Q : Exit → Act → World → Prop} {n i l : Nat} {K K' : Act → World → Prop} {a : Act} {w : World} (hnd : noDefer ops = true) (hno : ¬ LetsOut Q) (hK : ∀ a w, K a w → K' a w)
    (h : wpOp P ops Q i K a w) : wpOpIn (Fence.wide.inRound l) n P ops Q i K' a w := by
  unfold wpOp at h
  unfold wpOpIn
  split at h
  · rename_i hi
    rw [hi]; exact hK _ _ h
  · rename_i o hi
    rw [hi]
    simp only
    split at h
    · rename_i hw
      rw [if_pos hw]
      rcases h with h | h
      · refine ⟨fun _ _ => trivial, ?_⟩
        rw [Oper.semAt_eq _ _ _ (noDefer_spec hnd hi)]
        unfold Oper.wp at h
        generalize (execOp a.eval o).run P w = r at h ⊢
        cases r with
        | ok x w' =>
          cases x <;> simp only [Oper.upon, Oper.uponIn] at h ⊢
          case value => exact hK _ _ h
          case skip => exact hK _ _ h
          case defer => exact hK _ _ h
          case enter f args =>
            refine ⟨fun h => (by cases h), ?_⟩
            exact callsIn_wide.2 (h.mono (fun e w he => by cases e <;> first | exact hK _ _ he | exact he))
          case row => exact ⟨fun h => (by cases h), fun c cs _ => let ⟨v, w', r, s⟩ := h c cs; ⟨v, w', hK _ _ r, stepsIn_wide.2 s⟩⟩
        | halt x w' => cases x <;> simp only [Oper.upon, Oper.uponIn] at h ⊢ <;> exact h
      · exact absurd h.2 hno
    · rename_i hw
      rw [if_neg hw]
      exact ⟨fun _ _ => trivial, hK _ _ h⟩
theorem wpAnyIn_of_wpAny {P : Program} {md : Region.Mode} {ops : Array Oper} {Q : Exit → Act → World → Prop} {n l : Nat} (hnd : noDefer ops = true) (hno : ¬ LetsOut Q) : ∀ (fuel : Nat) (listed : Array Bool) (a : Act) (w : World),
    wpAny P md ops Q fuel listed a w → wpAnyIn (Fence.wide.inRound l) n P md ops Q fuel listed a w
  | 0, _, _, _, h => h
  | fuel + 1, _, _, _, h => ⟨h.1, fun i hi => wpOpIn_of_wpOp hnd hno (fun a w => wpAnyIn_of_wpAny hnd hno fuel _ a w) (h.2 i hi)⟩
/-- Reads ahead of one last operation. -/
theorem tail_any {P : Program} {Q : Exit → Act → World → Prop} {a : Act} {W : World} {l : List Oper} (n : Nat) (hB : Region.lexTailB .any l.toArray n = true)
    (h : wpStill P l.toArray W (fun a' => wpList P l.toArray Q (l.drop n) a' W) (l.take n) a) : wpAny P .any l.toArray Q l.toArray.size (Array.replicate l.toArray.size false) a W := by
  simp only [Region.lexTailB, Bool.and_eq_true, decide_eq_true_eq] at hB
  have hsz : n < l.length := by simpa using hB.1.1.1.2
  have hlen : (l.take n).length = n := by simp; omega
  have hrest : (l.drop n).length = l.toArray.size - n := by simp
  have head := wpAnyL_lex (md := .any) (g := l.toArray.size - n) hB.1.1.1.1 hB.1.1.2 hB.1.2 hB.1.1.1.2 (l.take n) 0 (Array.replicate l.toArray.size false) a
    (fun j hj => by rw [hlen] at hj; simp [hj]) (by simpa using hlen)
    ⟨by simp, fun j oj _ hl => (by rw [getD_replicate_false] at hl; cases hl), fun t _ ht => getD_in (by simpa using ht) (getD_replicate_false _ _)⟩
    (by rw [hlen]; exact hB.2) h
  have whole := wpAny_of_head (Q' := Q) (g := l.toArray.size - n) (fun listed a' hL => by
    have t := wpAny_of_seq (md := .any) (Q' := Q) (l.drop n) n listed a' W (fun j => by simp [List.getElem?_drop]) (by rw [hrest]; exact hL.1) hL.2
    rwa [hrest] at t) _ _ _ head
  rwa [hlen, show n + (l.toArray.size - n) = l.toArray.size by omega] at whole
theorem wpIn_round_tail {P : Program} {id : Nat} {Q : Exit → Act → World → Prop} {a : Act} {w : World} {l : List Oper} {lo m : Nat} (n : Nat) (hm : P.follows .mixedOrders = true) (hnd : noDefer l.toArray = true) (hno : ¬ LetsOut Q)
    (hB : Region.lexTailB .any l.toArray n = true)
    (h : wpStill P l.toArray { w with drawn := w.drawn + 1 } (fun a' => wpList P l.toArray Q (l.drop n) a' { w with drawn := w.drawn + 1 }) (l.take n) a) : (Code.region id l.toArray true).wpIn (Fence.wide.inRound lo) m P Q a w :=
  wpIn_region_any hm (wpAnyIn_of_wpAny hnd hno _ _ _ _ (tail_any n hB h))
/-- A fence that lets nobody in: a quiet walk inside it makes no call. -/
def F0 : Fence := { Fence.wide with fn := fun _ => False }
theorem still_of_quiet {n : Nat} {P : Program} {ops : Array Oper} {C : World → Prop} {W : World} {Q : Act → Prop} (hW : C W) : ∀ (l : List Oper) (a : Act), wpQuietIn F0 n P ops C Q l a → wpStill P ops W Q l a
  | [], a, h => h
  | o :: l, a, h => by
    obtain ⟨_, h⟩ := h
    unfold wpStill
    split at h
    · rename_i hw
      rw [if_pos hw]
      obtain ⟨v, hv, hK⟩ := h
      have hv := hv W hW
      have hK := still_of_quiet hW l _ hK
      unfold Oper.quietAtIn at hv
      unfold Oper.still
      generalize (execOp a.eval o).run P W = r at hv ⊢
      cases r with
      | ok x w' =>
        cases x <;> simp only [Oper.quietUponIn, Oper.stillUpon] at hv ⊢
        case value => exact ⟨hv.1, by rw [hv.2]; exact hK⟩
        case skip => exact ⟨hv.1, by rw [← hv.2]; exact hK⟩
        case enter => exact hv.2.2.1.elim
      | halt x w' => simp only [Oper.quietUponIn] at hv
    · rename_i hw
      rw [if_neg hw]
      exact still_of_quiet hW l _ h
theorem wpIn_round_quiet_tail {P : Program} {id : Nat} {Q : Exit → Act → World → Prop} {a : Act} {w : World} {l : List Oper} {lo m : Nat} (n : Nat) (hm : P.follows .mixedOrders = true) (hnd : noDefer l.toArray = true) (hno : ¬ LetsOut Q)
    (hB : Region.lexTailB .any l.toArray n = true)
    (h : wpQuietIn F0 0 P l.toArray (fun w' => ∃ n, w' = w.drewN n) (fun a' => wpList P l.toArray Q (l.drop n) a' w.drew) (l.take n) a) : (Code.region id l.toArray true).wpIn (Fence.wide.inRound lo) m P Q a w :=
  wpIn_round_tail n hm hnd hno hB (still_of_quiet ⟨1, rfl⟩ _ _ h)
end Go.Proofs.Ytlmpoojpbdmmfaa.H
