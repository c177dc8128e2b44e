/- Part 27 of the proof of the law L. The conditions: none. (Its parts: SvmLoads.) -/
import Derived.Test.YtlmpoojpbdmmfaaKL21
import Derived.Test.YtlmpoojpbdmmfaaKL26
section
set_option linter.unusedVariables false
set_option linter.unusedSimpArgs false
namespace Go.Proofs.Ytlmpoojpbdmmfaa.H
open Go.RowKit Go.Proofs.YtlmpoojpbdmmfaaW.PrintWords Go.Proofs.YtlmpoojpbdmmfaaW.PrintLast Go.Proofs.YtlmpoojpbdmmfaaW.PrintMore Go.Maps
theorem ld37_run {W : World} {g : Nat} {cs : Array Value} (h : W.heap[g]? = some (.cells cs 37 (0, 0))) (h7 : cs.size = 7) : (Instr.loadAt 37 (.pointer (some ⟨g, 0, none⟩))).run Try.prog W = .ok (.agg cs) W := by
  obtain ⟨fs, hu⟩ := under37
  have := run_loadAt_mid (P := Try.prog) W g 0 37 cs.toList (.struct fs) (fun j v hv => by
    have hv' : cs[j]? = some v := by simpa using hv
    simp [World.cell?, h, hv']) hu rfl (by rw [info37, Array.length_toList, h7])
  simpa using this
theorem wpList_gl24 {ops : Array Oper} {rest : List Oper} {op : Oper} {a : Act} {w : World} {Q : Exit → Act → World → Prop} (hw : Region.wanted op (yielded ops a.tmps) = true) (x : Operand) (ho : op.op = .load 24 x) {g : Nat} (hx : a.eval x = .pointer (some ⟨g, 0, none⟩)) {x0 x1 x2 x3 : Int}
    (hb : w.heap[g]? = some (.cells #[.int .i64 x0, .int .i64 x1, .int .i64 x2, .int .i64 x3] 24 (0, 0))) (h : wpList Try.prog ops Q rest (a.put op.dst (.agg #[.int .i64 x0, .int .i64 x1, .int .i64 x2, .int .i64 x3])) w) : wpList Try.prog ops Q (op :: rest) a w := by
  rw [wpList, if_pos hw]
  left
  unfold Oper.wp execOp
  simp only [ho, hx, Sem.run_bind, Result.andThen_ok, cf_load hb]
  exact h
theorem wpList_gl37 {ops : Array Oper} {rest : List Oper} {op : Oper} {a : Act} {w : World} {Q : Exit → Act → World → Prop} (hw : Region.wanted op (yielded ops a.tmps) = true) (x : Operand) (ho : op.op = .load 37 x) {g : Nat} (hx : a.eval x = .pointer (some ⟨g, 0, none⟩)) {cs : Array Value}
    (hb : w.heap[g]? = some (.cells cs 37 (0, 0))) (h7 : cs.size = 7) (h : wpList Try.prog ops Q rest (a.put op.dst (.agg cs)) w) : wpList Try.prog ops Q (op :: rest) a w := by
  rw [wpList, if_pos hw]
  left
  unfold Oper.wp execOp
  simp only [ho, hx, Sem.run_bind, Result.andThen_ok, ld37_run hb h7]
  exact h
def LdE (l : List S53) (c : Cf) (at_ : Int) (ns nsl nin nou : Nat) (sp : Int) (en : Bool) (le : Int) : Prop :=
  ((ver l c).2 ≠ 0 ∧ le = (ver l c).2) ∨ ((ver l c).2 = 0 ∧ ∃ m Av, (∀ p, p < l.length → Good l c m Av p) ∧ (Av 0).h = 0 ∧ ((LdOk l c Av at_ ns nsl nin nou sp en ∧ le = 0) ∨ (¬ LdOk l c Av at_ ns nsl nin nou sp en ∧ le = 2)))
theorem load_any {w : World} {A : Option Addr} {cap : Nat} {l : List S53} (hC : Kd.C k53 w A l.length l) (hcap : l.length ≤ cap) (hA : A = none → cap = 0) {cs cr cw ck : Int}
    {at_ sp : Int} {en : Bool} {st sl inn ou : List Int} {sv tv iv ov : Value} (h1 : IR w sv st) (h2 : IR w tv sl) (h3 : IR w iv inn) (h4 : IR w ov ou) (hlen : st.length ≤ 500000 ∧ sl.length ≤ 500000 ∧ inn.length ≤ 500000 ∧ ou.length ≤ 500000) :
    Calls Try.prog 23 #[.slice A l.length cap, .agg #[.int .i64 cs, .int .i64 cr, .int .i64 cw, .int .i64 ck], .agg (cxI at_ sv tv iv ov sp en)] w fun e W' => ∃ pv le, e = .returned (.tuple #[.pointer pv, .int .i64 le]) ∧ LdE l ⟨cs, cr, cw, ck⟩ at_ st.length sl.length inn.length ou.length sp en le ∧
      (le = 0 → ∃ b, pv = some ⟨b, 0, none⟩ ∧ VMem W' (fun k => w.heap.size ≤ k ∧ k < W'.heap.size) b ⟨cs, cr, cw, ck⟩ l ⟨at_.toNat, st, sl, inn, ou, sp, en⟩) ∧ (le ≠ 0 → pv = none) ∧ Below w.heap.size w W' := by
  by_cases hv : (ver l ⟨cs, cr, cw, ck⟩).2 = 0
  · obtain ⟨Av, hg, hle⟩ := ver_good hv
    have h0 : (Av 0).h = 0 := hle.h
    refine (load_calls hC hcap hA hv hg h0 h1 h2 h3 h4 hlen).mono ?_
    rintro e W' ⟨k1, k2, hb⟩
    by_cases hok : LdOk l ⟨cs, cr, cw, ck⟩ Av at_ st.length sl.length inn.length ou.length sp en
    · obtain ⟨b, rfl, hm⟩ := k1 hok
      exact ⟨_, _, rfl, .inr ⟨hv, _, Av, hg, h0, .inl ⟨hok, rfl⟩⟩, fun _ => ⟨b, rfl, hm⟩, fun h => absurd rfl h, hb⟩
    · rw [k2 hok]
      exact ⟨_, _, rfl, .inr ⟨hv, _, Av, hg, h0, .inr ⟨hok, rfl⟩⟩, fun h => absurd h (by decide), fun _ => rfl, hb⟩
  · refine (load_err hC hcap hv).mono ?_
    rintro e W' ⟨rfl, hb⟩
    exact ⟨_, _, rfl, .inl ⟨hv, rfl⟩, fun h => absurd h hv, fun _ => rfl, hb⟩
theorem box2 {w : World} {a1_0 a1_1 a1_2 a1_3 : Int} {cx : Array Value} : Bx ((w.alloc (.cells #[.int .i64 a1_0, .int .i64 a1_1, .int .i64 a1_2, .int .i64 a1_3] (24 : Nat))).alloc (.cells cx (37 : Nat))) w.heap.size a1_0 a1_1 a1_2 a1_3 cx := ⟨(heap_alloc_old _ _ (by simp)).trans (heap_alloc_new _ _), by
    have := heap_alloc_new (w.alloc (.cells #[.int .i64 a1_0, .int .i64 a1_1, .int .i64 a1_2, .int .i64 a1_3] (24 : Nat))) (.cells cx (37 : Nat))
    simpa using this⟩
theorem below2 {w : World} {o o' : Obj} : Below w.heap.size w ((w.alloc o).alloc o') := ((Below.refl w.heap.size w).alloc (Nat.le_refl _) o).alloc (by simp) o'
set_option maxHeartbeats 8000000 in
set_option maxRecDepth 100000 in
theorem loads_big {A0 : Option Addr} {c0 : Nat} {l0 : List S53} {a1_0 a1_1 a1_2 a1_3 : Int} {at_ sp : Int} {en : Bool} {st sl inn ou : List Int} {A1 A2 A3 A4 : Option Addr} {q1 q2 q3 q4 : Nat} {w : World} (hb : st.length ≤ 140737488351232 ∧ sl.length ≤ 140737488351232 ∧ inn.length ≤ 140737488351232 ∧ ou.length ≤ 140737488351232) (h : 200 < l0.length ∨ 1000 < st.length + sl.length + inn.length + ou.length) :
    Calls Try.prog 6 #[.slice A0 l0.length c0, .agg #[.int .i64 a1_0, .int .i64 a1_1, .int .i64 a1_2, .int .i64 a1_3], .agg #[.int .i64 at_, .slice A1 st.length q1, .slice A2 sl.length q2, .slice A3 inn.length q3, .slice A4 ou.length q4, .int .i64 sp, .bool en]] w fun e w' => e = .returned (.bool true) ∧ Below w.heap.size w w' := by
  have X := Aside0.mk (box2 (w := w) (a1_0 := a1_0) (a1_1 := a1_1) (a1_2 := a1_2) (a1_3 := a1_3) (cx := #[.int .i64 at_, .slice A1 st.length q1, .slice A2 sl.length q2, .slice A3 inn.length q3, .slice A4 ou.length q4, .int .i64 sp, .bool en]))
  have B := Aside0.mk (below2 (w := w) (o := .cells #[.int .i64 a1_0, .int .i64 a1_1, .int .i64 a1_2, .int .i64 a1_3] (24 : Nat)) (o' := .cells #[.int .i64 at_, .slice A1 st.length q1, .slice A2 sl.length q2, .slice A3 inn.length q3, .slice A4 ou.length q4, .int .i64 sp, .bool en] (37 : Nat)))
  have hu37 := Try.underlying37
  by_cases h1 : 200 < l0.length
  · have d1 : decide ((200 : Int) < (l0.length : Int)) = true := decide_eq_true (by omega)
    clear h h1 hb
    go_enter Try.func6, Try.ntmps6
    go_wp2_with fail
    refine (works_calls _).mono ?_
    rintro e W' ⟨rfl, hb⟩
    have B2 := Aside0.mk (B.out.trans (hb.mono B.out.size))
    clear hb
    go_wp2
    go_ret
    exact ⟨rfl, B2.out⟩
  have d1 : decide ((200 : Int) < (l0.length : Int)) = false := decide_eq_false (by omega)
  have d2 : decide ((1000 : Int) < (st.length : Int) + (sl.length : Int) + (inn.length : Int) + (ou.length : Int)) = true := decide_eq_true (by omega)
  obtain ⟨hb1, hb2, hb3, hb4⟩ := hb
  clear h h1
  go_enter Try.func6, Try.ntmps6
  go_wp2_with fail
  refine (works_calls _).mono ?_
  rintro e W' ⟨rfl, hb⟩
  have B2 := Aside0.mk (B.out.trans (hb.mono B.out.size))
  clear hb
  go_wp2
  go_ret
  exact ⟨rfl, B2.out⟩
set_option maxHeartbeats 16000000 in
set_option maxRecDepth 100000 in
theorem loads_small {A0 : Option Addr} {c0 : Nat} {l0 : List S53} {a1_0 a1_1 a1_2 a1_3 : Int} {at_ sp : Int} {en : Bool} {st sl inn ou : List Int} {A1 A2 A3 A4 : Option Addr} {q1 q2 q3 q4 : Nat} {w : World} (hr0 : Kd.C k53 w A0 l0.length l0) (hc0 : l0.length ≤ c0) (h1 : l0.length ≤ 200)
    (k1 : Kd.C (Kd.int .i64) w A1 st.length st) (g1 : st.length ≤ q1) (k2 : Kd.C (Kd.int .i64) w A2 sl.length sl) (g2 : sl.length ≤ q2) (k3 : Kd.C (Kd.int .i64) w A3 inn.length inn) (g3 : inn.length ≤ q3) (k4 : Kd.C (Kd.int .i64) w A4 ou.length ou) (g4 : ou.length ≤ q4)
    (hs : st.length + sl.length + inn.length + ou.length ≤ 1000) (hl64 : ∀ i ∈ l0, is64 i.f1) (hst : ∀ v ∈ st, is64 v) (hsl : ∀ v ∈ sl, is64 v) (hin : ∀ v ∈ inn, is64 v) (hou : ∀ v ∈ ou, is64 v) :
    Calls Try.prog 6 #[.slice A0 l0.length c0, .agg #[.int .i64 a1_0, .int .i64 a1_1, .int .i64 a1_2, .int .i64 a1_3], .agg #[.int .i64 at_, .slice A1 st.length q1, .slice A2 sl.length q2, .slice A3 inn.length q3, .slice A4 ou.length q4, .int .i64 sp, .bool en]] w fun e w' => e = .returned (.bool true) ∧ Below w.heap.size w w' := by
  have X := Aside0.mk (box2 (w := w) (a1_0 := a1_0) (a1_1 := a1_1) (a1_2 := a1_2) (a1_3 := a1_3) (cx := #[.int .i64 at_, .slice A1 st.length q1, .slice A2 sl.length q2, .slice A3 inn.length q3, .slice A4 ou.length q4, .int .i64 sp, .bool en]))
  have B := Aside0.mk (below2 (w := w) (o := .cells #[.int .i64 a1_0, .int .i64 a1_1, .int .i64 a1_2, .int .i64 a1_3] (24 : Nat)) (o' := .cells #[.int .i64 at_, .slice A1 st.length q1, .slice A2 sl.length q2, .slice A3 inn.length q3, .slice A4 ou.length q4, .int .i64 sp, .bool en] (37 : Nat)))
  have Z : Aside0 (w.heap.size + 1 < ((w.alloc (.cells #[.int .i64 a1_0, .int .i64 a1_1, .int .i64 a1_2, .int .i64 a1_3] (24 : Nat))).alloc (.cells #[.int .i64 at_, .slice A1 st.length q1, .slice A2 sl.length q2, .slice A3 inn.length q3, .slice A4 ou.length q4, .int .i64 sp, .bool en] (37 : Nat))).heap.size) := ⟨by simp⟩
  have HC := Aside0.mk (And.intro hr0 (And.intro hc0 h1))
  have HK := Aside0.mk (And.intro (And.intro k1 g1) (And.intro (And.intro k2 g2) (And.intro (And.intro k3 g3) (And.intro k4 g4))))
  have HS := Aside0.mk hs
  have HG := Aside0.mk (And.intro hl64 (And.intro hst (And.intro hsl (And.intro hin hou))))
  have hu24 := Try.underlying24
  have hu37 := Try.underlying37
  have hz37 := zero37
  have d1 : decide ((200 : Int) < (l0.length : Int)) = false := decide_eq_false (by omega)
  have d2 : decide ((1000 : Int) < (st.length : Int) + (sl.length : Int) + (inn.length : Int) + (ou.length : Int)) = false := decide_eq_false (by omega)
  have hb1 : st.length ≤ 1000 := by omega
  have hb2 : sl.length ≤ 1000 := by omega
  have hb3 : inn.length ≤ 1000 := by omega
  have hb4 : ou.length ≤ 1000 := by omega
  clear hr0 hc0 h1 k1 g1 k2 g2 k3 g3 k4 g4 hs hl64 hst hsl hin hou
  go_enter Try.func6, Try.ntmps6
  go_wp2_with ((with_reducible refine gate_ (.load 24 (.tmp 4)) rfl ?_); refine wpList_cfload rfl (.tmp 4) rfl rfl X.out.cf ?_)
  clear hb1 hb2 hb3 hb4 d1 d2
  generalize (w.alloc (.cells #[.int .i64 a1_0, .int .i64 a1_1, .int .i64 a1_2, .int .i64 a1_3] (24 : Nat))).alloc (.cells #[.int .i64 at_, .slice A1 st.length q1, .slice A2 sl.length q2, .slice A3 inn.length q3, .slice A4 ou.length q4, .int .i64 sp, .bool en] (37 : Nat)) = W1 at X B Z ⊢
  refine (rstates_calls A0 c0 l0 ⟨a1_0, a1_1, a1_2, a1_3⟩ _ (Kd.C_below HC.out.1 B.out) HC.out.2.1).mono ?_
  rintro e W2 ⟨⟨v, rfl, _⟩, hb⟩
  have X2 := Aside0.mk (X.out.below hb)
  have B2 := Aside0.mk (B.out.trans (hb.mono B.out.size))
  have Z2 : Aside0 (w.heap.size + 1 < W2.heap.size) := ⟨Nat.lt_of_lt_of_le Z.out hb.size⟩
  obtain ⟨er, her⟩ : ∃ r, (sref l0 ⟨a1_0, a1_1, a1_2, a1_3⟩).2 = r := ⟨_, rfl⟩
  obtain ⟨hi, hhi⟩ : ∃ r, (sref l0 ⟨a1_0, a1_1, a1_2, a1_3⟩).1 = r := ⟨_, rfl⟩
  rw [her, hhi]
  rw [← ver_sref] at her
  have HER := Aside0.mk her
  clear hb X B Z her hhi
  go_wp2_with fail
  have B3 : Aside0 (Below w.heap.size w W2.drew) := ⟨below_drew1 B2.out⟩
  have Z3 : Aside0 (w.heap.size + 1 < W2.drew.heap.size) := ⟨Z2.out⟩
  refine start_ (n := 11) (S := fun w' => Bx w' w.heap.size a1_0 a1_1 a1_2 a1_3 #[.int .i64 at_, .slice A1 st.length q1, .slice A2 sl.length q2, .slice A3 inn.length q3, .slice A4 ou.length q4, .int .i64 sp, .bool en]) (ds := [5]) #[false, false, false, false, false, false, false, false, false, false, false] (by kernel_rfl) rfl rfl (X2.out.below (below_drew1 (Below.refl _ _))) (fun hHeld => ?_)
  generalize W2.drew = W3 at B3 Z3 hHeld ⊢
  clear X2 B2 Z2
  refine pure_ (i := 0) (N := some 51) (v := ?_) (a' := ?_) #[true, false, false, false, false, false, false, false, false, false, false] rfl rfl (by kernel_rfl) (fun _ _ _ h => h) (Or.inl ⟨by rfl, ?_⟩) ?_ ?_
  rotate_left
  · intro w'
    go_simp
    with_reducible rfl
  rotate_left
  · simp only [Act.put, List.setIfInBounds_toArray, List.set_cons_zero, List.set_cons_succ, i64_w, i32_w]
    rfl
  refine take_ (i := 2) (N := some 53) (v := ?_) (a' := ?_) #[true, false, true, false, false, false, false, false, false, false, false] rfl rfl (by kernel_rfl) (fun _ _ _ h => h) (Or.inl ⟨by rfl, ?_⟩) hHeld ?_ ?_
  rotate_left
  · intro w' hx
    show (do let r ← Instr.loadAt 24 (.pointer (some ⟨w.heap.size, 0, none⟩)); pure (Next.value r) : Sem Next).run Try.prog w' = _
    rw [Sem.run_bind, cf_load hx.cf]
    rfl
  rotate_left
  · simp only [Act.put, List.setIfInBounds_toArray, List.set_cons_zero, List.set_cons_succ, i64_w, i32_w]
    rfl
  refine take_ (i := 3) (N := some 54) (v := ?_) (a' := ?_) #[true, false, true, true, false, false, false, false, false, false, false] rfl rfl (by kernel_rfl) (fun _ _ _ h => h) (Or.inl ⟨by rfl, ?_⟩) hHeld ?_ ?_
  rotate_left
  · intro w' hx
    show (do let r ← Instr.loadAt 37 (.pointer (some ⟨w.heap.size + 1, 0, none⟩)); pure (Next.value r) : Sem Next).run Try.prog w' = _
    rw [Sem.run_bind, ld37_run hx.cx rfl]
    rfl
  rotate_left
  · simp only [Act.put, List.setIfInBounds_toArray, List.set_cons_zero, List.set_cons_succ, i64_w, i32_w]
    rfl
  refine one_ (i := 1) (N := some 52) #[true, true, true, true, false, false, false, false, false, false, false] rfl rfl (by kernel_rfl) (by decide) (fun K hK => ?_)
  refine goes_ Try.func10 (by kernel_rfl) rfl #[.slice A0 l0.length c0] (by rfl) rfl rfl (by simp only [List.map_toArray, List.map_cons, List.map_nil]; rfl) ?_
  refine (copied_made (Kd.C_below HC.out.1 B3.out) HC.out.2.1 HC.out.2.2).mono ?_
  rintro e W4 ⟨cv, rfl, hv, hb⟩
  obtain ⟨Ac, cc, rfl, hcc, hAc, hCc⟩ := R53_rd hv
  have HCC := Aside0.mk (And.intro hCc (And.intro hcc hAc))
  have B4 := Aside0.mk (B3.out.trans (hb.mono B3.out.size))
  have X4 := Aside0.mk (hHeld.below hb)
  have Z4 : Aside0 (w.heap.size + 1 < W4.heap.size) := ⟨Nat.lt_of_lt_of_le Z3.out hb.size⟩
  refine ⟨_, rfl, hK.out _ _ X4.out (fun _ => ?_)⟩
  clear hK K hv hb hcc hAc hCc B3 Z3 hHeld
  refine norm_ (a' := ?_) ?_ ?_
  rotate_left
  · simp only [Act.put, List.setIfInBounds_toArray, List.set_cons_zero, List.set_cons_succ, i64_w, i32_w]
    rfl
  refine one_ (i := 4) (N := some 55) #[true, true, true, true, true, false, false, false, false, false, false] rfl rfl (by kernel_rfl) (by decide) (fun K hK => ?_)
  refine goes_ Try.func24 (by kernel_rfl) rfl #[.agg #[.int .i64 at_, .slice A1 st.length q1, .slice A2 sl.length q2, .slice A3 inn.length q3, .slice A4 ou.length q4, .int .i64 sp, .bool en]] (by rfl) rfl rfl (by simp only [List.map_toArray, List.map_cons, List.map_nil]; rfl) ?_
  refine (copy_made (at_ := at_) (sp := sp) (en := en) (Kd.C_below HK.out.1.1 B4.out) HK.out.1.2 (Kd.C_below HK.out.2.1.1 B4.out) HK.out.2.1.2 (Kd.C_below HK.out.2.2.1.1 B4.out) HK.out.2.2.1.2 (Kd.C_below HK.out.2.2.2.1 B4.out) HK.out.2.2.2.2 (by have := HS.out; omega) (by have := HS.out; omega) (by have := HS.out; omega) (by have := HS.out; omega)).mono ?_
  rintro e W5 ⟨⟨sv, tv, iv, ov, rfl, hF⟩, hb⟩
  have HF := Aside0.mk hF
  have B5 := Aside0.mk (B4.out.trans (hb.mono B4.out.size))
  have X5 := Aside0.mk (X4.out.below hb)
  have Z5 : Aside0 (w.heap.size + 1 < W5.heap.size) := ⟨Nat.lt_of_lt_of_le Z4.out hb.size⟩
  have HCC5 := Aside0.mk (And.intro (Kd.C_below HCC.out.1 hb) HCC.out.2)
  refine ⟨_, rfl, hK.out _ _ X5.out (fun _ => ?_)⟩
  clear hK K hF hb HCC B4 X4 Z4
  refine norm_ (a' := ?_) ?_ ?_
  rotate_left
  · simp only [Act.put, List.setIfInBounds_toArray, List.set_cons_zero, List.set_cons_succ, i64_w, i32_w]
    rfl
  refine last_ (i := 5) (N := some 56) #[true, true, true, true, true, true, false, false, false, false, false] rfl rfl (by kernel_rfl) (by decide) (fun K hK => ?_)
  refine goes_ Try.func23 (by kernel_rfl) rfl #[.slice Ac l0.length cc, .agg #[.int .i64 a1_0, .int .i64 a1_1, .int .i64 a1_2, .int .i64 a1_3], .agg (cxI at_ sv tv iv ov sp en)] (by rfl) rfl rfl (by simp only [List.map_toArray, List.map_cons, List.map_nil]; rfl) ?_
  refine (load_any HCC5.out.1 HCC5.out.2.1 HCC5.out.2.2 HF.out.st HF.out.sl HF.out.inn HF.out.ou (by have := HS.out; omega)).mono ?_
  rintro e W6 ⟨pv, le, rfl, hE, hz, hn, hb⟩
  have HE := Aside0.mk hE
  have HZ := Aside0.mk hz
  have HN := Aside0.mk hn
  have B6 := Aside0.mk (B5.out.trans (hb.mono B5.out.size))
  have X6 := Aside0.mk (X5.out.below hb)
  have Z6 : Aside0 (w.heap.size + 1 < W6.heap.size) := ⟨Nat.lt_of_lt_of_le Z5.out hb.size⟩
  have L5 : Aside0 (w.heap.size ≤ W5.heap.size) := ⟨B5.out.size⟩
  refine ⟨_, rfl, hK.out _ _ ?_⟩
  clear hK K hE hz hn hb HCC5 HF B5 X5 Z5
  refine pure_ (i := 6) (N := some 50) (v := ?_) (a' := ?_) #[true, true, true, true, true, true, true, false, false, false, false] rfl rfl (by kernel_rfl) (fun _ _ _ h => h) (Or.inl ⟨by rfl, ?_⟩) ?_ ?_
  rotate_left
  · intro w'
    go_simp
    with_reducible rfl
  rotate_left
  · simp only [Act.put, List.setIfInBounds_toArray, List.set_cons_zero, List.set_cons_succ, i64_w, i32_w]
    rfl
  refine pure_ (i := 7) (N := some 57) (v := ?_) (a' := ?_) #[true, true, true, true, true, true, true, true, false, false, false] rfl rfl (by kernel_rfl) (fun _ _ _ h => h) (Or.inl ⟨by rfl, ?_⟩) ?_ ?_
  rotate_left
  · intro w'
    go_simp
    with_reducible rfl
  rotate_left
  · simp only [Act.put, List.setIfInBounds_toArray, List.set_cons_zero, List.set_cons_succ, i64_w, i32_w]
    rfl
  refine pure_ (i := 8) (N := some 58) (v := ?_) (a' := ?_) #[true, true, true, true, true, true, true, true, true, false, false] rfl rfl (by kernel_rfl) (fun _ _ _ h => h) (Or.inl ⟨by rfl, ?_⟩) ?_ ?_
  rotate_left
  · intro w'
    go_simp
    with_reducible rfl
  rotate_left
  · simp only [Act.put, List.setIfInBounds_toArray, List.set_cons_zero, List.set_cons_succ, i64_w, i32_w]
    rfl
  refine pure_ (i := 9) (N := some 10) (v := ?_) (a' := ?_) #[true, true, true, true, true, true, true, true, true, true, false] rfl rfl (by kernel_rfl) (fun _ _ _ h => h) (Or.inl ⟨by rfl, ?_⟩) ?_ ?_
  rotate_left
  · intro w'
    go_simp
    with_reducible rfl
  rotate_left
  · simp only [Act.put, List.setIfInBounds_toArray, List.set_cons_zero, List.set_cons_succ, i64_w, i32_w]
    rfl
  refine pure_ (i := 10) (N := some 11) (v := ?_) (a' := ?_) #[true, true, true, true, true, true, true, true, true, true, true] rfl rfl (by kernel_rfl) (fun _ _ _ h => h) (Or.inl ⟨by rfl, ?_⟩) ?_ ?_
  rotate_left
  · intro w'
    go_simp
    with_reducible rfl
  rotate_left
  · simp only [Act.put, List.setIfInBounds_toArray, List.set_cons_zero, List.set_cons_succ, i64_w, i32_w]
    rfl
  refine done_ (by kernel_rfl) ?_
  rcases HE.out with ⟨hv, hle⟩ | ⟨hv, m, Av, hg, h0, hok⟩
  · rw [HER.out] at hv hle
    subst hle
    obtain rfl := HN.out hv
    have q1 : (le == 0) = false := by simpa using hv
    have q2 : (le != 0) = true := by simpa using hv
    clear hv
    go_wp2_with fail
    refine (works_calls _).mono ?_
    rintro e W9 ⟨rfl, hb⟩
    have B9 := Aside0.mk (B6.out.trans (hb.mono B6.out.size))
    clear hb
    go_wp2
    go_ret
    exact ⟨rfl, B9.out⟩
  rw [HER.out] at hv
  subst hv
  have HV := Aside0.mk HER.out
  rcases hok with ⟨hok, rfl⟩ | ⟨hok, rfl⟩
  case inr =>
    obtain rfl := HN.out (by decide)
    go_wp2_with first | ((with_reducible refine gate_ (.load 24 (.tmp 4)) rfl ?_); refine wpList_gl24 (by rfl) (.tmp 4) rfl rfl X6.out.cf ?_) | ((with_reducible refine gate_ (.load 37 (.tmp 5)) rfl ?_); refine wpList_gl37 (by rfl) (.tmp 5) rfl rfl X6.out.cx rfl ?_)
    refine (may_calls (Kd.C_below HC.out.1 B6.out) HC.out.2.1 HV.out hg h0).mono ?_
    rintro e W7 ⟨_, hno, hb⟩
    obtain rfl := hno hok
    have B7 := Aside0.mk (B6.out.trans (hb.mono B6.out.size))
    clear hb hno hok hg h0
    go_wp2_with fail
    refine (works_calls _).mono ?_
    rintro e W9 ⟨rfl, hb⟩
    have B9 := Aside0.mk (B7.out.trans (hb.mono B7.out.size))
    clear hb
    go_wp2
    go_ret
    exact ⟨rfl, B9.out⟩
  obtain ⟨p, rfl⟩ : ∃ p : Nat, at_ = (p : Int) := ⟨at_.toNat, by have := hok.1; omega⟩
  obtain ⟨bv, rfl, hvm⟩ := HZ.out rfl
  go_wp2_with first | ((with_reducible refine gate_ (.load 24 (.tmp 4)) rfl ?_); refine wpList_gl24 (by rfl) (.tmp 4) rfl rfl X6.out.cf ?_) | ((with_reducible refine gate_ (.load 37 (.tmp 5)) rfl ?_); refine wpList_gl37 (by rfl) (.tmp 5) rfl rfl X6.out.cx rfl ?_)
  refine (may_calls (Kd.C_below HC.out.1 B6.out) HC.out.2.1 HV.out hg h0).mono ?_
  rintro e W7 ⟨hyes, _, hb⟩
  obtain rfl := hyes hok
  obtain ⟨x, hx⟩ : ∃ x : Ctx, (⟨p, st, sl, inn, ou, sp, en⟩ : Ctx) = x := ⟨_, rfl⟩
  have HRN : Aside0 (Rn l0 ⟨a1_0, a1_1, a1_2, a1_3⟩ x) := ⟨by
    subst hx
    obtain ⟨o1, o2, o3, o4, o5, o6, o7, o8, o9⟩ := hok
    refine ⟨HV.out, ⟨m, Av, ⟨hg, by show p < l0.length; omega, by simpa using o9, o3, o4, o5, o8⟩, h0⟩, fun _ => ?_, ⟨o6, by show sp ≤ _; omega⟩⟩
    show 0 ≤ sp ∧ sp + 8 * ((l0.length : Int) - (p : Int) + 1) ≤ 2199023255552
    have := HC.out.2.2
    omega⟩
  have HRG : Aside0 (Rng x) := ⟨by subst hx; exact HG.out.2⟩
  have hvm2 : VMem W6 (fun k => W5.heap.size ≤ k ∧ k < W6.heap.size) bv ⟨a1_0, a1_1, a1_2, a1_3⟩ l0 x := by subst hx; exact hvm
  have HVM := Aside0.mk (hvm2.below hb)
  have L6 : Aside0 (W6.heap.size ≤ W7.heap.size) := ⟨hb.size⟩
  have B7 := Aside0.mk (B6.out.trans (hb.mono B6.out.size))
  have X7 := Aside0.mk (X6.out.below hb)
  have HX := Aside0.mk hx
  clear hb hyes hok hg h0 hvm hvm2 HE HZ HN B6 X6 Z6 hx
  go_wp2_with fail
  have B8 : Aside0 (Below w.heap.size w W7.drew) := ⟨below_drew1 B7.out⟩
  have M8 : Aside0 (VMem W7.drew (fun k => W5.heap.size ≤ k ∧ k < W6.heap.size) bv ⟨a1_0, a1_1, a1_2, a1_3⟩ l0 x) := ⟨HVM.out.below (below_drew1 (Below.refl _ _))⟩
  have L8 : Aside0 (W6.heap.size ≤ W7.drew.heap.size) := ⟨L6.out⟩
  have hu42 := Try.underlying42
  refine start_ (n := 7) (S := fun w' => Bx w' w.heap.size a1_0 a1_1 a1_2 a1_3 #[.int .i64 (p : Int), .slice A1 st.length q1, .slice A2 sl.length q2, .slice A3 inn.length q3, .slice A4 ou.length q4, .int .i64 sp, .bool en]) (ds := []) #[false, false, false, false, false, false, false] (by kernel_rfl) rfl rfl (X7.out.below (below_drew1 (Below.refl _ _))) (fun hHeld => ?_)
  generalize W7.drew = W8 at B8 M8 L8 hHeld ⊢
  clear X7 B7 HVM L6
  refine pure_ (i := 0) (N := some 86) (v := ?_) (a' := ?_) #[true, false, false, false, false, false, false] rfl rfl (by kernel_rfl) (fun _ _ _ h => h) (Or.inl ⟨by rfl, ?_⟩) ?_ ?_
  rotate_left
  · intro w'
    go_simp
    with_reducible rfl
  rotate_left
  · simp only [Act.put, List.setIfInBounds_toArray, List.set_cons_zero, List.set_cons_succ, i64_w, i32_w]
    rfl
  refine take_ (i := 1) (N := some 87) (v := ?_) (a' := ?_) #[true, true, false, false, false, false, false] rfl rfl (by kernel_rfl) (fun _ _ _ h => h) (Or.inl ⟨by rfl, ?_⟩) hHeld ?_ ?_
  rotate_left
  · intro w' hx
    show (do let r ← Instr.loadAt 24 (.pointer (some ⟨w.heap.size, 0, none⟩)); pure (Next.value r) : Sem Next).run Try.prog w' = _
    rw [Sem.run_bind, cf_load hx.cf]
    rfl
  rotate_left
  · simp only [Act.put, List.setIfInBounds_toArray, List.set_cons_zero, List.set_cons_succ, i64_w, i32_w]
    rfl
  refine take_ (i := 2) (N := some 88) (v := ?_) (a' := ?_) #[true, true, true, false, false, false, false] rfl rfl (by kernel_rfl) (fun _ _ _ h => h) (Or.inl ⟨by rfl, ?_⟩) hHeld ?_ ?_
  rotate_left
  · intro w' hx
    show (do let r ← Instr.loadAt 37 (.pointer (some ⟨w.heap.size + 1, 0, none⟩)); pure (Next.value r) : Sem Next).run Try.prog w' = _
    rw [Sem.run_bind, ld37_run hx.cx rfl]
    rfl
  rotate_left
  · simp only [Act.put, List.setIfInBounds_toArray, List.set_cons_zero, List.set_cons_succ, i64_w, i32_w]
    rfl
  refine one_ (i := 3) (N := some 89) #[true, true, true, true, false, false, false] rfl rfl (by kernel_rfl) (by decide) (fun K hK => ?_)
  refine goes_ Try.func24 (by kernel_rfl) rfl #[.agg #[.int .i64 (p : Int), .slice A1 st.length q1, .slice A2 sl.length q2, .slice A3 inn.length q3, .slice A4 ou.length q4, .int .i64 sp, .bool en]] (by rfl) rfl rfl (by simp only [List.map_toArray, List.map_cons, List.map_nil]; rfl) ?_
  refine (copy_made (at_ := (p : Int)) (sp := sp) (en := en) (Kd.C_below HK.out.1.1 B8.out) HK.out.1.2 (Kd.C_below HK.out.2.1.1 B8.out) HK.out.2.1.2 (Kd.C_below HK.out.2.2.1.1 B8.out) HK.out.2.2.1.2 (Kd.C_below HK.out.2.2.2.1 B8.out) HK.out.2.2.2.2 (by have := HS.out; omega) (by have := HS.out; omega) (by have := HS.out; omega) (by have := HS.out; omega)).mono ?_
  rintro e W9 ⟨⟨sv, tv, iv, ov, rfl, hF⟩, hb⟩
  have HF := Aside0.mk hF
  have B9 := Aside0.mk (B8.out.trans (hb.mono B8.out.size))
  have X9 := Aside0.mk (hHeld.below hb)
  have M9 := Aside0.mk (M8.out.below hb)
  have L9 : Aside0 (W8.heap.size ≤ W9.heap.size) := ⟨hb.size⟩
  have LW8 : Aside0 (w.heap.size ≤ W8.heap.size) := ⟨B8.out.size⟩
  refine ⟨_, rfl, hK.out _ _ X9.out (fun _ => ?_)⟩
  clear hK K hF hb hHeld B8 M8
  refine norm_ (a' := ?_) ?_ ?_
  rotate_left
  · simp only [Act.put, List.setIfInBounds_toArray, List.set_cons_zero, List.set_cons_succ, cxI]
    rfl
  refine pure_ (i := 4) (N := some 90) (v := ?_) (a' := ?_) #[true, true, true, true, true, false, false] rfl rfl (by kernel_rfl) (fun _ _ _ h => h) (Or.inl ⟨by rfl, ?_⟩) ?_ ?_
  rotate_left
  · intro w'
    go_simp
    with_reducible rfl
  rotate_left
  · simp only [Act.put, List.setIfInBounds_toArray, List.set_cons_zero, List.set_cons_succ, i64_w, i32_w]
    rfl
  refine one_ (i := 5) (N := some 91) #[true, true, true, true, true, true, false] rfl rfl (by kernel_rfl) (by decide) (fun K hK => ?_)
  refine value_ (v := .pointer (some ⟨W9.heap.size, 0, none⟩)) (w1 := W9.alloc (.cells #[.slice A0 l0.length c0, .int .i64 a1_0, .int .i64 a1_1, .int .i64 a1_2, .int .i64 a1_3, .int .i64 (p : Int), sv, tv, iv, ov, .int .i64 sp, .bool en] (42 : Nat))) (by rfl) rfl ?_ ?_
  · go_simp
    all_goals rfl
  have b10 := (Below.refl _ _).alloc (w := W9) (Nat.le_refl _) (.cells #[.slice A0 l0.length c0, .int .i64 a1_0, .int .i64 a1_1, .int .i64 a1_2, .int .i64 a1_3, .int .i64 (p : Int), sv, tv, iv, ov, .int .i64 sp, .bool en] (42 : Nat))
  have VR0 : Aside0 (VR w (W9.alloc (.cells #[.slice A0 l0.length c0, .int .i64 a1_0, .int .i64 a1_1, .int .i64 a1_2, .int .i64 a1_3, .int .i64 (p : Int), sv, tv, iv, ov, .int .i64 sp, .bool en] (42 : Nat))) ⟨a1_0, a1_1, a1_2, a1_3⟩ l0 bv W9.heap.size x x (.slice A0 l0.length c0) (fun k => W5.heap.size ≤ k ∧ k < W6.heap.size) (fun k => W8.heap.size ≤ k ∧ k < (W9.alloc (.cells #[.slice A0 l0.length c0, .int .i64 a1_0, .int .i64 a1_1, .int .i64 a1_2, .int .i64 a1_3, .int .i64 (p : Int), sv, tv, iv, ov, .int .i64 sp, .bool en] (42 : Nat))).heap.size)) := ⟨by
    have hF := HF.out.below b10
    have hsz : (W9.alloc (.cells #[.slice A0 l0.length c0, .int .i64 a1_0, .int .i64 a1_1, .int .i64 a1_2, .int .i64 a1_3, .int .i64 (p : Int), sv, tv, iv, ov, .int .i64 sp, .bool en] (42 : Nat))).heap.size = W9.heap.size + 1 := by simp
    refine ⟨M9.out.below b10, ⟨sv, tv, iv, ov, ?_⟩, fun k h1 h2 => (by have := L8.out; omega), fun k h1 => (by have := L5.out; have := L8.out; have := L9.out; omega), fun k h1 => (by have := LW8.out; omega), B9.out.trans (b10.mono B9.out.size)⟩
    have hx := HX.out
    subst hx
    exact ⟨heap_alloc_new _ _, hF.st, hF.sl, hF.inn, hF.ou, hF.d1, hF.d2, hF.d3, ⟨L9.out, by omega⟩, fun k hk => ⟨(HF.out.lo k hk).1, by have := (HF.out.lo k hk).2; omega⟩⟩⟩
  refine hK.out _ _ (X9.out.below b10) (fun _ => ?_)
  clear hK K b10 M9 X9 HF B9 L9 LW8
  generalize W9.alloc (.cells #[.slice A0 l0.length c0, .int .i64 a1_0, .int .i64 a1_1, .int .i64 a1_2, .int .i64 a1_3, .int .i64 (p : Int), sv, tv, iv, ov, .int .i64 sp, .bool en] (42 : Nat)) = W10 at VR0 ⊢
  generalize W9.heap.size = br at VR0 ⊢
  refine norm_ (a' := ?_) ?_ ?_
  rotate_left
  · simp only [Act.put, List.setIfInBounds_toArray, List.set_cons_zero, List.set_cons_succ, i64_w, i32_w]
    rfl
  refine pure_ (i := 6) (N := some 12) (v := ?_) (a' := ?_) #[true, true, true, true, true, true, true] rfl rfl (by kernel_rfl) (fun _ _ _ h => h) (Or.inl ⟨by rfl, ?_⟩) ?_ ?_
  rotate_left
  · intro w'
    go_simp
    with_reducible rfl
  rotate_left
  · simp only [Act.put, List.setIfInBounds_toArray, List.set_cons_zero, List.set_cons_succ, i64_w, i32_w]
    rfl
  refine done_ (by kernel_rfl) ?_
  obtain ⟨Pv, hPv⟩ : ∃ P : Nat → Prop, (fun k => W5.heap.size ≤ k ∧ k < W6.heap.size) = P := ⟨_, rfl⟩
  obtain ⟨Pr, hPr⟩ : ∃ P : Nat → Prop, (fun k => W8.heap.size ≤ k ∧ k < W10.heap.size) = P := ⟨_, rfl⟩
  rw [hPv, hPr] at VR0
  clear hPv hPr L5 L8
  go_wp2_with fail
  refine (run_full VR0.out.mv (fun k hk => (VR0.out.lv k hk).2) HRN.out 10000).mono ?_
  rintro e W11 ⟨rfl, hv, hk⟩
  have VR1 := Aside0.mk (VR0.out.run1 hv hk)
  clear hv hk VR0
  obtain ⟨rs, hrs⟩ : ∃ r, res18 l0 10000 x = r := ⟨_, rfl⟩
  rw [hrs]
  have HRS := Aside0.mk hrs
  clear hrs
  obtain ⟨r1, r2, r3⟩ := rs
  go_wp2_with fail
  refine (rrun_full VR1.out.mr (fun W' hk => VR1.out.code HC.out.1 W' hk) (fun k hk => (VR1.out.lr k hk).2) HRN.out HRG.out HG.out.1 10000).mono ?_
  rintro e W12 ⟨rfl, hr, hk⟩
  have VR2 := Aside0.mk (VR1.out.run2 hr hk)
  rw [HRS.out]
  have HRN2 := Aside0.mk (HRN.out.to18 10000)
  clear hr hk VR1 HRN HRG HRS
  generalize to18 l0 10000 x = y at VR2 HRN2 ⊢
  generalize Zn Pv W10 W11 = Pv2 at VR2
  generalize Zn Pr W11 W12 = Pr2 at VR2
  generalize (⟨a1_0, a1_1, a1_2, a1_3⟩ : Cf) = c at VR2 HRN2
  go_wp2_with fail
  refine (save_full VR2.out.mv HRN2.out).mono ?_
  rintro e W13 ⟨⟨s5, t5, i5, o5, rfl, hc⟩, hb⟩
  have HC8 := Aside0.mk (hc.move (W1 := (W13.alloc (.cells cx0 (37 : Nat))).setRow W13.heap.size (cxA y s5 t5 i5 o5)) (fun k _ hk => (setRow_other _ _ _ _ (by omega)).trans (heap_alloc_old _ _ hk)))
  have hall := cx_all hc
  have XB := Aside0.mk (setRow_heap (W13.alloc (.cells cx0 (37 : Nat))) W13.heap.size cx0 (cxA y s5 t5 i5 o5) (37 : Nat) (0, 0) (heap_alloc_new W13 (.cells cx0 (37 : Nat))))
  have VR3 : Aside0 (VR w ((W13.alloc (.cells cx0 (37 : Nat))).setRow W13.heap.size (cxA y s5 t5 i5 o5)) c l0 bv br y y (.slice A0 l0.length c0) Pv2 Pr2) := ⟨by
    have h1 := VR2.out.below hb
    refine h1.below (((Below.refl W13.heap.size W13).alloc (Nat.le_refl _) (.cells cx0 (37 : Nat))).trans ?_)
    exact ⟨rfl, rfl, rfl, by simp, fun k hk => setRow_other _ _ _ _ (by omega)⟩⟩
  clear hb VR2 hc
  go_wp2_with ((with_reducible refine gate_store (t := 37) (p := 19) rfl ?_); refine wpList_cxstore (cs' := cxA y s5 t5 i5 o5) rfl (.tmp 19) (.tmp 107) rfl rfl rfl (heap_alloc_new W13 (.cells cx0 (37 : Nat))) rfl rfl hall ?_)
  clear hall
  generalize (W13.alloc (.cells cx0 (37 : Nat))).setRow W13.heap.size (cxA y s5 t5 i5 o5) = W14 at HC8 XB VR3 ⊢
  generalize W13.heap.size = bx at XB HC8 ⊢
  obtain ⟨s6, t6, i6, o6, hra⟩ := VR3.out.mr
  have RA3 := Aside0.mk hra
  have HN := HRN2.out.lens
  have HLN := Aside0.mk HN
  clear hra HN
  have VR4 : Aside0 (VR w W14.drew c l0 bv br y y (.slice A0 l0.length c0) Pv2 Pr2) := ⟨VR3.out.below (below_drew1 (Below.refl _ _))⟩
  have HC9 := Aside0.mk (HC8.out.move (W1 := W14.drew) (fun k _ _ => rfl))
  have RA4 := Aside0.mk (RA3.out.move (W1 := W14.drew) (fun k _ _ => rfl))
  refine start_ (n := 29) (S := fun w' => w'.heap[bx]? = some (.cells (cxA y s5 t5 i5 o5) 37 (0, 0)) ∧ w'.heap[br]? = some (.cells (rmA c y (.slice A0 l0.length c0) s6 t6 i6 o6) 42 (0, 0))) (ds := []) #[false, false, false, false, false, false, false, false, false, false, false, false, false, false, false, false, false, false, false, false, false, false, false, false, false, false, false, false, false] (by kernel_rfl) rfl rfl ⟨XB.out, RA3.out.vb⟩ (fun hHeld => ?_)
  generalize W14.drew = W15 at VR4 HC9 RA4 hHeld ⊢
  clear XB VR3 HC8 RA3
  refine pure_ (i := 0) (N := some 109) (v := ?_) (a' := ?_) #[true, false, false, false, false, false, false, false, false, false, false, false, false, false, false, false, false, false, false, false, false, false, false, false, false, false, false, false, false] rfl rfl (by kernel_rfl) (fun _ _ _ h => h) (Or.inl ⟨by rfl, ?_⟩) ?_ ?_
  rotate_left
  · intro w'
    go_simp
    with_reducible rfl
  rotate_left
  · simp only [Act.put, List.setIfInBounds_toArray, List.set_cons_zero, List.set_cons_succ, i64_w, i32_w]
    rfl
  refine pure_ (i := 1) (N := some 110) (v := ?_) (a' := ?_) #[true, true, false, false, false, false, false, false, false, false, false, false, false, false, false, false, false, false, false, false, false, false, false, false, false, false, false, false, false] rfl rfl (by kernel_rfl) (fun _ _ _ h => h) (Or.inl ⟨by rfl, ?_⟩) ?_ ?_
  rotate_left
  · intro w'
    go_simp
    with_reducible rfl
  rotate_left
  · simp only [Act.put, List.setIfInBounds_toArray, List.set_cons_zero, List.set_cons_succ, i64_w, i32_w]
    rfl
  refine pure_ (i := 2) (N := some 111) (v := ?_) (a' := ?_) #[true, true, true, false, false, false, false, false, false, false, false, false, false, false, false, false, false, false, false, false, false, false, false, false, false, false, false, false, false] rfl rfl (by kernel_rfl) (fun _ _ _ h => h) (Or.inl ⟨by rfl, ?_⟩) ?_ ?_
  rotate_left
  · intro w'
    go_simp
    with_reducible rfl
  rotate_left
  · simp only [Act.put, List.setIfInBounds_toArray, List.set_cons_zero, List.set_cons_succ, i64_w, i32_w]
    rfl
  refine pure_ (i := 3) (N := some 112) (v := ?_) (a' := ?_) #[true, true, true, true, false, false, false, false, false, false, false, false, false, false, false, false, false, false, false, false, false, false, false, false, false, false, false, false, false] rfl rfl (by kernel_rfl) (fun _ _ _ h => h) (Or.inl ⟨by rfl, ?_⟩) ?_ ?_
  rotate_left
  · intro w'
    go_simp
    with_reducible rfl
  rotate_left
  · simp only [Act.put, List.setIfInBounds_toArray, List.set_cons_zero, List.set_cons_succ, i64_w, i32_w]
    rfl
  refine pure_ (i := 4) (N := some 113) (v := ?_) (a' := ?_) #[true, true, true, true, true, false, false, false, false, false, false, false, false, false, false, false, false, false, false, false, false, false, false, false, false, false, false, false, false] rfl rfl (by kernel_rfl) (fun _ _ _ h => h) (Or.inl ⟨by rfl, ?_⟩) ?_ ?_
  rotate_left
  · intro w'
    go_simp
    with_reducible rfl
  rotate_left
  · simp only [Act.put, List.setIfInBounds_toArray, List.set_cons_zero, List.set_cons_succ, i64_w, i32_w]
    rfl
  refine pure_ (i := 5) (N := some 114) (v := ?_) (a' := ?_) #[true, true, true, true, true, true, false, false, false, false, false, false, false, false, false, false, false, false, false, false, false, false, false, false, false, false, false, false, false] rfl rfl (by kernel_rfl) (fun _ _ _ h => h) (Or.inl ⟨by rfl, ?_⟩) ?_ ?_
  rotate_left
  · intro w'
    go_simp
    with_reducible rfl
  rotate_left
  · simp only [Act.put, List.setIfInBounds_toArray, List.set_cons_zero, List.set_cons_succ, i64_w, i32_w]
    rfl
  refine pure_ (i := 6) (N := some 115) (v := ?_) (a' := ?_) #[true, true, true, true, true, true, true, false, false, false, false, false, false, false, false, false, false, false, false, false, false, false, false, false, false, false, false, false, false] rfl rfl (by kernel_rfl) (fun _ _ _ h => h) (Or.inl ⟨by rfl, ?_⟩) ?_ ?_
  rotate_left
  · intro w'
    go_simp
    with_reducible rfl
  rotate_left
  · simp only [Act.put, List.setIfInBounds_toArray, List.set_cons_zero, List.set_cons_succ, i64_w, i32_w]
    rfl
  refine pure_ (i := 7) (N := some 116) (v := ?_) (a' := ?_) #[true, true, true, true, true, true, true, true, false, false, false, false, false, false, false, false, false, false, false, false, false, false, false, false, false, false, false, false, false] rfl rfl (by kernel_rfl) (fun _ _ _ h => h) (Or.inl ⟨by rfl, ?_⟩) ?_ ?_
  rotate_left
  · intro w'
    go_simp
    with_reducible rfl
  rotate_left
  · simp only [Act.put, List.setIfInBounds_toArray, List.set_cons_zero, List.set_cons_succ, i64_w, i32_w]
    rfl
  refine pure_ (i := 8) (N := some 117) (v := ?_) (a' := ?_) #[true, true, true, true, true, true, true, true, true, false, false, false, false, false, false, false, false, false, false, false, false, false, false, false, false, false, false, false, false] rfl rfl (by kernel_rfl) (fun _ _ _ h => h) (Or.inl ⟨by rfl, ?_⟩) ?_ ?_
  rotate_left
  · intro w'
    go_simp
    with_reducible rfl
  rotate_left
  · simp only [Act.put, List.setIfInBounds_toArray, List.set_cons_zero, List.set_cons_succ, i64_w, i32_w]
    rfl
  refine pure_ (i := 9) (N := some 118) (v := ?_) (a' := ?_) #[true, true, true, true, true, true, true, true, true, true, false, false, false, false, false, false, false, false, false, false, false, false, false, false, false, false, false, false, false] rfl rfl (by kernel_rfl) (fun _ _ _ h => h) (Or.inl ⟨by rfl, ?_⟩) ?_ ?_
  rotate_left
  · intro w'
    go_simp
    with_reducible rfl
  rotate_left
  · simp only [Act.put, List.setIfInBounds_toArray, List.set_cons_zero, List.set_cons_succ, i64_w, i32_w]
    rfl
  refine pure_ (i := 10) (N := some 119) (v := ?_) (a' := ?_) #[true, true, true, true, true, true, true, true, true, true, true, false, false, false, false, false, false, false, false, false, false, false, false, false, false, false, false, false, false] rfl rfl (by kernel_rfl) (fun _ _ _ h => h) (Or.inl ⟨by rfl, ?_⟩) ?_ ?_
  rotate_left
  · intro w'
    go_simp
    with_reducible rfl
  rotate_left
  · simp only [Act.put, List.setIfInBounds_toArray, List.set_cons_zero, List.set_cons_succ, i64_w, i32_w]
    rfl
  refine pure_ (i := 11) (N := some 120) (v := ?_) (a' := ?_) #[true, true, true, true, true, true, true, true, true, true, true, true, false, false, false, false, false, false, false, false, false, false, false, false, false, false, false, false, false] rfl rfl (by kernel_rfl) (fun _ _ _ h => h) (Or.inl ⟨by rfl, ?_⟩) ?_ ?_
  rotate_left
  · intro w'
    go_simp
    with_reducible rfl
  rotate_left
  · simp only [Act.put, List.setIfInBounds_toArray, List.set_cons_zero, List.set_cons_succ, i64_w, i32_w]
    rfl
  refine pure_ (i := 12) (N := some 121) (v := ?_) (a' := ?_) #[true, true, true, true, true, true, true, true, true, true, true, true, true, false, false, false, false, false, false, false, false, false, false, false, false, false, false, false, false] rfl rfl (by kernel_rfl) (fun _ _ _ h => h) (Or.inl ⟨by rfl, ?_⟩) ?_ ?_
  rotate_left
  · intro w'
    go_simp
    with_reducible rfl
  rotate_left
  · simp only [Act.put, List.setIfInBounds_toArray, List.set_cons_zero, List.set_cons_succ, i64_w, i32_w]
    rfl
  refine pure_ (i := 13) (N := some 122) (v := ?_) (a' := ?_) #[true, true, true, true, true, true, true, true, true, true, true, true, true, true, false, false, false, false, false, false, false, false, false, false, false, false, false, false, false] rfl rfl (by kernel_rfl) (fun _ _ _ h => h) (Or.inl ⟨by rfl, ?_⟩) ?_ ?_
  rotate_left
  · intro w'
    go_simp
    with_reducible rfl
  rotate_left
  · simp only [Act.put, List.setIfInBounds_toArray, List.set_cons_zero, List.set_cons_succ, i64_w, i32_w]
    rfl
  refine pure_ (i := 14) (N := some 123) (v := ?_) (a' := ?_) #[true, true, true, true, true, true, true, true, true, true, true, true, true, true, true, false, false, false, false, false, false, false, false, false, false, false, false, false, false] rfl rfl (by kernel_rfl) (fun _ _ _ h => h) (Or.inl ⟨by rfl, ?_⟩) ?_ ?_
  rotate_left
  · intro w'
    go_simp
    with_reducible rfl
  rotate_left
  · simp only [Act.put, List.setIfInBounds_toArray, List.set_cons_zero, List.set_cons_succ, i64_w, i32_w]
    rfl
  refine pure_ (i := 15) (N := some 124) (v := ?_) (a' := ?_) #[true, true, true, true, true, true, true, true, true, true, true, true, true, true, true, true, false, false, false, false, false, false, false, false, false, false, false, false, false] rfl rfl (by kernel_rfl) (fun _ _ _ h => h) (Or.inl ⟨by rfl, ?_⟩) ?_ ?_
  rotate_left
  · intro w'
    go_simp
    with_reducible rfl
  rotate_left
  · simp only [Act.put, List.setIfInBounds_toArray, List.set_cons_zero, List.set_cons_succ, i64_w, i32_w]
    rfl
  refine pure_ (i := 16) (N := some 125) (v := ?_) (a' := ?_) #[true, true, true, true, true, true, true, true, true, true, true, true, true, true, true, true, true, false, false, false, false, false, false, false, false, false, false, false, false] rfl rfl (by kernel_rfl) (fun _ _ _ h => h) (Or.inl ⟨by rfl, ?_⟩) ?_ ?_
  rotate_left
  · intro w'
    go_simp
    with_reducible rfl
  rotate_left
  · simp only [Act.put, List.setIfInBounds_toArray, List.set_cons_zero, List.set_cons_succ, i64_w, i32_w]
    rfl
  refine pure_ (i := 17) (N := some 126) (v := ?_) (a' := ?_) #[true, true, true, true, true, true, true, true, true, true, true, true, true, true, true, true, true, true, false, false, false, false, false, false, false, false, false, false, false] rfl rfl (by kernel_rfl) (fun _ _ _ h => h) (Or.inl ⟨by rfl, ?_⟩) ?_ ?_
  rotate_left
  · intro w'
    go_simp
    with_reducible rfl
  rotate_left
  · simp only [Act.put, List.setIfInBounds_toArray, List.set_cons_zero, List.set_cons_succ, i64_w, i32_w]
    rfl
  refine take_ (i := 18) (N := some 127) (v := ?_) (a' := ?_) #[true, true, true, true, true, true, true, true, true, true, true, true, true, true, true, true, true, true, true, false, false, false, false, false, false, false, false, false, false] rfl rfl (by kernel_rfl) (fun _ _ _ h => h) (Or.inl ⟨by rfl, ?_⟩) hHeld ?_ ?_
  rotate_left
  · rintro w' ⟨s0, s1⟩
    show (do let r ← Instr.loadAt 37 (.pointer (some ⟨bx, 0, none⟩)); pure (Next.value r) : Sem Next).run Try.prog w' = _
    rw [Sem.run_bind, run_load37c s0]
    rfl
  rotate_left
  · simp only [Act.put, List.setIfInBounds_toArray, List.set_cons_zero, List.set_cons_succ, i64_w, i32_w]
    rfl
  refine pure_ (i := 19) (N := some 128) (v := ?_) (a' := ?_) #[true, true, true, true, true, true, true, true, true, true, true, true, true, true, true, true, true, true, true, true, false, false, false, false, false, false, false, false, false] rfl rfl (by kernel_rfl) (fun _ _ _ h => h) (Or.inl ⟨by rfl, ?_⟩) ?_ ?_
  rotate_left
  · intro w'
    go_simp
    with_reducible rfl
  rotate_left
  · simp only [Act.put, List.setIfInBounds_toArray, List.set_cons_zero, List.set_cons_succ, i64_w, i32_w]
    rfl
  refine pure_ (i := 20) (N := some 129) (v := ?_) (a' := ?_) #[true, true, true, true, true, true, true, true, true, true, true, true, true, true, true, true, true, true, true, true, true, false, false, false, false, false, false, false, false] rfl rfl (by kernel_rfl) (fun _ _ _ h => h) (Or.inl ⟨by rfl, ?_⟩) ?_ ?_
  rotate_left
  · intro w'
    go_simp
    with_reducible rfl
  rotate_left
  · simp only [Act.put, List.setIfInBounds_toArray, List.set_cons_zero, List.set_cons_succ, i64_w, i32_w]
    rfl
  refine pure_ (i := 21) (N := some 130) (v := ?_) (a' := ?_) #[true, true, true, true, true, true, true, true, true, true, true, true, true, true, true, true, true, true, true, true, true, true, false, false, false, false, false, false, false] rfl rfl (by kernel_rfl) (fun _ _ _ h => h) (Or.inl ⟨by rfl, ?_⟩) ?_ ?_
  rotate_left
  · intro w'
    go_simp
    with_reducible rfl
  rotate_left
  · simp only [Act.put, List.setIfInBounds_toArray, List.set_cons_zero, List.set_cons_succ, i64_w, i32_w]
    rfl
  refine take_ (i := 22) (N := some 131) (v := ?_) (a' := ?_) #[true, true, true, true, true, true, true, true, true, true, true, true, true, true, true, true, true, true, true, true, true, true, true, false, false, false, false, false, false] rfl rfl (by kernel_rfl) (fun _ _ _ h => h) (Or.inl ⟨by rfl, ?_⟩) hHeld ?_ ?_
  rotate_left
  · rintro w' ⟨s0, s1⟩
    show (do let r ← Instr.loadAt 37 (.pointer (some ⟨br, 5, none⟩)); pure (Next.value r) : Sem Next).run Try.prog w' = _
    rw [Sem.run_bind, run_load37r s1]
    rfl
  rotate_left
  · simp only [Act.put, List.setIfInBounds_toArray, List.set_cons_zero, List.set_cons_succ, i64_w, i32_w]
    rfl
  refine one_ (i := 23) (N := some 132) #[true, true, true, true, true, true, true, true, true, true, true, true, true, true, true, true, true, true, true, true, true, true, true, true, false, false, false, false, false] rfl rfl (by kernel_rfl) (by decide) (fun K hK => ?_)
  refine goes_ Try.func14 (by kernel_rfl) rfl #[.agg (cxA y s5 t5 i5 o5), .agg (cxA y s6 t6 i6 o6)] (by rfl) rfl rfl (by simp only [List.map_toArray, List.map_cons, List.map_nil]; rfl) ?_
  refine (same_true (at_ := (y.at_ : Int)) (sp := y.spent) (en := y.ended) HC9.out.st HC9.out.sl HC9.out.inn HC9.out.ou RA4.out.st RA4.out.sl RA4.out.inn RA4.out.ou (by have := HLN.out; omega) (by have := HLN.out; omega) (by have := HLN.out; omega) (by have := HLN.out; omega)).mono ?_
  rintro e W16 ⟨rfl, hb⟩
  have VRn := Aside0.mk (VR4.out.below hb)
  have HCn := Aside0.mk (HC9.out.move (fun k _ hk => hb.block k hk))
  have RAn := Aside0.mk (RA4.out.below hb)
  refine ⟨_, rfl, hK.out _ _ ⟨(hb.block _ (Array.getElem?_eq_some_iff.1 hHeld.1).1).trans hHeld.1, (hb.block _ (Array.getElem?_eq_some_iff.1 hHeld.2).1).trans hHeld.2⟩ (fun hHeld2 => ?_)⟩
  clear hK K hHeld hb VR4 HC9 RA4
  have hHeld := hHeld2
  have VR4 := VRn
  have HC9 := HCn
  have RA4 := RAn
  clear hHeld2 VRn HCn RAn
  refine norm_ (a' := ?_) ?_ ?_
  rotate_left
  · show Act.put _ (some 132) _ = _
    simp only [Act.put, List.setIfInBounds_toArray, List.set_cons_zero, List.set_cons_succ, i64_w, i32_w]
    rfl
  refine pure_ (i := 24) (N := some 133) (v := ?_) (a' := ?_) #[true, true, true, true, true, true, true, true, true, true, true, true, true, true, true, true, true, true, true, true, true, true, true, true, true, false, false, false, false] rfl rfl (by kernel_rfl) (fun _ _ _ h => h) (Or.inl ⟨by rfl, ?_⟩) ?_ ?_
  rotate_left
  · intro w'
    go_simp
    with_reducible rfl
  rotate_left
  · simp only [Act.put, List.setIfInBounds_toArray, List.set_cons_zero, List.set_cons_succ, i64_w, i32_w]
    rfl
  refine pure_ (i := 25) (N := some 134) (v := ?_) (a' := ?_) #[true, true, true, true, true, true, true, true, true, true, true, true, true, true, true, true, true, true, true, true, true, true, true, true, true, true, false, false, false] rfl rfl (by kernel_rfl) (fun _ _ _ h => h) (Or.inl ⟨by rfl, ?_⟩) ?_ ?_
  rotate_left
  · intro w'
    go_simp
    with_reducible rfl
  rotate_left
  · simp only [Act.put, List.setIfInBounds_toArray, List.set_cons_zero, List.set_cons_succ, i64_w, i32_w]
    rfl
  refine one_ (i := 26) (N := some 135) #[true, true, true, true, true, true, true, true, true, true, true, true, true, true, true, true, true, true, true, true, true, true, true, true, true, true, true, false, false] rfl rfl (by kernel_rfl) (by decide) (fun K hK => ?_)
  refine goes_ Try.func8 (by kernel_rfl) rfl #[] (by rfl) rfl rfl (by simp only [List.map_toArray, List.map_nil]) ?_
  refine (works_calls _).mono ?_
  rintro e W17 ⟨rfl, hb⟩
  have VRn := Aside0.mk (VR4.out.below hb)
  have HCn := Aside0.mk (HC9.out.move (fun k _ hk => hb.block k hk))
  have RAn := Aside0.mk (RA4.out.below hb)
  refine ⟨_, rfl, hK.out _ _ ⟨(hb.block _ (Array.getElem?_eq_some_iff.1 hHeld.1).1).trans hHeld.1, (hb.block _ (Array.getElem?_eq_some_iff.1 hHeld.2).1).trans hHeld.2⟩ (fun hHeld2 => ?_)⟩
  clear hK K hHeld hb VR4 HC9 RA4
  have hHeld := hHeld2
  have VR4 := VRn
  have HC9 := HCn
  have RA4 := RAn
  clear hHeld2 VRn HCn RAn
  refine norm_ (a' := ?_) ?_ ?_
  rotate_left
  · show Act.put _ (some 135) _ = _
    simp only [Act.put, List.setIfInBounds_toArray, List.set_cons_zero, List.set_cons_succ, i64_w, i32_w]
    rfl
  refine pure_ (i := 27) (N := some 136) (v := ?_) (a' := ?_) #[true, true, true, true, true, true, true, true, true, true, true, true, true, true, true, true, true, true, true, true, true, true, true, true, true, true, true, true, false] rfl rfl (by kernel_rfl) (fun _ _ _ h => h) (Or.inl ⟨by rfl, ?_⟩) ?_ ?_
  rotate_left
  · intro w'
    go_simp
    with_reducible rfl
  rotate_left
  · simp only [Act.put, List.setIfInBounds_toArray, List.set_cons_zero, List.set_cons_succ, i64_w, i32_w]
    rfl
  refine pure_ (i := 28) (N := some 6) (v := ?_) (a' := ?_) #[true, true, true, true, true, true, true, true, true, true, true, true, true, true, true, true, true, true, true, true, true, true, true, true, true, true, true, true, true] rfl rfl (by kernel_rfl) (fun _ _ _ h => h) (Or.inl ⟨by rfl, ?_⟩) ?_ ?_
  rotate_left
  · intro w'
    go_simp
    with_reducible rfl
  rotate_left
  · simp only [Act.put, List.setIfInBounds_toArray, List.set_cons_zero, List.set_cons_succ, i64_w, i32_w]
    rfl
  refine done_ (by kernel_rfl) ?_
  clear hHeld HC9 RA4
  go_wp2
  go_ret
  exact ⟨rfl, VR4.out.bel⟩
def carillonlaw22_VmLoads.f (l0 : List S53) (a1_0 a1_1 a1_2 a1_3 : Int) (a2_0 : Int) (l2_1 l2_2 l2_3 l2_4 : List Int) (a2_5 : Int) (a2_6 : Bool) : Option Bool := if (∀ i ∈ l0, is64 i.f1) ∧ (∀ v ∈ l2_1, is64 v) ∧ (∀ v ∈ l2_2, is64 v) ∧ (∀ v ∈ l2_3, is64 v) ∧ (∀ v ∈ l2_4, is64 v) ∧ l2_1.length ≤ 140737488351232 ∧ l2_2.length ≤ 140737488351232 ∧ l2_3.length ≤ 140737488351232 ∧ l2_4.length ≤ 140737488351232 then some true else none
theorem carillonlaw22_VmLoads.calls (A0 : Option Addr) (c0 : Nat) (l0 : List S53) (a1_0 a1_1 a1_2 a1_3 : Int) (a2_0 : Int) (A2_1 : Option Addr) (c2_1 : Nat) (l2_1 : List Int) (A2_2 : Option Addr) (c2_2 : Nat) (l2_2 : List Int) (A2_3 : Option Addr) (c2_3 : Nat) (l2_3 : List Int) (A2_4 : Option Addr) (c2_4 : Nat) (l2_4 : List Int) (a2_5 : Int) (a2_6 : Bool) (r : Bool) (w : World) (hr0 : Kd.C k53 w A0 l0.length l0) (hc0 : l0.length ≤ c0)
    (hr2_1 : Kd.C (Kd.int .i64) w A2_1 l2_1.length l2_1) (hc2_1 : l2_1.length ≤ c2_1) (hr2_2 : Kd.C (Kd.int .i64) w A2_2 l2_2.length l2_2) (hc2_2 : l2_2.length ≤ c2_2) (hr2_3 : Kd.C (Kd.int .i64) w A2_3 l2_3.length l2_3) (hc2_3 : l2_3.length ≤ c2_3) (hr2_4 : Kd.C (Kd.int .i64) w A2_4 l2_4.length l2_4) (hc2_4 : l2_4.length ≤ c2_4)
    (h : carillonlaw22_VmLoads.f l0 a1_0 a1_1 a1_2 a1_3 a2_0 l2_1 l2_2 l2_3 l2_4 a2_5 a2_6 = some r) :
    Calls Try.prog 6 #[.slice A0 l0.length c0, .agg #[.int .i64 a1_0, .int .i64 a1_1, .int .i64 a1_2, .int .i64 a1_3], .agg #[.int .i64 a2_0, .slice A2_1 l2_1.length c2_1, .slice A2_2 l2_2.length c2_2, .slice A2_3 l2_3.length c2_3, .slice A2_4 l2_4.length c2_4, .int .i64 a2_5, .bool a2_6]] w fun e w' => e = .returned (.bool r) ∧ Below w.heap.size w w' := by
  unfold carillonlaw22_VmLoads.f at h
  split at h
  · rename_i hg
    obtain rfl : true = r := Option.some.inj h
    obtain ⟨g0, g1, g2, g3, g4, b1, b2, b3, b4⟩ := hg
    by_cases h1 : l0.length ≤ 200 ∧ l2_1.length + l2_2.length + l2_3.length + l2_4.length ≤ 1000
    · exact loads_small hr0 hc0 h1.1 hr2_1 hc2_1 hr2_2 hc2_2 hr2_3 hc2_3 hr2_4 hc2_4 h1.2 g0 g1 g2 g3 g4
    · exact loads_big ⟨b1, b2, b3, b4⟩ (by omega)
  · cases h
end Go.Proofs.Ytlmpoojpbdmmfaa.H
end
