/- Part 19 of the proof of the law L. The conditions: none. (Its parts: Rstep19.) -/
import Derived.LoopTactic
import Derived.Test.YtlmpoojpbdmmfaaKL15
import Derived.Test.YtlmpoojpbdmmfaaKL16
import Derived.Test.YtlmpoojpbdmmfaaKL18
section
set_option linter.unusedVariables false
set_option linter.unusedSimpArgs false
namespace Go.Proofs.Ytlmpoojpbdmmfaa.H
open Go.RowKit Go.Proofs.YtlmpoojpbdmmfaaW.PrintWords Go.Proofs.YtlmpoojpbdmmfaaW.PrintLast Go.Proofs.YtlmpoojpbdmmfaaW.PrintMore
theorem start4x (w : World) (o0 o1 o2 o3 : Obj) : ((((w.alloc o0).alloc o1).alloc o2).alloc o3).heap[w.heap.size]? = some o0 ∧ ((((w.alloc o0).alloc o1).alloc o2).alloc o3).heap[w.heap.size + 1]? = some o1 ∧
    ((((w.alloc o0).alloc o1).alloc o2).alloc o3).heap[w.heap.size + 1 + 1]? = some o2 ∧ ((((w.alloc o0).alloc o1).alloc o2).alloc o3).heap[w.heap.size + 1 + 1 + 1]? = some o3 := by
  refine ⟨?_, ?_, ?_, ?_⟩
  · rw [heap_alloc_old _ _ (by simp <;> omega), heap_alloc_old _ _ (by simp <;> omega), heap_alloc_old _ _ (by simp)]; exact heap_alloc_new _ _
  · rw [heap_alloc_old _ _ (by simp <;> omega), heap_alloc_old _ _ (by simp)]; have := heap_alloc_new (w.alloc o0) o1; simpa using this
  · rw [heap_alloc_old _ _ (by simp)]; have := heap_alloc_new ((w.alloc o0).alloc o1) o2; simpa using this
  · have := heap_alloc_new (((w.alloc o0).alloc o1).alloc o2) o3; simpa using this
structure RsM (w : World) (B : Nat) (op ar : Int) (c : Cf) (s : Rst) (W : World) : Prop where
  ib : W.heap[B]? = some (.cells #[.int .u8 op, .int .i64 ar] (53 : Nat) (0, 0))
  sb : W.heap[B + 1]? = some (.cells (rca s) (81 : Nat) (0, 0))
  cb : W.heap[B + 1 + 1]? = some (.cells #[.int .i64 c.slots, .int .i64 c.reads, .int .i64 c.writes, .int .i64 c.stack] (24 : Nat) (0, 0))
  rb : W.heap[B + 1 + 1 + 1]? = some (.cells (rca rst0) (81 : Nat) (0, 0))
  eq : w.heap.size = B
  bel : Below w.heap.size w W
section
variable {w W W' : World} {B : Nat} {op ar : Int} {c : Cf} {s s' : Rst}
theorem RsM.moved (h : RsM w B op ar c s W) (hb : Below W.heap.size W W') : RsM w B op ar c s W' :=
  ⟨(hb.block _ (Array.getElem?_eq_some_iff.1 h.ib).1).trans h.ib, (hb.block _ (Array.getElem?_eq_some_iff.1 h.sb).1).trans h.sb, (hb.block _ (Array.getElem?_eq_some_iff.1 h.cb).1).trans h.cb, (hb.block _ (Array.getElem?_eq_some_iff.1 h.rb).1).trans h.rb, h.eq, h.bel.trans (hb.mono h.bel.size)⟩
theorem RsM.set (h : RsM w B op ar c s W) {j : Nat} {v : Value} (he : (rca s).setIfInBounds j v = rca s') : RsM w B op ar c s' (W.setCell ⟨B + 1, j, none⟩ v) :=
  ⟨set_far h.ib (by omega) _, rs_put h.sb he, set_far h.cb (by omega) _, set_far h.rb (by omega) _, h.eq, h.bel.setCell (p := ⟨B + 1, j, none⟩) (by rw [h.eq]; simp) _⟩
theorem RsM.load (h : RsM w B op ar c s W) (hs : OKR s) : (Instr.loadAt 81 (.pointer (some ⟨B + 1, 0, none⟩))).run Try.prog W = .ok (.agg (rca s)) W := rs_load h.sb hs
theorem RsM.store (h : RsM w B op ar c s W) (hs : OKR s) : (Instr.storeAt 81 (.pointer (some ⟨B + 1 + 1 + 1, 0, none⟩)) (.agg (rca s))).run Try.prog W = .ok () (W.setRow (B + 1 + 1 + 1) (rca s)) := rs_store h.rb okr0 hs
theorem RsM.ret (h : RsM w B op ar c s W) : (W.setRow (B + 1 + 1 + 1) (rca s)).heap[B + 1 + 1 + 1]? = some (.cells (rca s) (81 : Nat) (0, 0)) := setRow_heap _ _ _ _ _ _ h.rb
theorem RsM.below (h : RsM w B op ar c s W) : Below w.heap.size w (W.setRow (B + 1 + 1 + 1) (rca s)) := setRow_below h.bel (by rw [h.eq]; omega) _
end
theorem rs_ret {tmps : Array Value} {W : World} {g : Nat} {s : Rst} {e : Int} (h6 : tmps.getD 6 undef = .pointer (some ⟨g, 0, none⟩)) (h7 : tmps.getD 7 undef = .int .i64 e) (hg : W.heap[g]? = some (.cells (rca s) (81 : Nat) (0, 0))) (hs : OKR s) :
    (results Try.f41 tmps).run Try.prog W = .ok (.tuple #[.agg (rca s), .int .i64 e]) W := by
  obtain ⟨d, h1⟩ := under81
  have := results_ct (P := Try.prog) (fn := Try.f41) (p := 6) (u := 7) (ty := 81) rfl tmps W g 81 (rca s) (0, 0) (.struct d) h6 hg h1 rfl (by rw [info81, rca_size hs])
  rw [h7] at this
  exact this
theorem gate_load {P : Program} {ops : Array Oper} {o : Oper} {rest : List Oper} {a : Act} {W : World} {Q : Exit → Act → World → Prop} {t : TypeId} {p : Tmp} (_ho : o.op = .load t (.tmp p)) (h : wpList P ops Q (o :: rest) a W) : wpList P ops Q (o :: rest) a W := h
set_option maxHeartbeats 40000000 in
set_option maxRecDepth 100000 in
theorem rstep_calls (s : Rst) (hs : OKR s) (i : S53) (c : Cf) (w : World) (hh : 0 ≤ s.h ∧ s.h ≤ 100000) (hcw : 0 ≤ c.writes ∧ c.writes ≤ 64) :
    Calls Try.prog 41 #[.agg #[.int .u8 i.f0, .int .i64 i.f1], .agg (rca s), cfVal c] w fun e w' => e = .returned (.tuple #[.agg (rca (rstep s i c).1), .int .i64 (rstep s i c).2]) ∧ Below w.heap.size w w' := by
  obtain ⟨op, ar⟩ := i
  obtain ⟨cs, cr, cw, ck⟩ := c
  have HS := Aside0.mk hs
  clear hs
  obtain ⟨e1, e2, e3, e4⟩ := start4x w (.cells #[.int .u8 op, .int .i64 ar] (53 : Nat)) (.cells (rca s) (81 : Nat)) (.cells #[.int .i64 cs, .int .i64 cr, .int .i64 cw, .int .i64 ck] (24 : Nat)) (.cells (rca rst0) (81 : Nat))
  have e5 : Below w.heap.size w ((((w.alloc (.cells #[.int .u8 op, .int .i64 ar] (53 : Nat))).alloc (.cells (rca s) (81 : Nat))).alloc (.cells #[.int .i64 cs, .int .i64 cr, .int .i64 cw, .int .i64 ck] (24 : Nat))).alloc (.cells (rca rst0) (81 : Nat))) :=
    ((((Below.refl _ _).alloc (Nat.le_refl _) _).alloc (by simp) _).alloc (by simp; omega) _).alloc (by simp; omega) _
  have M0 : Aside0 (RsM w w.heap.size op ar ⟨cs, cr, cw, ck⟩ s ((((w.alloc (.cells #[.int .u8 op, .int .i64 ar] (53 : Nat))).alloc (.cells (rca s) (81 : Nat))).alloc (.cells #[.int .i64 cs, .int .i64 cr, .int .i64 cw, .int .i64 ck] (24 : Nat))).alloc (.cells (rca rst0) (81 : Nat)))) := ⟨⟨e1, e2, e3, e4, rfl, e5⟩⟩
  have hz := zero81
  simp only [cfVal]
  obtain ⟨KM, hKM⟩ := ev_rmay op ar
  have HKM := Aside0.mk (hKM KM (Nat.le_refl _))
  obtain ⟨KE, hKE⟩ := ev_reff op
  have HKE := Aside0.mk (hKE KE (Nat.le_refl _))
  clear e1 e2 e3 e4 e5 hKM hKE
  go_enter Try.func41, Try.ntmps41
  go_wp2_with fail
  generalize (((w.alloc (.cells #[.int .u8 op, .int .i64 ar] (53 : Nat))).alloc (.cells (rca s) (81 : Nat))).alloc (.cells #[.int .i64 cs, .int .i64 cr, .int .i64 cw, .int .i64 ck] (24 : Nat))).alloc (.cells (rca rst0) (81 : Nat)) = W at M0 ⊢
  generalize hB : w.heap.size = B at M0 ⊢
  refine (carillonref18_May.calls KM op ar _ _ HKM.out).mono ?_
  rintro e W1 ⟨rfl, hb1⟩
  have M1 := Aside0.mk (M0.out.moved hb1)
  clear hb1 M0 hB
  cases hm : mayB op ar with
  | false =>
    have HM := Aside0.mk hm
    clear hm
    simp only []
    repeat (first | go_skip | go_guarded | ((with_reducible refine gate_load (t := 81) (p := 4) rfl ?_); refine wpList_rload rfl (.tmp 4) rfl (B + 1) rfl M1.out.sb HS.out ?_) | ((with_reducible refine gate_store (t := 81) (p := 6) rfl ?_); refine wpList_rstore rfl (.tmp 6) _ rfl (B + 1 + 1 + 1) rfl rfl M1.out.rb okr0 HS.out ?_) | go_step | go_upon)
    have eR : rstep s ⟨op, ar⟩ ⟨cs, cr, cw, ck⟩ = (s, 180) := by simp [rstep, HM.out]
    rw [eR]
    exact bodyPost_ret (rs_ret rfl rfl M1.out.ret HS.out) rfl ⟨rfl, M1.out.below⟩
  | true =>
    have HM := Aside0.mk hm
    clear hm
    have x0 : W1.cell? ⟨B, 0, none⟩ = some (.int .u8 op) := by simp [World.cell?, M1.out.ib]
    go_wp2_with fail
    refine (carillonref19_Effect.calls KE op _ _ _ HKE.out).mono ?_
    rintro e w' ⟨rfl, ⟨nd, rfl⟩⟩
    clear x0
    have M2 := Aside0.mk (M1.out.moved (pw_below_drewN (Below.refl _ W1) nd))
    clear M1
    generalize W1.drewN nd = W2 at M2 ⊢
    obtain ⟨ht, hg⟩ := tg_range op
    have x0 := rs_h M2.out.sb
    have x1 : W2.cell? ⟨B + 1 + 1, 3, none⟩ = some (.int .i64 ck) := by simp [World.cell?, M2.out.cb]
    have xf := rs_frozen 1 M2.out.sb
    obtain ⟨tk, hte⟩ : ∃ tk, tks op = tk := ⟨_, rfl⟩
    obtain ⟨gv, hge⟩ : ∃ gv, gvs op = gv := ⟨_, rfl⟩
    rw [hte] at ht ⊢
    rw [hge] at hg ⊢
    have HTE := Aside0.mk hte
    have HGE := Aside0.mk hge
    clear hte hge
    by_cases h1 : s.h < tk
    · have d1 : decide (s.h < tk) = true := decide_eq_true h1
      have H1 := Aside0.mk h1
      simp only []
      repeat (first | go_skip | go_guarded | ((with_reducible refine gate_load (t := 81) (p := 4) rfl ?_); refine wpList_rload rfl (.tmp 4) rfl (B + 1) rfl M2.out.sb HS.out ?_) | ((with_reducible refine gate_store (t := 81) (p := 6) rfl ?_); refine wpList_rstore rfl (.tmp 6) _ rfl (B + 1 + 1 + 1) rfl rfl M2.out.rb okr0 HS.out ?_) | go_step | go_upon)
      have eR : rstep s ⟨op, ar⟩ ⟨cs, cr, cw, ck⟩ = (s, 191) := by simp [rstep, HM.out, HTE.out, H1.out]
      rw [eR]
      exact bodyPost_ret (rs_ret rfl rfl M2.out.ret HS.out) rfl ⟨rfl, M2.out.below⟩
    have d1 : decide (s.h < tk) = false := decide_eq_false h1
    by_cases h2 : ck < s.h - tk + gv
    · have d2 : decide (ck < s.h - tk + gv) = true := decide_eq_true h2
      have H2 := Aside0.mk h2
      simp only []
      repeat (first | go_skip | go_guarded | ((with_reducible refine gate_load (t := 81) (p := 4) rfl ?_); refine wpList_rload rfl (.tmp 4) rfl (B + 1) rfl M2.out.sb HS.out ?_) | ((with_reducible refine gate_store (t := 81) (p := 6) rfl ?_); refine wpList_rstore rfl (.tmp 6) _ rfl (B + 1 + 1 + 1) rfl rfl M2.out.rb okr0 HS.out ?_) | go_step | go_upon)
      have eR : rstep s ⟨op, ar⟩ ⟨cs, cr, cw, ck⟩ = (s, 191) := by simp [rstep, HM.out, HTE.out, HGE.out, H2.out]
      rw [eR]
      exact bodyPost_ret (rs_ret rfl rfl M2.out.ret HS.out) rfl ⟨rfl, M2.out.below⟩
    have d2 : decide (ck < s.h - tk + gv) = false := decide_eq_false h2
    have HC0 : rstep s ⟨op, ar⟩ ⟨cs, cr, cw, ck⟩ = rstep2 { s with h := s.h - tk + gv } ⟨op, ar⟩ ⟨cs, cr, cw, ck⟩ := by
      unfold rstep
      rw [if_neg (by rw [HM.out]; decide)]
      simp only [HTE.out, HGE.out]
      rw [if_neg (by omega)]
    have HC := Aside0.mk HC0
    have HS3 : Aside0 (OKR { s with h := s.h - tk + gv }) := ⟨⟨HS.out.l1, HS.out.l2⟩⟩
    have M3 := Aside0.mk (M2.out.set (rca_h s (s.h - tk + gv)))
    clear HC0
    have x2 : W2.cell? ⟨B, 0, none⟩ = some (.int .u8 op) := by simp [World.cell?, M2.out.ib]
    have hne : B < B + 1 := by omega
    simp only []
    iterate 100 (first | go_skip | go_guarded | go_step | go_upon)
    generalize W2.setCell ⟨B + 1, 1, none⟩ (.int .i64 (s.h - tk + gv)) = W3 at M3 ⊢
    generalize s.h - tk + gv = h' at M3 HS3 HC ⊢
    clear x0 x1 xf x2 d1 d2 M2 hz
    have y0 : W3.cell? ⟨B, 0, none⟩ = some (.int .u8 op) := by simp [World.cell?, M3.out.ib]
    have y1 : W3.cell? ⟨B, 1, none⟩ = some (.int .i64 ar) := by simp [World.cell?, M3.out.ib]
    have z0 : W3.cell? ⟨B + 1 + 1, 0, none⟩ = some (.int .i64 cs) := by simp [World.cell?, M3.out.cb]
    have z1 : W3.cell? ⟨B + 1 + 1, 1, none⟩ = some (.int .i64 cr) := by simp [World.cell?, M3.out.cb]
    have z2 : W3.cell? ⟨B + 1 + 1, 2, none⟩ = some (.int .i64 cw) := by simp [World.cell?, M3.out.cb]
    by_cases o4 : op = 4
    · subst o4
      by_cases hp : cr ≤ ar
      · have hpd : decide (cr ≤ ar) = true := decide_eq_true hp
        have HP := Aside0.mk hp
        clear hp
        repeat (first | go_skip | go_guarded | ((with_reducible refine gate_load (t := 81) (p := 4) rfl ?_); refine wpList_rload rfl (.tmp 4) rfl (B + 1) rfl (M3.out).sb (HS3.out) ?_) | ((with_reducible refine gate_store (t := 81) (p := 6) rfl ?_); refine wpList_rstore rfl (.tmp 6) _ rfl (B + 1 + 1 + 1) rfl rfl (M3.out).rb okr0 (HS3.out) ?_) | go_step | go_upon)
        have eR : rstep s ⟨4, ar⟩ ⟨cs, cr, cw, ck⟩ = ({ s with h := h' }, 193) := by rw [HC.out]; simp [rstep2, HP.out]
        rw [eR]
        exact bodyPost_ret (rs_ret rfl rfl (M3.out).ret (HS3.out)) rfl ⟨rfl, (M3.out).below⟩
      · have hpd : decide (cr ≤ ar) = false := decide_eq_false hp
        have HP := Aside0.mk hp
        clear hp
        repeat (first | go_skip | go_guarded | ((with_reducible refine gate_load (t := 81) (p := 4) rfl ?_); refine wpList_rload rfl (.tmp 4) rfl (B + 1) rfl (M3.out).sb (HS3.out) ?_) | ((with_reducible refine gate_store (t := 81) (p := 6) rfl ?_); refine wpList_rstore rfl (.tmp 6) _ rfl (B + 1 + 1 + 1) rfl rfl (M3.out).rb okr0 (HS3.out) ?_) | go_step | go_upon)
        have eR : rstep s ⟨4, ar⟩ ⟨cs, cr, cw, ck⟩ = ({ s with h := h' }, 0) := by rw [HC.out]; simp [rstep2, HP.out]
        rw [eR]
        exact bodyPost_ret (rs_ret rfl rfl (M3.out).ret (HS3.out)) rfl ⟨rfl, (M3.out).below⟩
    by_cases o5 : op = 5
    · subst o5
      have ha : 0 ≤ ar ∧ ar < 64 := by
        have := HM.out
        simp [mayB] at this
        exact this
      have hk : ar.toNat < 64 := by omega
      by_cases hp : cw ≤ ar
      · have hpd : decide (cw ≤ ar) = true := decide_eq_true hp
        have HP := Aside0.mk hp
        clear hp
        repeat (first | go_skip | go_guarded | ((with_reducible refine gate_load (t := 81) (p := 4) rfl ?_); refine wpList_rload rfl (.tmp 4) rfl (B + 1) rfl (M3.out).sb (HS3.out) ?_) | ((with_reducible refine gate_store (t := 81) (p := 6) rfl ?_); refine wpList_rstore rfl (.tmp 6) _ rfl (B + 1 + 1 + 1) rfl rfl (M3.out).rb okr0 (HS3.out) ?_) | go_step | go_upon)
        have eR : rstep s ⟨5, ar⟩ ⟨cs, cr, cw, ck⟩ = ({ s with h := h' }, 193) := by rw [HC.out]; simp [rstep2, HP.out]
        rw [eR]
        exact bodyPost_ret (rs_ret rfl rfl (M3.out).ret (HS3.out)) rfl ⟨rfl, (M3.out).below⟩
      · have hpd : decide (cw ≤ ar) = false := decide_eq_false hp
        have HP := Aside0.mk hp
        clear hp
        obtain ⟨x, hx⟩ : ∃ x, s.wr.getD ar.toNat false = x := ⟨_, rfl⟩
        have yx : W3.cell? ⟨B + 1, 514 + ar.toNat, none⟩ = some (.bool x) := by rw [← hx]; exact rs_wr (s := { s with h := h' }) M3.out.sb HS3.out hk
        have HX : Aside0 (s.wr[ar.toNat]?.getD false = x) := ⟨by rw [← List.getD_eq_getElem?_getD]; exact hx⟩
        have yf := rs_frozen (514 + ar.toNat) M3.out.sb
        have HS4 : Aside0 (OKR { s with h := h', wr := s.wr.set ar.toNat true }) := ⟨⟨HS3.out.l1, by simpa using HS3.out.l2⟩⟩
        have M4 : Aside0 (RsM w B 5 ar ⟨cs, cr, cw, ck⟩ { s with h := h', wr := s.wr.set ar.toNat true } (W3.setCell ⟨B + 1, 514 + ar.toNat, none⟩ (.bool true))) := ⟨M3.out.set (rca_wr { s with h := h' } HS3.out hk true)⟩
        clear hx
        cases x with
        | false =>
          repeat (first | go_skip | go_guarded | ((with_reducible refine gate_load (t := 81) (p := 4) rfl ?_); refine wpList_rload rfl (.tmp 4) rfl (B + 1) rfl (M4.out).sb (HS4.out) ?_) | ((with_reducible refine gate_store (t := 81) (p := 6) rfl ?_); refine wpList_rstore rfl (.tmp 6) _ rfl (B + 1 + 1 + 1) rfl rfl (M4.out).rb okr0 (HS4.out) ?_) | go_step | go_upon)
          have eR : rstep s ⟨5, ar⟩ ⟨cs, cr, cw, ck⟩ = ({ s with h := h', wr := s.wr.set ar.toNat true }, 0) := by rw [HC.out]; simp [rstep2, HP.out, HX.out]
          rw [eR]
          exact bodyPost_ret (rs_ret rfl rfl (M4.out).ret (HS4.out)) rfl ⟨rfl, (M4.out).below⟩
        | true =>
          repeat (first | go_skip | go_guarded | ((with_reducible refine gate_load (t := 81) (p := 4) rfl ?_); refine wpList_rload rfl (.tmp 4) rfl (B + 1) rfl (M3.out).sb (HS3.out) ?_) | ((with_reducible refine gate_store (t := 81) (p := 6) rfl ?_); refine wpList_rstore rfl (.tmp 6) _ rfl (B + 1 + 1 + 1) rfl rfl (M3.out).rb okr0 (HS3.out) ?_) | go_step | go_upon)
          have eR : rstep s ⟨5, ar⟩ ⟨cs, cr, cw, ck⟩ = ({ s with h := h' }, 193) := by rw [HC.out]; simp [rstep2, HP.out, HX.out]
          rw [eR]
          exact bodyPost_ret (rs_ret rfl rfl (M3.out).ret (HS3.out)) rfl ⟨rfl, (M3.out).below⟩
    by_cases o2 : op = 2
    · subst o2
      have ha : 0 ≤ ar ∧ ar < 512 := by
        have := HM.out
        simp [mayB] at this
        exact this
      have hk : ar.toNat < 512 := by omega
      by_cases hp : cs ≤ ar
      · have hpd : decide (cs ≤ ar) = true := decide_eq_true hp
        have HP := Aside0.mk hp
        clear hp
        repeat (first | go_skip | go_guarded | ((with_reducible refine gate_load (t := 81) (p := 4) rfl ?_); refine wpList_rload rfl (.tmp 4) rfl (B + 1) rfl (M3.out).sb (HS3.out) ?_) | ((with_reducible refine gate_store (t := 81) (p := 6) rfl ?_); refine wpList_rstore rfl (.tmp 6) _ rfl (B + 1 + 1 + 1) rfl rfl (M3.out).rb okr0 (HS3.out) ?_) | go_step | go_upon)
        have eR : rstep s ⟨2, ar⟩ ⟨cs, cr, cw, ck⟩ = ({ s with h := h' }, 192) := by rw [HC.out]; simp [rstep2, HP.out]
        rw [eR]
        exact bodyPost_ret (rs_ret rfl rfl (M3.out).ret (HS3.out)) rfl ⟨rfl, (M3.out).below⟩
      · have hpd : decide (cs ≤ ar) = false := decide_eq_false hp
        have HP := Aside0.mk hp
        clear hp
        obtain ⟨x, hx⟩ : ∃ x, s.has.getD ar.toNat false = x := ⟨_, rfl⟩
        have yx : W3.cell? ⟨B + 1, 2 + ar.toNat, none⟩ = some (.bool x) := by rw [← hx]; exact rs_has (s := { s with h := h' }) M3.out.sb HS3.out hk
        have HX : Aside0 (s.has[ar.toNat]?.getD false = x) := ⟨by rw [← List.getD_eq_getElem?_getD]; exact hx⟩
        have yf := rs_frozen (2 + ar.toNat) M3.out.sb
        have HS4 : Aside0 (OKR { s with h := h', has := s.has.set ar.toNat true }) := ⟨⟨by simpa using HS3.out.l1, HS3.out.l2⟩⟩
        have M4 : Aside0 (RsM w B 2 ar ⟨cs, cr, cw, ck⟩ { s with h := h', has := s.has.set ar.toNat true } (W3.setCell ⟨B + 1, 2 + ar.toNat, none⟩ (.bool true))) := ⟨M3.out.set (rca_has { s with h := h' } HS3.out hk true)⟩
        clear hx
        cases x with
        | false =>
          repeat (first | go_skip | go_guarded | ((with_reducible refine gate_load (t := 81) (p := 4) rfl ?_); refine wpList_rload rfl (.tmp 4) rfl (B + 1) rfl (M3.out).sb (HS3.out) ?_) | ((with_reducible refine gate_store (t := 81) (p := 6) rfl ?_); refine wpList_rstore rfl (.tmp 6) _ rfl (B + 1 + 1 + 1) rfl rfl (M3.out).rb okr0 (HS3.out) ?_) | go_step | go_upon)
          have eR : rstep s ⟨2, ar⟩ ⟨cs, cr, cw, ck⟩ = ({ s with h := h' }, 192) := by rw [HC.out]; simp [rstep2, HP.out, HX.out]
          rw [eR]
          exact bodyPost_ret (rs_ret rfl rfl (M3.out).ret (HS3.out)) rfl ⟨rfl, (M3.out).below⟩
        | true =>
          repeat (first | go_skip | go_guarded | ((with_reducible refine gate_load (t := 81) (p := 4) rfl ?_); refine wpList_rload rfl (.tmp 4) rfl (B + 1) rfl (M4.out).sb (HS4.out) ?_) | ((with_reducible refine gate_store (t := 81) (p := 6) rfl ?_); refine wpList_rstore rfl (.tmp 6) _ rfl (B + 1 + 1 + 1) rfl rfl (M4.out).rb okr0 (HS4.out) ?_) | go_step | go_upon)
          have eR : rstep s ⟨2, ar⟩ ⟨cs, cr, cw, ck⟩ = ({ s with h := h', has := s.has.set ar.toNat true }, 0) := by rw [HC.out]; simp [rstep2, HP.out, HX.out]
          rw [eR]
          exact bodyPost_ret (rs_ret rfl rfl (M4.out).ret (HS4.out)) rfl ⟨rfl, (M4.out).below⟩
    by_cases o3 : op = 3
    · subst o3
      have ha : 0 ≤ ar ∧ ar < 512 := by
        have := HM.out
        simp [mayB] at this
        exact this
      have hk : ar.toNat < 512 := by omega
      by_cases hp : cs ≤ ar
      · have hpd : decide (cs ≤ ar) = true := decide_eq_true hp
        have HP := Aside0.mk hp
        clear hp
        repeat (first | go_skip | go_guarded | ((with_reducible refine gate_load (t := 81) (p := 4) rfl ?_); refine wpList_rload rfl (.tmp 4) rfl (B + 1) rfl (M3.out).sb (HS3.out) ?_) | ((with_reducible refine gate_store (t := 81) (p := 6) rfl ?_); refine wpList_rstore rfl (.tmp 6) _ rfl (B + 1 + 1 + 1) rfl rfl (M3.out).rb okr0 (HS3.out) ?_) | go_step | go_upon)
        have eR : rstep s ⟨3, ar⟩ ⟨cs, cr, cw, ck⟩ = ({ s with h := h' }, 192) := by rw [HC.out]; simp [rstep2, HP.out]
        rw [eR]
        exact bodyPost_ret (rs_ret rfl rfl (M3.out).ret (HS3.out)) rfl ⟨rfl, (M3.out).below⟩
      · have hpd : decide (cs ≤ ar) = false := decide_eq_false hp
        have HP := Aside0.mk hp
        clear hp
        obtain ⟨x, hx⟩ : ∃ x, s.has.getD ar.toNat false = x := ⟨_, rfl⟩
        have yx : W3.cell? ⟨B + 1, 2 + ar.toNat, none⟩ = some (.bool x) := by rw [← hx]; exact rs_has (s := { s with h := h' }) M3.out.sb HS3.out hk
        have HX : Aside0 (s.has[ar.toNat]?.getD false = x) := ⟨by rw [← List.getD_eq_getElem?_getD]; exact hx⟩
        have yf := rs_frozen (2 + ar.toNat) M3.out.sb
        have HS4 : Aside0 (OKR { s with h := h', has := s.has.set ar.toNat true }) := ⟨⟨by simpa using HS3.out.l1, HS3.out.l2⟩⟩
        have M4 : Aside0 (RsM w B 3 ar ⟨cs, cr, cw, ck⟩ { s with h := h', has := s.has.set ar.toNat true } (W3.setCell ⟨B + 1, 2 + ar.toNat, none⟩ (.bool true))) := ⟨M3.out.set (rca_has { s with h := h' } HS3.out hk true)⟩
        clear hx
        repeat (first | go_skip | go_guarded | ((with_reducible refine gate_load (t := 81) (p := 4) rfl ?_); refine wpList_rload rfl (.tmp 4) rfl (B + 1) rfl (M4.out).sb (HS4.out) ?_) | ((with_reducible refine gate_store (t := 81) (p := 6) rfl ?_); refine wpList_rstore rfl (.tmp 6) _ rfl (B + 1 + 1 + 1) rfl rfl (M4.out).rb okr0 (HS4.out) ?_) | go_step | go_upon)
        have eR : rstep s ⟨3, ar⟩ ⟨cs, cr, cw, ck⟩ = ({ s with h := h', has := s.has.set ar.toNat true }, 0) := by rw [HC.out]; simp [rstep2, HP.out, HX.out]
        rw [eR]
        exact bodyPost_ret (rs_ret rfl rfl (M4.out).ret (HS4.out)) rfl ⟨rfl, (M4.out).below⟩
    by_cases o23 : op = 23
    · subst o23
      have yh := rs_h M3.out.sb
      by_cases hp : 0 < h'
      · have hpd : decide (0 < h') = true := decide_eq_true hp
        have HP := Aside0.mk hp
        clear hp
        repeat (first | go_skip | go_guarded | ((with_reducible refine gate_load (t := 81) (p := 4) rfl ?_); refine wpList_rload rfl (.tmp 4) rfl (B + 1) rfl (M3.out).sb (HS3.out) ?_) | ((with_reducible refine gate_store (t := 81) (p := 6) rfl ?_); refine wpList_rstore rfl (.tmp 6) _ rfl (B + 1 + 1 + 1) rfl rfl (M3.out).rb okr0 (HS3.out) ?_) | go_step | go_upon)
        have eR : rstep s ⟨23, ar⟩ ⟨cs, cr, cw, ck⟩ = ({ s with h := h' }, 191) := by rw [HC.out]; simp [rstep2, HP.out]
        rw [eR]
        exact bodyPost_ret (rs_ret rfl rfl (M3.out).ret (HS3.out)) rfl ⟨rfl, (M3.out).below⟩
      · have hpd : decide (0 < h') = false := decide_eq_false hp
        have HP := Aside0.mk hp
        clear hp
        repeat (first | go_skip | go_guarded | go_step | go_upon)
        have hcw0 : 0 ≤ cw := hcw.1
        have hcw1 : cw ≤ 64 := hcw.2
        clear hcw
        go_loopg [10] cw.toNat (fun kq v10 wr => ∃ k : Nat, v10 = .int .i64 k ∧ Aside0 (k + kq = cw.toNat) ∧ Aside0 ((s.wr.take k).all id = true) ∧ wr = W3)
        case atStart => exact ⟨0, rfl, ⟨by omega⟩, ⟨by simp⟩, rfl⟩
        case round =>
          obtain ⟨k, rfl, HK, HA, hwr⟩ := hrel
          subst wr
          by_cases hk : (k : Int) < cw
          · obtain ⟨go, rfl⟩ : ∃ go, gk = go + 1 := ⟨gk - 1, by have := HK.out; omega⟩
            have dk : decide ((k : Int) < cw) = true := decide_eq_true hk
            have hk64 : k < 64 := by omega
            have hk64' : (k : Int) < 64 := by omega
            have hl : k < s.wr.length := by rw [HS.out.l2]; exact hk64
            obtain ⟨x, hx⟩ : ∃ x, s.wr[k] = x := ⟨_, rfl⟩
            have yx : W3.cell? ⟨B + 1, 514 + k, none⟩ = some (.bool x) := by
              have := rs_wr (s := { s with h := h' }) M3.out.sb HS3.out hk64
              simpa [List.getD_eq_getElem?_getD, hl, hx] using this
            have HX := Aside0.mk hx
            clear hx
            cases x with
            | false =>
              repeat (first | go_skip | go_guarded | ((with_reducible refine gate_load (t := 81) (p := 4) rfl ?_); refine wpList_rload rfl (.tmp 4) rfl (B + 1) rfl (M3.out).sb (HS3.out) ?_) | ((with_reducible refine gate_store (t := 81) (p := 6) rfl ?_); refine wpList_rstore rfl (.tmp 6) _ rfl (B + 1 + 1 + 1) rfl rfl (M3.out).rb okr0 (HS3.out) ?_) | go_step | go_upon)
              have hna : (s.wr.take cw.toNat).all id = false := by
                rw [List.all_eq_false]
                refine ⟨s.wr[k], ?_, by rw [HX.out]; decide⟩
                rw [List.mem_take_iff_getElem]
                exact ⟨k, by omega, rfl⟩
              have eR : rstep s ⟨23, ar⟩ ⟨cs, cr, cw, ck⟩ = ({ s with h := h' }, 193) := by rw [HC.out]; simp [rstep2, HP.out, hna]
              rw [eR]
              exact bodyPost_ret (rs_ret rfl rfl (M3.out).ret (HS3.out)) rfl ⟨rfl, (M3.out).below⟩
            | true =>
              repeat (first | go_skip | go_guarded | go_step | go_upon)
              go_roundg go
              case measure => omega
              case rel =>
                refine ⟨k + 1, by simp, ⟨by have := HK.out; omega⟩, ⟨?_⟩, rfl⟩
                rw [List.take_add_one, List.all_append, HA.out, List.getElem?_eq_getElem hl, HX.out]
                rfl
          · have hk2 : k = cw.toNat := by have := HK.out; omega
            have dk : decide ((k : Int) < cw) = false := decide_eq_false hk
            repeat (first | go_skip | go_guarded | ((with_reducible refine gate_load (t := 81) (p := 4) rfl ?_); refine wpList_rload rfl (.tmp 4) rfl (B + 1) rfl (M3.out).sb (HS3.out) ?_) | ((with_reducible refine gate_store (t := 81) (p := 6) rfl ?_); refine wpList_rstore rfl (.tmp 6) _ rfl (B + 1 + 1 + 1) rfl rfl (M3.out).rb okr0 (HS3.out) ?_) | go_step | go_upon)
            have hna : (s.wr.take cw.toNat).all id = true := by rw [← hk2]; exact HA.out
            have eR : rstep s ⟨23, ar⟩ ⟨cs, cr, cw, ck⟩ = ({ s with h := h' }, 0) := by rw [HC.out]; simp [rstep2, HP.out, hna]
            rw [eR]
            exact bodyPost_ret (rs_ret rfl rfl (M3.out).ret (HS3.out)) rfl ⟨rfl, (M3.out).below⟩
    have q2 : (op == 2) = false := beq_eq_false_iff_ne.mpr o2
    have q3 : (op == 3) = false := beq_eq_false_iff_ne.mpr o3
    have q4 : (op == 4) = false := beq_eq_false_iff_ne.mpr o4
    have q5 : (op == 5) = false := beq_eq_false_iff_ne.mpr o5
    have q23 : (op == 23) = false := beq_eq_false_iff_ne.mpr o23
    repeat (first | go_skip | go_guarded | ((with_reducible refine gate_load (t := 81) (p := 4) rfl ?_); refine wpList_rload rfl (.tmp 4) rfl (B + 1) rfl (M3.out).sb (HS3.out) ?_) | ((with_reducible refine gate_store (t := 81) (p := 6) rfl ?_); refine wpList_rstore rfl (.tmp 6) _ rfl (B + 1 + 1 + 1) rfl rfl (M3.out).rb okr0 (HS3.out) ?_) | go_step | go_upon)
    have eR : rstep s ⟨op, ar⟩ ⟨cs, cr, cw, ck⟩ = ({ s with h := h' }, 0) := by rw [HC.out]; simp [rstep2, o2, o3, o4, o5, o23]
    rw [eR]
    exact bodyPost_ret (rs_ret rfl rfl (M3.out).ret (HS3.out)) rfl ⟨rfl, (M3.out).below⟩
end Go.Proofs.Ytlmpoojpbdmmfaa.H
end
