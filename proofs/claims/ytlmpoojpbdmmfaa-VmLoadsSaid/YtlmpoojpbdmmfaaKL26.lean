/- Part 26 of the proof of the law L. The conditions: none. (Its parts: Rrun22 SvmRuns.) -/
import Derived.Test.YtlmpoojpbdmmfaaKL14
import Derived.Test.YtlmpoojpbdmmfaaKL20
import Derived.Test.YtlmpoojpbdmmfaaKL24
import Derived.Test.YtlmpoojpbdmmfaaKL25
section
set_option linter.unusedVariables false
set_option linter.unusedSimpArgs false
namespace Go.Proofs.Ytlmpoojpbdmmfaa.H
open Go.RowKit Go.Proofs.YtlmpoojpbdmmfaaW.PrintWords Go.Proofs.YtlmpoojpbdmmfaaW.PrintLast Go.Proofs.YtlmpoojpbdmmfaaW.PrintMore Go.Maps
theorem Rng.push {x : Ctx} (h : Rng x) {t : Int} (ht : is64 t) : Rng (x.push t) :=
  ⟨fun v hv => by
    rcases List.mem_append.1 hv with hv | hv
    · exact h.1 v hv
    · rw [List.mem_singleton.1 hv]; exact ht, h.2⟩
theorem Rng.pop {x : Ctx} (h : Rng x) : Rng x.pop := ⟨fun v hv => h.1 v (List.mem_of_mem_take hv), h.2⟩
theorem Rng.top {x : Ctx} (h : Rng x) : is64 x.top := is64_getD h.1 _
theorem rng_one {i : S53} {x : Ctx} (h : Rng x) (hi : is64 i.f1) : Rng (one i x).1 := by
  have hset : ∀ (xs : List Int) (k : Nat) (t : Int), (∀ v ∈ xs, is64 v) → is64 t → ∀ v ∈ xs.set k t, is64 v := fun xs k t h1 h2 v hv => by
    rcases List.mem_or_eq_of_mem_set hv with hv | hv
    · exact h1 v hv
    · rw [hv]; exact h2
  unfold one
  by_cases o1 : i.f0 = 1
  · rw [if_pos o1]; exact h.push hi
  rw [if_neg o1]
  by_cases o2 : i.f0 = 2
  · rw [if_pos o2]; exact h.push (is64_getD h.2.1 _)
  rw [if_neg o2]
  by_cases o3 : i.f0 = 3
  · rw [if_pos o3]; exact ⟨h.pop.1, hset _ _ _ h.2.1 h.top, h.2.2⟩
  rw [if_neg o3]
  by_cases o4 : i.f0 = 4
  · rw [if_pos o4]; exact h.push (is64_getD h.2.2.1 _)
  rw [if_neg o4]
  by_cases o5 : i.f0 = 5
  · rw [if_pos o5]; exact ⟨h.pop.1, h.2.1, h.2.2.1, hset _ _ _ h.2.2.2 h.top⟩
  rw [if_neg o5]
  by_cases o6 : i.f0 = 6
  · rw [if_pos o6]; exact h.pop.push (is64_wrap _)
  rw [if_neg o6]
  by_cases o7 : i.f0 = 7
  · rw [if_pos o7]; exact h.pop.push (is64_tr _)
  rw [if_neg o7]
  by_cases o8 : i.f0 = 22
  · rw [if_pos o8]; exact h.pop
  rw [if_neg o8]
  by_cases o9 : i.f0 = 21
  · rw [if_pos o9]; exact h
  rw [if_neg o9]
  by_cases o10 : i.f0 = 23
  · rw [if_pos o10]; exact h
  rw [if_neg o10]
  exact h.pop.pop.push (is64_pr h.pop.top h.top)
theorem Rng.stp {l : List S53} {x : Ctx} (h : Rng x) (hl : ∀ i ∈ l, is64 i.f1) : Rng (stp l x) := by
  have hi : is64 (rd_T53 l (x.at_ : Int)).f1 := by
    unfold rd_T53
    rw [List.getD_eq_getElem?_getD]
    cases e : l[((x.at_ : Int)).toNat]? with
    | none => exact is64_zero
    | some i => exact hl i (List.mem_of_getElem? e)
  have := rng_one h hi
  exact ⟨this.1, this.2.1, this.2.2.1, this.2.2.2⟩
theorem Rng.runN {l : List S53} (hl : ∀ i ∈ l, is64 i.f1) (cy : Int) : ∀ (n : Nat) (s : Int) (x : Ctx), Rng x → Rng (runN l cy n s x).2
  | 0, _, _, h => h
  | n + 1, s, x, h => by
    rw [Go.Proofs.Ytlmpoojpbdmmfaa.H.runN]
    split
    · exact Rng.runN hl cy n _ _ (h.stp hl)
    · exact h
theorem Rng.to18 {l : List S53} (hl : ∀ i ∈ l, is64 i.f1) {x : Ctx} (h : Rng x) (cy : Int) : Rng (to18 l cy x) := by
  unfold Go.Proofs.Ytlmpoojpbdmmfaa.H.to18
  repeat' split
  · exact h
  · exact h
  · exact Rng.runN hl _ _ _ _ h
theorem RMem.zn {W W1 W2 : World} {P : Nat → Prop} {b : Nat} {c : Cf} {x : Ctx} {cv : Value} (h : RMem W2 (Zn (Zn P W W1) W1 W2) b c x cv) (hs : W.heap.size ≤ W1.heap.size) (hs2 : W1.heap.size ≤ W2.heap.size) : RMem W2 (Zn P W W2) b c x cv := by
  obtain ⟨sv, tv, iv, ov, h⟩ := h
  exact ⟨sv, tv, iv, ov, h.mono (fun k hk => (Zn.trans hs hs2 k).1 hk)⟩
theorem rm_ended {W : World} {P : Nat → Prop} {b : Nat} {c : Cf} {x : Ctx} {cv : Value} (h : RMem W P b c x cv) : W.cell? ⟨b, 11, none⟩ = some (.bool x.ended) := by
  obtain ⟨sv, tv, iv, ov, h⟩ := h
  exact h.cell rfl
theorem RMem.mono {W : World} {P P' : Nat → Prop} {b : Nat} {c : Cf} {x : Ctx} {cv : Value} (h : RMem W P b c x cv) (hp : ∀ k, P k → P' k) : RMem W P' b c x cv := by
  obtain ⟨sv, tv, iv, ov, h⟩ := h
  exact ⟨sv, tv, iv, ov, h.mono hp⟩
theorem RMem.move {W W1 : World} {P : Nat → Prop} {b : Nat} {c : Cf} {x : Ctx} {cv : Value} (h : RMem W P b c x cv) (hm : ∀ k, P k → k < W.heap.size → W1.heap[k]? = W.heap[k]?) : RMem W1 P b c x cv := by
  obtain ⟨sv, tv, iv, ov, h⟩ := h
  exact ⟨sv, tv, iv, ov, h.move hm⟩
set_option maxHeartbeats 4000000 in
set_option maxRecDepth 100000 in
theorem rrun_ended {W : World} {P : Nat → Prop} {b : Nat} {c : Cf} {x : Ctx} {cv : Value} (h : RMem W P b c x cv) (he : x.ended = true) (cy : Int) : Calls Try.prog 19 #[.pointer (some ⟨b, 0, none⟩), .int .i64 cy] W fun e W' => e = .returned (.tuple #[.int .i64 0, .bool false, .int .i64 3]) ∧ Below W.heap.size W W' := by
  have c11 : W.cell? ⟨b, 11, none⟩ = some (.bool true) := by rw [← he]; exact rm_ended h
  clear h he
  go_enter Try.func19, Try.ntmps19
  go_wp2
  go_ret3
  exact ⟨rfl, Below.refl _ _⟩
set_option maxHeartbeats 4000000 in
set_option maxRecDepth 100000 in
theorem rrun_arg {W : World} {P : Nat → Prop} {b : Nat} {c : Cf} {x : Ctx} {cv : Value} (h : RMem W P b c x cv) (he : x.ended = false) {cy : Int} (hc : cy < 0) : Calls Try.prog 19 #[.pointer (some ⟨b, 0, none⟩), .int .i64 cy] W fun e W' => e = .returned (.tuple #[.int .i64 0, .bool false, .int .i64 2]) ∧ Below W.heap.size W W' := by
  have c11 : W.cell? ⟨b, 11, none⟩ = some (.bool false) := by rw [← he]; exact rm_ended h
  have hd : decide (cy < 0) = true := decide_eq_true hc
  clear h he hc
  go_enter Try.func19, Try.ntmps19
  go_wp2
  go_ret3
  exact ⟨rfl, Below.refl _ _⟩
set_option maxHeartbeats 16000000 in
set_option maxRecDepth 100000 in
theorem rrun_calls {W : World} {P : Nat → Prop} {b : Nat} {c : Cf} {l : List S53} {x : Ctx} {m : Int} {A : Nat → Vst} {Ac : Option Addr} {cap : Nat} (h : RMem W P b c x (.slice Ac l.length cap)) (hC : ∀ W', Kept2 W W' P → Kd.C k53 W' Ac l.length l) (hP : ∀ k, P k → k < W.heap.size) (hw : Wfx l c m A x) (hl : l.length ≤ 4096) (he : x.ended = false) (hs : Spo l x) (hr : Rng x) (hl64 : ∀ i ∈ l, is64 i.f1) {cy : Int} (hc : 0 ≤ cy) :
    Calls Try.prog 19 #[.pointer (some ⟨b, 0, none⟩), .int .i64 cy] W fun e W' => e = .returned (.tuple #[.int .i64 (runN l cy (l.length + 1) 0 x).1, .bool (runN l cy (l.length + 1) 0 x).2.ended, .int .i64 0]) ∧ RMem W' (Zn P W W') b c (runN l cy (l.length + 1) 0 x).2 (.slice Ac l.length cap) ∧ Kept2 W W' P := by
  have c11 : W.cell? ⟨b, 11, none⟩ = some (.bool false) := by rw [← he]; exact rm_ended h
  have hd : decide (cy < 0) = false := decide_eq_false (by omega)
  have H := Aside0.mk (h.mono (P' := Zn P W W) (fun k hk => .inl hk))
  have HC := Aside0.mk hC
  have HP := Aside0.mk hP
  have HW := Aside0.mk hw
  have HL := Aside0.mk hl
  have HE := Aside0.mk he
  have HS := Aside0.mk hs
  have HG := Aside0.mk hr
  have HG2 := Aside0.mk hl64
  obtain ⟨res, hres⟩ : ∃ r, runN l cy (l.length + 1) 0 x = r := ⟨_, rfl⟩
  rw [hres]
  have HR := Aside0.mk hres
  clear h hP hw he hs hres hc hC hr hl64
  go_enter Try.func19, Try.ntmps19
  go_wp2_with fail
  go_loopg [7] (l.length + 1) (fun kq v7 wr => ∃ (sum : Int) (y : Ctx), v7 = .int .i64 sum ∧ Aside0 (runN l cy kq sum y = res) ∧ Aside0 (RMem wr (Zn P W wr) b c y (.slice Ac l.length cap)) ∧ Aside0 (Kept2 W wr P) ∧ Aside0 (Wfx l c m A y) ∧ Aside0 (y.ended = false → l.length + 1 ≤ kq + y.at_ ∧ Spo l y) ∧ Aside0 (0 ≤ sum ∧ sum + 8 * (kq : Int) ≤ 8 * 5000) ∧ Aside0 (Rng y))
  case atStart =>
    exact ⟨0, x, rfl, HR, H, ⟨Kept2.refl _ _⟩, HW, ⟨fun _ => ⟨by omega, HS.out⟩⟩, ⟨by omega, by have := HL.out; omega⟩, HG⟩
  case round =>
    obtain ⟨sum, y, rfl, HR2, H2, HK2, HW2, HN2, HB2, HG3⟩ := hrel
    have d11 : wr.cell? ⟨b, 11, none⟩ = some (.bool y.ended) := rm_ended H2.out
    obtain ⟨en, hen⟩ : ∃ en, y.ended = en := ⟨_, rfl⟩
    rw [hen] at d11
    have HEN := Aside0.mk hen
    clear hen c11
    by_cases h1 : sum < cy
    · have dl : decide (sum < cy) = true := decide_eq_true h1
      cases en with
      | true =>
        have hr : res = (sum, y) := by rw [← HR2.out]; exact runN_stop _ _ _ _ _ (by rw [HEN.out]; simp)
        have HRR := Aside0.mk hr
        clear hr
        go_wp2_with fail
        go_quiet (fail)
        go_wp2
        go_ret3
        rw [HRR.out]
        refine ⟨by rw [HEN.out]; rfl, ?_, ?_⟩
        · exact H2.out.move (fun k _ _ => rfl)
        · exact HK2.out.trans ⟨rfl, rfl, rfl, Nat.le_refl _, fun _ _ _ => rfl⟩
      | false =>
        obtain ⟨go, rfl⟩ : ∃ go, gk = go + 1 := ⟨gk - 1, by have := (HN2.out HEN.out).1; have := HW2.out.lt; omega⟩
        have hr := HR2.out
        rw [runN, if_pos ⟨h1, HEN.out⟩] at hr
        have hsp := HN2.out HEN.out
        have hst := HW2.out.stp HEN.out
        have hss := hsp.2.stp HW2.out HEN.out
        have HR3 := Aside0.mk hr
        have HST := Aside0.mk hst
        have HSS := Aside0.mk hss
        have HSP := Aside0.mk hsp
        clear hr hst hss hsp
        go_wp2_with fail
        refine (rst_calls H2.out (HC.out _ HK2.out) (Zn.lt HP.out HK2.out.size) HW2.out.lt HL.out HEN.out HW2.out.pre ⟨HSP.out.2.1, by have := HSP.out.2; have := this.2; have := HW2.out.lt; omega⟩ HG3.out).mono ?_
        rintro e W5 ⟨rfl, hv, hk⟩
        obtain ⟨hcy0, hcy1⟩ := cyc_range (rd_T53 l (y.at_ : Int)).f0
        have K5 := Aside0.mk (HK2.out.trans hk)
        have V5 := Aside0.mk (hv.zn HK2.out.size hk.size)
        have G5 := Aside0.mk (HG3.out.stp HG2.out)
        obtain ⟨cyv, hcyv⟩ : ∃ v, cyc (rd_T53 l (y.at_ : Int)).f0 = v := ⟨_, rfl⟩
        rw [hcyv] at HR3 hcy0 hcy1 ⊢
        have hb0 : 0 ≤ sum := HB2.out.1
        have hb1 : sum < 40000 := by have := HB2.out.2; omega
        clear hv hk hcyv d11
        go_wp2
        go_roundg go
        case measure => omega
        case rel =>
          refine ⟨sum + cyv, _, rfl, HR3, V5, K5, ⟨HST.out.1⟩, ⟨fun hn => ⟨?_, HSS.out.2.2 hn⟩⟩, ⟨by omega, by have := HB2.out.2; omega⟩, G5⟩
          rcases HST.out.2 with h | ⟨_, h⟩
          · rw [hn] at h; cases h
          · have := HSP.out.1; omega
    · have dl : decide (sum < cy) = false := decide_eq_false h1
      have hr : res = (sum, y) := by rw [← HR2.out]; exact runN_stop _ _ _ _ _ (by intro e; exact h1 e.1)
      have HRR := Aside0.mk hr
      clear hr
      go_wp2_with fail
      go_quiet (fail)
      go_wp2
      go_ret3
      rw [HRR.out]
      refine ⟨by rw [HEN.out]; rfl, ?_, ?_⟩
      · exact H2.out.move (fun k _ _ => rfl)
      · exact HK2.out.trans ⟨rfl, rfl, rfl, Nat.le_refl _, fun _ _ _ => rfl⟩
theorem rrun_full {W : World} {P : Nat → Prop} {b : Nat} {c : Cf} {l : List S53} {x : Ctx} {Ac : Option Addr} {cap : Nat} (h : RMem W P b c x (.slice Ac l.length cap)) (hC : ∀ W', Kept2 W W' P → Kd.C k53 W' Ac l.length l) (hP : ∀ k, P k → k < W.heap.size) (hr : Rn l c x) (hg : Rng x) (hl64 : ∀ i ∈ l, is64 i.f1) (cy : Int) :
    Calls Try.prog 19 #[.pointer (some ⟨b, 0, none⟩), .int .i64 cy] W fun e W' => e = .returned (.tuple #[.int .i64 (res18 l cy x).1, .bool (res18 l cy x).2.1, .int .i64 (res18 l cy x).2.2]) ∧ RMem W' (Zn P W W') b c (to18 l cy x) (.slice Ac l.length cap) ∧ Kept2 W W' P := by
  have hl := hr.lens
  by_cases he : x.ended = true
  · have e1 : res18 l cy x = (0, false, 3) := by simp [res18, he]
    have e2 : to18 l cy x = x := by simp [to18, he]
    rw [e1, e2]
    refine (rrun_ended h he cy).mono ?_
    rintro e W' ⟨rfl, hb⟩
    exact ⟨rfl, (h.below hb).mono (fun k hk => .inl hk), Kept2.of_below hb⟩
  have he' : x.ended = false := by simpa using he
  by_cases hc : cy < 0
  · have e1 : res18 l cy x = (0, false, 2) := by simp [res18, he', hc]
    have e2 : to18 l cy x = x := by simp [to18, he', hc]
    rw [e1, e2]
    refine (rrun_arg h he' hc).mono ?_
    rintro e W' ⟨rfl, hb⟩
    exact ⟨rfl, (h.below hb).mono (fun k hk => .inl hk), Kept2.of_below hb⟩
  have e1 : res18 l cy x = ((runN l cy (l.length + 1) 0 x).1, (runN l cy (l.length + 1) 0 x).2.ended, 0) := by simp [res18, he', hc]
  have e2 : to18 l cy x = (runN l cy (l.length + 1) 0 x).2 := by simp [to18, he', hc]
  rw [e1, e2]
  obtain ⟨m, A, w, _⟩ := hr.wf
  exact rrun_calls h hC hP w hl.2.1.2 he' (hr.sp he') hg hl64 (by omega)
end Go.Proofs.Ytlmpoojpbdmmfaa.H
end
section
set_option linter.unusedVariables false
set_option linter.unusedSimpArgs false
namespace Go.Proofs.Ytlmpoojpbdmmfaa.H
open Go.RowKit Go.Proofs.YtlmpoojpbdmmfaaW.PrintWords Go.Proofs.YtlmpoojpbdmmfaaW.PrintLast Go.Proofs.YtlmpoojpbdmmfaaW.PrintMore Go.Maps
structure VR (w wr : World) (c : Cf) (l : List S53) (bv br : Nat) (xv xr : Ctx) (cv : Value) (Pv Pr : Nat → Prop) : Prop where
  mv : VMem wr Pv bv c l xv
  mr : RMem wr Pr br c xr cv
  ap : ∀ k, Pv k → ¬ Pr k
  lv : ∀ k, Pv k → w.heap.size ≤ k ∧ k < wr.heap.size
  lr : ∀ k, Pr k → w.heap.size ≤ k ∧ k < wr.heap.size
  bel : Below w.heap.size w wr
section
variable {w wr W' : World} {c : Cf} {l : List S53} {bv br : Nat} {xv xr x' : Ctx} {cv : Value} {Pv Pr : Nat → Prop}
theorem VR.run1 (h : VR w wr c l bv br xv xr cv Pv Pr) (hv : VMem W' (Zn Pv wr W') bv c l x') (hk : Kept2 wr W' Pv) : VR w W' c l bv br x' xr cv (Zn Pv wr W') Pr := by
  have hs := hk.size
  have hs2 := h.bel.size
  refine ⟨hv, h.mr.other hk (fun k h1 _ h2 => h.ap k h2 h1), fun k h1 h2 => ?_, fun k h1 => ?_, fun k h1 => ?_, hk.below h.bel (fun k hk => (h.lv k hk).1)⟩
  · have := h.lr k h2
    rcases h1 with h1 | h1
    · exact h.ap k h1 h2
    · omega
  · rcases h1 with h1 | h1
    · have := h.lv k h1; omega
    · omega
  · have := h.lr k h1; omega
theorem VR.run2 (h : VR w wr c l bv br xv xr cv Pv Pr) (hr : RMem W' (Zn Pr wr W') br c x' cv) (hk : Kept2 wr W' Pr) : VR w W' c l bv br xv x' cv Pv (Zn Pr wr W') := by
  have hs := hk.size
  have hs2 := h.bel.size
  refine ⟨h.mv.other hk (fun k h1 _ h2 => h.ap k h1 h2), hr, fun k h1 h2 => ?_, fun k h1 => ?_, fun k h1 => ?_, hk.below h.bel (fun k hk => (h.lr k hk).1)⟩
  · have := h.lv k h1
    rcases h2 with h2 | h2
    · exact h.ap k h1 h2
    · omega
  · have := h.lv k h1; omega
  · rcases h1 with h1 | h1
    · have := h.lr k h1; omega
    · omega
theorem VR.below (h : VR w wr c l bv br xv xr cv Pv Pr) (hb : Below wr.heap.size wr W') : VR w W' c l bv br xv xr cv Pv Pr := by
  have hs := hb.size
  exact ⟨h.mv.below hb, h.mr.below hb, h.ap, fun k hk => by have := h.lv k hk; omega, fun k hk => by have := h.lr k hk; omega, h.bel.trans (hb.mono h.bel.size)⟩
theorem VR.code (h : VR w wr c l bv br xv xr cv Pv Pr) {A : Option Addr} (hC : Kd.C k53 w A l.length l) (W' : World) (hk : Kept2 wr W' Pr) : Kd.C k53 W' A l.length l := Kd.C_below hC (hk.below h.bel (fun k hk => (h.lr k hk).1))
end
theorem run_load37r {w : World} {g : Nat} {c : Cf} {x : Ctx} {cv sv tv iv ov : Value} (h : w.heap[g]? = some (.cells (rmA c x cv sv tv iv ov) 42 (0, 0))) : (Instr.loadAt 37 (.pointer (some ⟨g, 5, none⟩))).run Try.prog w = .ok (.agg (cxA x sv tv iv ov)) w := by
  obtain ⟨fs, hu⟩ := under37
  have := run_loadAt_mid (P := Try.prog) w g 5 37 [.int .i64 (x.at_ : Int), sv, tv, iv, ov, .int .i64 x.spent, .bool x.ended] (.struct fs) (fun j v hv => by
    rcases j with _ | _ | _ | _ | _ | _ | _ | j
    all_goals first | (cases hv; simp [World.cell?, h, rmA]; done) | (simp at hv; done)) hu rfl (by kernel_rfl)
  exact this
theorem run_load37c {w : World} {g : Nat} {x : Ctx} {sv tv iv ov : Value} (h : w.heap[g]? = some (.cells (cxA x sv tv iv ov) 37 (0, 0))) : (Instr.loadAt 37 (.pointer (some ⟨g, 0, none⟩))).run Try.prog w = .ok (.agg (cxA x sv tv iv ov)) w := by
  obtain ⟨fs, hu⟩ := under37
  have := run_loadAt_mid (P := Try.prog) w g 0 37 [.int .i64 (x.at_ : Int), sv, tv, iv, ov, .int .i64 x.spent, .bool x.ended] (.struct fs) (fun j v hv => by
    rcases j with _ | _ | _ | _ | _ | _ | _ | j
    all_goals first | (cases hv; simp [World.cell?, h, cxA]; done) | (simp at hv; done)) hu rfl (by kernel_rfl)
  exact this
end Go.Proofs.Ytlmpoojpbdmmfaa.H
end
