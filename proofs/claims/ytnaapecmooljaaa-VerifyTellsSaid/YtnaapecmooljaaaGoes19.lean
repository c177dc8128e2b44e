/- verify's closure 'goes': a state comes to a place. The conditions: the boxes and the map lie in memory. -/
import Derived.Test.YtnaapecmooljaaaVm19
import Derived.Test.YtnaapecmooljaaaMeet19
set_option linter.unusedVariables false
set_option linter.unusedSimpArgs false
namespace Go.Proofs.Ytnaapecmooljaaa.H
open Go.RowKit Go.Proofs.YtnaapecmooljaaaW.PrintWords Go.Proofs.YtnaapecmooljaaaW.PrintLast Go.Proofs.YtnaapecmooljaaaW.PrintMore

/-- A state comes to a place. -/
def goesP (n : Nat) (m : Nat → Option Vst) (s : Vst) (tg : Nat) (be : Int) : (Nat → Option Vst) × Int :=
  if n ≤ tg then (m, be) else match m tg with
    | some t => ((fun k => if k = tg then some (meetS t s).1 else m k), (meetS t s).2)
    | none => ((fun k => if k = tg then some s else m k), 0)
set_option maxHeartbeats 4000000 in
set_option maxRecDepth 100000 in
theorem goes_calls (w W : World) (lb ab sb at_ : Nat) (A : Option Addr) (n c : Nat) (M q : Nat) (m : Nat → Option Vst) (bl : Nat → Nat) (s : Vst) (tg : Nat) (be : Int)
    (h : VM w M q m bl W) (hl : W.heap[lb]? = some (.cells #[.slice A n c] 22 (0, 0))) (ha : W.heap[ab]? = some (.cells #[.map (some M)] 88 (0, 0))) (hsb : W.heap[sb]? = some (.cells #[.pointer (some ⟨bl at_, 0, none⟩)] 84 (0, 0)))
    (hs : m at_ = some s) (hne : at_ ≠ tg) (hto : tg ≤ 100000) (hq : q < 1000000) (hok : ∀ k x, m k = some x → x.has.length = 8) (hw : w.heap.size ≤ W.heap.size) :
    Calls Try.prog 46 #[.int .i64 (tg : Int), .int .i64 be, .pointer (some ⟨lb, 0, none⟩), .pointer (some ⟨ab, 0, none⟩), .pointer (some ⟨sb, 0, none⟩)] W fun e W' =>
      e = .returned (.int .i64 (goesP n m s tg be).2) ∧ ∃ bl', VM w M (q + 1) (goesP n m s tg be).1 bl' W' ∧ Keeps M m bl W W' ∧ bl' at_ = bl at_ ∧ Grows W.heap.size m bl (goesP n m s tg be).1 bl' := by
  have c1 : W.cell? ⟨lb, 0, none⟩ = some (.slice A n c) := by simp [World.cell?, hl]
  have H := Aside0.mk h
  have HOK := Aside0.mk hok
  have HS := Aside0.mk hs
  clear hok
  by_cases h1 : n ≤ tg
  · have d1 : decide ((n : Int) ≤ (tg : Int)) = true := decide_eq_true (by omega)
    clear h hl ha hsb hs
    go_enter Try.func46, Try.ntmps46
    go_wp2
    go_ret
    refine ⟨by simp [goesP, h1], bl, ?_, Keeps.refl _ _ _ _, rfl, fun j hj => .inl ⟨by simpa [goesP, h1] using hj, rfl⟩⟩
    simp only [goesP, h1, if_true]
    obtain ⟨D, hD, hE⟩ := H.out.own
    exact ⟨⟨D, hD.mono (by omega), hE⟩, H.out.st, H.out.inj, H.out.low⟩
  have d1 : decide ((n : Int) ≤ (tg : Int)) = false := decide_eq_false (by omega)
  have c2 : W.cell? ⟨ab, 0, none⟩ = some (.map (some M)) := by simp [World.cell?, ha]
  have c3 : W.cell? ⟨sb, 0, none⟩ = some (.pointer (some ⟨bl at_, 0, none⟩)) := by simp [World.cell?, hsb]
  have hlook := h.look tg hto
  obtain ⟨hst, _⟩ := h.st at_ s hs
  have h8 := HOK.out at_ s hs
  obtain ⟨sh, shas, swr⟩ := s
  obtain ⟨a0, a1, a2, a3, a4, a5, a6, a7, rfl⟩ : ∃ a0 a1 a2 a3 a4 a5 a6 a7, shas = [a0, a1, a2, a3, a4, a5, a6, a7] := by
    match shas, h8 with
    | [a0, a1, a2, a3, a4, a5, a6, a7], _ => exact ⟨_, _, _, _, _, _, _, _, rfl⟩
  have s0 : W.cell? ⟨bl at_, 0, none⟩ = some (.int .i64 sh) := st_cell hst rfl
  have s1 : W.cell? ⟨bl at_, 1, none⟩ = some (.int .u64 a0) := st_cell hst rfl
  have s2 : W.cell? ⟨bl at_, 2, none⟩ = some (.int .u64 a1) := st_cell hst rfl
  have s3 : W.cell? ⟨bl at_, 3, none⟩ = some (.int .u64 a2) := st_cell hst rfl
  have s4 : W.cell? ⟨bl at_, 4, none⟩ = some (.int .u64 a3) := st_cell hst rfl
  have s5 : W.cell? ⟨bl at_, 5, none⟩ = some (.int .u64 a4) := st_cell hst rfl
  have s6 : W.cell? ⟨bl at_, 6, none⟩ = some (.int .u64 a5) := st_cell hst rfl
  have s7 : W.cell? ⟨bl at_, 7, none⟩ = some (.int .u64 a6) := st_cell hst rfl
  have s8 : W.cell? ⟨bl at_, 8, none⟩ = some (.int .u64 a7) := st_cell hst rfl
  have s9 : W.cell? ⟨bl at_, 9, none⟩ = some (.int .u64 swr) := st_cell hst rfl
  have HL := Aside0.mk hl
  have HA := Aside0.mk ha
  have HSB := Aside0.mk hsb
  have HST := Aside0.mk hst
  have HSV : stVal ⟨sh, [a0, a1, a2, a3, a4, a5, a6, a7], swr⟩ = .agg #[.int .i64 sh, .int .u64 a0, .int .u64 a1, .int .u64 a2, .int .u64 a3, .int .u64 a4, .int .u64 a5, .int .u64 a6, .int .u64 a7, .int .u64 swr] := rfl
  have HSV := Aside0.mk HSV
  generalize hbl : bl at_ = ba at *
  have HBL := Aside0.mk hbl
  have hlab : ab < W.heap.size := (Array.getElem?_eq_some_iff.1 ha).1
  clear h hl ha hsb hs hst h8 hbl
  cases hm : m tg with
  | some t =>
    simp only [hm] at hlook
    have HM := Aside0.mk hm
    clear hm
    generalize hbt : bl tg = bt at *
    have HBT := Aside0.mk hbt
    clear hbt
    go_enter Try.func46, Try.ntmps46
    go_wp2_with fail
    have HTT := H.out.st tg t HM.out
    rw [HBT.out] at HTT
    have HTB := Aside0.mk HTT.1
    clear HTT s0 s1 s2 s3 s4 s5 s6 s7 s8 s9 c1 c2 c3 hlook
    refine (meet_calls bt t ⟨sh, [a0, a1, a2, a3, a4, a5, a6, a7], swr⟩ W HTB.out (HOK.out tg t HM.out) rfl).mono ?_
    rintro e W2 ⟨rfl, hg, hb2⟩
    go_wp2
    go_ret
    have eP : goesP n m ⟨sh, [a0, a1, a2, a3, a4, a5, a6, a7], swr⟩ tg be = ((fun k => if k = tg then some (meetS t ⟨sh, [a0, a1, a2, a3, a4, a5, a6, a7], swr⟩).1 else m k), (meetS t ⟨sh, [a0, a1, a2, a3, a4, a5, a6, a7], swr⟩).2) := by
      unfold goesP
      rw [if_neg h1, HM.out]
    rw [eP]
    refine ⟨rfl, bl, ?_, keeps_turn H.out HM.out (by rw [HBT.out]; exact hg), HBL.out, fun j hj => .inl ⟨?_, rfl⟩⟩
    rotate_left
    · by_cases e : j = tg
      · subst e; rw [HM.out]; simp
      · simpa [e] using hj
    have hv := H.out.turn HM.out (by rw [HBT.out]; exact hg) (by rw [HBT.out]; exact hb2)
    obtain ⟨D, hD, hE⟩ := hv.own
    exact ⟨⟨D, hD.mono (by omega), hE⟩, hv.st, hv.inj, hv.low⟩
  | none =>
    simp only [hm] at hlook
    have HM := Aside0.mk hm
    clear hm
    obtain ⟨W2, hrun, hv, hg⟩ := (H.out.alloc (.cells #[.int .i64 sh, .int .u64 a0, .int .u64 a1, .int .u64 a2, .int .u64 a3, .int .u64 a4, .int .u64 a5, .int .u64 a6, .int .u64 a7, .int .u64 swr] (87 : Nat))).put hq hto HM.out
      (s := ⟨sh, [a0, a1, a2, a3, a4, a5, a6, a7], swr⟩) (b := W.heap.size) (heap_alloc_new _ _) hw (fun j hj e => by
        obtain ⟨x, hx⟩ := Option.ne_none_iff_exists'.1 hj
        have := H.out.lt hx
        omega)
    have HV := Aside0.mk hv
    have HG := Aside0.mk ((World.grownBy_alloc W (.cells #[.int .i64 sh, .int .u64 a0, .int .u64 a1, .int .u64 a2, .int .u64 a3, .int .u64 a4, .int .u64 a5, .int .u64 a6, .int .u64 a7, .int .u64 swr] (87 : Nat)) (some M)).trans hg)
    clear hv hg
    go_enter Try.func46, Try.ntmps46
    go_wp2
    go_ret
    have eP : goesP n m ⟨sh, [a0, a1, a2, a3, a4, a5, a6, a7], swr⟩ tg be = ((fun k => if k = tg then some ⟨sh, [a0, a1, a2, a3, a4, a5, a6, a7], swr⟩ else m k), 0) := by
      unfold goesP
      rw [if_neg h1, HM.out]
    rw [eP]
    refine ⟨rfl, _, HV.out, ⟨HG.out.os, HG.out.tape, HG.out.output, HG.out.size, fun k hk h1 _ => HG.out.block k hk (by simp; exact h1)⟩, by simp [hne, HBL.out], fun j hj => ?_⟩
    by_cases e : j = tg
    · subst e; right; simp
    · left; exact ⟨by simpa [e] using hj, by simp [e]⟩
end Go.Proofs.Ytnaapecmooljaaa.H
