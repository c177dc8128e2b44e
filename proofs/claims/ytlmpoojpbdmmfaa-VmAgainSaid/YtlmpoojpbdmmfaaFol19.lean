/- verify's meet: two states at one instruction. The conditions: the pointer's block holds a state. verify's closure 'goes': a state comes to a place. The conditions: the boxes and the map lie in memory. verify's follows: a state comes to all places that follow an instruction. The conditions: the boxes and the map lie in memory. -/
import Derived.Test.YtlmpoojpbdmmfaaV19
import Derived.LoopTactic
import Derived.BigQuiet
import Derived.Deep.QuietTactic
import Derived.RegionTactic
import Derived.BigRegion
import Derived.StillTailTactics
import Derived.Test.YtlmpoojpbdmmfaaVm19
set_option linter.unusedVariables false
set_option linter.unusedSimpArgs false
namespace Go.Proofs.Ytlmpoojpbdmmfaa.H
open Go.RowKit Go.Proofs.YtlmpoojpbdmmfaaW.PrintWords Go.Proofs.YtlmpoojpbdmmfaaW.PrintLast Go.Proofs.YtlmpoojpbdmmfaaW.PrintMore

set_option maxHeartbeats 4000000 in
set_option maxRecDepth 100000 in
theorem meet_calls (b : Nat) (s t : Vst) (w : World) (hb : w.heap[b]? = some (.cells (stArr s) 98 (0, 0))) (hs : s.has.length = 8) (ht : t.has.length = 8) :
    Calls Try.prog 49 #[.pointer (some ⟨b, 0, none⟩), stVal t] w fun e w' => e = .returned (.int .i64 (meetS s t).2) ∧ w.grownBy w' (some b) ∧ w'.heap[b]? = some (.cells (stArr (meetS s t).1) 98 (0, 0)) := by
  have hlt : b < w.heap.size := (Array.getElem?_eq_some_iff.1 hb).1
  have HS := Aside0.mk hs
  have HT := Aside0.mk ht
  have e1 : (w.alloc (.cells (stArr t) (98 : Nat))).heap[w.heap.size]? = some (.cells (stArr t) 98 (0, 0)) := heap_alloc_new _ _
  have e2 : (w.alloc (.cells (stArr t) (98 : Nat))).heap[b]? = some (.cells (stArr s) 98 (0, 0)) := by rw [heap_alloc_old _ _ hlt]; exact hb
  have e3 : w.grownBy (w.alloc (.cells (stArr t) (98 : Nat))) (some b) := World.grownBy_alloc w _ _
  obtain ⟨tv, htv⟩ : ∃ tv, tv = stArr t := ⟨_, rfl⟩
  rw [show stVal t = .agg tv by rw [htv]; rfl]
  rw [← htv] at e1 e2 e3
  have HTV := Aside0.mk htv
  clear htv
  go_enter Try.func49, Try.ntmps49
  go_wp2
  generalize w.alloc (.cells tv (98 : Nat)) = W at e1 e2 e3 ⊢
  generalize w.heap.size = tb at hlt e1 ⊢
  have E3 := Aside0.mk e3
  obtain rfl := HTV.out
  clear HTV
  have c0 := st_h e2
  have c9 := st_wr e2 hs
  have t0 := st_h e1
  have t9 := st_wr e1 ht
  have E1 := Aside0.mk e1
  have E2 := Aside0.mk e2
  have HL := Aside0.mk hlt
  clear hb e1 e2 e3 hlt hs ht
  generalize hsv : stArr t = tv
  by_cases h1 : s.h = t.h
  · by_cases h2 : s.wr = t.wr
    · go_quiet (fail)
      go_wp2
      go_quiet (fail)
      go_wp2
      clear c0 c9 t0 t9
      go_loopg [22] 8 (fun kq v22 wr => ∃ i : Nat, v22 = .int .i64 i ∧ Aside0 (i + kq = 8) ∧ Aside0 (wr.heap[tb]? = some (.cells (stArr t) 98 (0, 0))) ∧ Aside0 (wr.heap[b]? = some (.cells (stArr { s with has := mixL s.has t.has i }) 98 (0, 0))) ∧ Aside0 (w.grownBy wr (some b)))
      case atStart => exact ⟨0, rfl, ⟨by omega⟩, ⟨E1.out⟩, ⟨by rw [mixL_zero]; exact E2.out⟩, ⟨grown_drewN (grown_drewN E3.out _) _⟩⟩
      case round =>
        obtain ⟨i, rfl, HK, R1, R2, R3⟩ := hrel
        by_cases hi : i < 8
        · obtain ⟨go, rfl⟩ : ∃ go, gk = go + 1 := ⟨gk - 1, by have := HK.out; omega⟩
          have hls : (mixL s.has t.has i).length = 8 := by rw [mixL_length (by rw [HS.out, HT.out]) (by rw [HS.out]; omega)]; exact HS.out
          have k1 := st_has (s := { s with has := mixL s.has t.has i }) R2.out (k := i) (by rw [hls]; exact hi)
          have k2 := st_has R1.out (k := i) (by rw [HT.out]; exact hi)
          have k3 := st_frozen (1 + i) R2.out
          simp only [mixL_getD (show s.has.length = t.has.length by rw [HS.out, HT.out]) (show i < s.has.length by rw [HS.out]; exact hi)] at k1
          have hi1 : (i : Int) < 8 := by omega
          clear hls
          go_wp2
          go_still_tail 14, (by kernel_rfl)
          change wpList _ _ _ _ _ wr.drew
          go_wp2
          clear k1 k2 k3
          go_roundg go
          case measure => omega
          case rel =>
            refine ⟨i + 1, by simp, ⟨by have := HK.out; omega⟩, ⟨set_far R1.out (by have := HL.out; omega) _⟩, ⟨?_⟩, ⟨grown_drew (grown_set R3.out _ _)⟩⟩
            have hl : s.has.length = t.has.length := by rw [HS.out, HT.out]
            refine st_put (s' := { s with has := mixL s.has t.has (i + 1) }) R2.out ?_
            rw [stArr_has _ _ _ (by rw [mixL_length hl (by rw [HS.out]; omega), HS.out]; exact hi)]
            simp only
            rw [← mixL_succ hl (by rw [HS.out]; exact hi)]
            simp [List.getD_eq_getElem?_getD]
        · have hi2 : i = 8 := by have := HK.out; omega
          subst hi2
          go_wp2
          go_ret
          refine ⟨?_, R3.out, ?_⟩
          · simp [meetS, h1, h2]
          · have := R2.out
            rw [show (8 : Nat) = s.has.length from HS.out.symm, mixL_all (by rw [HS.out, HT.out])] at this
            simpa [meetS, h1, h2] using this
    · go_quiet (fail)
      go_wp2
      go_quiet (fail)
      go_wp2
      go_ret
      exact ⟨by simp [meetS, h1, h2], grown_drewN (grown_drewN E3.out _) _, by simpa [meetS, h1, h2] using E2.out⟩
  · go_quiet (fail)
    go_wp2
    go_ret
    exact ⟨by simp [meetS, h1], grown_drewN E3.out _, by simpa [meetS, h1] using E2.out⟩
end Go.Proofs.Ytlmpoojpbdmmfaa.H
set_option linter.unusedVariables false
set_option linter.unusedSimpArgs false
namespace Go.Proofs.Ytlmpoojpbdmmfaa.H
open Go.RowKit Go.Proofs.YtlmpoojpbdmmfaaW.PrintWords Go.Proofs.YtlmpoojpbdmmfaaW.PrintLast Go.Proofs.YtlmpoojpbdmmfaaW.PrintMore

/-- A state comes to a place. -/
def goesP (n : Nat) (m : Nat → Option Vst) (s : Vst) (tg : Nat) (be : Int) : (Nat → Option Vst) × Int :=
  if n ≤ tg then (m, be) else match m tg with
    | some t => ((fun k => if k = tg then some (meetS t s).1 else m k), (meetS t s).2)
    | none => ((fun k => if k = tg then some s else m k), 0)
set_option maxHeartbeats 4000000 in
set_option maxRecDepth 100000 in
theorem goes_calls (w W : World) (lb ab sb at_ : Nat) (A : Option Addr) (n c : Nat) (M q : Nat) (m : Nat → Option Vst) (bl : Nat → Nat) (s : Vst) (tg : Nat) (be : Int)
    (h : VM w M q m bl W) (hl : W.heap[lb]? = some (.cells #[.slice A n c] 22 (0, 0))) (ha : W.heap[ab]? = some (.cells #[.map (some M)] 99 (0, 0))) (hsb : W.heap[sb]? = some (.cells #[.pointer (some ⟨bl at_, 0, none⟩)] 94 (0, 0)))
    (hs : m at_ = some s) (hne : at_ ≠ tg) (hto : tg ≤ 100000) (hq : q < 1000000) (hok : ∀ k x, m k = some x → x.has.length = 8) (hw : w.heap.size ≤ W.heap.size) :
    Calls Try.prog 48 #[.int .i64 (tg : Int), .int .i64 be, .pointer (some ⟨lb, 0, none⟩), .pointer (some ⟨ab, 0, none⟩), .pointer (some ⟨sb, 0, none⟩)] W fun e W' =>
      e = .returned (.int .i64 (goesP n m s tg be).2) ∧ ∃ bl', VM w M (q + 1) (goesP n m s tg be).1 bl' W' ∧ Keeps M m bl W W' ∧ bl' at_ = bl at_ ∧ Grows W.heap.size m bl (goesP n m s tg be).1 bl' := by
  have c1 : W.cell? ⟨lb, 0, none⟩ = some (.slice A n c) := by simp [World.cell?, hl]
  have H := Aside0.mk h
  have HOK := Aside0.mk hok
  have HS := Aside0.mk hs
  clear hok
  by_cases h1 : n ≤ tg
  · have d1 : decide ((n : Int) ≤ (tg : Int)) = true := decide_eq_true (by omega)
    clear h hl ha hsb hs
    go_enter Try.func48, Try.ntmps48
    go_wp2
    go_ret
    refine ⟨by simp [goesP, h1], bl, ?_, Keeps.refl _ _ _ _, rfl, fun j hj => .inl ⟨by simpa [goesP, h1] using hj, rfl⟩⟩
    simp only [goesP, h1, if_true]
    obtain ⟨D, hD, hE⟩ := H.out.own
    exact ⟨⟨D, hD.mono (by omega), hE⟩, H.out.st, H.out.inj, H.out.low⟩
  have d1 : decide ((n : Int) ≤ (tg : Int)) = false := decide_eq_false (by omega)
  have c2 : W.cell? ⟨ab, 0, none⟩ = some (.map (some M)) := by simp [World.cell?, ha]
  have c3 : W.cell? ⟨sb, 0, none⟩ = some (.pointer (some ⟨bl at_, 0, none⟩)) := by simp [World.cell?, hsb]
  have hlook := h.look tg hto
  obtain ⟨hst, _⟩ := h.st at_ s hs
  have h8 := HOK.out at_ s hs
  obtain ⟨sh, shas, swr⟩ := s
  obtain ⟨a0, a1, a2, a3, a4, a5, a6, a7, rfl⟩ : ∃ a0 a1 a2 a3 a4 a5 a6 a7, shas = [a0, a1, a2, a3, a4, a5, a6, a7] := by
    match shas, h8 with
    | [a0, a1, a2, a3, a4, a5, a6, a7], _ => exact ⟨_, _, _, _, _, _, _, _, rfl⟩
  have s0 : W.cell? ⟨bl at_, 0, none⟩ = some (.int .i64 sh) := st_cell hst rfl
  have s1 : W.cell? ⟨bl at_, 1, none⟩ = some (.int .u64 a0) := st_cell hst rfl
  have s2 : W.cell? ⟨bl at_, 2, none⟩ = some (.int .u64 a1) := st_cell hst rfl
  have s3 : W.cell? ⟨bl at_, 3, none⟩ = some (.int .u64 a2) := st_cell hst rfl
  have s4 : W.cell? ⟨bl at_, 4, none⟩ = some (.int .u64 a3) := st_cell hst rfl
  have s5 : W.cell? ⟨bl at_, 5, none⟩ = some (.int .u64 a4) := st_cell hst rfl
  have s6 : W.cell? ⟨bl at_, 6, none⟩ = some (.int .u64 a5) := st_cell hst rfl
  have s7 : W.cell? ⟨bl at_, 7, none⟩ = some (.int .u64 a6) := st_cell hst rfl
  have s8 : W.cell? ⟨bl at_, 8, none⟩ = some (.int .u64 a7) := st_cell hst rfl
  have s9 : W.cell? ⟨bl at_, 9, none⟩ = some (.int .u64 swr) := st_cell hst rfl
  have HL := Aside0.mk hl
  have HA := Aside0.mk ha
  have HSB := Aside0.mk hsb
  have HST := Aside0.mk hst
  have HSV : stVal ⟨sh, [a0, a1, a2, a3, a4, a5, a6, a7], swr⟩ = .agg #[.int .i64 sh, .int .u64 a0, .int .u64 a1, .int .u64 a2, .int .u64 a3, .int .u64 a4, .int .u64 a5, .int .u64 a6, .int .u64 a7, .int .u64 swr] := rfl
  have HSV := Aside0.mk HSV
  generalize hbl : bl at_ = ba at *
  have HBL := Aside0.mk hbl
  have hlab : ab < W.heap.size := (Array.getElem?_eq_some_iff.1 ha).1
  clear h hl ha hsb hs hst h8 hbl
  cases hm : m tg with
  | some t =>
    simp only [hm] at hlook
    have HM := Aside0.mk hm
    clear hm
    generalize hbt : bl tg = bt at *
    have HBT := Aside0.mk hbt
    clear hbt
    go_enter Try.func48, Try.ntmps48
    go_wp2_with fail
    have HTT := H.out.st tg t HM.out
    rw [HBT.out] at HTT
    have HTB := Aside0.mk HTT.1
    clear HTT s0 s1 s2 s3 s4 s5 s6 s7 s8 s9 c1 c2 c3 hlook
    refine (meet_calls bt t ⟨sh, [a0, a1, a2, a3, a4, a5, a6, a7], swr⟩ W HTB.out (HOK.out tg t HM.out) rfl).mono ?_
    rintro e W2 ⟨rfl, hg, hb2⟩
    go_wp2
    go_ret
    have eP : goesP n m ⟨sh, [a0, a1, a2, a3, a4, a5, a6, a7], swr⟩ tg be = ((fun k => if k = tg then some (meetS t ⟨sh, [a0, a1, a2, a3, a4, a5, a6, a7], swr⟩).1 else m k), (meetS t ⟨sh, [a0, a1, a2, a3, a4, a5, a6, a7], swr⟩).2) := by
      unfold goesP
      rw [if_neg h1, HM.out]
    rw [eP]
    refine ⟨rfl, bl, ?_, keeps_turn H.out HM.out (by rw [HBT.out]; exact hg), HBL.out, fun j hj => .inl ⟨?_, rfl⟩⟩
    rotate_left
    · by_cases e : j = tg
      · subst e; rw [HM.out]; simp
      · simpa [e] using hj
    have hv := H.out.turn HM.out (by rw [HBT.out]; exact hg) (by rw [HBT.out]; exact hb2)
    obtain ⟨D, hD, hE⟩ := hv.own
    exact ⟨⟨D, hD.mono (by omega), hE⟩, hv.st, hv.inj, hv.low⟩
  | none =>
    simp only [hm] at hlook
    have HM := Aside0.mk hm
    clear hm
    obtain ⟨W2, hrun, hv, hg⟩ := (H.out.alloc (.cells #[.int .i64 sh, .int .u64 a0, .int .u64 a1, .int .u64 a2, .int .u64 a3, .int .u64 a4, .int .u64 a5, .int .u64 a6, .int .u64 a7, .int .u64 swr] (98 : Nat))).put hq hto HM.out
      (s := ⟨sh, [a0, a1, a2, a3, a4, a5, a6, a7], swr⟩) (b := W.heap.size) (heap_alloc_new _ _) hw (fun j hj e => by
        obtain ⟨x, hx⟩ := Option.ne_none_iff_exists'.1 hj
        have := H.out.lt hx
        omega)
    have HV := Aside0.mk hv
    have HG := Aside0.mk ((World.grownBy_alloc W (.cells #[.int .i64 sh, .int .u64 a0, .int .u64 a1, .int .u64 a2, .int .u64 a3, .int .u64 a4, .int .u64 a5, .int .u64 a6, .int .u64 a7, .int .u64 swr] (98 : Nat)) (some M)).trans hg)
    clear hv hg
    go_enter Try.func48, Try.ntmps48
    go_wp2
    go_ret
    have eP : goesP n m ⟨sh, [a0, a1, a2, a3, a4, a5, a6, a7], swr⟩ tg be = ((fun k => if k = tg then some ⟨sh, [a0, a1, a2, a3, a4, a5, a6, a7], swr⟩ else m k), 0) := by
      unfold goesP
      rw [if_neg h1, HM.out]
    rw [eP]
    refine ⟨rfl, _, HV.out, ⟨HG.out.os, HG.out.tape, HG.out.output, HG.out.size, fun k hk h1 _ => HG.out.block k hk (by simp; exact h1)⟩, by simp [hne, HBL.out], fun j hj => ?_⟩
    by_cases e : j = tg
    · subst e; right; simp
    · left; exact ⟨by simpa [e] using hj, by simp [e]⟩
end Go.Proofs.Ytlmpoojpbdmmfaa.H
set_option linter.unusedVariables false
set_option linter.unusedSimpArgs false
namespace Go.Proofs.Ytlmpoojpbdmmfaa.H
open Go.RowKit Go.Proofs.YtlmpoojpbdmmfaaW.PrintWords Go.Proofs.YtlmpoojpbdmmfaaW.PrintLast Go.Proofs.YtlmpoojpbdmmfaaW.PrintMore

/-- A state comes to all places that follow an instruction. -/
def folP (n : Nat) (m : Nat → Option Vst) (s : Vst) (p : Nat) (i : S53) : (Nat → Option Vst) × Int :=
  if i.f0 = 23 then (m, 0) else if i.f0 = 21 then goesP n m s (p + i.f1.toNat) 190
  else if i.f0 = 22 then (if (goesP n m s (p + 1) 195).2 = 0 then goesP n (goesP n m s (p + 1) 195).1 s (p + i.f1.toNat) 190 else goesP n m s (p + 1) 195)
  else goesP n m s (p + 1) 195
theorem goesP_at {n : Nat} {m : Nat → Option Vst} {s : Vst} {tg p : Nat} {be : Int} (h : p ≠ tg) : (goesP n m s tg be).1 p = m p := by
  unfold goesP
  split
  · rfl
  · split <;> simp [h]
theorem meetS_len {s t : Vst} (hs : s.has.length = 8) (ht : t.has.length = 8) : (meetS s t).1.has.length = 8 := by
  unfold meetS
  split
  · exact hs
  split
  · exact hs
  · simp [andL, hs, ht]
theorem goesP_ok {n : Nat} {m : Nat → Option Vst} {s : Vst} {tg : Nat} {be : Int} (hm : ∀ k x, m k = some x → x.has.length = 8) (hs : s.has.length = 8) : ∀ k x, (goesP n m s tg be).1 k = some x → x.has.length = 8 := by
  intro k x hx
  unfold goesP at hx
  split at hx
  · exact hm k x hx
  · split at hx
    · rename_i t ht
      by_cases e : k = tg
      · simp [e] at hx; subst hx; exact meetS_len (hm _ _ ht) hs
      · simp [e] at hx; exact hm k x hx
    · by_cases e : k = tg
      · simp [e] at hx; subst hx; exact hs
      · simp [e] at hx; exact hm k x hx
set_option maxHeartbeats 4000000 in
set_option maxRecDepth 100000 in
theorem vfollows_calls (w W : World) (lb ab sb p : Nat) (A : Option Addr) (n c : Nat) (M q : Nat) (m : Nat → Option Vst) (bl : Nat → Nat) (s : Vst) (i : S53)
    (h : VM w M q m bl W) (hl : W.heap[lb]? = some (.cells #[.slice A n c] 22 (0, 0))) (ha : W.heap[ab]? = some (.cells #[.map (some M)] 99 (0, 0))) (hsb : W.heap[sb]? = some (.cells #[.pointer (some ⟨bl p, 0, none⟩)] 94 (0, 0)))
    (hs : m p = some s) (hp : p ≤ 5000) (hq : q < 900000) (hok : ∀ k x, m k = some x → x.has.length = 8) (hw : w.heap.size ≤ W.heap.size) (hi : (1 ≤ i.f1 ∧ i.f1 ≤ 4096) ∨ (i.f0 ≠ 21 ∧ i.f0 ≠ 22)) :
    Calls Try.prog 51 #[.agg #[.int .u8 i.f0, .int .i64 i.f1], .int .i64 (p : Int), .func (.func 48) #[] #[.pointer (some ⟨lb, 0, none⟩), .pointer (some ⟨ab, 0, none⟩), .pointer (some ⟨sb, 0, none⟩)]] W fun e W' =>
      e = .returned (.int .i64 (folP n m s p i).2) ∧ ∃ bl', VM w M (q + 2) (folP n m s p i).1 bl' W' ∧ Keeps M m bl W W' ∧ bl' p = bl p ∧ Grows W.heap.size m bl (folP n m s p i).1 bl' := by
  obtain ⟨op, ar⟩ := i
  have hlb : lb < W.heap.size := (Array.getElem?_eq_some_iff.1 hl).1
  have hab : ab < W.heap.size := (Array.getElem?_eq_some_iff.1 ha).1
  have hsbl : sb < W.heap.size := (Array.getElem?_eq_some_iff.1 hsb).1
  have H1 := Aside0.mk (h.alloc (.cells #[.int .u8 op, .int .i64 ar] (53 : Nat)))
  have H := Aside0.mk h
  have E1 : Aside0 ((W.alloc (.cells #[.int .u8 op, .int .i64 ar] (53 : Nat))).heap[lb]? = some (.cells #[.slice A n c] 22 (0, 0))) := ⟨by rw [heap_alloc_old _ _ hlb]; exact hl⟩
  have E2 : Aside0 ((W.alloc (.cells #[.int .u8 op, .int .i64 ar] (53 : Nat))).heap[ab]? = some (.cells #[.map (some M)] 99 (0, 0))) := ⟨by rw [heap_alloc_old _ _ hab]; exact ha⟩
  have E3 : Aside0 ((W.alloc (.cells #[.int .u8 op, .int .i64 ar] (53 : Nat))).heap[sb]? = some (.cells #[.pointer (some ⟨bl p, 0, none⟩)] 94 (0, 0))) := ⟨by rw [heap_alloc_old _ _ hsbl]; exact hsb⟩
  have E4 : Aside0 ((W.alloc (.cells #[.int .u8 op, .int .i64 ar] (53 : Nat))).heap[W.heap.size]? = some (.cells #[.int .u8 op, .int .i64 ar] (53 : Nat) (0, 0))) := ⟨heap_alloc_new _ _⟩
  have E5 : Aside0 (Keeps M m bl W (W.alloc (.cells #[.int .u8 op, .int .i64 ar] (53 : Nat)))) := ⟨⟨rfl, rfl, rfl, by simp, fun k hk _ _ => heap_alloc_old _ _ hk⟩⟩
  have HS := Aside0.mk hs
  have HOK := Aside0.mk hok
  have HW : Aside0 (w.heap.size ≤ (W.alloc (.cells #[.int .u8 op, .int .i64 ar] (53 : Nat))).heap.size) := ⟨by simp; omega⟩
  have HZ : Aside0 (W.heap.size ≤ (W.alloc (.cells #[.int .u8 op, .int .i64 ar] (53 : Nat))).heap.size) := ⟨by simp⟩
  clear h hl ha hsb hs hok hlb hab hsbl hw
  have e1 : wrap64 ((p : Int) + 1) = (p : Int) + 1 := by unfold wrap64; omega
  have hcast : ((p + 1 : Nat) : Int) = (p : Int) + 1 := by omega
  by_cases o23 : op = 23
  · subst o23
    go_enter Try.func51, Try.ntmps51
    go_wp2
    go_ret
    refine ⟨by simp [folP], bl, ?_, E5.out, rfl, fun j hj => .inl ⟨by simpa [folP] using hj, rfl⟩⟩
    simp only [folP, if_true]
    obtain ⟨D, hD, hE⟩ := H1.out.own
    exact ⟨⟨D, hD.mono (by omega), hE⟩, H1.out.st, H1.out.inj, H1.out.low⟩
  by_cases o21 : op = 21
  · subst o21
    have hi' : 1 ≤ ar ∧ ar ≤ 4096 := by rcases hi with h | h; exact h; exact absurd rfl h.1
    have e2 : wrap64 ((p : Int) + ar) = (p : Int) + ar := by unfold wrap64; omega
    have hc2 : ((p + ar.toNat : Nat) : Int) = (p : Int) + ar := by omega
    go_enter Try.func51, Try.ntmps51
    go_wp2_with fail
    generalize W.alloc (.cells #[.int .u8 21, .int .i64 ar] (53 : Nat)) = W1 at H1 E1 E2 E3 E4 E5 HW HZ ⊢
    have G := goes_calls w W1 lb ab sb p A n c M q m bl s (p + ar.toNat) 190 H1.out E1.out E2.out E3.out HS.out (by omega) (by omega) (by omega) HOK.out HW.out
    rw [hc2] at G
    refine G.mono ?_
    clear G
    rintro e W2 ⟨rfl, bl1, hv, hk, hb, hg⟩
    go_wp2
    go_ret
    exact ⟨by simp [folP], bl1, by simpa [folP] using hv.more (by omega), E5.out.trans hk (Grows.refl _ _ _), hb, by simpa [folP] using (Grows.refl W.heap.size m bl).trans HZ.out hg⟩
  by_cases o22 : op = 22
  · subst o22
    have hi' : 1 ≤ ar ∧ ar ≤ 4096 := by rcases hi with h | h; exact h; exact absurd rfl h.2
    have e2 : wrap64 ((p : Int) + ar) = (p : Int) + ar := by unfold wrap64; omega
    have hc2 : ((p + ar.toNat : Nat) : Int) = (p : Int) + ar := by omega
    go_enter Try.func51, Try.ntmps51
    go_wp2_with fail
    generalize W.alloc (.cells #[.int .u8 22, .int .i64 ar] (53 : Nat)) = W1 at H1 E1 E2 E3 E4 E5 HW HZ ⊢
    have G := goes_calls w W1 lb ab sb p A n c M q m bl s (p + 1) 195 H1.out E1.out E2.out E3.out HS.out (by omega) (by omega) (by omega) HOK.out HW.out
    rw [hcast] at G
    refine G.mono ?_
    clear G
    rintro e W2 ⟨rfl, bl1, hv, hk, hb, hg⟩
    have X4 := hk.cells H1.out E4.out (by decide)
    have hm1 : (goesP n m s (p + 1) 195).1 p = some s := by rw [goesP_at (by omega)]; exact HS.out
    have hok1 := goesP_ok (n := n) (tg := p + 1) (be := 195) HOK.out (HOK.out p s HS.out)
    have eF : folP n m s p ⟨22, ar⟩ = if (goesP n m s (p + 1) 195).2 = 0 then goesP n (goesP n m s (p + 1) 195).1 s (p + ar.toNat) 190 else goesP n m s (p + 1) 195 := by simp [folP]
    have X1 := hk.cells H1.out E1.out (by decide)
    have X2 := hk.cells H1.out E2.out (by decide)
    have X3 := hk.cells H1.out E3.out (by decide)
    rw [← hb] at X3
    have HSZ : w.heap.size ≤ W2.heap.size := Nat.le_trans HW.out hk.size
    have HF := Aside0.mk eF
    clear eF
    generalize goesP n m s (p + 1) 195 = r1 at *
    have x0 : W2.cell? ⟨W.heap.size, 0, none⟩ = some (.int .u8 22) := by simp [World.cell?, X4]
    have x1 : W2.cell? ⟨W.heap.size, 1, none⟩ = some (.int .i64 ar) := by simp [World.cell?, X4]
    have HX := Aside0.mk (And.intro X1 (And.intro X2 (And.intro X3 (And.intro hm1 (And.intro hok1 HSZ)))))
    have HV := Aside0.mk hv
    have HK := Aside0.mk hk
    have HB := Aside0.mk hb
    have HG := Aside0.mk hg
    clear X1 X2 X3 X4 hm1 hok1 HSZ hv hk hb hg
    by_cases hr : r1.2 = 0
    · have q0 : (r1.2 != 0) = false := by simp [hr]
      have HR := Aside0.mk hr
      clear hr
      go_wp2_with fail
      have G := goes_calls w W2 lb ab sb p A n c M (q + 1) r1.1 bl1 s (p + ar.toNat) 190 HV.out HX.out.1 HX.out.2.1 HX.out.2.2.1 HX.out.2.2.2.1 (by omega) (by omega) (by omega) HX.out.2.2.2.2.1 HX.out.2.2.2.2.2
      rw [hc2] at G
      refine G.mono ?_
      clear G
      rintro e W3 ⟨rfl, bl2, hv2, hk2, hb2, hg2⟩
      go_wp2
      go_ret
      rw [HF.out, if_pos HR.out]
      exact ⟨rfl, bl2, hv2, (E5.out.trans HK.out (Grows.refl _ _ _)).trans hk2 ((Grows.refl _ _ _).trans HZ.out HG.out), hb2.trans HB.out, ((Grows.refl W.heap.size m bl).trans HZ.out HG.out).trans (Nat.le_trans HZ.out HK.out.size) hg2⟩
    · have q0 : (r1.2 != 0) = true := by simp [hr]
      have HR := Aside0.mk hr
      clear hr
      go_wp2
      go_ret
      rw [HF.out, if_neg HR.out]
      exact ⟨rfl, bl1, HV.out.more (by omega), E5.out.trans HK.out (Grows.refl _ _ _), HB.out, (Grows.refl W.heap.size m bl).trans HZ.out HG.out⟩
  · have q23 : (op == 23) = false := beq_eq_false_iff_ne.mpr o23
    have q21 : (op == 21) = false := beq_eq_false_iff_ne.mpr o21
    have q22 : (op != 22) = true := bne_iff_ne.mpr o22
    go_enter Try.func51, Try.ntmps51
    go_wp2_with fail
    generalize W.alloc (.cells #[.int .u8 op, .int .i64 ar] (53 : Nat)) = W1 at H1 E1 E2 E3 E4 E5 HW HZ ⊢
    have G := goes_calls w W1 lb ab sb p A n c M q m bl s (p + 1) 195 H1.out E1.out E2.out E3.out HS.out (by omega) (by omega) (by omega) HOK.out HW.out
    rw [hcast] at G
    refine G.mono ?_
    clear G
    rintro e W2 ⟨rfl, bl1, hv, hk, hb, hg⟩
    have X4 := hk.cells H1.out E4.out (by decide)
    have x0 : W2.cell? ⟨W.heap.size, 0, none⟩ = some (.int .u8 op) := by simp [World.cell?, X4]
    go_wp2
    go_ret
    exact ⟨by simp [folP, o23, o21, o22], bl1, by simpa [folP, o23, o21, o22] using hv.more (by omega), E5.out.trans hk (Grows.refl _ _ _), hb, by simpa [folP, o23, o21, o22] using (Grows.refl W.heap.size m bl).trans HZ.out hg⟩
end Go.Proofs.Ytlmpoojpbdmmfaa.H
