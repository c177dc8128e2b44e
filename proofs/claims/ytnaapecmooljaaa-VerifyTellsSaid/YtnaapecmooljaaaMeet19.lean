/- verify's meet: two states at one instruction. The conditions: the pointer's block holds a state. -/
import Derived.Test.YtnaapecmooljaaaV19
import Derived.LoopTactic
import Derived.BigQuiet
import Derived.Deep.QuietTactic
import Derived.RegionTactic
import Derived.BigRegion
import Derived.StillTailTactics
set_option linter.unusedVariables false
set_option linter.unusedSimpArgs false
namespace Go.Proofs.Ytnaapecmooljaaa.H
open Go.RowKit Go.Proofs.YtnaapecmooljaaaW.PrintWords Go.Proofs.YtnaapecmooljaaaW.PrintLast Go.Proofs.YtnaapecmooljaaaW.PrintMore

set_option maxHeartbeats 4000000 in
set_option maxRecDepth 100000 in
theorem meet_calls (b : Nat) (s t : Vst) (w : World) (hb : w.heap[b]? = some (.cells (stArr s) 87 (0, 0))) (hs : s.has.length = 8) (ht : t.has.length = 8) :
    Calls Try.prog 47 #[.pointer (some ⟨b, 0, none⟩), stVal t] w fun e w' => e = .returned (.int .i64 (meetS s t).2) ∧ w.grownBy w' (some b) ∧ w'.heap[b]? = some (.cells (stArr (meetS s t).1) 87 (0, 0)) := by
  have hlt : b < w.heap.size := (Array.getElem?_eq_some_iff.1 hb).1
  have HS := Aside0.mk hs
  have HT := Aside0.mk ht
  have e1 : (w.alloc (.cells (stArr t) (87 : Nat))).heap[w.heap.size]? = some (.cells (stArr t) 87 (0, 0)) := heap_alloc_new _ _
  have e2 : (w.alloc (.cells (stArr t) (87 : Nat))).heap[b]? = some (.cells (stArr s) 87 (0, 0)) := by rw [heap_alloc_old _ _ hlt]; exact hb
  have e3 : w.grownBy (w.alloc (.cells (stArr t) (87 : Nat))) (some b) := World.grownBy_alloc w _ _
  obtain ⟨tv, htv⟩ : ∃ tv, tv = stArr t := ⟨_, rfl⟩
  rw [show stVal t = .agg tv by rw [htv]; rfl]
  rw [← htv] at e1 e2 e3
  have HTV := Aside0.mk htv
  clear htv
  go_enter Try.func47, Try.ntmps47
  go_wp2
  generalize w.alloc (.cells tv (87 : Nat)) = W at e1 e2 e3 ⊢
  generalize w.heap.size = tb at hlt e1 ⊢
  have E3 := Aside0.mk e3
  obtain rfl := HTV.out
  clear HTV
  have c0 := st_h e2
  have c9 := st_wr e2 hs
  have t0 := st_h e1
  have t9 := st_wr e1 ht
  have E1 := Aside0.mk e1
  have E2 := Aside0.mk e2
  have HL := Aside0.mk hlt
  clear hb e1 e2 e3 hlt hs ht
  generalize hsv : stArr t = tv
  by_cases h1 : s.h = t.h
  · by_cases h2 : s.wr = t.wr
    · go_quiet (fail)
      go_wp2
      go_quiet (fail)
      go_wp2
      clear c0 c9 t0 t9
      go_loopg [22] 8 (fun kq v22 wr => ∃ i : Nat, v22 = .int .i64 i ∧ Aside0 (i + kq = 8) ∧ Aside0 (wr.heap[tb]? = some (.cells (stArr t) 87 (0, 0))) ∧ Aside0 (wr.heap[b]? = some (.cells (stArr { s with has := mixL s.has t.has i }) 87 (0, 0))) ∧ Aside0 (w.grownBy wr (some b)))
      case atStart => exact ⟨0, rfl, ⟨by omega⟩, ⟨E1.out⟩, ⟨by rw [mixL_zero]; exact E2.out⟩, ⟨grown_drewN (grown_drewN E3.out _) _⟩⟩
      case round =>
        obtain ⟨i, rfl, HK, R1, R2, R3⟩ := hrel
        by_cases hi : i < 8
        · obtain ⟨go, rfl⟩ : ∃ go, gk = go + 1 := ⟨gk - 1, by have := HK.out; omega⟩
          have hls : (mixL s.has t.has i).length = 8 := by rw [mixL_length (by rw [HS.out, HT.out]) (by rw [HS.out]; omega)]; exact HS.out
          have k1 := st_has (s := { s with has := mixL s.has t.has i }) R2.out (k := i) (by rw [hls]; exact hi)
          have k2 := st_has R1.out (k := i) (by rw [HT.out]; exact hi)
          have k3 := st_frozen (1 + i) R2.out
          simp only [mixL_getD (show s.has.length = t.has.length by rw [HS.out, HT.out]) (show i < s.has.length by rw [HS.out]; exact hi)] at k1
          have hi1 : (i : Int) < 8 := by omega
          clear hls
          go_wp2
          go_still_tail 14, (by kernel_rfl)
          change wpList _ _ _ _ _ wr.drew
          go_wp2
          clear k1 k2 k3
          go_roundg go
          case measure => omega
          case rel =>
            refine ⟨i + 1, by simp, ⟨by have := HK.out; omega⟩, ⟨set_far R1.out (by have := HL.out; omega) _⟩, ⟨?_⟩, ⟨grown_drew (grown_set R3.out _ _)⟩⟩
            have hl : s.has.length = t.has.length := by rw [HS.out, HT.out]
            refine st_put (s' := { s with has := mixL s.has t.has (i + 1) }) R2.out ?_
            rw [stArr_has _ _ _ (by rw [mixL_length hl (by rw [HS.out]; omega), HS.out]; exact hi)]
            simp only
            rw [← mixL_succ hl (by rw [HS.out]; exact hi)]
            simp [List.getD_eq_getElem?_getD]
        · have hi2 : i = 8 := by have := HK.out; omega
          subst hi2
          go_wp2
          go_ret
          refine ⟨?_, R3.out, ?_⟩
          · simp [meetS, h1, h2]
          · have := R2.out
            rw [show (8 : Nat) = s.has.length from HS.out.symm, mixL_all (by rw [HS.out, HT.out])] at this
            simpa [meetS, h1, h2] using this
    · go_quiet (fail)
      go_wp2
      go_quiet (fail)
      go_wp2
      go_ret
      exact ⟨by simp [meetS, h1, h2], grown_drewN (grown_drewN E3.out _) _, by simpa [meetS, h1, h2] using E2.out⟩
  · go_quiet (fail)
    go_wp2
    go_ret
    exact ⟨by simp [meetS, h1], grown_drewN E3.out _, by simpa [meetS, h1] using E2.out⟩
end Go.Proofs.Ytnaapecmooljaaa.H
