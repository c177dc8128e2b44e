/- cost.Path computes 'path'. The conditions: the arguments read as a list of instructions and as turns. -/
import Derived.Test.YtnaapecmooljaaaScostBound
import Derived.Test.YtnaapecmooljaaaNext21
import Derived.Test.YtnaapecmooljaaaScan21
set_option linter.unusedVariables false
set_option linter.unusedSimpArgs false
namespace Go.Proofs.Ytnaapecmooljaaa.H
open Go.RowKit Go.Proofs.YtnaapecmooljaaaW.PrintWords Go.Shelf
def cost_Path.f (l0 : List (S26)) (l1 : List Bool) : Option (Int × Int) := some (path l0 l1)
set_option maxHeartbeats 4000000 in
set_option maxRecDepth 100000 in
theorem cost_Path.calls (A0 : Option Addr) (c0 : Nat) (l0 : List (S26)) (A1 : Option Addr) (c1 : Nat) (l1 : List Bool) (r1 : Int) (r2 : Int) (w : World) (hr0 : Kd.C k26 w A0 l0.length l0) (hc0 : l0.length ≤ c0) (hr1 : Kd.C Kd.bool w A1 l1.length l1) (hc1 : l1.length ≤ c1) (h : cost_Path.f l0 l1 = some (r1, r2)) :
    Calls Try.prog 28 #[.slice A0 l0.length c0, .slice A1 l1.length c1] w fun e w' => e = .returned (.tuple #[.int .i64 r1, .int .i64 r2]) ∧ Below w.heap.size w w' := by
  have hp := Option.some.inj h
  have HP := Aside0.mk hp
  have H0 := Aside0.mk hr0
  have H1 := Aside0.mk hr1
  have HC0 := Aside0.mk hc0
  have HC1 := Aside0.mk hc1
  clear hp h hr0 hr1 hc0 hc1
  go_enter Try.func28, Try.ntmps28
  go_wp2_with fail
  refine (cost_Bound.calls A0 c0 l0 (bound l0).1 (bound l0).2.1 (bound l0).2.2 _ (Kd.C_below H0.out ((Below.refl _ _).alloc (Nat.le_refl _) _)) HC0.out rfl).mono ?_
  rintro e W1 ⟨rfl, hb1⟩
  have hbx : W1.heap[w.heap.size]? = some (.cells #[.slice A1 l1.length c1] 39 (0, 0)) := by
    rw [hb1.block _ (by simp)]; exact heap_alloc_new _ _
  have HBX := Aside0.mk hbx
  have HB1 := Aside0.mk (((Below.refl w.heap.size w).alloc (Nat.le_refl _) (.cells #[.slice A1 l1.length c1] 39)).trans (hb1.mono (by simp)))
  clear hb1 hbx
  generalize hbd : bound l0 = bd
  have HBD := Aside0.mk hbd
  clear hbd
  obtain ⟨b1, b2, b3⟩ := bd
  by_cases hb3 : b3 = 0
  · subst hb3
    obtain ⟨is, hfine⟩ := fine_of_bound (l := l0) (by rw [HBD.out])
    have HF := Aside0.mk hfine
    clear hfine
    have hpp : pathGo l0 l0.length 0 l1 0 = r1 ∧ r2 = 0 := by
      have h := HP.out
      rw [path, HBD.out] at h
      simp only [if_true, Prod.mk.injEq] at h
      exact ⟨h.1, h.2.symm⟩
    obtain ⟨hp1, rfl⟩ := hpp
    have HP1 := Aside0.mk hp1
    clear hp1
    go_wp2_with fail
    go_loopg [10, 11] l0.length (fun kq v10 v11 wr => ∃ (s : Int) (k : Nat) (ts : List Bool) (A : Option Addr) (c : Nat), v10 = .int .i64 s ∧ v11 = .int .i64 k ∧ Aside0 (pathGo l0 kq k ts s = r1) ∧ Aside0 (k < l0.length ∧ is.getD k false = true ∧ l0.length ≤ k + kq) ∧ Aside0 (Below w.heap.size w wr) ∧ Aside0 (wr.heap[w.heap.size]? = some (.cells #[.slice A ts.length c] 39 (0, 0)) ∧ Kd.bool.C w A ts.length ts ∧ ts.length ≤ c))
    case atStart => exact ⟨0, 0, l1, A1, c1, rfl, rfl, HP1, ⟨HF.out.pos, HF.out.zero, by omega⟩, HB1, ⟨HBX.out, H1.out, HC1.out⟩⟩
    case round =>
      obtain ⟨s, k, ts, A, c, rfl, rfl, HG, HK, HB, HX⟩ := hrel
      obtain ⟨go, rfl⟩ : ∃ go, gk = go + 1 := ⟨gk - 1, by have := HK.out; omega⟩
      obtain ⟨ad, e, hc1, hc2⟩ := at_T26 (Kd.C_below H0.out HB.out) (k : Int) (by omega) (by have := HK.out.1; omega)
      subst e
      simp only [Int.toNat_natCast] at hc1 hc2
      have hk4 : k < l0.length := HK.out.1
      have hl4 : l0.length ≤ 4096 := HF.out.le
      have harg := ok_args HF.out.ok k hk4
      have hnx := HF.out.next k hk4 HK.out.2.1
      have hpg := HG.out
      rw [pathGo] at hpg
      generalize hi : rd_T26 l0 (k : Int) = i at *
      have Hi := Aside0.mk hi
      have HPG := Aside0.mk hpg
      have HNX := Aside0.mk hnx
      have HAR := Aside0.mk harg
      obtain ⟨K5, hK5⟩ := ev_cycles i.f0
      have HK5 := Aside0.mk (hK5 K5 (Nat.le_refl _))
      clear hK5 hi hpg hnx harg
      go_wp2_with fail
      clear hc1 hc2
      refine (code_Cycles.calls K5 i.f0 _ _ HK5.out).mono ?_
      rintro e W2 ⟨rfl, hdr⟩
      have hbelow := hdr.below
      have hbox : W2.heap[wr.heap.size]? = some (.cells #[.int .u8 i.f0, .int .i64 i.f1] 26 (0, 0)) := by rw [hbelow.block _ (by simp)]; exact heap_alloc_new _ _
      have HB2 := Aside0.mk ((HB.out.alloc HB.out.size (.cells #[.int .u8 i.f0, .int .i64 i.f1] 26)).trans (hbelow.mono (by have := HB.out.size; simp; omega)))
      have hbx0 : wr.heap[w.heap.size]? = some (.cells #[.slice A ts.length c] 39 (0, 0)) := HX.out.1
      have hlt0 : w.heap.size < wr.heap.size := (Array.getElem?_eq_some_iff.1 hbx0).1
      have hbx2 : W2.heap[w.heap.size]? = some (.cells #[.slice A ts.length c] 39 (0, 0)) := by
        rw [hbelow.block _ (by simp; omega), heap_alloc_old _ _ hlt0]; exact hbx0
      have HBX2 := Aside0.mk hbx2
      have HBOX := Aside0.mk hbox
      have hd0 : W2.cell? ⟨wr.heap.size, 0, none⟩ = some (.int .u8 i.f0) := by simp [World.cell?, hbox]
      have hd1 : W2.cell? ⟨wr.heap.size, 1, none⟩ = some (.int .i64 i.f1) := by simp [World.cell?, hbox]
      clear hdr hbelow hbox hbx0 hbx2
      by_cases h23 : i.f0 = 23
      · have b23 : (i.f0 == 23) = true := beq_iff_eq.mpr h23
        have H23 := Aside0.mk h23
        clear h23
        go_wp2_with fail
        go_ret2
        have h := HPG.out
        rw [if_pos H23.out] at h
        exact ⟨by rw [← h]; rfl, HB2.out⟩
      · have b23 : (i.f0 == 23) = false := beq_eq_false_iff_ne.mpr h23
        by_cases h21 : i.f0 = 21
        · have b21 : (i.f0 == 21) = true := beq_iff_eq.mpr h21
          have ha1 : 1 ≤ i.f1 := by have := HAR.out; omega
          have ha2 : i.f1 ≤ 4096 := by have := HAR.out; omega
          have H21 := Aside0.mk h21
          clear h21
          go_wp2_with fail
          go_roundg go
          case measure => omega
          case rel =>
            have h := HPG.out
            rw [if_neg h23, if_pos H21.out] at h
            have hx := HNX.out (k + i.f1.toNat, 190) (by simp [succs, H21.out])
            exact ⟨_, k + i.f1.toNat, ts, A, c, rfl, by simp; omega, ⟨h⟩, ⟨hx.1, hx.2.2, by have := HK.out; have := hx.2.1; simp at this ⊢; omega⟩, HB2, ⟨HBX2.out, HX.out.2⟩⟩
        · have b21 : (i.f0 == 21) = false := beq_eq_false_iff_ne.mpr h21
          by_cases h22 : i.f0 = 22
          · have b22 : (i.f0 == 22) = true := beq_iff_eq.mpr h22
            have ha1 : 1 ≤ i.f1 := by have := HAR.out; omega
            have ha2 : i.f1 ≤ 4096 := by have := HAR.out; omega
            have H22 := Aside0.mk h22
            clear h22
            go_wp2_with fail
            refine (next_calls w.heap.size A c ts w W2 HBX2.out HX.out.2.1 HB2.out HX.out.2.2).mono ?_
            rintro e W3 ⟨rfl, A', c', hc', hT, hbx3, hC3⟩
            have HB3 := Aside0.mk (hT.below HB2.out (Nat.le_refl _))
            have HX3 := Aside0.mk hbx3
            have hn : wr.heap.size ≠ w.heap.size := by omega
            have hd3 : W3.cell? ⟨wr.heap.size, 1, none⟩ = some (.int .i64 i.f1) := by
              have := hT.block wr.heap.size hn
              rw [HBOX.out] at this
              simp [World.cell?, this]
            have hcc := HX.out.2.2
            have HC3 : Aside0 (Kd.bool.C w A' ts.tail.length ts.tail ∧ ts.tail.length ≤ c') := ⟨hC3, hc'⟩
            have h := HPG.out
            rw [if_neg h23, if_neg h21, if_pos H22.out] at h
            generalize hhd : ts.headD false = hd at h
            have HHD := Aside0.mk hhd
            have HH := Aside0.mk h
            clear hd0 hd1 hT hbx3 h hhd hC3
            cases hd with
            | true =>
              go_wp2_with fail
              go_roundg go
              case measure => omega
              case rel =>
                have h := HH.out
                rw [if_pos trivial] at h
                have hx := HNX.out (k + i.f1.toNat, 190) (by simp [succs, H22.out])
                exact ⟨_, k + i.f1.toNat, ts.tail, A', c', rfl, by simp; omega, ⟨h⟩, ⟨hx.1, hx.2.2, by have := HK.out; have := hx.2.1; simp at this ⊢; omega⟩, HB3, ⟨HX3.out, HC3.out⟩⟩
            | false =>
              go_wp2_with fail
              go_roundg go
              case measure => omega
              case rel =>
                have h := HH.out
                rw [if_neg (by simp)] at h
                have hx := HNX.out (k + 1, 195) (by simp [succs, H22.out])
                exact ⟨_, k + 1, ts.tail, A', c', rfl, by simp, ⟨h⟩, ⟨hx.1, hx.2.2, by have := HK.out; omega⟩, HB3, ⟨HX3.out, HC3.out⟩⟩
          · have b22 : (i.f0 == 22) = false := beq_eq_false_iff_ne.mpr h22
            go_wp2_with fail
            go_roundg go
            case measure => omega
            case rel =>
              have h := HPG.out
              rw [if_neg h23, if_neg h21, if_neg h22] at h
              have hx := HNX.out (k + 1, 195) (by simp [succs, h23, h21, h22])
              exact ⟨_, k + 1, ts, A, c, rfl, by simp, ⟨h⟩, ⟨hx.1, hx.2.2, by have := HK.out; omega⟩, HB2, ⟨HBX2.out, HX.out.2⟩⟩
  · have hne : (b3 != 0) = true := by simpa using hb3
    go_wp2
    go_ret2
    have h := HP.out
    rw [path, HBD.out, if_neg hb3] at h
    simp only [Prod.mk.injEq] at h
    obtain ⟨rfl, rfl⟩ := h
    exact ⟨rfl, HB1.out⟩
end Go.Proofs.Ytnaapecmooljaaa.H
