/- code.Encode computes 'encode'. The conditions: the argument reads as a list of instructions. -/
import Derived.Test.YtnaapecmooljaaaD18
import Derived.Test.YtnaapecmooljaaaBld
import Derived.Test.YtnaapecmooljaaaA18
import Derived.Lib.Hide
import Derived.Laws.Bits64
set_option linter.unusedVariables false
set_option linter.unusedSimpArgs false
namespace Go.Proofs.Ytnaapecmooljaaa.H
open Go.RowKit Go.Proofs.YtnaapecmooljaaaW.PrintWords Go.Proofs.YtnaapecmooljaaaW.PrintLast Go.Proofs.YtnaapecmooljaaaW.PrintMore
def code_Encode.f (l0 : List (S26)) : Option (ByteArray × Int) := some (encode l0)
set_option maxHeartbeats 4000000 in
set_option maxRecDepth 100000 in
theorem code_Encode.calls (A0 : Option Addr) (c0 : Nat) (l0 : List (S26)) (r1 : ByteArray) (r2 : Int) (w : World) (hr0 : Kd.C k26 w A0 l0.length l0) (hc0 : l0.length ≤ c0) (h : code_Encode.f l0 = some (r1, r2)) :
    Calls Try.prog 18 #[.slice A0 l0.length c0] w fun e w' => e = .returned (.tuple #[.string r1, .int .i64 r2]) ∧ Below w.heap.size w w' := by
  have HR0 := Aside0.mk hr0
  have hm := hr0.2.1
  clear hr0 hc0
  have HE := Aside0.mk (show encode l0 = (r1, r2) from Option.some.inj h)
  clear h
  by_cases hbig : 4096 < l0.length
  · have hb0 : decide (4096 < l0.length) = true := decide_eq_true hbig
    go_enter Try.func18, Try.ntmps18
    go_wp2
    go_ret2
    have h := HE.out
    simp only [encode, if_pos hbig, Prod.mk.injEq] at h
    obtain ⟨rfl, rfl⟩ := h
    exact ⟨rfl, Below.refl _ _⟩
  · have hb0 : decide (4096 < l0.length) = false := decide_eq_false hbig
    have HS := Aside0.mk hbig
    go_enter Try.func18, Try.ntmps18
    go_wp2_with fail
    go_loopg [14] (l0.length + 1) (fun kq v14 wr => ∃ x : Int, v14 = .int .i64 x ∧ Aside0 (0 ≤ x ∧ x + kq = (l0.length : Int) + 1) ∧ Aside0 (okAll (l0.take x.toNat) = true) ∧ Aside0 (Lib.IsBuilderF 69 5 w.heap.size w.heap.size (nums .u8 (encAll (l0.take x.toNat))) wr) ∧ Aside0 (Below w.heap.size w wr))
    case atStart => exact ⟨0, rfl, ⟨by omega⟩, ⟨by simp [okAll]⟩, ⟨by simpa [encAll, nums] using Lib.IsBuilderF.of (Lib.fresh_isBuilder 69 5 w)⟩, ⟨(Below.refl _ _).alloc (Nat.le_refl _) _⟩⟩
    case round =>
      obtain ⟨x, rfl, HX, HV, HB, HL⟩ := hrel
      have hx0 := HX.out.1
      by_cases hlt : x < (l0.length : Int)
      · have hd : decide (x < (l0.length : Int)) = true := decide_eq_true hlt
        obtain ⟨go, rfl⟩ : ∃ go, gk = go + 1 := ⟨gk - 1, by have := HX.out; omega⟩
        obtain ⟨ad, e, hc1, hc2⟩ := at_T26 (Kd.C_below HR0.out HL.out) x hx0 hlt
        subst e
        generalize hi : rd_T26 l0 x = i at *
        have Hi := Aside0.mk hi
        clear hi
        obtain ⟨K, hK0⟩ := ev_may i.f0 i.f1
        have HK := Aside0.mk (hK0 K (Nat.le_refl _))
        clear hK0
        have S0 := Aside0.mk (St.new i HB.out HL.out)
        have hL0 := encAll_length (l0.take x.toNat)
        have hL1 : (l0.take x.toNat).length ≤ 4096 := by have := HS.out; rw [List.length_take]; omega
        go_wp2_with fail
        clear hc1 hc2 HB HL
        refine (code_May.calls K i.f0 i.f1 _ _ HK.out).mono ?_
        rintro e W1 ⟨rfl, hb1⟩
        have S1 := Aside0.mk (S0.out.below hb1)
        clear hb1 S0 HK
        generalize hmay : mayB i.f0 i.f1 = b
        have HM := Aside0.mk hmay
        clear hmay
        cases b with
        | false =>
          go_wp2
          go_ret2
          refine ⟨?_, S1.out.bel⟩
          have h := HE.out
          have hn : okAll l0 = false := by
            rw [Bool.eq_false_iff]
            intro hk
            have := List.all_eq_true.1 hk i (by rw [← Hi.out]; unfold rd_T26; rw [List.getD_eq_getElem?_getD, List.getElem?_eq_getElem (by omega)]; exact List.getElem_mem _)
            rw [HM.out] at this
            cases this
          simp only [encode, if_neg HS.out, hn, Bool.false_eq_true, if_false, Prod.mk.injEq] at h
          obtain ⟨rfl, rfl⟩ := h
          rfl
        | true =>
          have hd0 := S1.out.cell0
          have hd1 := S1.out.cell1
          go_wp2_with fail
          refine (St.write S1.out i.f0 (by omega)).mono ?_
          rintro e W2 ⟨rfl, h2⟩
          have S2 := Aside0.mk h2
          clear h2 hd0 hd1 S1
          have hd0 := S2.out.cell0
          have hd1 := S2.out.cell1
          go_wp2_with fail
          refine (code_size.calls i.f0 (sz i.f0 : Int) (isOp i.f0) _ rfl).mono ?_
          rintro e W3 ⟨rfl, h3⟩
          have S3 := Aside0.mk (S2.out.below h3.below)
          clear h3 hd0 hd1 S2
          have hsz := sz_le i.f0
          go_wp2_with fail
          generalize wr.heap.size = bx at S3 ⊢
          go_loopg [7] (sz i.f0 + 1) (fun kq v7 wr2 => ∃ y : Int, v7 = .int .i64 y ∧ Aside0 (-1 ≤ y ∧ y ≤ 7 ∧ y + 2 = (kq : Int) ∧ kq ≤ sz i.f0 + 1) ∧ Aside0 (St w (encAll (l0.take x.toNat) ++ [i.f0] ++ (encArg i.f1 (sz i.f0)).take (sz i.f0 - (kq - 1))) bx i wr2))
          case atStart => exact ⟨_, rfl, ⟨by omega⟩, ⟨by simpa using S3.out⟩⟩
          case round =>
            clear S3
            obtain ⟨y, rfl, HY, S4⟩ := hrel
            have hy0 := HY.out
            have hd0 := S4.out.cell0
            have hd1 := S4.out.cell1
            by_cases hy : 0 ≤ y
            · have hyd : decide (0 ≤ y) = true := decide_eq_true hy
              have hy7 : y ≤ 7 := hy0.2.1
              obtain ⟨m, rfl⟩ := Int.eq_ofNat_of_zero_le hy
              have hgk : gk = m + 2 := by omega
              have hla : (encAll (l0.take x.toNat) ++ [i.f0] ++ (encArg i.f1 (sz i.f0)).take (sz i.f0 - (gk - 1))).length + 1 ≤ 140737488355328 := by
                simp only [List.length_append, List.length_take, List.length_singleton, encArg_length]
                omega
              have hst := encArg_step i.f1 (sz i.f0) m (by omega)
              have HST := Aside0.mk hst
              have HGK := Aside0.mk hgk
              clear hst hgk hy0
              go_wp2_with fail
              refine (St.write S4.out (IntKind.u64.wrap i.f1 / 2 ^ (8 * m) % 256) hla).mono ?_
              rintro e W5 ⟨rfl, h5⟩
              have S5 : Aside0 (St w (encAll (l0.take x.toNat) ++ [i.f0] ++ (encArg i.f1 (sz i.f0)).take (sz i.f0 - m)) bx i W5) := by
                refine ⟨?_⟩
                rw [IntKind.wrap_u64, HGK.out, List.append_assoc _ _ [_], show m + 2 - 1 = m + 1 from rfl, HST.out] at h5
                exact h5
              clear h5 hla S4 hd0 hd1
              go_wp2_with fail
              go_roundg (m + 1)
              case measure => have := HGK.out; omega
              case rel => exact ⟨_, rfl, ⟨by have := HY.out; omega⟩, ⟨by simpa using S5.out⟩⟩
            · have hyd : decide (0 ≤ y) = false := decide_eq_false hy
              have hgk : gk = 1 := by omega
              have HGK := Aside0.mk hgk
              clear hgk hy0
              go_wp2_with fail
              go_roundg go
              case measure => omega
              case rel =>
                have hS := S4.out
                rw [HGK.out, show sz i.f0 - (1 - 1) = sz i.f0 from by omega, show (encArg i.f1 (sz i.f0)).take (sz i.f0) = encArg i.f1 (sz i.f0) from List.take_of_length_le (by rw [encArg_length]; omega)] at hS
                have ht : l0.take (x + 1).toNat = l0.take x.toNat ++ [i] := by
                  rw [show (x + 1).toNat = x.toNat + 1 by omega, take_rd (by omega), show ((x.toNat : Nat) : Int) = x by omega, Hi.out]
                refine ⟨x + 1, rfl, ⟨by have := HX.out; omega⟩, ⟨?_⟩, ⟨?_⟩, ⟨hS.bel⟩⟩
                · rw [ht]
                  simp only [okAll, List.all_append, Bool.and_eq_true]
                  exact ⟨HV.out, by simp [HM.out]⟩
                · rw [ht, encAll_append]
                  have e : encAll [i] = [i.f0] ++ encArg i.f1 (sz i.f0) := by simp [encAll, encIns]
                  rw [e, ← List.append_assoc]
                  exact hS.bld
      · have hd : decide (x < (l0.length : Int)) = false := decide_eq_false hlt
        have ht : l0.take x.toNat = l0 := List.take_of_length_le (by omega)
        have hB := HB.out
        have hV := HV.out
        rw [ht] at hB hV
        rw [byteCells_of (enc_bytes hV)] at hB
        have HB2 := Aside0.mk hB
        clear hB ht HB
        go_wp2_with fail
        refine (bld_string _ _ _ _ HB2.out HL.out.size).mono ?_
        rintro e W1 ⟨rfl, _, hb1, _⟩
        have h := HE.out
        simp only [encode, if_neg HS.out, hV, if_true, Prod.mk.injEq] at h
        obtain ⟨rfl, rfl⟩ := h
        go_wp2
        go_ret2
        exact ⟨rfl, HL.out.trans hb1⟩
end Go.Proofs.Ytnaapecmooljaaa.H
