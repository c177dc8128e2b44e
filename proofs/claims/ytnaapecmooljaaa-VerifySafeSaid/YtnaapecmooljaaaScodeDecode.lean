/- code.Decode computes 'decode'. The conditions: none (of bytes beyond 2^47 nothing is said). -/
import Derived.Test.YtnaapecmooljaaaD18
import Derived.Test.YtnaapecmooljaaaA18
import Derived.Lib.Hide
import Derived.Laws.Bits64
import Derived.Laws.BitsLemmas
import Derived.WalkSpells
import Derived.Lib.Strings
import Derived.Deep.RegionLaw
set_option linter.unusedVariables false
set_option linter.unusedSimpArgs false
namespace Go.Proofs.Ytnaapecmooljaaa.H
open Go.RowKit Go.Proofs.YtnaapecmooljaaaW.PrintWords Go.Proofs.YtnaapecmooljaaaW.PrintLast Go.Proofs.YtnaapecmooljaaaW.PrintMore
def code_Decode.f (a0 : ByteArray) : Option ((List (S26)) × Int) := if a0.size ≤ 140737488355328 then some (decode a0) else none
theorem bytes_nil {s : ByteArray} (h : s.size = 0) : bytesOf s = [] := List.eq_nil_of_length_eq_zero (by rw [bytesOf_length]; exact h)
theorem or_byte2 (x b : Int) (hx : 0 ≤ x) (hb0 : 0 ≤ b) (hb : b < 256) : Go.bits .or .u64 (IntKind.u64.wrap (x * 256)) b = (x * 256 + b) % 18446744073709551616 := by
  rw [IntKind.wrap_u64]
  rw [bits_join .u64 64 (by decide) (fun n h0 h1 => by rw [IntKind.wrap_u64]; omega) 8 _ _ (by omega) (by omega) (by omega) hb0 (by omega) (by omega)]
  omega
set_option maxHeartbeats 4000000 in
set_option maxRecDepth 100000 in
theorem decode_walk (a0 : ByteArray) (hs : a0.size ≤ 140737488355328) (R : List S26 × Int) (w : World) (hR : Aside0 (decode a0 = R)) :
    Calls Try.prog 20 #[.string a0] w fun e w' => ∃ v0_ : Value, e = .returned (.tuple #[v0_, .int .i64 R.2]) ∧ Kd.R k26 26 w' w.heap.size (fun _ => True) v0_ R.1 ∧ Below w.heap.size w w' := by
  have HS := Aside0.mk hs
  clear hs
  go_enter Try.func20, Try.ntmps20
  go_wp2_with fail
  go_loopg [0, 4] (a0.size + 1) (fun kq v0 v4 wr => ∃ (s : ByteArray) (u : Value) (acc : List S26), v0 = .string s ∧ v4 = u ∧ Aside0 (s.size < kq ∧ s.size ≤ a0.size) ∧ Aside0 (decR acc (decGo kq (bytesOf s) acc.length) = R) ∧ Aside0 (acc.length ≤ 4096) ∧ Aside0 (Kd.R k26 26 wr w.heap.size (fun _ => True) u acc) ∧ Aside0 (Below w.heap.size w wr))
  case atStart =>
    refine ⟨a0, _, [], rfl, rfl, ⟨by omega⟩, ⟨?_⟩, ⟨by simp⟩, ⟨Kd.R_nil _ _ _ _ _⟩, ⟨Below.refl _ _⟩⟩
    rw [← hR.out]
    exact decR_nil _ _ _
  case round =>
    obtain ⟨s, u, acc, rfl, rfl, HK, HD, HA, HO, HL⟩ := hrel
    obtain ⟨A, c, rfl, hAc, _⟩ := Kd.R_reads HO.out
    by_cases h0 : s.size = 0
    · have hz : s.toList = [] := by rw [Lib.toList_data]; exact List.eq_nil_of_length_eq_zero (by rw [data_length]; exact h0)
      have hz2 : (!s.toList.isEmpty) = false := by simp [hz]
      have hr : R = (acc, 0) := by
        have := HD.out
        rw [bytes_nil h0] at this
        rw [← this]
        cases gk with
        | zero => have := HK.out; omega
        | succ g => simp [decGo, decR]
      have HR := Aside0.mk hr
      clear hr h0
      go_wp2_with fail
      go_ret2
      rw [HR.out]
      exact ⟨_, rfl, HO.out, HL.out⟩
    · have hz : s.toList ≠ [] := by
        rw [Lib.toList_data]
        intro h
        have := data_length s
        rw [h] at this
        simp at this
        omega
      have hz1 : s.toList.isEmpty = false := by simpa using hz
      have hz2 : (!s.toList.isEmpty) = true := by simp [hz1]
      have h1 : 0 < s.size := by omega
      have hb0 : ∀ h : 0 < s.size, ((s[0]'h).toNat : Int) = bt s 0 := bt_at s 0
      have hbr := bt_range s 0
      obtain ⟨g, rfl⟩ : ∃ g, gk = g + 1 := ⟨gk - 1, by have := HK.out; omega⟩
      have hcons := bytes_head (s := s) (j := 0) h1
      simp only [List.drop_zero, Nat.zero_add, Int.natCast_zero] at hcons
      have hD := HD.out
      rw [hcons] at hD
      simp only [decGo] at hD
      clear HD hcons hz h0
      generalize bt s 0 = op at hD hb0 hbr
      have HD := Aside0.mk hD
      clear hD
      go_wp2_with fail
      refine (code_size.calls op (sz op : Int) (isOp op) _ rfl).mono ?_
      rintro e W1 ⟨rfl, h3⟩
      have HO1 := Aside0.mk (Kd.R_below HO.out h3.below)
      have HL1 := Aside0.mk (HL.out.trans (h3.below.mono HL.out.size))
      clear h3 HO HL
      have hsz := sz_le op
      by_cases hc : acc.length = 4096
      · have c1 : ((acc.length : Int) == 4096) = true := beq_iff_eq.mpr (by omega)
        have hr : R = ([], 4) := by have := HD.out; rw [if_pos hc] at this; rw [← this]; simp [decR]
        have HR := Aside0.mk hr
        clear hr hc
        go_wp2_with fail
        go_ret2
        rw [HR.out]
        exact ⟨_, rfl, Kd.R_nil _ _ _ _ _, HL1.out⟩
      have c1 : ((acc.length : Int) == 4096) = false := beq_eq_false_iff_ne.mpr (by omega)
      have hD := HD.out
      rw [if_neg hc] at hD
      clear HD
      have HC := Aside0.mk hc
      clear hc
      generalize hop : isOp op = b at hD
      cases b with
      | false =>
        have hr : R = ([], 180) := by rw [if_pos rfl] at hD; rw [← hD]; simp [decR]
        have HR := Aside0.mk hr
        clear hr hD
        go_wp2_with fail
        go_ret2
        rw [HR.out]
        exact ⟨_, rfl, Kd.R_nil _ _ _ _ _, HL1.out⟩
      | true =>
        rw [if_neg (by simp)] at hD
        have hdl : ((bytesOf s).drop 1).length = s.size - 1 := by rw [List.length_drop, bytesOf_length]
        by_cases hl : s.size ≤ sz op
        · have c2 : decide (s.size ≤ sz op) = true := decide_eq_true hl
          have c3 : decide ((s.size : Int) ≤ (sz op : Int)) = true := decide_eq_true (by omega)
          have hr : R = ([], 8) := by rw [if_pos (by omega)] at hD; rw [← hD]; simp [decR]
          have HR := Aside0.mk hr
          clear hr hD hl hdl
          go_wp2_with fail
          go_ret2
          rw [HR.out]
          exact ⟨_, rfl, Kd.R_nil _ _ _ _ _, HL1.out⟩
        have c2 : decide (s.size ≤ sz op) = false := decide_eq_false hl
        have c3 : decide ((s.size : Int) ≤ (sz op : Int)) = false := decide_eq_false (by omega)
        rw [if_neg (by omega)] at hD
        have HD := Aside0.mk hD
        clear hD
        have HDL := Aside0.mk hdl
        clear hdl
        have kb := fun W => print_bytes (P := Try.prog) 9 67 5 Try.underlying9 Try.underlying67 Try.underlying5 (s.extract 1 (1 + sz op)) W
        go_wp2_with fail
        have hmn : min (1 + sz op) s.size - 1 = sz op := by omega
        have hext : (s.extract 1 (1 + sz op)).size = sz op := by rw [ByteArray.size_extract]; omega
        rw [hmn]
        have HRD := bytes_reads W1 5 (s.extract 1 (1 + sz op)) (by rw [hext]; omega)
        have HB2 := bytes_below (Below.refl W1.heap.size W1) (Nat.le_refl _) 5 (s.extract 1 (1 + sz op))
        have hbs : bytesOf (s.extract 1 (1 + sz op)) = ((bytesOf s).drop 1).take (sz op) := by
          unfold bytesOf
          rw [← List.map_drop, ← List.map_take, Lib.extract_data, Nat.add_sub_cancel_left]
        rw [hbs, hext] at HRD
        generalize Lib.bytesWorld W1 5 (s.extract 1 (1 + sz op)) = W2 at HRD HB2 ⊢
        generalize hbytes : ((bytesOf s).drop 1).take (sz op) = bs at HRD
        have hbl : bs.length = sz op := HRD.1
        have HBY := Aside0.mk hbytes
        have HO2 := Aside0.mk (Kd.R_below HO1.out HB2)
        have HL2 := Aside0.mk (HL1.out.trans (HB2.mono HL1.out.size))
        have HRd := Aside0.mk HRD
        have HBL := Aside0.mk hbl
        generalize grownCap W1 (sz op) 0 5 = cp
        have HSL := Aside0.mk hl
        clear hmn hext hbs hbytes HO1 HL1 HB2 HRD hbl kb c2 c3 hl
        go_loopg [7, 37] (sz op + 1) (fun kq v7 v37 wr2 => ∃ (x j : Int), v7 = .int .u64 x ∧ v37 = .int .i64 j ∧ Aside0 (0 ≤ j ∧ j + kq = (sz op : Int) + 1) ∧ Aside0 (0 ≤ x ∧ valOf x (bs.drop j.toNat) = valOf 0 bs) ∧ Aside0 (wr2 = W2))
        case atStart => exact ⟨0, 0, rfl, rfl, ⟨by omega⟩, ⟨by simp⟩, ⟨rfl⟩⟩
        case round =>
          obtain ⟨x, j, rfl, rfl, HJ, HX, HW⟩ := hrel
          obtain rfl := HW.out
          clear HW
          have hj0 := HJ.out.1
          by_cases hj : j < (sz op : Int)
          · have hd : decide (j < (sz op : Int)) = true := decide_eq_true hj
            obtain ⟨ad, e, hcell⟩ := HRd.out.at_ j hj0 hj
            injection e with e
            subst e
            rw [add_plain] at hcell
            have hjl : j.toNat < bs.length := by have := HBL.out; omega
            have hbr : 0 ≤ rd bs j ∧ rd bs j < 256 := bytes_range s _ (by
              have := rd_mem (l := bs) (i := j) hjl
              generalize rd bs j = z at this ⊢
              rw [← HBY.out] at this
              exact List.mem_of_mem_drop (List.mem_of_mem_take this))
            have hdr := drop_rd hjl
            rw [show ((j.toNat : Nat) : Int) = j by omega] at hdr
            have hxv := HX.out.2
            rw [hdr] at hxv
            simp only [valOf] at hxv
            have HXV := Aside0.mk hxv
            clear hdr hxv
            generalize rd bs j = b at hcell hbr HXV
            obtain ⟨hb0, hb1⟩ := hbr
            obtain ⟨ge, rfl⟩ : ∃ ge, gk = ge + 1 := ⟨gk - 1, by have := HJ.out; omega⟩
            go_wp2_with fail
            go_roundg ge
            case measure => omega
            case rel =>
              refine ⟨_, j + 1, rfl, rfl, ⟨by have := HJ.out; omega⟩, ⟨?_, ?_⟩, ⟨rfl⟩⟩
              · rw [or_byte2 x b HX.out.1 hb0 hb1]; omega
              · rw [or_byte2 x b HX.out.1 hb0 hb1, show (j + 1).toNat = j.toNat + 1 by omega]
                exact HXV.out
          · have hd : decide (j < (sz op : Int)) = false := decide_eq_false hj
            have hxv : x = valOf 0 bs := by
              have := HX.out.2
              rwa [List.drop_eq_nil_of_le (by have := HBL.out; omega)] at this
            have hD := HD.out
            rw [HBY.out, ← hxv] at hD
            have HXV := Aside0.mk hxv
            clear hxv HD HX HJ hj0
            obtain ⟨K, hK0⟩ := ev_may op (wrap64 x)
            have HKM := Aside0.mk (hK0 K (Nat.le_refl _))
            clear hK0
            generalize hmay : mayB op (wrap64 x) = b at hD
            have HM := Aside0.mk hmay
            have HD := Aside0.mk hD
            clear hmay hD
            go_wp2_with fail
            refine (code_May.calls K op (wrap64 x) _ _ HKM.out).mono ?_
            rintro e W3 ⟨rfl, hb3⟩
            rw [HM.out]
            have hbx : W3.heap[wr.heap.size]? = some (.cells #[.int .u8 op, .int .i64 (wrap64 x)] 26 (0, 0)) := by
              rw [hb3.block _ (by simp)]
              exact heap_alloc_new wr _
            have hB3 : Below wr.heap.size wr W3 := ((Below.refl _ _).alloc (Nat.le_refl _) _).trans (hb3.mono (by simp))
            have hcell0 : W3.cell? ⟨wr.heap.size, 0, none⟩ = some (.int .u8 op) := by simp [World.cell?, hbx]
            have hcell1 : W3.cell? ⟨wr.heap.size, 1, none⟩ = some (.int .i64 (wrap64 x)) := by simp [World.cell?, hbx]
            have HO3 := Aside0.mk (Kd.R_below HO2.out hB3)
            have HL3 := Aside0.mk (HL2.out.trans (hB3.mono HL2.out.size))
            clear hb3 hB3 hbx HKM HO2 HL2 HRd
            cases b with
            | false =>
              have hr : R = ([], 180) := by have := HD.out; rw [if_neg (by simp)] at this; rw [← this]; simp [decR]
              have HR := Aside0.mk hr
              clear hr HD
              go_wp2_with fail
              go_ret2
              rw [HR.out]
              exact ⟨_, rfl, Kd.R_nil _ _ _ _ _, HL3.out⟩
            | true =>
              have hD := HD.out
              rw [if_pos rfl] at hD
              have HD2 := Aside0.mk hD
              clear hD HD
              go_wp2_with fail
              have hlim : (acc.length + 1) * 16 ≤ 140737488355328 := by have := HA.out; omega
              have hty := Try.underlying22
              have htn := info26
              have HTY := Aside0.mk hty
              have HTN := Aside0.mk htn
              clear hty htn
              have hsm : (1 : Int) + (sz op : Int) ≤ (s.size : Int) := by have := HSL.out; omega
              have hcut : (0 ≤ IntKind.i64.wrap (1 + (sz op : Int)) ∧ IntKind.i64.wrap (1 + (sz op : Int)) ≤ (s.size : Int)) = True := by rw [IntKind.wrap_i64]; exact eq_true ⟨by omega, by omega⟩
              have hcut2 : (IntKind.i64.wrap (1 + (sz op : Int))).toNat = 1 + sz op := by rw [IntKind.wrap_i64]; omega
              go_region_law (refine Kd.R_append_step k26 (w0 := w) (W := W3.drew) w.heap.size (by rfl) (.tmp 55) (.tmp 57) 22 26 (.agg #[.int .u8 0, .int .i64 0]) 16 (by rfl) HTY.out HTN.out (by rfl) (by decide) (by omega) (.slice A acc.length c) acc ⟨op, wrap64 x⟩ [.int .u8 op, .int .i64 (wrap64 x)] (fun _ => True) (fun _ => False) (by rfl) (by rfl) (k26_mkM _ _ _ _) (fun _ hk => hk.elim) (fun _ _ => trivial) ?aO ?aB ?aS hlim ?_; (case aO => (with_reducible repeat (first | apply Kd.R_alloc | apply Kd.R_drewN | apply Kd.R_drew)); exact HO3.out); (case aB => repeat (first | exact HL3.out | apply pw_below_drewN | apply below_drew)); (case aS => exact HL3.out.size); intro v1 w1 ho hb hg hat; have HO4 := Aside0.mk ho; have HL4 := Aside0.mk hb; clear ho hb hg hat)
              all_goals go_wp2
              all_goals
                go_roundg g
                case measure => omega
                case rel =>
                  obtain ⟨A', c', hv, _⟩ := Kd.R_reads HO4.out
                  subst hv
                  have hs2 : (s.extract (1 + sz op) s.size).size = s.size - (1 + sz op) := by simp [ByteArray.size_extract]
                  refine ⟨_, _, _, rfl, rfl, ⟨?_⟩, ⟨?_⟩, ⟨?_⟩, ⟨HO4.out⟩, ⟨HL4.out⟩⟩
                  · have := HK.out; have := HSL.out; omega
                  · have := HD2.out
                    rw [decR_step] at this
                    rw [bytesOf_drop, show (bytesOf s).drop (1 + sz op) = ((bytesOf s).drop 1).drop (sz op) by rw [List.drop_drop]]
                    simpa using this
                  · have := HA.out; have := HC.out; simp only [List.length_append, List.length_singleton]; omega
theorem code_Decode.calls (a0 : ByteArray) (r1 : List (S26)) (r2 : Int) (w : World) (h : code_Decode.f a0 = some (r1, r2)) :
    Calls Try.prog 20 #[.string a0] w fun e w' => ∃ v0_ : Value, e = .returned (.tuple #[v0_, .int .i64 r2]) ∧ Kd.R k26 26 w' w.heap.size (fun _ => True) v0_ r1 ∧ Below w.heap.size w w' := by
  unfold code_Decode.f at h
  split at h
  · rename_i hs
    exact decode_walk a0 hs (r1, r2) w ⟨Option.some.inj h⟩
  · cases h
end Go.Proofs.Ytnaapecmooljaaa.H
