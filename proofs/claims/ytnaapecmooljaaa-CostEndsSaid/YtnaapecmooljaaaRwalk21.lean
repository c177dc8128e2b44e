/- cost.reached, walked. The conditions: what each names. -/
import Derived.Test.YtnaapecmooljaaaReach21
set_option linter.unusedVariables false
set_option linter.unusedSimpArgs false
namespace Go.Proofs.Ytnaapecmooljaaa.H
open Go.RowKit Go.Proofs.YtnaapecmooljaaaW.PrintWords Go.Shelf
attribute [local go_sem] Oper.semAt_some
theorem made_zero {n : Nat} (h : 0 < n) : (madeCells #[Value.bool false] n)[0]? = some (.bool false) := by
  simp [madeCells, h]
set_option maxHeartbeats 4000000 in
set_option maxRecDepth 100000 in
theorem reached_calls (ad : Addr) (n c : Nat) (l : List S26) (w : World) (hr : Kd.C k26 w (some ad) n l) (hn : 0 < n) (hn2 : n ≤ 4096) (hok : ∀ k : Nat, k < n → (0 ≤ (rd_T26 l k).f1 ∧ (rd_T26 l k).f1 ≤ 4096) ∨ ((rd_T26 l k).f0 ≠ 21 ∧ (rd_T26 l k).f0 ≠ 22)) :
    Calls Try.prog 41 #[.slice (some ad) n c] w fun e w' => ∃ v : Value, e = .returned (.tuple #[v, .int .i64 (scan l n 0 ((List.replicate n false).set 0 true)).2]) ∧ Below w.heap.size w w' ∧
      ((scan l n 0 ((List.replicate n false).set 0 true)).2 = 0 → ∃ B, w.heap.size ≤ B ∧ v = .slice (some ⟨B, 0, none⟩) n n ∧ w'.heap[B]? = some (.cells ((scan l n 0 ((List.replicate n false).set 0 true)).1.map Value.bool).toArray 4 (0, 0)) ∧ (scan l n 0 ((List.replicate n false).set 0 true)).1.length = n) := by
  have HOK := Aside0.mk hok
  clear hok
  have HR := Aside0.mk hr
  have hl : l.length = n := hr.1
  have HLn := Aside0.mk hl
  clear hr hl
  refine (callsIn_wide (n := 3)).1 ?_
  refine callsIn_of_wp_marks Try.func41 rfl trivial ?_ rfl
  simp only [Try.ntmps41, List.size_toArray, List.length_cons, List.length_nil, Nat.reduceAdd, Nat.reduceSub, Array.replicate_succ, Array.replicate_zero, List.push_toArray, List.append_toArray, List.nil_append, List.cons_append]
  have hI : (Try.prog.info? 4).map (fun i => (i.zero, i.size, i.bytes)) = some (some (.bool false), 1, 1) := by kernel_rfl
  have hmk := print_make_of (P := Try.prog) 39 4 (.bool false) 1 Try.underlying39 hI rfl (by decide) n (by omega)
  have hmz := made_zero hn
  clear hI
  gi_wp2
  refine wpIn_loop (fun a W => ∃ (k : Nat) (is : List Bool) (Ds : List Nat) (u5 u6 u7 u8 u9 u10 u11 u12 u13 u16 u17 u18 u19 u20 u21 u22 u23 u24 u25 u26 u27 u28 u29 u30 u31 u32 u33 u34 u35 u36 u37 : Value), a = { tmps := #[.slice (some ad) n c, .pointer (some ⟨w.heap.size, 0, none⟩), .pointer (some ⟨w.heap.size + 1, 0, none⟩), .pointer (some ⟨w.heap.size + 1 + 1, 0, none⟩), .pointer (some ⟨w.heap.size + 1 + 1 + 1 + 1, 0, none⟩), u5, u6, u7, u8, u9, u10, u11, u12, u13, .int .i64 n, .int .i64 k, u16, u17, u18, u19, u20, u21, u22, u23, u24, u25, u26, u27, u28, u29, u30, u31, u32, u33, u34, u35, u36, u37], defers := Ds.map mark } ∧ k ≤ n ∧ Aside0 (scan l (n - k) k is = scan l n 0 ((List.replicate n false).set 0 true)) ∧ Aside0 (RS w (some ad) n c (.slice none 0 0) 0 is Ds W)) (fun a _ => n - (intOf (a.tmps.getD 15 undef)).toNat) ?start ?round
  case start =>
    refine ⟨0, (List.replicate n false).set 0 true, [], _, _, _, _, _, _, _, _, _, _, _, _, _, _, _, _, _, _, _, _, _, _, _, _, _, _, _, _, _, _, _, rfl, by omega, ⟨rfl⟩, ⟨?_⟩⟩
    have e3 : ((madeCells #[Value.bool false] n).setIfInBounds 0 (Value.bool true)) = (((List.replicate n false).set 0 true).map Value.bool).toArray := by
      rw [made_false, List.map_set]; exact List.setIfInBounds_toArray _ _ _
    rw [e3]
    obtain ⟨s0, s1, s2, s3, s4⟩ := start5 w (.cells #[.slice (some ad) n c] 22) (.cells #[.slice none 0 0] 39) (.cells #[.int .i64 0] 27) (.cells (((List.replicate n false).set 0 true).map Value.bool).toArray 4) (.cells #[.slice (some ⟨w.heap.size + 1 + 1 + 1, 0, none⟩) n n] 39)
    refine ⟨s0, s1, s2, s3, s4, by simp, by simp, List.nodup_nil, ?_⟩
    · exact (((((Below.refl _ _).alloc (Nat.le_refl _) _).alloc (by simp) _).alloc (by simp; omega) _).alloc (by simp; omega) _).alloc (by simp; omega) _
  case round =>
    rintro a W ⟨k, is, Ds, u5, u6, u7, u8, u9, u10, u11, u12, u13, u16, u17, u18, u19, u20, u21, u22, u23, u24, u25, u26, u27, u28, u29, u30, u31, u32, u33, u34, u35, u36, u37, rfl, hk, HSC, HS⟩
    have c0 := HS.out.b0
    have hc0 : W.cell? ⟨w.heap.size, 0, none⟩ = some (.slice (some ad) n c) := by simp [World.cell?, HS.out.b0]
    have hc4 : W.cell? ⟨w.heap.size + 1 + 1 + 1 + 1, 0, none⟩ = some (.slice (some ⟨w.heap.size + 1 + 1 + 1, 0, none⟩) n n) := by simp [World.cell?, HS.out.b4]
    have hb4 : w.heap.size + 1 + 1 + 1 + 1 < W.heap.size := (Array.getElem?_eq_some_iff.1 HS.out.b4).1
    clear c0
    by_cases hkn : k < n
    · have hd : decide (k < n) = true := decide_eq_true hkn
      have hb : W.cell? ⟨w.heap.size + 1 + 1 + 1, k, none⟩ = some (.bool (is.getD k false)) := by
        simp [World.cell?, HS.out.b3, HS.out.len, hkn, List.getD_eq_getElem?_getD]
      generalize his : is.getD k false = b at hb
      have HB := Aside0.mk his
      clear his
      cases b with
      | false =>
        gi_wp2
        exact ⟨⟨k + 1, is, Ds, _, _, _, _, _, _, _, _, _, _, _, _, _, _, _, _, _, _, _, _, _, _, _, _, _, _, _, _, _, _, _, rfl, by omega, ⟨by rw [← HSC.out, show n - k = (n - (k + 1)) + 1 by omega, scan, if_neg (by rw [HB.out]; simp)]⟩, HS⟩, by simp [intOf]; omega⟩
      | true =>
        gi_wp2
        refine ⟨trivial, ?_⟩
        refine (callsIn_wide.2 (follows_calls (some ad) n c l (k : Int) W (Kd.C_below HR.out HS.out.bel) (by omega) (by omega))).mono ?_
        rintro e W1 ⟨rfl, rfl⟩
        generalize hi : rd_T26 l (k : Int) = i
        have HI := Aside0.mk hi
        clear hi
        gi_wp2
        obtain ⟨W1, hW1⟩ : ∃ W1, (W.alloc (.cells #[.int .i64 (k : Int)] 3)).alloc (.cells #[.int .u8 i.f0, .int .i64 i.f1] 26) = W1 := ⟨_, rfl⟩
        have hb1 : Below W.heap.size W W1 := by rw [← hW1]; exact ((Below.refl _ _).alloc (Nat.le_refl _) _).alloc (by simp) _
        have hsz : W1.heap.size = W.heap.size + 1 + 1 := by rw [← hW1]; simp
        have hx0 : W1.heap[W.heap.size]? = some (.cells #[.int .i64 (k : Int)] 3 (0, 0)) := by rw [← hW1, heap_alloc_old _ _ (by simp)]; exact heap_alloc_new W _
        have hx1 : W1.heap[W.heap.size + 1]? = some (.cells #[.int .u8 i.f0, .int .i64 i.f1] 26 (0, 0)) := by
          rw [← hW1]
          have := heap_alloc_new (W.alloc (.cells #[.int .i64 (k : Int)] 3)) (.cells #[.int .u8 i.f0, .int .i64 i.f1] 26)
          rwa [World.size_alloc] at this
        rw [hW1]
        have HS1 := Aside0.mk (HS.out.below hb1)
        refine wpIn_rangeFunc_ownG (F := Fence.wide) (n := 3) rfl (by decide) (gf := 53) (lb := #[.pointer (some ⟨W.heap.size + 1, 0, none⟩), .pointer (some ⟨W.heap.size, 0, none⟩)]) rfl trivial (enters_of Try.func53 (by kernel_rfl) rfl)
          (follows1_stops Fence.wide 2 trivial rfl (by decide) (W.heap.size + 1) W.heap.size i k (by omega) (by rw [← HI.out]; exact HOK.out k hkn) W1 hx1 hx0) ?hKt ?hKb (Below.refl _ _) (fun _ => rfl)
          (fun pre W2 => RS w (some ad) n c (.slice none 0 0) 0 (setAll is pre) Ds W2 ∧ ∀ x ∈ pre, x.1 < n)
          (fun cd pre W2 => (cd = .ret ∧ ∃ pre' x, pre = pre' ++ [x] ∧ (∀ y ∈ pre', y.1 < n) ∧ n ≤ x.1 ∧ RS w (some ad) n c (.slice none 0 0) x.2 (setAll is pre') Ds W2))
          ?hI ?hIx ⟨HS1.out, by simp⟩
          (fun x => { tmps := #[.slice (some ad) n c, .pointer (some ⟨w.heap.size, 0, none⟩), .pointer (some ⟨w.heap.size + 1, 0, none⟩), .pointer (some ⟨w.heap.size + 1 + 1, 0, none⟩), .pointer (some ⟨w.heap.size + 1 + 1 + 1 + 1, 0, none⟩), .int .i64 k, .int .i64 x.1, .int .i64 x.2, u8, u9, u10, u11, u12, u13, .int .i64 n, .int .i64 k, .bool true, .int .i64 k, .slice (some ⟨w.heap.size + 1 + 1 + 1, 0, none⟩) n n, .int .i64 k, .pointer (some ⟨w.heap.size + 1 + 1 + 1, k, none⟩), .bool true, .bool false, .slice (some ad) n c, .int .i64 k, .func (.func 53) #[] #[.pointer (some ⟨W.heap.size + 1, 0, none⟩), .pointer (some ⟨W.heap.size, 0, none⟩)], .int .i64 x.1, .int .i64 x.2, u28, u29, u30, u31, u32, u33, u34, u35, u36, u37], defers := [] }) ?assign ?body ?done ?stop
        case hKt => exact fun h k => ⟨k.1.trans h.1, k.2.trans h.2⟩
        case hKb => exact fun W l o o' hl _ _ _ => ⟨World.putObj_heap_other (by omega), World.putObj_heap_other (by omega)⟩
        case hI => exact fun s A B row hs hg hr => ⟨hs.1.kept (by omega) (fun D hd => by have := (Array.getElem?_eq_some_iff.1 (HS1.out.ds D hd).2).1; omega) hg hr, hs.2⟩
        case hIx => exact fun cd s A B row ⟨h1, pre', x, h2, h3, h4, hs⟩ hg hr => ⟨h1, pre', x, h2, h3, h4, hs.kept (by omega) (fun D hd => by have := (Array.getElem?_eq_some_iff.1 (HS1.out.ds D hd).2).1; omega) hg hr⟩
        case assign =>
          intro l x W K hK
          simp only [encP]
          gi_wp2
          exact hK
        case body =>
          rintro lo pre x W2 ⟨hR, hp⟩ hlen
          have HR2 := Aside0.mk hR
          have HP := Aside0.mk hp
          have hq0 : W2.cell? ⟨w.heap.size, 0, none⟩ = some (.slice (some ad) n c) := by simp [World.cell?, hR.b0]
          have hq1 : W2.cell? ⟨w.heap.size + 1, 0, none⟩ = some (.slice none 0 0) := by simp [World.cell?, hR.b1]
          have hq2 : W2.cell? ⟨w.heap.size + 1 + 1, 0, none⟩ = some (.int .i64 0) := by simp [World.cell?, hR.b2]
          have hq4 : W2.cell? ⟨w.heap.size + 1 + 1 + 1 + 1, 0, none⟩ = some (.slice (some ⟨w.heap.size + 1 + 1 + 1, 0, none⟩) n n) := by simp [World.cell?, hR.b4]
          have hls : (setAll is pre).length = n := hR.len
          have hq3 : x.1 < n → ∃ b, W2.cell? ⟨w.heap.size + 1 + 1 + 1, x.1, none⟩ = some (.bool b) := by
            intro hx
            exact ⟨(setAll is pre).getD x.1 false, by simp [World.cell?, hR.b3, hls, hx, List.getD_eq_getElem?_getD]⟩
          have hf1 : W2.frozen? ⟨w.heap.size + 1, 0, none⟩ = false := by simp [World.frozen?, hR.b1]
          have hf2 : W2.frozen? ⟨w.heap.size + 1 + 1, 0, none⟩ = false := by simp [World.frozen?, hR.b2]
          have hf3 : W2.frozen? ⟨w.heap.size + 1 + 1 + 1, x.1, none⟩ = false := by simp [World.frozen?, hR.b3]
          clear hR hp hls
          obtain ⟨tt, er⟩ := x
          simp only at hq3 hf3
          by_cases hx : n ≤ tt
          · have hd2 : decide (n ≤ tt) = true := decide_eq_true hx
            clear hq3 hf3
            gi_wp2
            refine ⟨(((KeepsOthers.setCell _ _ _).trans (KeepsOthers.setCell _ _ _)).from _), rfl, pre, (tt, er), rfl, HP.out, hx, HR2.out.ans _ _⟩
          · have hd2 : decide (n ≤ tt) = false := decide_eq_false hx
            obtain ⟨b, hq3⟩ := hq3 (by omega)
            gi_wp2
            refine ⟨(KeepsOthers.setCell _ _ _).from _, ⟨Below.heap_setCell _ _ _ _ (by simp; omega), Below.heap_setCell _ _ _ _ (by simp; omega)⟩, ?_, ?_⟩
            · rw [setAll_snoc]; exact HR2.out.put tt
            · intro y hy
              rcases List.mem_append.1 hy with hy | hy
              · exact HP.out y hy
              · rw [List.mem_singleton.1 hy]; exact Nat.lt_of_not_le hx
        case done =>
          rintro D ys W2 hD rfl ⟨hR, hp⟩ hK
          gi_wp2
          refine ⟨⟨k + 1, setAll is (succs i k), D :: Ds, _, _, _, _, _, _, _, _, _, _, _, _, _, _, _, _, _, _, _, _, _, _, _, _, _, _, _, _, _, _, _, rfl, by omega, ⟨?_⟩, ⟨?_⟩⟩, by simp [intOf]; omega⟩
          · have hL := HLn.out
            rw [← HSC.out, show n - k = (n - (k + 1)) + 1 by omega, scan, if_pos HB.out, HI.out, hL, scan1_all n _ _ hp, if_pos rfl]
          · refine hR.more hK ?_ (fun y hy => ?_)
            · have := (Array.getElem?_eq_some_iff.1 HS.out.b4).1; omega
            · have := (Array.getElem?_eq_some_iff.1 (HS1.out.ds y hy).2).1; omega
        case stop =>
          rintro D cd pre W2 hD hpre ⟨rfl, pre', x, rfl, hp, hx, hR⟩ hK
          gi_wp2
          have hout : scan l n 0 ((List.replicate n false).set 0 true) = ([], x.2) := by
            have hL := HLn.out
            obtain ⟨r, hr⟩ := hpre
            have he : x.2 ≠ 0 := by rcases succs_err (i := i) (p := k) (x := x) (by rw [← hr]; simp) with h | h <;> rw [h] <;> decide
            rw [← HSC.out, show n - k = (n - (k + 1)) + 1 by omega, scan, if_pos HB.out, HI.out, hL, ← hr, scan1_stop n pre' x r is hp hx, if_neg he]
          have HA := hR.more hK (by omega) (fun y hy => by have := (Array.getElem?_eq_some_iff.1 (HS1.out.ds y hy).2).1; omega)
          refine leaves_marks (B := w.heap.size + 1 + 1 + 1 + 1) (D :: Ds) W2 HA.nd (fun y hy => ⟨by have := (HA.ds y hy).1; omega, (HA.ds y hy).2⟩) ?_
          · intro W' hW'
            refine ⟨.tuple #[.slice none 0 0, .int .i64 x.2], ?_, _, by rw [hout], hR.bel.trans (hW'.mono (by omega)), fun h0 => ?_⟩
            · refine results_cell2 (A := ⟨w.heap.size + 1, 0, none⟩) (B := ⟨w.heap.size + 1 + 1, 0, none⟩) rfl Try.isAgg39 Try.isAgg27 rfl rfl ?_ ?_
              · simp [World.cell?, hW'.block (w.heap.size + 1) (by omega), HA.b1]
              · simp [World.cell?, hW'.block (w.heap.size + 1 + 1) (by omega), HA.b2]
            · rw [hout] at h0
              exfalso
              obtain ⟨r, hr⟩ := hpre
              rcases succs_err (i := i) (p := k) (x := x) (by rw [← hr]; simp) with h | h <;> (rw [h] at h0; exact absurd h0 (by decide))
    · have hd : decide (k < n) = false := decide_eq_false hkn
      have hq1 : W.cell? ⟨w.heap.size + 1, 0, none⟩ = some (.slice none 0 0) := by simp [World.cell?, HS.out.b1]
      have hq2 : W.cell? ⟨w.heap.size + 1 + 1, 0, none⟩ = some (.int .i64 0) := by simp [World.cell?, HS.out.b2]
      have hf1 : W.frozen? ⟨w.heap.size + 1, 0, none⟩ = false := by simp [World.frozen?, HS.out.b1]
      have hf2 : W.frozen? ⟨w.heap.size + 1 + 1, 0, none⟩ = false := by simp [World.frozen?, HS.out.b2]
      gi_wp2
      have hout : scan l n 0 ((List.replicate n false).set 0 true) = (is, 0) := by
        rw [← HSC.out, show n - k = 0 by omega]; rfl
      have HA := HS.out.ans (.slice (some ⟨w.heap.size + 1 + 1 + 1, 0, none⟩) n n) 0
      refine leaves_marks (B := w.heap.size + 1 + 1 + 1 + 1) Ds _ HA.nd (fun y hy => ⟨by have := (HA.ds y hy).1; omega, (HA.ds y hy).2⟩) ?_
      intro W' hW'
      refine ⟨.tuple #[.slice (some ⟨w.heap.size + 1 + 1 + 1, 0, none⟩) n n, .int .i64 0], ?_, _, by rw [hout], HA.bel.trans (hW'.mono (by omega)), fun h0 => ⟨w.heap.size + 1 + 1 + 1, by omega, rfl, ?_, ?_⟩⟩
      · refine results_cell2 (A := ⟨w.heap.size + 1, 0, none⟩) (B := ⟨w.heap.size + 1 + 1, 0, none⟩) rfl Try.isAgg39 Try.isAgg27 rfl rfl ?_ ?_
        · simp [World.cell?, hW'.block (w.heap.size + 1) (by omega), HA.b1]
        · simp [World.cell?, hW'.block (w.heap.size + 1 + 1) (by omega), HA.b2]
      · rw [hout]; exact (hW'.block _ (by omega)).trans HA.b3
      · rw [hout]; exact HA.len
end Go.Proofs.Ytnaapecmooljaaa.H
