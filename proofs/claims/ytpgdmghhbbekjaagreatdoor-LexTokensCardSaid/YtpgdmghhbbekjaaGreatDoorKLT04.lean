/- Part 4 of the proof of the law LT. The conditions: none. (Its parts: Lxh Lxi Lxr WEqStruct.) -/
import Derived.Laws.StructEq
import Derived.Test.YtpgdmghhbbekjaaGreatDoorKLT01
import Derived.Test.YtpgdmghhbbekjaaGreatDoorKLT03
section
set_option linter.unusedVariables false
set_option linter.unusedSimpArgs false
namespace Go.Proofs.YtpgdmghhbbekjaaGreatDoor.L
open Go.RowKit Go.Proofs.YtpgdmghhbbekjaaGreatDoorW.PrintWords Go.Proofs.YtpgdmghhbbekjaaGreatDoorW.PrintLast Go.Maps
structure Lib3 (w : World) : Prop where
  tb : Tb w
  sy : ∃ tp p, w.var? Tryz.prog "strconv.ErrSyntax" = some #[.iface tp p]
  ra : ∃ tp p, w.var? Tryz.prog "strconv.ErrRange" = some #[.iface tp p]
theorem var_below {w w' : World} {name : String} {cs : Array Value} (h : w.var? Tryz.prog name = some cs) (hb : Below w.heap.size w w') : w'.var? Tryz.prog name = some cs := by
  unfold World.var? at *
  cases hg : Tryz.prog.globalNamed name with
  | none => simp [hg] at h
  | some g =>
    simp only [hg, Option.bind_some] at h ⊢
    have hlt : g < w.heap.size := by
      rcases Nat.lt_or_ge g w.heap.size with h' | h'
      · exact h'
      · rw [Array.getElem?_eq_none h'] at h; simp at h
    rw [hb.block g hlt]
    exact h
theorem below_setRow2 {w W : World} (h : Below w.heap.size w W) (cs : Array Value) : Below w.heap.size w (W.setRow w.heap.size cs) :=
  h.trans ⟨rfl, rfl, rfl, by simp, fun k hk => setRow_other _ _ _ _ (by omega)⟩
theorem below_set2 {w W : World} (h : Below w.heap.size w W) (j : Nat) (v : Value) : Below w.heap.size w (W.setCell ⟨w.heap.size, j, none⟩ v) :=
  h.setCell (p := ⟨w.heap.size, j, none⟩) (Nat.le_refl _) v
theorem Lib3.below {w w' : World} (h : Lib3 w) (hb : Below w.heap.size w w') : Lib3 w' := by
  obtain ⟨h1, ⟨a, b, h2⟩, ⟨c, d, h3⟩⟩ := h
  exact ⟨h1.below hb, ⟨a, b, var_below h2 hb⟩, ⟨c, d, var_below h3 hb⟩⟩
set_option maxHeartbeats 16000000 in
set_option maxRecDepth 100000 in
theorem token_letter (s : ByteArray) (hs : s.size ≤ 140737488355328) (i : Nat) (hi : i < s.size) (w : World) (hL : Lib3 w) (hl : letterB (bt (s.extract i s.size) 0) = true) :
    Calls Tryz.prog 16 #[.string s, .int .i64 (i : Int)] w (TokPost (s.extract i s.size) (i : Int) w) := by
  have hzt := zeroT
  have hz := ext_size s i s.size (Nat.le_refl _)
  obtain ⟨x, hx⟩ : ∃ x, s.extract i s.size = x := ⟨_, rfl⟩
  rw [hx] at hz hl ⊢
  have h0 : 0 < x.size := by omega
  have HX0 := Aside0.mk h0
  have HSZ : Aside0 (x.size ≤ 140737488355328) := ⟨by omega⟩
  obtain ⟨c, hbc⟩ : ∃ c, bt x 0 = c := ⟨_, rfl⟩
  have hx6 : ((x[0]'h0).toNat : Int) = c := by have := bt_at x 0 (by simpa using h0); rw [← hbc]; simpa using this
  have q6 : ((0 : Int) < (x.size : Int)) = True := eq_true (by omega)
  have q7 : ((i : Int) ≤ (s.size : Int)) = True := eq_true (by omega)
  have q8 : i ≤ s.size := by omega
  have p6 : (0 ≤ (i : Int)) = True := eq_true (by omega)
  obtain ⟨b0, b1⟩ := bt_range x 0
  rw [hbc] at b0 b1 hl
  have hlc := letter_calls b0 b1
  rw [hl] at hlc
  have HLC := Aside0.mk hlc
  have HL := Aside0.mk hL
  have HBC := Aside0.mk hbc
  have HLT := Aside0.mk hl
  have hle := spn_le namedB x x.size 0
  have hspan := span_calls 27 namedB (fun c w h0 h1 => named_calls h0 h1 w) (enters_of Tryz.func27 (by kernel_rfl) rfl) x (by omega)
  obtain ⟨m, hm⟩ : ∃ m, spn namedB x x.size 0 = m := ⟨_, rfl⟩
  rw [hm] at hle hspan
  have HSPAN := Aside0.mk hspan
  have HM := Aside0.mk hm
  have hmx : m ≤ x.size := by omega
  have qm : ((m : Int) ≤ (x.size : Int)) = True := eq_true (by omega)
  have pm : (0 ≤ (m : Int)) = True := eq_true (by omega)
  obtain ⟨y, hy⟩ : ∃ y, x.extract 0 m = y := ⟨_, rfl⟩
  have HY := Aside0.mk hy
  have hyz : y.size = m := by rw [← hy, ext_size x 0 m hmx]; omega
  have HYZ := Aside0.mk hyz
  clear hm hspan hle hyz
  clear hlc hL hl hbc b0 b1 hz
  obtain ⟨post, hpost⟩ : ∃ p, TokPost x (i : Int) w = p := ⟨_, rfl⟩
  rw [hpost]
  have HPO := Aside0.mk hpost
  clear hpost
  go_enter Tryz.func16, Tryz.ntmps16
  go_wp2_with ((with_reducible refine gate_ (.store 39 (.tmp 4) (.tmp 11)) rfl ?_); refine wpList_tkstore rfl (.tmp 4) (.tmp 11) rfl rfl rfl (heap_alloc_new w _) rfl rfl (by simp [Value.oneCell']) ?_)
  rw [setRow_new]
  refine (HLC.out _).mono ?_
  rintro e w' ⟨rfl, rfl⟩
  clear HLC
  clear hx6
  go_wp2_with fail
  refine (HSPAN.out _).mono ?_
  rintro e w' ⟨rfl, rfl⟩
  clear HSPAN
  have hys : y.size ≤ 140737488355328 := by have := HYZ.out; have := HSZ.out; omega
  by_cases h32 : 32 < m
  · have d32 : decide (32 < y.size) = true := decide_eq_true (by have := HYZ.out; omega)
    have d32' : decide ((32 : Int) < (y.size : Int)) = true := decide_eq_true (by have := HYZ.out; omega)
    have HE : Aside0 (tkE x = 32) := ⟨by unfold tkE; rw [HBC.out, HLT.out, if_pos rfl, HM.out, if_pos h32]⟩
    clear h32
    have XB := Aside0.mk (heap_alloc_new w (.cells #[.int .u8 1, .string y, .int .i64 0, .int .i64 (i : Int)] (39 : Nat)))
    have HB4 := Aside0.mk ((Below.refl w.heap.size w).alloc (Nat.le_refl _) (.cells #[.int .u8 1, .string y, .int .i64 0, .int .i64 (i : Int)] (39 : Nat)))
    go_wp2_with fail
    generalize w.alloc (.cells #[.int .u8 1, .string y, .int .i64 0, .int .i64 (i : Int)] (39 : Nat)) = W4 at XB HB4 ⊢
    have D4 : Aside0 (Below w.heap.size w W4.drew) := ⟨below_drew1 HB4.out⟩
    refine start_ (n := 5) (S := fun w' => w'.heap[w.heap.size]? = some (.cells #[.int .u8 1, .string y, .int .i64 0, .int .i64 (i : Int)] (39 : Nat) (0, 0))) (ds := [3]) #[false, false, false, false, false] (by kernel_rfl) rfl rfl XB.out (fun hHeld => ?_)
    generalize W4.drew = W5 at D4 hHeld ⊢
    refine take_ (i := 0) (N := some 37) (v := ?_) (a' := ?_) #[true, false, false, false, false] rfl rfl (by kernel_rfl) (fun _ _ _ h => h) (Or.inl ⟨by rfl, ?_⟩) hHeld ?_ ?_
    rotate_left
    · intro w' s0
      show (do let r ← Instr.loadAt 39 (.pointer (some ⟨w.heap.size, 0, none⟩)); pure (Next.value r) : Sem Next).run Tryz.prog w' = _
      rw [Sem.run_bind, tk_load s0 rfl]
      rfl
    rotate_left
    · simp only [Act.put, List.setIfInBounds_toArray, List.set_cons_zero, List.set_cons_succ, i64_w, i32_w]
      rfl
    refine pure_ (i := 1) (N := some 38) (v := ?_) (a' := ?_) #[true, true, false, false, false] rfl rfl (by kernel_rfl) (fun _ _ _ h => h) (Or.inl ⟨by rfl, ?_⟩) ?_ ?_
    rotate_left
    · intro w'
      go_simp
      with_reducible rfl
    rotate_left
    · simp only [Act.put, List.setIfInBounds_toArray, List.set_cons_zero, List.set_cons_succ, i64_w, i32_w]
      rfl
    refine one_ (i := 2) (N := some 39) #[true, true, true, false, false] rfl rfl (by kernel_rfl) (by decide) (fun K hK => ?_)
    refine goes_ Tryz.func14 (by kernel_rfl) rfl #[.int .i64 (i : Int), .int .i64 32] (by rfl) rfl rfl (by simp only [List.map_toArray, List.map_cons, List.map_nil]; rfl) ?_
    refine (fault_calls (i : Int) 32 _).mono ?_
    rintro e W6 ⟨rfl, hw⟩
    subst hw
    refine ⟨_, rfl, hK.out _ _ hHeld (fun _ => ?_)⟩
    clear hK K
    refine norm_ (a' := ?_) ?_ ?_
    rotate_left
    · simp only [Act.put, List.setIfInBounds_toArray, List.set_cons_zero, List.set_cons_succ, i64_w, i32_w]
      rfl
    refine last_ (i := 3) (N := none) #[true, true, true, true, false] rfl rfl (by kernel_rfl) (by decide) (fun K hK => ?_)
    refine skip_ (w1 := W5.setRow w.heap.size #[.int .u8 1, .string y, .int .i64 0, .int .i64 (i : Int)]) (by rfl) rfl ?_ ?_
    · exact tk_store_run (.tmp 4) (.tmp 37) rfl rfl rfl hHeld rfl rfl (by simp [Value.oneCell'])
    refine hK.out _ _ ?_
    clear hK K
    have XC := Aside0.mk (setRow_heap W5 w.heap.size _ #[.int .u8 1, .string y, .int .i64 0, .int .i64 (i : Int)] _ _ hHeld)
    have HBC5 : Aside0 (Below w.heap.size w (W5.setRow w.heap.size #[.int .u8 1, .string y, .int .i64 0, .int .i64 (i : Int)])) := ⟨below_setRow2 D4.out _⟩
    generalize W5.setRow w.heap.size #[.int .u8 1, .string y, .int .i64 0, .int .i64 (i : Int)] = W7 at XC HBC5 ⊢
    refine pure_ (i := 4) (N := some 5) (v := ?_) (a' := ?_) #[true, true, true, true, true] rfl rfl (by kernel_rfl) (fun _ _ _ h => h) (Or.inl ⟨by rfl, ?_⟩) ?_ ?_
    rotate_left
    · intro w'
      go_simp
      with_reducible rfl
    rotate_left
    · simp only [Act.put, List.setIfInBounds_toArray, List.set_cons_zero, List.set_cons_succ, i64_w, i32_w]
      rfl
    refine done_ (by kernel_rfl) ?_
    clear hHeld D4 XB HB4
    go_wp2
    obtain ⟨⟨r0, r1, r2, r3⟩, _⟩ := cells4 XC.out
    refine bodyPost_ret (v := .tuple #[.agg (tkA ⟨1, y, 0, i⟩), errV (i : Int) 32]) (by simp [results, Tryz.results16, go_sem, r0, r1, r2, r3, tkA]) rfl ?_
    rw [← HPO.out]
    exact ⟨⟨⟨1, y, 0, i⟩, by rw [HE.out, if_neg (by decide)], fun h => absurd (HE.out.symm.trans h) (by decide)⟩, HBC5.out⟩
  · have d32 : decide (32 < y.size) = false := decide_eq_false (by have := HYZ.out; omega)
    have d32' : decide ((32 : Int) < (y.size : Int)) = false := decide_eq_false (by have := HYZ.out; omega)
    have HE : Aside0 (tkE x = 0) := ⟨by unfold tkE; rw [HBC.out, HLT.out, if_pos rfl, HM.out, if_neg h32]⟩
    clear h32
    have XB := Aside0.mk (heap_alloc_new w (.cells #[.int .u8 1, .string y, .int .i64 0, .int .i64 (i : Int)] (39 : Nat)))
    have HB4 := Aside0.mk ((Below.refl w.heap.size w).alloc (Nat.le_refl _) (.cells #[.int .u8 1, .string y, .int .i64 0, .int .i64 (i : Int)] (39 : Nat)))
    go_wp2_with fail
    generalize w.alloc (.cells #[.int .u8 1, .string y, .int .i64 0, .int .i64 (i : Int)] (39 : Nat)) = W4 at XB HB4 ⊢
    refine (word_calls y (by unfold maxLen; omega) W4 (HL.out.below HB4.out).tb).mono ?_
    rintro e W5 ⟨rfl, hb⟩
    have XB5 : Aside0 (W5.heap[w.heap.size]? = some (.cells #[.int .u8 1, .string y, .int .i64 0, .int .i64 (i : Int)] (39 : Nat) (0, 0))) := ⟨(hb.block _ (Array.getElem?_eq_some_iff.1 XB.out).1).trans XB.out⟩
    have HB5 := Aside0.mk (HB4.out.trans (hb.mono HB4.out.size))
    clear hb XB HB4
    cases hw : wordB y with
    | true =>
      have HT : Aside0 (⟨3, y, 0, i⟩ = tkT x i) := ⟨by unfold tkT; rw [HBC.out, HLT.out, if_pos rfl, HM.out, HY.out, hw, if_pos rfl]⟩
      obtain ⟨⟨r0, r1, r2, r3⟩, rf⟩ := cells4 XB5.out
      have f0 := rf 0
      have XB := Aside0.mk (set4 XB5.out (.int .u8 3)).1
      have HB6 := Aside0.mk (below_set2 HB5.out 0 (.int .u8 3))
      have HBC5 := Aside0.mk (below_setRow2 HB6.out #[.int .u8 3, .string y, .int .i64 0, .int .i64 (i : Int)])
      have XC := Aside0.mk (setRow_heap _ w.heap.size _ #[.int .u8 3, .string y, .int .i64 0, .int .i64 (i : Int)] _ _ XB.out)
      clear hw rf
      go_wp2_with first | ((with_reducible refine gate_ (.load 39 (.tmp 4)) rfl ?_); refine wpList_tkload rfl (.tmp 4) rfl rfl XB.out rfl ?_) | ((with_reducible refine gate_ (.store 39 (.tmp 4) (.tmp 77)) rfl ?_); refine wpList_tkstore rfl (.tmp 4) (.tmp 77) rfl rfl rfl XB.out rfl rfl (by simp [Value.oneCell']) ?_)
      clear r0 r1 r2 r3
      obtain ⟨⟨r0, r1, r2, r3⟩, _⟩ := cells4 XC.out
      refine bodyPost_ret (v := .tuple #[.agg (tkA ⟨3, y, 0, i⟩), .nilIface]) (by simp [results, Tryz.results16, go_sem, r0, r1, r2, r3, tkA]) rfl ?_
      rw [← HPO.out]
      exact ⟨⟨⟨3, y, 0, i⟩, by rw [HE.out, if_pos rfl], fun _ => HT.out⟩, HBC5.out⟩
    | false =>
      have HT : Aside0 (⟨1, y, 0, i⟩ = tkT x i) := ⟨by unfold tkT; rw [HBC.out, HLT.out, if_pos rfl, HM.out, HY.out, hw, if_neg (by decide)]⟩
      have XB := XB5
      have HBC5 := Aside0.mk (below_setRow2 HB5.out #[.int .u8 1, .string y, .int .i64 0, .int .i64 (i : Int)])
      have XC := Aside0.mk (setRow_heap _ w.heap.size _ #[.int .u8 1, .string y, .int .i64 0, .int .i64 (i : Int)] _ _ XB.out)
      clear hw XB5
      go_wp2_with first | ((with_reducible refine gate_ (.load 39 (.tmp 4)) rfl ?_); refine wpList_tkload rfl (.tmp 4) rfl rfl XB.out rfl ?_) | ((with_reducible refine gate_ (.store 39 (.tmp 4) (.tmp 77)) rfl ?_); refine wpList_tkstore rfl (.tmp 4) (.tmp 77) rfl rfl rfl XB.out rfl rfl (by simp [Value.oneCell']) ?_)
      obtain ⟨⟨r0, r1, r2, r3⟩, _⟩ := cells4 XC.out
      refine bodyPost_ret (v := .tuple #[.agg (tkA ⟨1, y, 0, i⟩), .nilIface]) (by simp [results, Tryz.results16, go_sem, r0, r1, r2, r3, tkA]) rfl ?_
      rw [← HPO.out]
      exact ⟨⟨⟨1, y, 0, i⟩, by rw [HE.out, if_pos rfl], fun _ => HT.out⟩, HBC5.out⟩
set_option maxHeartbeats 16000000 in
set_option maxRecDepth 100000 in
theorem token_sign (s : ByteArray) (hs : s.size ≤ 140737488355328) (i : Nat) (hi : i < s.size) (w : World) (hL : Lib3 w) (hl : letterB (bt (s.extract i s.size) 0) = false) (hd : digitB (bt (s.extract i s.size) 0) = false) :
    Calls Tryz.prog 16 #[.string s, .int .i64 (i : Int)] w (TokPost (s.extract i s.size) (i : Int) w) := by
  have hzt := zeroT
  have hz := ext_size s i s.size (Nat.le_refl _)
  obtain ⟨x, hx⟩ : ∃ x, s.extract i s.size = x := ⟨_, rfl⟩
  rw [hx] at hz hl hd ⊢
  have h0 : 0 < x.size := by omega
  have HX0 := Aside0.mk h0
  have HSZ : Aside0 (x.size ≤ 140737488355328) := ⟨by omega⟩
  obtain ⟨c, hbc⟩ : ∃ c, bt x 0 = c := ⟨_, rfl⟩
  have hx6 : ((x[0]'h0).toNat : Int) = c := by have := bt_at x 0 (by simpa using h0); rw [← hbc]; simpa using this
  have q6 : ((0 : Int) < (x.size : Int)) = True := eq_true (by omega)
  have q7 : ((i : Int) ≤ (s.size : Int)) = True := eq_true (by omega)
  have q8 : i ≤ s.size := by omega
  have p6 : (0 ≤ (i : Int)) = True := eq_true (by omega)
  obtain ⟨b0, b1⟩ := bt_range x 0
  rw [hbc] at b0 b1 hl hd
  have hlc := letter_calls b0 b1
  rw [hl] at hlc
  have HLC := Aside0.mk hlc
  have HL := Aside0.mk hL
  have HBC := Aside0.mk hbc
  have HLT := Aside0.mk hl
  have hdc := digit_calls (c := c)
  rw [hd] at hdc
  have HDC := Aside0.mk hdc
  have HDT := Aside0.mk hd
  have hsn := sign_calls x h0
  have hsl := sgn_le x h0
  obtain ⟨m, hm⟩ : ∃ m, sgnN x = m := ⟨_, rfl⟩
  rw [hm] at hsn hsl
  have HSN := Aside0.mk hsn
  have HM := Aside0.mk hm
  have qm : ((m : Int) ≤ (x.size : Int)) = True := eq_true (by omega)
  have pm : (0 ≤ (m : Int)) = True := eq_true (by omega)
  obtain ⟨y, hy⟩ : ∃ y, x.extract 0 m = y := ⟨_, rfl⟩
  have HY := Aside0.mk hy
  have hyz : y.size = m := by rw [← hy, ext_size x 0 m hsl]; omega
  have HYZ := Aside0.mk hyz
  clear hdc hd hsn hm hyz
  clear hlc hL hl hbc b0 b1 hz
  obtain ⟨post, hpost⟩ : ∃ p, TokPost x (i : Int) w = p := ⟨_, rfl⟩
  rw [hpost]
  have HPO := Aside0.mk hpost
  clear hpost
  go_enter Tryz.func16, Tryz.ntmps16
  go_wp2_with ((with_reducible refine gate_ (.store 39 (.tmp 4) (.tmp 11)) rfl ?_); refine wpList_tkstore rfl (.tmp 4) (.tmp 11) rfl rfl rfl (heap_alloc_new w _) rfl rfl (by simp [Value.oneCell']) ?_)
  rw [setRow_new]
  refine (HLC.out _).mono ?_
  rintro e w' ⟨rfl, rfl⟩
  clear HLC
  go_wp2_with fail
  refine (HDC.out _).mono ?_
  rintro e w' ⟨rfl, rfl⟩
  clear HDC hx6
  have XB := Aside0.mk (heap_alloc_new w (.cells #[.int .u8 4, .string ⟨#[]⟩, .int .i64 0, .int .i64 (i : Int)] (39 : Nat)))
  have HB4 := Aside0.mk ((Below.refl w.heap.size w).alloc (Nat.le_refl _) (.cells #[.int .u8 4, .string ⟨#[]⟩, .int .i64 0, .int .i64 (i : Int)] (39 : Nat)))
  go_wp2_with fail
  generalize w.alloc (.cells #[.int .u8 4, .string ⟨#[]⟩, .int .i64 0, .int .i64 (i : Int)] (39 : Nat)) = W4 at XB HB4 ⊢
  refine (HSN.out _).mono ?_
  rintro e W5 ⟨rfl, hb⟩
  have XB5 : Aside0 (W5.heap[w.heap.size]? = some (.cells #[.int .u8 4, .string ⟨#[]⟩, .int .i64 0, .int .i64 (i : Int)] (39 : Nat) (0, 0))) := ⟨(hb.block _ (Array.getElem?_eq_some_iff.1 XB.out).1).trans XB.out⟩
  have HB5 := Aside0.mk (HB4.out.trans (hb.mono HB4.out.size))
  clear hb XB HB4 HSN
  obtain ⟨⟨r0, r1, r2, r3⟩, rf⟩ := cells4 XB5.out
  have f1 := rf 1
  have XB := Aside0.mk (set4 XB5.out (.string y)).2.1
  have HB4 := Aside0.mk (below_set2 HB5.out 1 (.string y))
  clear rf XB5 HB5 r0 r2 r3
  obtain ⟨⟨r0, rs1, r2, r3⟩, _⟩ := cells4 XB.out
  clear r0 r2 r3
  by_cases hm0 : m = 0
  · have y1 : y.size = 0 := by have := HYZ.out; omega
    have y0 : y.toList = [] := by rw [ByteArray.toList_eq]; exact List.eq_nil_of_length_eq_zero (by rw [len_list]; exact y1)
    have HE : Aside0 (tkE x = 30) := ⟨by unfold tkE; rw [HBC.out, HLT.out, if_neg (by decide), HDT.out, if_neg (by decide), HM.out, if_pos hm0]⟩
    have HM0 := Aside0.mk hm0
    have HY1 := Aside0.mk y1
    clear hm0 y1
    go_wp2_with fail
    clear r1 f1 rs1
    generalize W5.setCell ⟨w.heap.size, 1, none⟩ (.string y) = W4 at XB HB4 ⊢
    have D4 : Aside0 (Below w.heap.size w W4.drew) := ⟨below_drew1 HB4.out⟩
    refine start_ (n := 5) (S := fun w' => w'.heap[w.heap.size]? = some (.cells #[.int .u8 4, .string y, .int .i64 0, .int .i64 (i : Int)] (39 : Nat) (0, 0))) (ds := [3]) #[false, false, false, false, false] (by kernel_rfl) rfl rfl XB.out (fun hHeld => ?_)
    generalize W4.drew = W5 at D4 hHeld ⊢
    refine take_ (i := 0) (N := some 20) (v := ?_) (a' := ?_) #[true, false, false, false, false] rfl rfl (by kernel_rfl) (fun _ _ _ h => h) (Or.inl ⟨by rfl, ?_⟩) hHeld ?_ ?_
    rotate_left
    · intro w' s0
      show (do let r ← Instr.loadAt 39 (.pointer (some ⟨w.heap.size, 0, none⟩)); pure (Next.value r) : Sem Next).run Tryz.prog w' = _
      rw [Sem.run_bind, tk_load s0 rfl]
      rfl
    rotate_left
    · simp only [Act.put, List.setIfInBounds_toArray, List.set_cons_zero, List.set_cons_succ, i64_w, i32_w]
      rfl
    refine pure_ (i := 1) (N := some 21) (v := ?_) (a' := ?_) #[true, true, false, false, false] rfl rfl (by kernel_rfl) (fun _ _ _ h => h) (Or.inl ⟨by rfl, ?_⟩) ?_ ?_
    rotate_left
    · intro w'
      go_simp
      with_reducible rfl
    rotate_left
    · simp only [Act.put, List.setIfInBounds_toArray, List.set_cons_zero, List.set_cons_succ, i64_w, i32_w]
      rfl
    refine one_ (i := 2) (N := some 22) #[true, true, true, false, false] rfl rfl (by kernel_rfl) (by decide) (fun K hK => ?_)
    refine goes_ Tryz.func14 (by kernel_rfl) rfl #[.int .i64 (i : Int), .int .i64 30] (by rfl) rfl rfl (by simp only [List.map_toArray, List.map_cons, List.map_nil]; rfl) ?_
    refine (fault_calls (i : Int) 30 _).mono ?_
    rintro e W6 ⟨rfl, hw⟩
    subst hw
    refine ⟨_, rfl, hK.out _ _ hHeld (fun _ => ?_)⟩
    clear hK K
    refine norm_ (a' := ?_) ?_ ?_
    rotate_left
    · simp only [Act.put, List.setIfInBounds_toArray, List.set_cons_zero, List.set_cons_succ, i64_w, i32_w]
      rfl
    refine last_ (i := 3) (N := none) #[true, true, true, true, false] rfl rfl (by kernel_rfl) (by decide) (fun K hK => ?_)
    refine skip_ (w1 := W5.setRow w.heap.size #[.int .u8 4, .string y, .int .i64 0, .int .i64 (i : Int)]) (by rfl) rfl ?_ ?_
    · exact tk_store_run (.tmp 4) (.tmp 20) rfl rfl rfl hHeld rfl rfl (by simp [Value.oneCell'])
    refine hK.out _ _ ?_
    clear hK K
    have XC := Aside0.mk (setRow_heap W5 w.heap.size _ #[.int .u8 4, .string y, .int .i64 0, .int .i64 (i : Int)] _ _ hHeld)
    have HBC5 : Aside0 (Below w.heap.size w (W5.setRow w.heap.size #[.int .u8 4, .string y, .int .i64 0, .int .i64 (i : Int)])) := ⟨below_setRow2 D4.out _⟩
    generalize W5.setRow w.heap.size #[.int .u8 4, .string y, .int .i64 0, .int .i64 (i : Int)] = W7 at XC HBC5 ⊢
    refine pure_ (i := 4) (N := some 5) (v := ?_) (a' := ?_) #[true, true, true, true, true] rfl rfl (by kernel_rfl) (fun _ _ _ h => h) (Or.inl ⟨by rfl, ?_⟩) ?_ ?_
    rotate_left
    · intro w'
      go_simp
      with_reducible rfl
    rotate_left
    · simp only [Act.put, List.setIfInBounds_toArray, List.set_cons_zero, List.set_cons_succ, i64_w, i32_w]
      rfl
    refine done_ (by kernel_rfl) ?_
    clear hHeld D4 XB HB4
    go_wp2
    obtain ⟨⟨r0, r1, r2, r3⟩, _⟩ := cells4 XC.out
    refine bodyPost_ret (v := .tuple #[.agg (tkA ⟨4, y, 0, i⟩), errV (i : Int) 30]) (by simp [results, Tryz.results16, go_sem, r0, r1, r2, r3, tkA]) rfl ?_
    rw [← HPO.out]
    exact ⟨⟨⟨4, y, 0, i⟩, by rw [HE.out, if_neg (by decide)], fun h => absurd (HE.out.symm.trans h) (by decide)⟩, HBC5.out⟩
  · have y0 : y.toList.isEmpty = false := by
      rw [ByteArray.toList_eq]
      have h1 := len_list y
      have h2 := HYZ.out
      cases h : y.data.toList with
      | nil => rw [h] at h1; simp at h1; omega
      | cons a r => rfl
    have HE : Aside0 (tkE x = 0) := ⟨by unfold tkE; rw [HBC.out, HLT.out, if_neg (by decide), HDT.out, if_neg (by decide), HM.out, if_neg hm0]⟩
    have HT : Aside0 (⟨4, y, 0, i⟩ = tkT x i) := ⟨by unfold tkT; rw [HBC.out, HLT.out, if_neg (by decide), HDT.out, if_neg (by decide), HM.out, HY.out]⟩
    have HBC5 := Aside0.mk (below_setRow2 HB4.out #[.int .u8 4, .string y, .int .i64 0, .int .i64 (i : Int)])
    have XC := Aside0.mk (setRow_heap _ w.heap.size _ #[.int .u8 4, .string y, .int .i64 0, .int .i64 (i : Int)] _ _ XB.out)
    clear hm0
    go_wp2_with first | ((with_reducible refine gate_ (.load 39 (.tmp 4)) rfl ?_); refine wpList_tkload rfl (.tmp 4) rfl rfl XB.out rfl ?_) | ((with_reducible refine gate_ (.store 39 (.tmp 4) (.tmp 77)) rfl ?_); refine wpList_tkstore rfl (.tmp 4) (.tmp 77) rfl rfl rfl XB.out rfl rfl (by simp [Value.oneCell']) ?_)
    clear r1 rs1
    obtain ⟨⟨r0, r1, r2, r3⟩, _⟩ := cells4 XC.out
    refine bodyPost_ret (v := .tuple #[.agg (tkA ⟨4, y, 0, i⟩), .nilIface]) (by simp [results, Tryz.results16, go_sem, r0, r1, r2, r3, tkA]) rfl ?_
    rw [← HPO.out]
    exact ⟨⟨⟨4, y, 0, i⟩, by rw [HE.out, if_pos rfl], fun _ => HT.out⟩, HBC5.out⟩
set_option maxHeartbeats 16000000 in
set_option maxRecDepth 100000 in
theorem token_digit (s : ByteArray) (hs : s.size ≤ 140737488355328) (i : Nat) (hi : i < s.size) (w : World) (hL : Lib3 w) (hl : letterB (bt (s.extract i s.size) 0) = false) (hd : digitB (bt (s.extract i s.size) 0) = true) :
    Calls Tryz.prog 16 #[.string s, .int .i64 (i : Int)] w (TokPost (s.extract i s.size) (i : Int) w) := by
  have hzt := zeroT
  have hz := ext_size s i s.size (Nat.le_refl _)
  obtain ⟨x, hx⟩ : ∃ x, s.extract i s.size = x := ⟨_, rfl⟩
  rw [hx] at hz hl hd ⊢
  have h0 : 0 < x.size := by omega
  have HX0 := Aside0.mk h0
  have HSZ : Aside0 (x.size ≤ 140737488355328) := ⟨by omega⟩
  obtain ⟨c, hbc⟩ : ∃ c, bt x 0 = c := ⟨_, rfl⟩
  have hx6 : ((x[0]'h0).toNat : Int) = c := by have := bt_at x 0 (by simpa using h0); rw [← hbc]; simpa using this
  have q6 : ((0 : Int) < (x.size : Int)) = True := eq_true (by omega)
  have q7 : ((i : Int) ≤ (s.size : Int)) = True := eq_true (by omega)
  have q8 : i ≤ s.size := by omega
  have p6 : (0 ≤ (i : Int)) = True := eq_true (by omega)
  obtain ⟨b0, b1⟩ := bt_range x 0
  rw [hbc] at b0 b1 hl hd
  have hlc := letter_calls b0 b1
  rw [hl] at hlc
  have HLC := Aside0.mk hlc
  have HL := Aside0.mk hL
  have HBC := Aside0.mk hbc
  have HLT := Aside0.mk hl
  have hdc := digit_calls (c := c)
  rw [hd] at hdc
  have HDC := Aside0.mk hdc
  have HDT := Aside0.mk hd
  have hle := spn_le digitB x x.size 0
  have hspan := span_calls 30 digitB (fun c w h0 h1 => digit_calls w) (enters_of Tryz.func30 (by kernel_rfl) rfl) x (by omega)
  obtain ⟨m, hm⟩ : ∃ m, spn digitB x x.size 0 = m := ⟨_, rfl⟩
  rw [hm] at hle hspan
  have HSPAN := Aside0.mk hspan
  have HM := Aside0.mk hm
  have hmx : m ≤ x.size := by omega
  have qm : ((m : Int) ≤ (x.size : Int)) = True := eq_true (by omega)
  have pm : (0 ≤ (m : Int)) = True := eq_true (by omega)
  obtain ⟨y, hy⟩ : ∃ y, x.extract 0 m = y := ⟨_, rfl⟩
  have HY := Aside0.mk hy
  have hyz : y.size = m := by rw [← hy, ext_size x 0 m hmx]; omega
  have HYZ := Aside0.mk hyz
  clear hm hspan hle hyz
  have hc0 : 1 < y.size → bt y 0 = c := fun h => by
    have h1 := bt_ext x 0 m 0 (by have := HYZ.out; omega)
    rw [hy] at h1
    rw [← hbc]
    simpa using h1
  have HC0 := Aside0.mk hc0
  clear hdc hd hc0
  clear hlc hL hl hbc b0 b1 hz
  obtain ⟨post, hpost⟩ : ∃ p, TokPost x (i : Int) w = p := ⟨_, rfl⟩
  rw [hpost]
  have HPO := Aside0.mk hpost
  clear hpost
  go_enter Tryz.func16, Tryz.ntmps16
  go_wp2_with ((with_reducible refine gate_ (.store 39 (.tmp 4) (.tmp 11)) rfl ?_); refine wpList_tkstore rfl (.tmp 4) (.tmp 11) rfl rfl rfl (heap_alloc_new w _) rfl rfl (by simp [Value.oneCell']) ?_)
  rw [setRow_new]
  refine (HLC.out _).mono ?_
  rintro e w' ⟨rfl, rfl⟩
  clear HLC
  go_wp2_with fail
  refine (HDC.out _).mono ?_
  rintro e w' ⟨rfl, rfl⟩
  clear HDC
  have XB := Aside0.mk (heap_alloc_new w (.cells #[.int .u8 4, .string ⟨#[]⟩, .int .i64 0, .int .i64 (i : Int)] (39 : Nat)))
  have HB4 := Aside0.mk ((Below.refl w.heap.size w).alloc (Nat.le_refl _) (.cells #[.int .u8 4, .string ⟨#[]⟩, .int .i64 0, .int .i64 (i : Int)] (39 : Nat)))
  go_wp2_with fail
  generalize w.alloc (.cells #[.int .u8 4, .string ⟨#[]⟩, .int .i64 0, .int .i64 (i : Int)] (39 : Nat)) = W4 at XB HB4 ⊢
  have D4 : Aside0 (Below w.heap.size w W4.drew) := ⟨below_drew1 HB4.out⟩
  have XD : Aside0 (W4.drew.heap[w.heap.size]? = some (.cells #[.int .u8 4, .string ⟨#[]⟩, .int .i64 0, .int .i64 (i : Int)] (39 : Nat) (0, 0))) := ⟨XB.out⟩
  refine start_ (n := 8) (S := fun _ => True) (ds := []) #[false, false, false, false, false, false, false, false] (by kernel_rfl) rfl rfl trivial (fun _ => ?_)
  generalize W4.drew = W5 at D4 XD ⊢
  clear XB HB4
  refine pure_ (i := 0) (N := some 48) (v := ?_) (a' := ?_) #[true, false, false, false, false, false, false, false] rfl rfl (by kernel_rfl) (fun _ _ _ h => h) (Or.inl ⟨by rfl, ?_⟩) ?_ ?_
  rotate_left
  · intro w'
    go_simp
    with_reducible rfl
  rotate_left
  · simp only [Act.put, List.setIfInBounds_toArray, List.set_cons_zero, List.set_cons_succ, i64_w, i32_w]
    rfl
  refine pure_ (i := 1) (N := some 49) (v := ?_) (a' := ?_) #[true, true, false, false, false, false, false, false] rfl rfl (by kernel_rfl) (fun _ _ _ h => h) (Or.inl ⟨by rfl, ?_⟩) ?_ ?_
  rotate_left
  · intro w'
    go_simp
    with_reducible rfl
  rotate_left
  · simp only [Act.put, List.setIfInBounds_toArray, List.set_cons_zero, List.set_cons_succ, i64_w, i32_w]
    rfl
  refine pure_ (i := 4) (N := some 52) (v := ?_) (a' := ?_) #[true, true, false, false, true, false, false, false] rfl rfl (by kernel_rfl) (fun _ _ _ h => h) (Or.inl ⟨by rfl, ?_⟩) ?_ ?_
  rotate_left
  · intro w'
    go_simp
    with_reducible rfl
  rotate_left
  · simp only [Act.put, List.setIfInBounds_toArray, List.set_cons_zero, List.set_cons_succ, i64_w, i32_w]
    rfl
  refine one_ (i := 2) (N := some 50) #[true, true, true, false, true, false, false, false] rfl rfl (by kernel_rfl) (by decide) (fun K hK => ?_)
  refine goes_ Tryz.func26 (by kernel_rfl) rfl #[.string x, .func (.func 30) #[] #[]] (by rfl) rfl rfl (by simp only [List.map_toArray, List.map_cons, List.map_nil]; rfl) ?_
  refine (HSPAN.out _).mono ?_
  rintro e W6 ⟨rfl, hw⟩
  subst hw
  refine ⟨_, rfl, hK.out _ _ trivial (fun _ => ?_)⟩
  clear hK K HSPAN
  refine norm_ (a' := ?_) ?_ ?_
  rotate_left
  · simp only [Act.put, List.setIfInBounds_toArray, List.set_cons_zero, List.set_cons_succ, i64_w, i32_w]
    rfl
  refine pure_ (i := 3) (N := some 51) (v := ?_) (a' := ?_) #[true, true, true, true, true, false, false, false] rfl rfl (by kernel_rfl) (fun _ _ _ h => h) (Or.inl ⟨by rfl, ?_⟩) ?_ ?_
  rotate_left
  · intro w'
    go_simp
    with_reducible rfl
  rotate_left
  · simp only [Act.put, List.setIfInBounds_toArray, List.set_cons_zero, List.set_cons_succ, i64_w, i32_w]
    rfl
  obtain ⟨⟨r0, r1, r2, r3⟩, rf⟩ := cells4 XD.out
  have ff := rf 0
  refine one_ (i := 5) (N := none) #[true, true, true, true, true, true, false, false] rfl rfl (by kernel_rfl) (by decide) (fun K hK => ?_)
  refine skip_ (w1 := W5.setCell ⟨w.heap.size, 0, none⟩ (.int .u8 2)) (by rfl) rfl ?_ ?_
  · go_simp
  refine hK.out _ _ trivial (fun _ => ?_)
  clear hK K
  have XE := Aside0.mk (set4 XD.out (.int .u8 2)).1
  have DE := Aside0.mk (below_set2 D4.out 0 (.int .u8 2))
  clear XD D4 r0 r1 r2 r3 rf ff
  have XD := XE
  have D4 := DE
  clear XE DE
  generalize W5.setCell ⟨w.heap.size, 0, none⟩ (.int .u8 2) = W6 at XD D4 ⊢
  refine pure_ (i := 6) (N := some 53) (v := ?_) (a' := ?_) #[true, true, true, true, true, true, true, false] rfl rfl (by kernel_rfl) (fun _ _ _ h => h) (Or.inl ⟨by rfl, ?_⟩) ?_ ?_
  rotate_left
  · intro w'
    go_simp
    with_reducible rfl
  rotate_left
  · simp only [Act.put, List.setIfInBounds_toArray, List.set_cons_zero, List.set_cons_succ, i64_w, i32_w]
    rfl
  obtain ⟨⟨r0, r1, r2, r3⟩, rf⟩ := cells4 XD.out
  have ff := rf 1
  refine one_ (i := 7) (N := none) #[true, true, true, true, true, true, true, true] rfl rfl (by kernel_rfl) (by decide) (fun K hK => ?_)
  refine skip_ (w1 := W6.setCell ⟨w.heap.size, 1, none⟩ (.string y)) (by rfl) rfl ?_ ?_
  · go_simp
  refine hK.out _ _ trivial (fun _ => ?_)
  clear hK K
  have XE := Aside0.mk (set4 XD.out (.string y)).2.1
  have DE := Aside0.mk (below_set2 D4.out 1 (.string y))
  clear XD D4 r0 r1 r2 r3 rf ff
  have XD := XE
  have D4 := DE
  clear XE DE
  generalize W6.setCell ⟨w.heap.size, 1, none⟩ (.string y) = W7 at XD D4 ⊢
  refine done_ (by kernel_rfl) ?_
  obtain ⟨⟨r0, r1, r2, r3⟩, rf⟩ := cells4 XD.out
  clear r0 r2 r3 rf
  have hys : y.size ≤ 140737488355328 := by have := HYZ.out; have := HSZ.out; omega
  go_wp2_with fail
  clear r1
  rcases hp : Lib.parseIntB 64 y.data.toList with v | _ | _
  ·
    refine (Tryz.strconv_ParseInt_10_at64_ok y (by omega) v hp W7).mono ?_
    rintro e W8 ⟨rfl, hw⟩
    have hb : Below W7.heap.size W7 W8 := by
      rcases hw with rfl | ⟨t, rfl⟩
      · exact Below.refl _ _
      · exact Lib.bytesWorld_below _ _ _
    have X8 : Aside0 (W8.heap[w.heap.size]? = some (.cells #[.int .u8 2, .string y, .int .i64 0, .int .i64 (i : Int)] (39 : Nat) (0, 0))) := ⟨(hb.block _ (Array.getElem?_eq_some_iff.1 XD.out).1).trans XD.out⟩
    have B8 := Aside0.mk (D4.out.trans (hb.mono D4.out.size))
    have HP := Aside0.mk hp
    clear hb hw XD D4 hp
    obtain ⟨⟨r0, r1, r2, r3⟩, rf⟩ := cells4 X8.out
    have f2 := rf 2
    have XB := Aside0.mk (set4 X8.out (.int .i64 v)).2.2
    have HB4 := Aside0.mk (below_set2 B8.out 2 (.int .i64 v))
    obtain ⟨⟨s0, s1, s2, s3⟩, _⟩ := cells4 XB.out
    clear rf X8 B8 r0 r1 r3 s0 s2 s3
    by_cases hz : 1 < y.size ∧ c = 48
    · have hn : numV y = none := by unfold numV; rw [if_pos ⟨hz.1, (HC0.out hz.1).trans hz.2⟩]
      have HN := Aside0.mk hn
      have z1 : decide (1 < y.size) = true := decide_eq_true hz.1
      have z1' : decide ((1 : Int) < (y.size : Int)) = true := decide_eq_true (by omega)
      have z2 : (c == 48) = true := by simpa using hz.2
      clear hn hz
      have HE : Aside0 (tkE x = 31) := ⟨by unfold tkE; rw [HBC.out, HLT.out, if_neg (by decide), HDT.out, if_pos rfl, HM.out, HY.out, HN.out]; rfl⟩
      go_wp2_with fail
      clear r2 f2 s1
      generalize W8.setCell ⟨w.heap.size, 2, none⟩ (.int .i64 v) = W4 at XB HB4 ⊢
      have D4 : Aside0 (Below w.heap.size w W4.drew) := ⟨below_drew1 HB4.out⟩
      refine start_ (n := 5) (S := fun w' => w'.heap[w.heap.size]? = some (.cells #[.int .u8 2, .string y, .int .i64 v, .int .i64 (i : Int)] (39 : Nat) (0, 0))) (ds := [3]) #[false, false, false, false, false] (by kernel_rfl) rfl rfl XB.out (fun hHeld => ?_)
      generalize W4.drew = W5 at D4 hHeld ⊢
      refine take_ (i := 0) (N := some 74) (v := ?_) (a' := ?_) #[true, false, false, false, false] rfl rfl (by kernel_rfl) (fun _ _ _ h => h) (Or.inl ⟨by rfl, ?_⟩) hHeld ?_ ?_
      rotate_left
      · intro w' s0
        show (do let r ← Instr.loadAt 39 (.pointer (some ⟨w.heap.size, 0, none⟩)); pure (Next.value r) : Sem Next).run Tryz.prog w' = _
        rw [Sem.run_bind, tk_load s0 rfl]
        rfl
      rotate_left
      · simp only [Act.put, List.setIfInBounds_toArray, List.set_cons_zero, List.set_cons_succ, i64_w, i32_w]
        rfl
      refine pure_ (i := 1) (N := some 75) (v := ?_) (a' := ?_) #[true, true, false, false, false] rfl rfl (by kernel_rfl) (fun _ _ _ h => h) (Or.inl ⟨by rfl, ?_⟩) ?_ ?_
      rotate_left
      · intro w'
        go_simp
        with_reducible rfl
      rotate_left
      · simp only [Act.put, List.setIfInBounds_toArray, List.set_cons_zero, List.set_cons_succ, i64_w, i32_w]
        rfl
      refine one_ (i := 2) (N := some 76) #[true, true, true, false, false] rfl rfl (by kernel_rfl) (by decide) (fun K hK => ?_)
      refine goes_ Tryz.func14 (by kernel_rfl) rfl #[.int .i64 (i : Int), .int .i64 31] (by rfl) rfl rfl (by simp only [List.map_toArray, List.map_cons, List.map_nil]; rfl) ?_
      refine (fault_calls (i : Int) 31 _).mono ?_
      rintro e W6 ⟨rfl, hw⟩
      subst hw
      refine ⟨_, rfl, hK.out _ _ hHeld (fun _ => ?_)⟩
      clear hK K
      refine norm_ (a' := ?_) ?_ ?_
      rotate_left
      · simp only [Act.put, List.setIfInBounds_toArray, List.set_cons_zero, List.set_cons_succ, i64_w, i32_w]
        rfl
      refine last_ (i := 3) (N := none) #[true, true, true, true, false] rfl rfl (by kernel_rfl) (by decide) (fun K hK => ?_)
      refine skip_ (w1 := W5.setRow w.heap.size #[.int .u8 2, .string y, .int .i64 v, .int .i64 (i : Int)]) (by rfl) rfl ?_ ?_
      · exact tk_store_run (.tmp 4) (.tmp 74) rfl rfl rfl hHeld rfl rfl (by simp [Value.oneCell'])
      refine hK.out _ _ ?_
      clear hK K
      have XC := Aside0.mk (setRow_heap W5 w.heap.size _ #[.int .u8 2, .string y, .int .i64 v, .int .i64 (i : Int)] _ _ hHeld)
      have HBC5 : Aside0 (Below w.heap.size w (W5.setRow w.heap.size #[.int .u8 2, .string y, .int .i64 v, .int .i64 (i : Int)])) := ⟨below_setRow2 D4.out _⟩
      generalize W5.setRow w.heap.size #[.int .u8 2, .string y, .int .i64 v, .int .i64 (i : Int)] = W7 at XC HBC5 ⊢
      refine pure_ (i := 4) (N := some 5) (v := ?_) (a' := ?_) #[true, true, true, true, true] rfl rfl (by kernel_rfl) (fun _ _ _ h => h) (Or.inl ⟨by rfl, ?_⟩) ?_ ?_
      rotate_left
      · intro w'
        go_simp
        with_reducible rfl
      rotate_left
      · simp only [Act.put, List.setIfInBounds_toArray, List.set_cons_zero, List.set_cons_succ, i64_w, i32_w]
        rfl
      refine done_ (by kernel_rfl) ?_
      clear hHeld D4 XB HB4
      go_wp2
      obtain ⟨⟨r0, r1, r2, r3⟩, _⟩ := cells4 XC.out
      refine bodyPost_ret (v := .tuple #[.agg (tkA ⟨2, y, v, i⟩), errV (i : Int) 31]) (by simp [results, Tryz.results16, go_sem, r0, r1, r2, r3, tkA]) rfl ?_
      rw [← HPO.out]
      exact ⟨⟨⟨2, y, v, i⟩, by rw [HE.out, if_neg (by decide)], fun h => absurd (HE.out.symm.trans h) (by decide)⟩, HBC5.out⟩
    · have hn : numV y = some v := by
        unfold numV
        rw [if_neg (fun h => hz ⟨h.1, (HC0.out h.1).symm.trans h.2⟩), HP.out]
      have HE : Aside0 (tkE x = 0) := ⟨by unfold tkE; rw [HBC.out, HLT.out, if_neg (by decide), HDT.out, if_pos rfl, HM.out, HY.out, hn]; rfl⟩
      have HT : Aside0 (⟨2, y, v, i⟩ = tkT x i) := ⟨by unfold tkT; rw [HBC.out, HLT.out, if_neg (by decide), HDT.out, if_pos rfl, HM.out, HY.out, hn]; rfl⟩
      have HBC5 := Aside0.mk (below_setRow2 HB4.out #[.int .u8 2, .string y, .int .i64 v, .int .i64 (i : Int)])
      have XC := Aside0.mk (setRow_heap _ w.heap.size _ #[.int .u8 2, .string y, .int .i64 v, .int .i64 (i : Int)] _ _ XB.out)
      by_cases h1 : 1 < y.size
      · have z1 : decide (1 < y.size) = true := decide_eq_true h1
        have z1' : decide ((1 : Int) < (y.size : Int)) = true := decide_eq_true (by omega)
        have z2 : (c == 48) = false := by simpa using fun h => hz ⟨h1, h⟩
        clear hn hz h1
        go_wp2_with first | ((with_reducible refine gate_ (.load 39 (.tmp 4)) rfl ?_); refine wpList_tkload rfl (.tmp 4) rfl rfl XB.out rfl ?_) | ((with_reducible refine gate_ (.store 39 (.tmp 4) (.tmp 77)) rfl ?_); refine wpList_tkstore rfl (.tmp 4) (.tmp 77) rfl rfl rfl XB.out rfl rfl (by simp [Value.oneCell']) ?_)
        clear r2 f2 s1
        obtain ⟨⟨r0, r1, r2, r3⟩, _⟩ := cells4 XC.out
        refine bodyPost_ret (v := .tuple #[.agg (tkA ⟨2, y, v, i⟩), .nilIface]) (by simp [results, Tryz.results16, go_sem, r0, r1, r2, r3, tkA]) rfl ?_
        rw [← HPO.out]
        exact ⟨⟨⟨2, y, v, i⟩, by rw [HE.out, if_pos rfl], fun _ => HT.out⟩, HBC5.out⟩
      · have z1 : decide (1 < y.size) = false := decide_eq_false h1
        have z1' : decide ((1 : Int) < (y.size : Int)) = false := decide_eq_false (by omega)
        clear hn hz h1
        go_wp2_with first | ((with_reducible refine gate_ (.load 39 (.tmp 4)) rfl ?_); refine wpList_tkload rfl (.tmp 4) rfl rfl XB.out rfl ?_) | ((with_reducible refine gate_ (.store 39 (.tmp 4) (.tmp 77)) rfl ?_); refine wpList_tkstore rfl (.tmp 4) (.tmp 77) rfl rfl rfl XB.out rfl rfl (by simp [Value.oneCell']) ?_)
        clear r2 f2 s1
        obtain ⟨⟨r0, r1, r2, r3⟩, _⟩ := cells4 XC.out
        refine bodyPost_ret (v := .tuple #[.agg (tkA ⟨2, y, v, i⟩), .nilIface]) (by simp [results, Tryz.results16, go_sem, r0, r1, r2, r3, tkA]) rfl ?_
        rw [← HPO.out]
        exact ⟨⟨⟨2, y, v, i⟩, by rw [HE.out, if_pos rfl], fun _ => HT.out⟩, HBC5.out⟩
  ·
    have hn : numV y = none := by unfold numV; split; rfl; rw [hp]
    have HN := Aside0.mk hn
    obtain ⟨tp, p, hv⟩ := (HL.out.below D4.out).sy
    refine (Tryz.strconv_ParseInt_10_at64_syntax_var y (by omega) hp tp p W7 hv).mono ?_
    rintro e W8 ⟨nb, rfl, hnb, hrow, hb⟩
    have X8 : Aside0 (W8.heap[w.heap.size]? = some (.cells #[.int .u8 2, .string y, .int .i64 0, .int .i64 (i : Int)] (39 : Nat) (0, 0))) := ⟨(hb.block _ (Array.getElem?_eq_some_iff.1 XD.out).1).trans XD.out⟩
    have B8 := Aside0.mk (D4.out.trans (hb.mono D4.out.size))
    clear hb XD D4 hp hn hv hnb hrow
    obtain ⟨⟨r0, r1, r2, r3⟩, rf⟩ := cells4 X8.out
    have f2 := rf 2
    have XB := Aside0.mk (set4 X8.out (.int .i64 0)).2.2
    have HB4 := Aside0.mk (below_set2 B8.out 2 (.int .i64 0))
    obtain ⟨⟨s0, s1, s2, s3⟩, _⟩ := cells4 XB.out
    clear rf X8 B8 r0 r1 r3 s0 s2 s3
    have HE : Aside0 (tkE x = 31) := ⟨by unfold tkE; rw [HBC.out, HLT.out, if_neg (by decide), HDT.out, if_pos rfl, HM.out, HY.out, HN.out]; rfl⟩
    go_wp2_with fail
    clear r2 f2 s1
    generalize W8.setCell ⟨w.heap.size, 2, none⟩ (.int .i64 0) = W4 at XB HB4 ⊢
    have D4 : Aside0 (Below w.heap.size w W4.drew) := ⟨below_drew1 HB4.out⟩
    refine start_ (n := 5) (S := fun w' => w'.heap[w.heap.size]? = some (.cells #[.int .u8 2, .string y, .int .i64 0, .int .i64 (i : Int)] (39 : Nat) (0, 0))) (ds := [3]) #[false, false, false, false, false] (by kernel_rfl) rfl rfl XB.out (fun hHeld => ?_)
    generalize W4.drew = W5 at D4 hHeld ⊢
    refine take_ (i := 0) (N := some 74) (v := ?_) (a' := ?_) #[true, false, false, false, false] rfl rfl (by kernel_rfl) (fun _ _ _ h => h) (Or.inl ⟨by rfl, ?_⟩) hHeld ?_ ?_
    rotate_left
    · intro w' s0
      show (do let r ← Instr.loadAt 39 (.pointer (some ⟨w.heap.size, 0, none⟩)); pure (Next.value r) : Sem Next).run Tryz.prog w' = _
      rw [Sem.run_bind, tk_load s0 rfl]
      rfl
    rotate_left
    · simp only [Act.put, List.setIfInBounds_toArray, List.set_cons_zero, List.set_cons_succ, i64_w, i32_w]
      rfl
    refine pure_ (i := 1) (N := some 75) (v := ?_) (a' := ?_) #[true, true, false, false, false] rfl rfl (by kernel_rfl) (fun _ _ _ h => h) (Or.inl ⟨by rfl, ?_⟩) ?_ ?_
    rotate_left
    · intro w'
      go_simp
      with_reducible rfl
    rotate_left
    · simp only [Act.put, List.setIfInBounds_toArray, List.set_cons_zero, List.set_cons_succ, i64_w, i32_w]
      rfl
    refine one_ (i := 2) (N := some 76) #[true, true, true, false, false] rfl rfl (by kernel_rfl) (by decide) (fun K hK => ?_)
    refine goes_ Tryz.func14 (by kernel_rfl) rfl #[.int .i64 (i : Int), .int .i64 31] (by rfl) rfl rfl (by simp only [List.map_toArray, List.map_cons, List.map_nil]; rfl) ?_
    refine (fault_calls (i : Int) 31 _).mono ?_
    rintro e W6 ⟨rfl, hw⟩
    subst hw
    refine ⟨_, rfl, hK.out _ _ hHeld (fun _ => ?_)⟩
    clear hK K
    refine norm_ (a' := ?_) ?_ ?_
    rotate_left
    · simp only [Act.put, List.setIfInBounds_toArray, List.set_cons_zero, List.set_cons_succ, i64_w, i32_w]
      rfl
    refine last_ (i := 3) (N := none) #[true, true, true, true, false] rfl rfl (by kernel_rfl) (by decide) (fun K hK => ?_)
    refine skip_ (w1 := W5.setRow w.heap.size #[.int .u8 2, .string y, .int .i64 0, .int .i64 (i : Int)]) (by rfl) rfl ?_ ?_
    · exact tk_store_run (.tmp 4) (.tmp 74) rfl rfl rfl hHeld rfl rfl (by simp [Value.oneCell'])
    refine hK.out _ _ ?_
    clear hK K
    have XC := Aside0.mk (setRow_heap W5 w.heap.size _ #[.int .u8 2, .string y, .int .i64 0, .int .i64 (i : Int)] _ _ hHeld)
    have HBC5 : Aside0 (Below w.heap.size w (W5.setRow w.heap.size #[.int .u8 2, .string y, .int .i64 0, .int .i64 (i : Int)])) := ⟨below_setRow2 D4.out _⟩
    generalize W5.setRow w.heap.size #[.int .u8 2, .string y, .int .i64 0, .int .i64 (i : Int)] = W7 at XC HBC5 ⊢
    refine pure_ (i := 4) (N := some 5) (v := ?_) (a' := ?_) #[true, true, true, true, true] rfl rfl (by kernel_rfl) (fun _ _ _ h => h) (Or.inl ⟨by rfl, ?_⟩) ?_ ?_
    rotate_left
    · intro w'
      go_simp
      with_reducible rfl
    rotate_left
    · simp only [Act.put, List.setIfInBounds_toArray, List.set_cons_zero, List.set_cons_succ, i64_w, i32_w]
      rfl
    refine done_ (by kernel_rfl) ?_
    clear hHeld D4 XB HB4
    go_wp2
    obtain ⟨⟨r0, r1, r2, r3⟩, _⟩ := cells4 XC.out
    refine bodyPost_ret (v := .tuple #[.agg (tkA ⟨2, y, 0, i⟩), errV (i : Int) 31]) (by simp [results, Tryz.results16, go_sem, r0, r1, r2, r3, tkA]) rfl ?_
    rw [← HPO.out]
    exact ⟨⟨⟨2, y, 0, i⟩, by rw [HE.out, if_neg (by decide)], fun h => absurd (HE.out.symm.trans h) (by decide)⟩, HBC5.out⟩
  ·
    have hn : numV y = none := by unfold numV; split; rfl; rw [hp]
    have HN := Aside0.mk hn
    obtain ⟨tp, p, hv⟩ := (HL.out.below D4.out).ra
    refine (Tryz.strconv_ParseInt_10_at64_range_var y (by omega) hp tp p W7 hv).mono ?_
    rintro e W8 ⟨nb, rfl, hnb, hrow, hb⟩
    generalize Lib.intSat 64 y.data.toList = v
    have X8 : Aside0 (W8.heap[w.heap.size]? = some (.cells #[.int .u8 2, .string y, .int .i64 0, .int .i64 (i : Int)] (39 : Nat) (0, 0))) := ⟨(hb.block _ (Array.getElem?_eq_some_iff.1 XD.out).1).trans XD.out⟩
    have B8 := Aside0.mk (D4.out.trans (hb.mono D4.out.size))
    clear hb XD D4 hp hn hv hnb hrow
    obtain ⟨⟨r0, r1, r2, r3⟩, rf⟩ := cells4 X8.out
    have f2 := rf 2
    have XB := Aside0.mk (set4 X8.out (.int .i64 v)).2.2
    have HB4 := Aside0.mk (below_set2 B8.out 2 (.int .i64 v))
    obtain ⟨⟨s0, s1, s2, s3⟩, _⟩ := cells4 XB.out
    clear rf X8 B8 r0 r1 r3 s0 s2 s3
    have HE : Aside0 (tkE x = 31) := ⟨by unfold tkE; rw [HBC.out, HLT.out, if_neg (by decide), HDT.out, if_pos rfl, HM.out, HY.out, HN.out]; rfl⟩
    go_wp2_with fail
    clear r2 f2 s1
    generalize W8.setCell ⟨w.heap.size, 2, none⟩ (.int .i64 v) = W4 at XB HB4 ⊢
    have D4 : Aside0 (Below w.heap.size w W4.drew) := ⟨below_drew1 HB4.out⟩
    refine start_ (n := 5) (S := fun w' => w'.heap[w.heap.size]? = some (.cells #[.int .u8 2, .string y, .int .i64 v, .int .i64 (i : Int)] (39 : Nat) (0, 0))) (ds := [3]) #[false, false, false, false, false] (by kernel_rfl) rfl rfl XB.out (fun hHeld => ?_)
    generalize W4.drew = W5 at D4 hHeld ⊢
    refine take_ (i := 0) (N := some 74) (v := ?_) (a' := ?_) #[true, false, false, false, false] rfl rfl (by kernel_rfl) (fun _ _ _ h => h) (Or.inl ⟨by rfl, ?_⟩) hHeld ?_ ?_
    rotate_left
    · intro w' s0
      show (do let r ← Instr.loadAt 39 (.pointer (some ⟨w.heap.size, 0, none⟩)); pure (Next.value r) : Sem Next).run Tryz.prog w' = _
      rw [Sem.run_bind, tk_load s0 rfl]
      rfl
    rotate_left
    · simp only [Act.put, List.setIfInBounds_toArray, List.set_cons_zero, List.set_cons_succ, i64_w, i32_w]
      rfl
    refine pure_ (i := 1) (N := some 75) (v := ?_) (a' := ?_) #[true, true, false, false, false] rfl rfl (by kernel_rfl) (fun _ _ _ h => h) (Or.inl ⟨by rfl, ?_⟩) ?_ ?_
    rotate_left
    · intro w'
      go_simp
      with_reducible rfl
    rotate_left
    · simp only [Act.put, List.setIfInBounds_toArray, List.set_cons_zero, List.set_cons_succ, i64_w, i32_w]
      rfl
    refine one_ (i := 2) (N := some 76) #[true, true, true, false, false] rfl rfl (by kernel_rfl) (by decide) (fun K hK => ?_)
    refine goes_ Tryz.func14 (by kernel_rfl) rfl #[.int .i64 (i : Int), .int .i64 31] (by rfl) rfl rfl (by simp only [List.map_toArray, List.map_cons, List.map_nil]; rfl) ?_
    refine (fault_calls (i : Int) 31 _).mono ?_
    rintro e W6 ⟨rfl, hw⟩
    subst hw
    refine ⟨_, rfl, hK.out _ _ hHeld (fun _ => ?_)⟩
    clear hK K
    refine norm_ (a' := ?_) ?_ ?_
    rotate_left
    · simp only [Act.put, List.setIfInBounds_toArray, List.set_cons_zero, List.set_cons_succ, i64_w, i32_w]
      rfl
    refine last_ (i := 3) (N := none) #[true, true, true, true, false] rfl rfl (by kernel_rfl) (by decide) (fun K hK => ?_)
    refine skip_ (w1 := W5.setRow w.heap.size #[.int .u8 2, .string y, .int .i64 v, .int .i64 (i : Int)]) (by rfl) rfl ?_ ?_
    · exact tk_store_run (.tmp 4) (.tmp 74) rfl rfl rfl hHeld rfl rfl (by simp [Value.oneCell'])
    refine hK.out _ _ ?_
    clear hK K
    have XC := Aside0.mk (setRow_heap W5 w.heap.size _ #[.int .u8 2, .string y, .int .i64 v, .int .i64 (i : Int)] _ _ hHeld)
    have HBC5 : Aside0 (Below w.heap.size w (W5.setRow w.heap.size #[.int .u8 2, .string y, .int .i64 v, .int .i64 (i : Int)])) := ⟨below_setRow2 D4.out _⟩
    generalize W5.setRow w.heap.size #[.int .u8 2, .string y, .int .i64 v, .int .i64 (i : Int)] = W7 at XC HBC5 ⊢
    refine pure_ (i := 4) (N := some 5) (v := ?_) (a' := ?_) #[true, true, true, true, true] rfl rfl (by kernel_rfl) (fun _ _ _ h => h) (Or.inl ⟨by rfl, ?_⟩) ?_ ?_
    rotate_left
    · intro w'
      go_simp
      with_reducible rfl
    rotate_left
    · simp only [Act.put, List.setIfInBounds_toArray, List.set_cons_zero, List.set_cons_succ, i64_w, i32_w]
      rfl
    refine done_ (by kernel_rfl) ?_
    clear hHeld D4 XB HB4
    go_wp2
    obtain ⟨⟨r0, r1, r2, r3⟩, _⟩ := cells4 XC.out
    refine bodyPost_ret (v := .tuple #[.agg (tkA ⟨2, y, v, i⟩), errV (i : Int) 31]) (by simp [results, Tryz.results16, go_sem, r0, r1, r2, r3, tkA]) rfl ?_
    rw [← HPO.out]
    exact ⟨⟨⟨2, y, v, i⟩, by rw [HE.out, if_neg (by decide)], fun h => absurd (HE.out.symm.trans h) (by decide)⟩, HBC5.out⟩
theorem token_calls (s : ByteArray) (hs : s.size ≤ 140737488355328) (i : Nat) (hi : i < s.size) (w : World) (hL : Lib3 w) :
    Calls Tryz.prog 16 #[.string s, .int .i64 (i : Int)] w (TokPost (s.extract i s.size) (i : Int) w) := by
  cases hl : letterB (bt (s.extract i s.size) 0) with
  | true => exact token_letter s hs i hi w hL hl
  | false =>
    cases hd : digitB (bt (s.extract i s.size) 0) with
    | true => exact token_digit s hs i hi w hL hl hd
    | false => exact token_sign s hs i hi w hL hl hd
end Go.Proofs.YtpgdmghhbbekjaaGreatDoor.L
end
section
set_option linter.unusedVariables false
set_option linter.unusedSimpArgs false
namespace Go.Proofs.YtpgdmghhbbekjaaGreatDoor.L
open Go.RowKit Go.Proofs.YtpgdmghhbbekjaaGreatDoorW.PrintWords Go.Proofs.YtpgdmghhbbekjaaGreatDoorW.PrintLast Go.Maps
def kT : Kd Tk := Kd.iso (Kd.pair (Kd.int .u8) (Kd.pair Kd.string (Kd.pair (Kd.int .i64) (Kd.int .i64)))) (fun t : Tk => (t.k, t.t, t.n, t.a))
theorem kT_open {w : World} {x : Tk} {cs : List Value} (h : kT.K w x cs) : cs = [.int .u8 x.k, .string x.t, .int .i64 x.n, .int .i64 x.a] := by
  obtain ⟨_, _, rfl, rfl, ⟨_, _, rfl, rfl, ⟨_, _, rfl, rfl, rfl⟩⟩⟩ := h
  exact rfl
theorem kT_mkM (w : World) (base : Nat) (ok : Nat → Prop) (x : Tk) : kT.M w base ok x [.int .u8 x.k, .string x.t, .int .i64 x.n, .int .i64 x.a] :=
  ⟨[.int .u8 x.k], [.string x.t, .int .i64 x.n, .int .i64 x.a], rfl, rfl, ⟨[.string x.t], [.int .i64 x.n, .int .i64 x.a], rfl, rfl, ⟨[.int .i64 x.n], [.int .i64 x.a], rfl, rfl, rfl⟩⟩⟩
theorem tkT_size {x : ByteArray} {i : Int} (h0 : 0 < x.size) (h : tkE x = 0) : 1 ≤ (tkT x i).t.size ∧ (tkT x i).t.size ≤ x.size ∧ (tkT x i).t.size ≤ x.size := by
  have sp : ∀ p : Int → Bool, p (bt x 0) = true → 1 ≤ spn p x x.size 0 ∧ spn p x x.size 0 ≤ x.size := fun p hp => by
    obtain ⟨k, hk⟩ : ∃ k, x.size = k + 1 := ⟨x.size - 1, by omega⟩
    have := spn_le p x k 1
    rw [hk, spn, show ((0 : Nat) : Int) = 0 from rfl, if_pos hp, Nat.zero_add]
    omega
  have hnm : letterB (bt x 0) = true → namedB (bt x 0) = true := fun hl => by unfold namedB; rw [hl]; rfl
  unfold tkE at h
  unfold tkT
  by_cases hl : letterB (bt x 0) = true
  · rw [if_pos hl] at h ⊢
    have := sp namedB (hnm hl)
    show 1 ≤ (x.extract 0 _).size ∧ (x.extract 0 _).size ≤ x.size ∧ (x.extract 0 _).size ≤ x.size
    rw [ext_size x 0 _ this.2]
    omega
  · rw [if_neg hl] at h ⊢
    by_cases hd : digitB (bt x 0) = true
    · rw [if_pos hd] at h ⊢
      have := sp digitB hd
      show 1 ≤ (x.extract 0 _).size ∧ (x.extract 0 _).size ≤ x.size ∧ (x.extract 0 _).size ≤ x.size
      rw [ext_size x 0 _ this.2]
      omega
    · rw [if_neg hd] at h ⊢
      have hs := sgn_le x h0
      show 1 ≤ (x.extract 0 _).size ∧ (x.extract 0 _).size ≤ x.size ∧ (x.extract 0 _).size ≤ x.size
      rw [ext_size x 0 _ hs]
      by_cases h0 : sgnN x = 0
      · rw [if_pos h0] at h; exact absurd h (by decide)
      · omega
def tgo (s : ByteArray) : Nat → Nat → Nat → List Tk × Int × Int
  | 0, i, c => ([⟨0, ⟨#[]⟩, 0, i⟩], 0, 0)
  | n + 1, i, c =>
    if i < s.size then
      (if tkE (s.extract i s.size) ≠ 0 then ([], i, tkE (s.extract i s.size))
       else if 16384 ≤ c + 1 then ([], i, 6)
       else if (tgo s n (skp s s.size (i + (tkT (s.extract i s.size) i).t.size)) (c + 1)).2.2 = 0 then (tkT (s.extract i s.size) i :: (tgo s n (skp s s.size (i + (tkT (s.extract i s.size) i).t.size)) (c + 1)).1, 0, 0)
       else ([], (tgo s n (skp s s.size (i + (tkT (s.extract i s.size) i).t.size)) (c + 1)).2))
    else ([⟨0, ⟨#[]⟩, 0, i⟩], 0, 0)
def tkR (acc : List Tk) (r : List Tk × Int × Int) : List Tk × Int × Int := if r.2.2 = 0 then (acc ++ r.1, 0, 0) else ([], r.2)
def tokens (s : ByteArray) : List Tk × Int × Int := if 65536 < s.size then ([], 65536, 4) else tgo s (s.size + 1) (skp s s.size 0) 0
theorem tgo_fst (s : ByteArray) : ∀ n i c, (tgo s n i c).2.2 ≠ 0 → (tgo s n i c).1 = []
  | 0, i, c, h => absurd rfl h
  | n + 1, i, c, h => by
    rw [tgo] at h ⊢
    by_cases h1 : i < s.size
    · rw [if_pos h1] at h ⊢
      by_cases h2 : tkE (s.extract i s.size) ≠ 0
      · rw [if_pos h2]
      · rw [if_neg h2] at h ⊢
        by_cases h3 : 16384 ≤ c + 1
        · rw [if_pos h3]
        · rw [if_neg h3] at h ⊢
          by_cases h4 : (tgo s n (skp s s.size (i + (tkT (s.extract i s.size) i).t.size)) (c + 1)).2.2 = 0
          · rw [if_pos h4] at h; exact absurd rfl h
          · rw [if_neg h4]
    · rw [if_neg h1] at h; exact absurd rfl h
theorem tokens_zero (s : ByteArray) : tokens s = if 65536 < s.size then ([], 65536, 4) else tkR [] (tgo s (s.size + 1) (skp s s.size 0) 0) := by
  unfold tokens
  split
  · rfl
  · unfold tkR
    have h0 : ∀ n i c, (tgo s n i c).2.2 = 0 → (tgo s n i c).2.1 = 0 := by
      intro n
      induction n with
      | zero => intro i c h; rfl
      | succ n ih =>
        intro i c h
        rw [tgo] at h ⊢
        by_cases h1 : i < s.size
        · rw [if_pos h1] at h ⊢
          by_cases h2 : tkE (s.extract i s.size) ≠ 0
          · rw [if_pos h2] at h; exact absurd h h2
          · rw [if_neg h2] at h ⊢
            by_cases h3 : 16384 ≤ c + 1
            · rw [if_pos h3] at h; exact absurd h (show ¬ (6 : Int) = 0 by decide)
            · rw [if_neg h3] at h ⊢
              by_cases h4 : (tgo s n (skp s s.size (i + (tkT (s.extract i s.size) i).t.size)) (c + 1)).2.2 = 0
              · rw [if_pos h4]
              · rw [if_neg h4] at h; exact absurd h h4
        · rw [if_neg h1]
    by_cases h : (tgo s (s.size + 1) (skp s s.size 0) 0).2.2 = 0
    · rw [if_pos h, List.nil_append]
      have := h0 _ _ _ h
      exact Prod.ext rfl (Prod.ext this h)
    · rw [if_neg h, ← tgo_fst s _ _ _ h]
theorem tgo_step {s : ByteArray} {n i c : Nat} {acc : List Tk} (hc : acc.length = c) (h1 : i < s.size) (h2 : tkE (s.extract i s.size) = 0) (h3 : ¬ 16384 ≤ c + 1) :
    tkR acc (tgo s (n + 1) i c) = tkR (acc ++ [tkT (s.extract i s.size) i]) (tgo s n (skp s s.size (i + (tkT (s.extract i s.size) i).t.size)) (c + 1)) := by
  rw [tgo, if_pos h1, if_neg (by rw [h2]; decide), if_neg h3]
  unfold tkR
  by_cases h4 : (tgo s n (skp s s.size (i + (tkT (s.extract i s.size) i).t.size)) (c + 1)).2.2 = 0
  · rw [if_pos h4, if_pos h4]
    simp
  · rw [if_neg h4, if_neg h4, if_neg h4]
def faultV (r : Int × Int) : Value := if r.2 = 0 then .nilIface else errV r.1 r.2
def ToksPost (r : List Tk × Int × Int) (w : World) (e : Ending) (w' : World) : Prop :=
  (∃ v, e = .returned (.tuple #[v, faultV r.2]) ∧ Kd.R kT 39 w' w.heap.size (fun _ => True) v r.1) ∧ Below w.heap.size w w'
end Go.Proofs.YtpgdmghhbbekjaaGreatDoor.L
end
section
set_option linter.unusedVariables false
set_option linter.unusedSimpArgs false
namespace Go.Proofs.YtpgdmghhbbekjaaGreatDoor.L
open Go.RowKit Go.Proofs.YtpgdmghhbbekjaaGreatDoorW.PrintWords Go.Proofs.YtpgdmghhbbekjaaGreatDoorW.PrintLast Go.Maps
theorem bytes_eq {a b : ByteArray} (h : a.data.toList = b.data.toList) : a = b := by
  cases a; cases b
  congr
  exact Array.toList_inj.1 h
theorem drop_more {α : Type} {l : List α} {i : Nat} {c : α} {r : List α} (h : l.drop i = c :: r) : l.drop (i + 1) = r := by
  have := congrArg (List.drop 1) h
  rw [List.drop_drop] at this
  simpa using this
theorem bt_drop {y : ByteArray} {i : Nat} {c : UInt8} {r : List UInt8} (h : y.data.toList.drop i = c :: r) : bt y (i : Int) = (c.toNat : Int) ∧ i < y.size := by
  have h2 : i < y.data.toList.length := by
    rcases Nat.lt_or_ge i y.data.toList.length with h3 | h3
    · exact h3
    · rw [List.drop_of_length_le h3] at h; cases h
  rw [List.drop_eq_getElem_cons h2] at h
  injection h with h _
  refine ⟨?_, by rw [← len_list]; exact h2⟩
  rw [bt_list, List.getD_eq_getElem?_getD, List.getElem?_eq_getElem h2, h]
  rfl
theorem sec_two {y : ByteArray} {a b : UInt8} {r : List UInt8} (h : y.data.toList = a :: b :: r) (v : UInt8) : secB y v = ((b.toNat : Int) == (v.toNat : Int)) := by
  have h1 : y.data.toList.drop 1 = b :: r := by rw [h]; rfl
  obtain ⟨e, hl⟩ := bt_drop h1
  unfold secB
  rw [show (1 : Int) = ((1 : Nat) : Int) from rfl, e, decide_eq_true hl]
  rfl
theorem skp_fuel (s : ByteArray) : ∀ n m i, s.size - i ≤ n → s.size - i ≤ m → skp s n i = skp s m i
  | 0, 0, i, _, _ => rfl
  | 0, m + 1, i, h1, _ => by rw [skp, skp, if_neg (by omega)]
  | n + 1, 0, i, _, h2 => by rw [skp, skp, if_neg (by omega)]
  | n + 1, m + 1, i, h1, h2 => by
    rw [skp, skp]
    by_cases h : i < s.size
    · rw [if_pos h, if_pos h]
      by_cases h3 : bt s (i : Int) = 45
      · rw [if_pos h3, if_pos h3]
        by_cases h4 : dash s i = true
        · rw [if_pos h4, if_pos h4]
          have := spn_dash h4
          exact skp_fuel s n m _ (by omega) (by omega)
        · rw [if_neg h4, if_neg h4]
      · rw [if_neg h3, if_neg h3]
        split
        · exact skp_fuel s n m _ (by omega) (by omega)
        · rfl
    · rw [if_neg h, if_neg h]
end Go.Proofs.YtpgdmghhbbekjaaGreatDoor.L
end
section
namespace Go.Proofs.YtpgdmghhbbekjaaGreatDoorW.PrintWords
open Go.RowKit
section
variable {P : Program} {d : Nat} {xs ys : Array Value} {f : Field} {fs : List Field} {a b : Value} {r s : Bool} {w : World}
theorem eqf_last (hn : (f.name == "_") = false) (ha : (part f.type xs f.offset).run P w = .ok a w) (hb : (part f.type ys f.offset).run P w = .ok b w) (he : (Op.equalIn d f.type a b).run P w = .ok r w) : (Op.eqFields d xs ys [f]).run P w = .ok r w := by
  have hn' : f.name ≠ "_" := by simpa using hn
  simp only [Op.eqFields, if_pos hn', Sem.run_bind, ha, hb, he, Result.andThen_ok]
  cases r <;> simp
theorem eqf_cons (hn : (f.name == "_") = false) (ha : (part f.type xs f.offset).run P w = .ok a w) (hb : (part f.type ys f.offset).run P w = .ok b w) (he : (Op.equalIn d f.type a b).run P w = .ok r w) (hr : (Op.eqFields d xs ys fs).run P w = .ok s w) : (Op.eqFields d xs ys (f :: fs)).run P w = .ok (r && s) w := by
  have hn' : f.name ≠ "_" := by simpa using hn
  rw [Op.eqFields]
  simp only [if_pos hn', Sem.run_bind, ha, hb, he, Result.andThen_ok]
  cases r
  · simp
  · simpa using hr
theorem eqA_of {t : TypeId} {fs : Array Field} (hu : P.underlying t = some (.struct fs)) (hp : P.stoodInHeld t = false) (h : (Op.eqFields d xs ys fs.toList).run P w = .ok r w) : (Op.equalIn (d + 1) t (.agg xs) (.agg ys)).run P w = .ok r w := by
  have hf : P.fieldsOf t = fs := by simp [Program.fieldsOf, hu]
  rw [run_equalIn_struct (P := P) w d t xs ys (by rw [hf]; exact hu) hp, hf]
  exact h
end
end Go.Proofs.YtpgdmghhbbekjaaGreatDoorW.PrintWords
end
