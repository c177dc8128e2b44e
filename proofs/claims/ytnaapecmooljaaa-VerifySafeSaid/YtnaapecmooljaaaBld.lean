/- strings.Builder: copyCheck, WriteByte and String, of a builder that the call itself made. The conditions: the new length is at most 2^47 bytes. -/
import Derived.Test.YtnaapecmooljaaaD18
import Derived.Shelf.Strings.BuilderK
import Derived.KernelRfl
import Derived.Lib.Hide
set_option linter.unusedVariables false
namespace Go.Proofs.Ytnaapecmooljaaa.H
open Go.Shelf Go.RowKit Go.Proofs.YtnaapecmooljaaaW.PrintWords
theorem to_u (b : Nat) (w : World) (hsh : w.shape? b = some (69, 2)) : (convert 66 103 (.pointer (some ⟨b, 0, none⟩))).run Try.prog w = .ok (.pointer (some ⟨b, 0, none⟩)) w := by
  have hX : (Try.prog.info? 69).map (·.size) = some 2 := by kernel_rfl
  obtain ⟨j, hj, hjs⟩ := Option.map_eq_some_iff.1 hX
  exact Lib.run_to_unsafe w ⟨b, 0, none⟩ Try.underlying66 Try.underlying103 hj (by rw [hjs]; decide) hsh (Nat.zero_lt_succ 1)
theorem from_u (b : Nat) (w : World) (hsh : w.shape? b = some (69, 2)) : (convert 103 66 (.pointer (some ⟨b, 0, none⟩))).run Try.prog w = .ok (.pointer (some ⟨b, 0, none⟩)) w := by
  have hX : (Try.prog.info? 69).map (·.size) = some 2 := by kernel_rfl
  have hY : liesAt Try.prog Try.prog.depth 69 (2 / Try.prog.cellsOf 69) 0 69 1 = true := by kernel_rfl
  obtain ⟨j, hj, hjs⟩ := Option.map_eq_some_iff.1 hX
  exact Lib.run_from_unsafe w ⟨b, 0, none⟩ Try.underlying103 Try.underlying66 hj hsh hY
theorem neq_p (a : Addr) (w : World) : (binOp .neq 66 (.pointer (some a)) (.pointer (some a))).run Try.prog w = .ok (.bool false) w := by
  have hX : (Try.prog.info? 69).map (·.size) = some 2 := by kernel_rfl
  obtain ⟨j, hj, hjs⟩ := Option.map_eq_some_iff.1 hX
  exact Lib.run_neq_ptr_same w _ Try.underlying66 hj
set_option maxRecDepth 100000 in
set_option maxHeartbeats 1000000 in
theorem bld_fresh (b : Nat) (w : World) (h0 : w.cell? ⟨b, 0, none⟩ = some (.pointer none)) (hsh : w.shape? b = some (69, 2)) (hfz : w.frozen? ⟨b, 0, none⟩ = false) :
    Calls Try.prog 52 #[.pointer (some ⟨b, 0, none⟩)] w fun e w' => e = .returned (.tuple #[]) ∧ w' = w.setCell ⟨b, 0, none⟩ (.pointer (some ⟨b, 0, none⟩)) := by
  have HS := Lib.hid hsh
  clear hsh
  go_enter Try.func52, Try.ntmps52
  go_wp2
  rw [to_u b w HS.out]
  simp only [Result.andThen]
  rw [Oper.upon_value]
  go_wp2
  rw [run_callFunc_extern (f := 55) Try.func55 (by kernel_rfl) (by kernel_rfl) (by kernel_rfl) (e := Extern.AbiNoEscape.same) (by kernel_rfl)]
  rw [Lib.run_noEscape]
  simp only [Result.andThen]
  rw [Oper.upon_value]
  go_wp2
  rw [from_u b w HS.out]
  simp only [Result.andThen]
  rw [Oper.upon_value]
  go_wp2
  go_end0
  exact ⟨rfl, rfl⟩
set_option maxRecDepth 100000 in
set_option maxHeartbeats 1000000 in
theorem bld_used (b : Nat) (w : World) (h0 : w.cell? ⟨b, 0, none⟩ = some (.pointer (some ⟨b, 0, none⟩))) :
    Calls Try.prog 52 #[.pointer (some ⟨b, 0, none⟩)] w fun e w' => e = .returned (.tuple #[]) ∧ w' = w := by
  go_enter Try.func52, Try.ntmps52
  go_wp2
  rw [neq_p]
  go_wp2
  go_end0
  exact ⟨rfl, rfl⟩
theorem bld_check (B b : Nat) (bs : List Value) (w : World) (h : Lib.IsBuilderF 69 5 B b bs w) :
    Calls Try.prog 52 #[.pointer (some ⟨b, 0, none⟩)] w fun e w' => e = .returned (.tuple #[]) ∧ (Lib.BuilderAtF 69 5 B b (.pointer (some ⟨b, 0, none⟩)) bs w' ∧ Below B w w' ∧ Lib.OthersKept 5 (some b) w w') := by
  rcases h with h | h
  · refine (bld_fresh b w h.cell0 h.shape h.frozen0).mono ?_
    rintro e w' ⟨rfl, rfl⟩
    exact ⟨rfl, h.used _, (Below.refl B w).setCell (p := ⟨b, 0, none⟩) h.1 _, (Lib.OthersKept.refl _ _ w).setCell ⟨b, 0, none⟩ rfl _⟩
  · refine (bld_used b w h.cell0).mono ?_
    rintro e w' ⟨rfl, rfl⟩
    exact ⟨rfl, h, Below.refl B _, Lib.OthersKept.refl _ _ _⟩
set_option maxHeartbeats 2000000 in
set_option maxRecDepth 100000 in
theorem bld_write (B b : Nat) (bs : List Value) (c : Int) (w : World) (h : Lib.IsBuilderF 69 5 B b bs w) (hlen : bs.length + 1 ≤ 140737488355328) (hBw : B ≤ w.heap.size) :
    Calls Try.prog 39 #[.pointer (some ⟨b, 0, none⟩), .int .u8 c] w fun e w' => e = .returned .nilIface ∧ (Lib.BuilderAtF 69 5 B b (.pointer (some ⟨b, 0, none⟩)) (bs ++ [.int .u8 c]) w' ∧ Below B w w' ∧ Lib.OthersKept 5 (some b) w w') := by
  have hI : (Try.prog.info? 5).map (fun i => (i.zero, i.size, i.bytes)) = some (some (.int .u8 0), 1, 1) := by kernel_rfl
  obtain ⟨i0, hi, hz0, hz1, hz2⟩ := info_parts hI
  clear hI
  go_enter Try.func39, Try.ntmps39
  go_wp2_with (go_at_call 52; refine (bld_check B b bs _ h).mono ?_)
  rintro e w1 ⟨rfl, h1, hb1, hk1⟩
  obtain ⟨hB, v, hbk, hown, hne⟩ := h1
  have c0 : w1.cell? ⟨b, 0, none⟩ = some (.pointer (some ⟨b, 0, none⟩)) := by rw [Lib.cell_of_heap hbk]; rfl
  have c1 : w1.cell? ⟨b, 1, none⟩ = some v := by rw [Lib.cell_of_heap hbk]; rfl
  go_wp2_with (at_builtin; refine wpList_append_ownF _ rfl _ _ 67 rfl B 5 i0 (.int .u8 0) 1 1 Try.underlying67 hi hz0 hz1 hz2 rfl (by decide) _ _ _ rfl (hown.alloc _) ⟨w1.heap.size, 0, none⟩ 1 1 [.int .u8 c] rfl rfl ?c1 ?c2 ?c3 ?c4 ?c5 ?_)
  case c1 =>
    intro j u hj
    match j, hj with
    | 0, hj => simp at hj; subst hj; simp [Addr.add]
  case c2 => intro u hu; simp at hu; subst hu; rfl
  case c3 => unfold maxLen; omega
  case c4 => omega
  case c5 => have := hb1.size; simp; omega
  intro v' w2 hown' hgrow _
  have hlt : b < w1.heap.size := by
    rcases Nat.lt_or_ge b w1.heap.size with h' | h'
    · exact h'
    · simp [Array.getElem?_eq_none h'] at hbk
  have hb2 : w2.heap[b]? = some (.cells #[.pointer (some ⟨b, 0, none⟩), v] 69 (0, 0)) := by
    rw [hgrow.block b (by simp; omega) (fun e => hne e.symm), Lib.alloc_old w1 _ b hlt]
    exact hbk
  have d0 : w2.cell? ⟨b, 0, none⟩ = some (.pointer (some ⟨b, 0, none⟩)) := by rw [Lib.cell_of_heap hb2]; rfl
  have d1 : w2.cell? ⟨b, 1, none⟩ = some v := by rw [Lib.cell_of_heap hb2]; rfl
  have f1 : w2.frozen? ⟨b, 1, none⟩ = false := Lib.frozen_of_heap hb2 1
  obtain ⟨g, cap, rfl⟩ : ∃ g cap, v' = .slice (some ⟨g, 0, none⟩) (bs.length + 1) cap := by
    rcases hown'.2 with ⟨_, h0⟩ | ⟨g, cap, cur, fz, hv, _⟩
    · omega
    · exact ⟨g, cap, hv⟩
  go_wp2
  go_ret
  refine ⟨rfl, ?_, ?_, ((hk1.alloc _).grown hgrow (Lib.ownsRowF_kind (hown.alloc _))).setCell ⟨b, 1, none⟩ rfl _⟩
  · exact Lib.BuilderAtF.put (T := 69) (e := 5) hB hb2 (bs' := bs ++ [.int .u8 c]) (by simpa using hown') (by decide)
  · exact ((hb1.alloc (by have := hb1.size; omega) _).grown hgrow (by have := hb1.size; simp; omega) (fun k hk => (hown.lt k hk).1)).setCell (p := ⟨b, 1, none⟩) hB _
def lays169_ren : Go.Shelf.Ren := ⟨fun | 169 => 40 | n => n, fun | 70 => 66 | 9 => 9 | 0 => 0 | 72 => 69 | 37 => 67 | 127 => 99 | 3 => 3 | 5 => 5 | n => n, fun | n => n⟩
theorem lays169 : Go.Proofs.Lays.n169 Try.prog lays169_ren := {
  mixed := by kernel_rfl
  f169 := Try.func40.trans (congrArg some (by kernel_rfl))
  t0 := Try.underlying0
  a0 := Try.isAgg0
  z0 := Try.sizeOf0
  v0 := Try.zeroValue0
  t3 := Try.underlying3
  a3 := Try.isAgg3
  z3 := Try.sizeOf3
  v3 := Try.zeroValue3
  t9 := Try.underlying9
  a9 := Try.isAgg9
  z9 := Try.sizeOf9
  v9 := Try.zeroValue9
  t37 := Try.underlying67
  a37 := Try.isAgg67
  z37 := Try.sizeOf67
  v37 := Try.zeroValue67
  t70 := Try.underlying66
  a70 := Try.isAgg66
  z70 := Try.sizeOf66
  v70 := Try.zeroValue66
  t72 := Try.underlying69
  a72 := Try.isAgg69
  z72 := Try.sizeOf69
  v72 := Try.zeroValue69
  t127 := Try.underlying99
  a127 := Try.isAgg99
  z127 := Try.sizeOf99
  v127 := Try.zeroValue99 }
theorem builder_extra : Builder.Extra Try.prog lays169_ren := {
  sizeBuilder := by kernel_rfl
  liesBuilder := by kernel_rfl
  t5 := Try.underlying5
  a5 := Try.isAgg5
  z5 := Try.sizeOf5
  v5 := Try.zeroValue5
  infoByte := by kernel_rfl
  cellsByte := by kernel_rfl
  sizeByte := by kernel_rfl
  neB5 := by decide }
theorem bld_string (B b : Nat) (l : List UInt8) (w : World) (h : Lib.IsBuilderF 69 5 B b (Lib.byteCells l) w) (hBw : B ≤ w.heap.size) :
    Calls Try.prog 40 #[.pointer (some ⟨b, 0, none⟩)] w fun e w' => e = .returned (.string ⟨l.toArray⟩) ∧ (Lib.IsBuilderF 69 5 B b (Lib.byteCells l) w' ∧ Below B w w' ∧ Lib.OthersKept 5 (some b) w w') := Any.Builder_String_any_k lays169 builder_extra B b l w h hBw
theorem isB_below {T e : TypeId} {B b : Nat} {bs : List Value} {w w1 : World} (h : Lib.IsBuilderF T e B b bs w) (hb : Below w.heap.size w w1) : Lib.IsBuilderF T e B b bs w1 := by
  have key : ∀ p, Lib.BuilderAtF T e B b p bs w → Lib.BuilderAtF T e B b p bs w1 := by
    intro p h
    have hl := h.lt
    obtain ⟨hB, v, hk, ho, hn⟩ := h
    exact ⟨hB, v, (hb.block b hl).trans hk, ho.kept (grown_of_below hb none) (by cases v.ownBlock <;> simp), hn⟩
  exact h.imp (key _) (key _)
/-- A builder of the call's own, and an instruction in a box behind it. -/
structure St (w : World) (bs : List Int) (bx : Nat) (i : S26) (W : World) : Prop where
  bld : Lib.IsBuilderF 69 5 w.heap.size w.heap.size (nums .u8 bs) W
  box : W.heap[bx]? = some (.cells #[.int .u8 i.f0, .int .i64 i.f1] 26 (0, 0))
  lt : w.heap.size < bx
  bel : Below w.heap.size w W
theorem St.new {w W : World} {bs : List Int} (i : S26) (h : Lib.IsBuilderF 69 5 w.heap.size w.heap.size (nums .u8 bs) W) (hb : Below w.heap.size w W) : St w bs W.heap.size i (W.alloc (.cells #[.int .u8 i.f0, .int .i64 i.f1] 26)) where
  bld := h.alloc _
  box := heap_alloc_new W _
  lt := by rcases h with h | h <;> exact h.lt
  bel := hb.alloc hb.size _
theorem St.below {w W W1 : World} {bs : List Int} {bx : Nat} {i : S26} (h : St w bs bx i W) (hb : Below W.heap.size W W1) : St w bs bx i W1 where
  bld := isB_below h.bld hb
  box := (hb.block bx (by have := (Array.getElem?_eq_some_iff.1 h.box).1; exact this)).trans h.box
  lt := h.lt
  bel := h.bel.trans (hb.mono h.bel.size)
theorem St.cell0 {w W : World} {bs : List Int} {bx : Nat} {i : S26} (h : St w bs bx i W) : W.cell? ⟨bx, 0, none⟩ = some (.int .u8 i.f0) := by rw [Lib.cell_of_heap h.box]; rfl
theorem St.cell1 {w W : World} {bs : List Int} {bx : Nat} {i : S26} (h : St w bs bx i W) : W.cell? ⟨bx, 1, none⟩ = some (.int .i64 i.f1) := by rw [Lib.cell_of_heap h.box]; rfl
theorem St.write {w W : World} {bs : List Int} {bx : Nat} {i : S26} (h : St w bs bx i W) (c : Int) (hl : bs.length + 1 ≤ 140737488355328) :
    Calls Try.prog 39 #[.pointer (some ⟨w.heap.size, 0, none⟩), .int .u8 c] W fun e W1 => e = .returned .nilIface ∧ St w (bs ++ [c]) bx i W1 := by
  refine (bld_write w.heap.size w.heap.size (nums .u8 bs) c W h.bld (by rw [nums_length]; exact hl) h.bel.size).mono ?_
  rintro e W1 ⟨rfl, h1, h2, h3⟩
  refine ⟨rfl, ?_, ?_, h.lt, h.bel.trans h2⟩
  · have := Or.inr (a := Lib.BuilderAtF 69 5 w.heap.size w.heap.size (.pointer none) (nums .u8 bs ++ [.int .u8 c]) W1) h1
    unfold Lib.IsBuilderF
    simpa [nums] using this
  · exact h3 bx _ h.box (fun e => by have := h.lt; injection e with e; omega) (by intro c f e; injection e with _ e; exact absurd e (by decide))
end Go.Proofs.Ytnaapecmooljaaa.H
