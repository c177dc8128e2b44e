/- Part 3 of the proof of the law LL. The conditions: none. (Its parts: Lxf Lxg.) -/
import Derived.Deep.MidRow
import Derived.Laws.Tables
import Derived.Test.YtpgdmghhbbekjaaGreatDoorKLL02
section
set_option linter.unusedVariables false
set_option linter.unusedSimpArgs false
namespace Go.Proofs.YtpgdmghhbbekjaaGreatDoor.L
open Go.RowKit Go.Proofs.YtpgdmghhbbekjaaGreatDoorW.PrintWords Go.Proofs.YtpgdmghhbbekjaaGreatDoorW.PrintLast Go.Maps
set_option maxHeartbeats 8000000 in
set_option maxRecDepth 100000 in
theorem sign_calls (s : ByteArray) (h0 : 0 < s.size) (w : World) : Calls Tryz.prog 32 #[.string s] w fun e w' => e = .returned (.int .i64 (sgnN s : Nat)) ∧ Below w.heap.size w w' := by
  have hmf : ∀ (fn : Fn) (first cap : Array Value) (w : World), (Instr.makeFunc fn first cap).run Tryz.prog w = .ok (.func fn first cap) w := fun _ _ _ _ => rfl
  have HB := Aside0.mk ((Below.refl w.heap.size w).alloc (Nat.le_refl _) (.cells #[.string s] (9 : Nat)))
  have hcell : (w.alloc (.cells #[.string s] (9 : Nat))).cell? ⟨w.heap.size, 0, none⟩ = some (.string s) := by simp
  have HC := Aside0.mk hcell
  obtain ⟨c, hbc⟩ : ∃ c, bt s 0 = c := ⟨_, rfl⟩
  have hx6 : ((s[0]'h0).toNat : Int) = c := by have := bt_at s 0 (by simpa using h0); rw [← hbc]; simpa using this
  have q6 : ((0 : Int) < (s.size : Int)) = True := eq_true (by omega)
  obtain ⟨res, hres⟩ : ∃ r : Nat, sgnN s = r := ⟨_, rfl⟩
  rw [hres]
  unfold sgnN at hres
  rw [hbc] at hres
  clear hcell hbc
  by_cases e126 : c = 126
  · subst e126
    cases hb : secB s 62 with
    | true =>
      obtain rfl : 2 = res := by rw [hb] at hres; simpa using hres
      have HBB := Aside0.mk hb
      clear hres hb
      go_enter Tryz.func32, Tryz.ntmps32
      go_wp2_with fail
      refine (sec_calls s 62 _ _ HC.out).mono ?_
      rintro e w' ⟨rfl, rfl⟩
      rw [HBB.out]
      unfold secN
      go_wp2
      go_ret
      exact ⟨rfl, HB.out⟩
    | false =>
      obtain rfl : 0 = res := by rw [hb] at hres; simpa using hres
      have HBB := Aside0.mk hb
      clear hres hb
      go_enter Tryz.func32, Tryz.ntmps32
      go_wp2_with fail
      refine (sec_calls s 62 _ _ HC.out).mono ?_
      rintro e w' ⟨rfl, rfl⟩
      rw [HBB.out]
      unfold secN
      go_wp2
      go_ret
      exact ⟨rfl, HB.out⟩
  by_cases e42 : c = 42
  · subst e42
    cases hb : secB s 94 with
    | true =>
      obtain rfl : 2 = res := by rw [hb] at hres; simpa using hres
      have HBB := Aside0.mk hb
      clear hres hb
      go_enter Tryz.func32, Tryz.ntmps32
      go_wp2_with fail
      refine (sec_calls s 94 _ _ HC.out).mono ?_
      rintro e w' ⟨rfl, rfl⟩
      rw [HBB.out]
      unfold secN
      go_wp2
      go_ret
      exact ⟨rfl, HB.out⟩
    | false =>
      obtain rfl : 1 = res := by rw [hb] at hres; simpa using hres
      have HBB := Aside0.mk hb
      clear hres hb
      go_enter Tryz.func32, Tryz.ntmps32
      go_wp2_with fail
      refine (sec_calls s 94 _ _ HC.out).mono ?_
      rintro e w' ⟨rfl, rfl⟩
      rw [HBB.out]
      unfold secN
      go_wp2
      go_ret
      exact ⟨rfl, HB.out⟩
  by_cases e47 : c = 47
  · subst e47
    cases hb : secB s 94 with
    | true =>
      obtain rfl : 2 = res := by rw [hb] at hres; simpa using hres
      have HBB := Aside0.mk hb
      clear hres hb
      go_enter Tryz.func32, Tryz.ntmps32
      go_wp2_with fail
      refine (sec_calls s 94 _ _ HC.out).mono ?_
      rintro e w' ⟨rfl, rfl⟩
      rw [HBB.out]
      unfold secN
      go_wp2
      go_ret
      exact ⟨rfl, HB.out⟩
    | false =>
      obtain rfl : 1 = res := by rw [hb] at hres; simpa using hres
      have HBB := Aside0.mk hb
      clear hres hb
      go_enter Tryz.func32, Tryz.ntmps32
      go_wp2_with fail
      refine (sec_calls s 94 _ _ HC.out).mono ?_
      rintro e w' ⟨rfl, rfl⟩
      rw [HBB.out]
      unfold secN
      go_wp2
      go_ret
      exact ⟨rfl, HB.out⟩
  by_cases e58 : c = 58
  · subst e58
    cases hb : secB s 58 with
    | true =>
      obtain rfl : 2 = res := by rw [hb] at hres; simpa using hres
      have HBB := Aside0.mk hb
      clear hres hb
      go_enter Tryz.func32, Tryz.ntmps32
      go_wp2_with fail
      refine (sec_calls s 58 _ _ HC.out).mono ?_
      rintro e w' ⟨rfl, rfl⟩
      rw [HBB.out]
      unfold secN
      go_wp2
      go_ret
      exact ⟨rfl, HB.out⟩
    | false =>
      obtain rfl : 1 = res := by rw [hb] at hres; simpa using hres
      have HBB := Aside0.mk hb
      clear hres hb
      go_enter Tryz.func32, Tryz.ntmps32
      go_wp2_with fail
      refine (sec_calls s 58 _ _ HC.out).mono ?_
      rintro e w' ⟨rfl, rfl⟩
      rw [HBB.out]
      unfold secN
      go_wp2
      go_ret
      exact ⟨rfl, HB.out⟩
  by_cases e60 : c = 60
  · subst e60
    cases hb : secB s 62 with
    | true =>
      obtain rfl : 2 = res := by rw [hb] at hres; simpa using hres
      have HBB := Aside0.mk hb
      clear hres hb
      go_enter Tryz.func32, Tryz.ntmps32
      go_wp2_with fail
      refine (sec_calls s 62 _ _ HC.out).mono ?_
      rintro e w' ⟨rfl, rfl⟩
      rw [HBB.out]
      unfold secN
      go_wp2
      go_ret
      exact ⟨rfl, HB.out⟩
    | false =>
      cases hb2 : secB s 61 with
      | true =>
        obtain rfl : 2 = res := by rw [hb, hb2] at hres; simpa using hres
        have HBB := Aside0.mk hb
        have HBC := Aside0.mk hb2
        clear hres hb hb2
        go_enter Tryz.func32, Tryz.ntmps32
        go_wp2_with fail
        refine (sec_calls s 62 _ _ HC.out).mono ?_
        rintro e w' ⟨rfl, rfl⟩
        rw [HBB.out]
        unfold secN
        go_wp2_with fail
        refine (sec_calls s 61 _ _ HC.out).mono ?_
        rintro e w' ⟨rfl, rfl⟩
        rw [HBC.out]
        unfold secN
        go_wp2
        go_ret
        exact ⟨rfl, HB.out⟩
      | false =>
        obtain rfl : 1 = res := by rw [hb, hb2] at hres; simpa using hres
        have HBB := Aside0.mk hb
        have HBC := Aside0.mk hb2
        clear hres hb hb2
        go_enter Tryz.func32, Tryz.ntmps32
        go_wp2_with fail
        refine (sec_calls s 62 _ _ HC.out).mono ?_
        rintro e w' ⟨rfl, rfl⟩
        rw [HBB.out]
        unfold secN
        go_wp2_with fail
        refine (sec_calls s 61 _ _ HC.out).mono ?_
        rintro e w' ⟨rfl, rfl⟩
        rw [HBC.out]
        unfold secN
        go_wp2
        go_ret
        exact ⟨rfl, HB.out⟩
  by_cases e62 : c = 62
  · subst e62
    cases hb : secB s 61 with
    | true =>
      obtain rfl : 2 = res := by rw [hb] at hres; simpa using hres
      have HBB := Aside0.mk hb
      clear hres hb
      go_enter Tryz.func32, Tryz.ntmps32
      go_wp2_with fail
      refine (sec_calls s 61 _ _ HC.out).mono ?_
      rintro e w' ⟨rfl, rfl⟩
      rw [HBB.out]
      unfold secN
      go_wp2
      go_ret
      exact ⟨rfl, HB.out⟩
    | false =>
      obtain rfl : 1 = res := by rw [hb] at hres; simpa using hres
      have HBB := Aside0.mk hb
      clear hres hb
      go_enter Tryz.func32, Tryz.ntmps32
      go_wp2_with fail
      refine (sec_calls s 61 _ _ HC.out).mono ?_
      rintro e w' ⟨rfl, rfl⟩
      rw [HBB.out]
      unfold secN
      go_wp2
      go_ret
      exact ⟨rfl, HB.out⟩
  by_cases e40 : c = 40
  · subst e40
    obtain rfl : 1 = res := by simpa using hres
    clear hres
    go_enter Tryz.func32, Tryz.ntmps32
    go_wp2
    go_ret
    exact ⟨rfl, HB.out⟩
  by_cases e41 : c = 41
  · subst e41
    obtain rfl : 1 = res := by simpa using hres
    clear hres
    go_enter Tryz.func32, Tryz.ntmps32
    go_wp2
    go_ret
    exact ⟨rfl, HB.out⟩
  by_cases e59 : c = 59
  · subst e59
    obtain rfl : 1 = res := by simpa using hres
    clear hres
    go_enter Tryz.func32, Tryz.ntmps32
    go_wp2
    go_ret
    exact ⟨rfl, HB.out⟩
  by_cases e44 : c = 44
  · subst e44
    obtain rfl : 1 = res := by simpa using hres
    clear hres
    go_enter Tryz.func32, Tryz.ntmps32
    go_wp2
    go_ret
    exact ⟨rfl, HB.out⟩
  by_cases e61 : c = 61
  · subst e61
    obtain rfl : 1 = res := by simpa using hres
    clear hres
    go_enter Tryz.func32, Tryz.ntmps32
    go_wp2
    go_ret
    exact ⟨rfl, HB.out⟩
  by_cases e43 : c = 43
  · subst e43
    obtain rfl : 1 = res := by simpa using hres
    clear hres
    go_enter Tryz.func32, Tryz.ntmps32
    go_wp2
    go_ret
    exact ⟨rfl, HB.out⟩
  by_cases e45 : c = 45
  · subst e45
    obtain rfl : 1 = res := by simpa using hres
    clear hres
    go_enter Tryz.func32, Tryz.ntmps32
    go_wp2
    go_ret
    exact ⟨rfl, HB.out⟩
  by_cases e37 : c = 37
  · subst e37
    obtain rfl : 1 = res := by simpa using hres
    clear hres
    go_enter Tryz.func32, Tryz.ntmps32
    go_wp2
    go_ret
    exact ⟨rfl, HB.out⟩
  obtain rfl : 0 = res := by simpa [e126, e42, e47, e58, e60, e62, e40, e41, e59, e44, e61, e43, e45, e37] using hres
  have d126 : (c == 126) = false := by simpa using e126
  have d42 : (c == 42) = false := by simpa using e42
  have d47 : (c == 47) = false := by simpa using e47
  have d58 : (c == 58) = false := by simpa using e58
  have d60 : (c == 60) = false := by simpa using e60
  have d62 : (c == 62) = false := by simpa using e62
  have d40 : (c == 40) = false := by simpa using e40
  have d41 : (c == 41) = false := by simpa using e41
  have d59 : (c == 59) = false := by simpa using e59
  have d44 : (c == 44) = false := by simpa using e44
  have d61 : (c == 61) = false := by simpa using e61
  have d43 : (c == 43) = false := by simpa using e43
  have d45 : (c == 45) = false := by simpa using e45
  have d37 : (c == 37) = false := by simpa using e37
  clear hres e126 e42 e47 e58 e60 e62 e40 e41 e59 e44 e61 e43 e45 e37
  go_enter Tryz.func32, Tryz.ntmps32
  go_wp2
  go_ret
  exact ⟨rfl, HB.out⟩
end Go.Proofs.YtpgdmghhbbekjaaGreatDoor.L
end
section
set_option linter.unusedVariables false
set_option linter.unusedSimpArgs false
namespace Go.Proofs.YtpgdmghhbbekjaaGreatDoor.L
open Go.RowKit Go.Proofs.YtpgdmghhbbekjaaGreatDoorW.PrintWords Go.Proofs.YtpgdmghhbbekjaaGreatDoorW.PrintLast Go.Maps
structure Tk where
  k : Int
  t : ByteArray
  n : Int
  a : Int
def tkA (t : Tk) : Array Value := #[.int .u8 t.k, .string t.t, .int .i64 t.n, .int .i64 t.a]
def errV (at_ e : Int) : Value := .iface 63 (.agg #[.int .i64 at_, .int .i64 e])
theorem fault_calls (at_ e0 : Int) (w : World) : Calls Tryz.prog 14 #[.int .i64 at_, .int .i64 e0] w fun e w' => e = .returned (errV at_ e0) ∧ w = w' := by
  go_enter Tryz.func14, Tryz.ntmps14
  go_wp2
  go_ret
  exact ⟨rfl, rfl⟩
theorem underT : ∃ fs, Tryz.prog.underlying 39 = some (.struct fs) := by
  have h : (Tryz.prog.underlying 39).map (fun d => match d with | .struct _ => true | _ => false) = some true := by kernel_rfl
  cases hd : Tryz.prog.underlying 39 with
  | none => rw [hd] at h; cases h
  | some d =>
    rw [hd] at h
    cases d <;> simp at h
    exact ⟨_, rfl⟩
theorem infoT : (Tryz.prog.info? 39).map (·.size) = some 4 := by kernel_rfl
theorem zeroT (w : World) : (zeroValue 39).run Tryz.prog w = .ok (.agg #[.int .u8 0, .string ⟨#[]⟩, .int .i64 0, .int .i64 0]) w := by kernel_rfl
theorem tk_store {W : World} {g : Nat} {t : TypeId} {cs cs' : Array Value} (h : W.heap[g]? = some (.cells cs t (0, 0))) (h4 : cs.size = 4) (h4' : cs'.size = 4) (h1 : cs'.all (·.oneCell') = true) : (Instr.storeAt 39 (.pointer (some ⟨g, 0, none⟩)) (.agg cs')).run Tryz.prog W = .ok () (W.setRow g cs') := by
  have := run_storeVar_row (P := Tryz.prog) W g t 39 cs cs' h (by rw [infoT, h4']) (by rw [h4, h4']) h1
  simp only [Instr.storeAt, Instr.sureAddr, Sem.run_bind, Sem.run_pure, Result.andThen]
  exact this
theorem tk_load {W : World} {g : Nat} {t : TypeId} {cs : Array Value} (h : W.heap[g]? = some (.cells cs t (0, 0))) (h4 : cs.size = 4) : (Instr.loadAt 39 (.pointer (some ⟨g, 0, none⟩))).run Tryz.prog W = .ok (.agg cs) W := by
  obtain ⟨fs, hu⟩ := underT
  have := run_loadAt_mid (P := Tryz.prog) W g 0 39 cs.toList (.struct fs) (fun j v hv => by
    have hv' : cs[j]? = some v := by simpa using hv
    simp [World.cell?, h, hv']) hu rfl (by rw [infoT, Array.length_toList, h4])
  simpa using this
theorem wpList_tkstore {ops : Array Oper} {rest : List Oper} {op : Oper} {a : Act} {w : World} {Q : Exit → Act → World → Prop} (hgd : op.guard = none) (x y : Operand) (ho : op.op = .store 39 x y) {g : Nat} (hx : a.eval x = .pointer (some ⟨g, 0, none⟩)) {t : TypeId} {cs cs' : Array Value}
    (hy : a.eval y = .agg cs') (hb : w.heap[g]? = some (.cells cs t (0, 0))) (h4 : cs.size = 4) (h4' : cs'.size = 4) (h1 : cs'.all (·.oneCell') = true) (h : wpList Tryz.prog ops Q rest (a.put op.dst undef) (w.setRow g cs')) : wpList Tryz.prog ops Q (op :: rest) a w := by
  refine wpList_plain hgd fun _ hK => ?_
  unfold Oper.wp execOp
  simp only [ho, hx, hy, Sem.run_bind, Result.andThen_ok, tk_store hb h4 h4' h1]
  exact hK _ _ h
theorem wpList_tkload {ops : Array Oper} {rest : List Oper} {op : Oper} {a : Act} {w : World} {Q : Exit → Act → World → Prop} (hgd : op.guard = none) (x : Operand) (ho : op.op = .load 39 x) {g : Nat} (hx : a.eval x = .pointer (some ⟨g, 0, none⟩)) {t : TypeId} {cs : Array Value}
    (hb : w.heap[g]? = some (.cells cs t (0, 0))) (h4 : cs.size = 4) (h : wpList Tryz.prog ops Q rest (a.put op.dst (.agg cs)) w) : wpList Tryz.prog ops Q (op :: rest) a w := by
  refine wpList_plain hgd fun _ hK => ?_
  unfold Oper.wp execOp
  simp only [ho, hx, Sem.run_bind, Result.andThen_ok, tk_load hb h4]
  exact hK _ _ h
theorem tk_store_run {oi : Oper} {a : Act} {W : World} (x y : Operand) (ho : oi.op = .store 39 x y) {g : Nat} (hx : a.eval x = .pointer (some ⟨g, 0, none⟩)) {t : TypeId} {cs cs' : Array Value} (hy : a.eval y = .agg cs') (hb : W.heap[g]? = some (.cells cs t (0, 0))) (h4 : cs.size = 4) (h4' : cs'.size = 4) (h1 : cs'.all (·.oneCell') = true) :
    (execOp a.eval oi).run Tryz.prog W = .ok .skip (W.setRow g cs') := by
  unfold execOp
  simp only [ho, hx, hy, Sem.run_bind, Result.andThen_ok, tk_store hb h4 h4' h1, Sem.run_pure]
theorem cells4 {W : World} {g : Nat} {t : TypeId} {a b c d : Value} (h : W.heap[g]? = some (.cells #[a, b, c, d] t (0, 0))) : (W.cell? ⟨g, 0, none⟩ = some a ∧ W.cell? ⟨g, 1, none⟩ = some b ∧ W.cell? ⟨g, 2, none⟩ = some c ∧ W.cell? ⟨g, 3, none⟩ = some d) ∧ ∀ j, W.frozen? ⟨g, j, none⟩ = false := by
  refine ⟨by simp [World.cell?, h], fun j => by simp [World.frozen?, h]⟩
theorem set4 {W : World} {g : Nat} {t : TypeId} {a b c d : Value} (h : W.heap[g]? = some (.cells #[a, b, c, d] t (0, 0))) (v : Value) :
    (W.setCell ⟨g, 0, none⟩ v).heap[g]? = some (.cells #[v, b, c, d] t (0, 0)) ∧ (W.setCell ⟨g, 1, none⟩ v).heap[g]? = some (.cells #[a, v, c, d] t (0, 0)) ∧ (W.setCell ⟨g, 2, none⟩ v).heap[g]? = some (.cells #[a, b, v, d] t (0, 0)) := by
  refine ⟨by simp [World.setCell, Array.getElem?_modify, h], by simp [World.setCell, Array.getElem?_modify, h], by simp [World.setCell, Array.getElem?_modify, h]⟩
theorem setRow_new (w : World) (cs cs' : Array Value) (t : TypeId) : (w.alloc (.cells cs t)).setRow w.heap.size cs' = w.alloc (.cells cs' t) := by
  have h : ((w.alloc (.cells cs t)).setRow w.heap.size cs').heap = (w.alloc (.cells cs' t)).heap := by
    apply Array.ext_getElem?
    intro j
    by_cases e : j = w.heap.size
    · subst e
      rw [setRow_heap _ _ cs cs' t (0, 0) (heap_alloc_new _ _)]
      exact (heap_alloc_new w (.cells cs' t)).symm
    · rw [setRow_other _ _ _ _ e]
      by_cases h2 : j < w.heap.size
      · rw [heap_alloc_old _ _ h2, heap_alloc_old _ _ h2]
      · rw [Array.getElem?_eq_none (by simp; omega), Array.getElem?_eq_none (by simp; omega)]
  have e : ∀ u v : World, u.heap = v.heap → u.tape = v.tape → u.drawn = v.drawn → u.os = v.os → u.output = v.output → u = v := fun u v h1 h2 h3 h4 h5 => by
    cases u; cases v; simp at h1 h2 h3 h4 h5; subst h1 h2 h3 h4 h5; rfl
  exact e _ _ h rfl rfl rfl rfl
def numV (d : ByteArray) : Option Int := if 1 < d.size ∧ bt d 0 = 48 then none else match Lib.parseIntB 64 d.data.toList with | .ok v => some v | _ => none
def tkE (x : ByteArray) : Int :=
  if letterB (bt x 0) = true then (if 32 < spn namedB x x.size 0 then 32 else 0)
  else if digitB (bt x 0) = true then (if (numV (x.extract 0 (spn digitB x x.size 0))).isSome = true then 0 else 31)
  else (if sgnN x = 0 then 30 else 0)
def tkT (x : ByteArray) (i : Int) : Tk :=
  if letterB (bt x 0) = true then ⟨if wordB (x.extract 0 (spn namedB x x.size 0)) = true then 3 else 1, x.extract 0 (spn namedB x x.size 0), 0, i⟩
  else if digitB (bt x 0) = true then ⟨2, x.extract 0 (spn digitB x x.size 0), (numV (x.extract 0 (spn digitB x x.size 0))).getD 0, i⟩
  else ⟨4, x.extract 0 (sgnN x), 0, i⟩
def TokPost (x : ByteArray) (i : Int) (w : World) (e : Ending) (w' : World) : Prop :=
  (∃ t : Tk, e = .returned (.tuple #[.agg (tkA t), if tkE x = 0 then .nilIface else errV i (tkE x)]) ∧ (tkE x = 0 → t = tkT x i)) ∧ Below w.heap.size w w'
end Go.Proofs.YtpgdmghhbbekjaaGreatDoor.L
end
