/- Part 10 of the proof of the law LT. The conditions: none. (Its parts: Lxk Lxu Lxv Lxj Lxl Lxn Lxto.) -/
import Derived.LaidEql
import Derived.Stop.Asserts
import Derived.Lib.IfaceEq
import Derived.RowKitTokens
import Derived.Test.YtpgdmghhbbekjaaGreatDoorKLT03
import Derived.Test.YtpgdmghhbbekjaaGreatDoorKLT04
import Derived.Test.YtpgdmghhbbekjaaGreatDoorKLT09
section
set_option linter.unusedVariables false
set_option linter.unusedSimpArgs false
namespace Go.Proofs.YtpgdmghhbbekjaaGreatDoor.L
open Go.RowKit Go.Extern.Stop Go.Stop Go.Extern Go.Proofs.YtpgdmghhbbekjaaGreatDoorW.PrintWords Go.Proofs.YtpgdmghhbbekjaaGreatDoorW.PrintLast
theorem isTypeOf (v : Value) (w : World) : (Extern.ReflectliteType.typeOf #[.iface 28 v]).run Tryz.prog w = .ok (.iface 83 (.agg #[.pointer (some ⟨10, 28, none⟩)])) w := by kernel_rfl
def cmpE : Array Value → Sem Value := Extern.ReflectliteType.method fun t => do Go.Extern.Rtype.noPackHeld "Comparable" t; pure (.bool (← typeInfo t).comparable)
theorem isComparable (w : World) : (cmpE #[.agg #[.pointer (some ⟨10, 28, none⟩)]]).run Tryz.prog w = .ok (.bool true) w := by kernel_rfl
theorem isMethodComparable (v : Value) (w : World) : (Go.method 285 83 v "Comparable").run Tryz.prog w = .ok (118, v) w := by kernel_rfl
theorem noIsW (v : Value) (xT : TypeId) (w : World) : (Instr.typeAssert (.iface 63 v) xT 85 true).run Tryz.prog w = .ok (.tuple #[.nilIface, .bool false]) w := run_typeAssert_lacksB Tryz.underlying85 (by kernel_rfl) (by kernel_rfl) v xT w
theorem noIsF (v : Value) (xT : TypeId) (w : World) : (Instr.typeAssert (.iface 30 v) xT 85 true).run Tryz.prog w = .ok (.tuple #[.nilIface, .bool false]) w := run_typeAssert_lacksB Tryz.underlying85 (by kernel_rfl) (by kernel_rfl) v xT w
theorem hasUnwrapW (v : Value) (xT : TypeId) (w : World) : (Instr.typeAssert (.iface 63 v) xT 88 true).run Tryz.prog w = .ok (.tuple #[.iface 63 v, .bool true]) w := run_typeAssert_hasB Tryz.underlying88 (by kernel_rfl) v xT w
theorem hasUnwrapF (v : Value) (xT : TypeId) (w : World) : (Instr.typeAssert (.iface 30 v) xT 88 true).run Tryz.prog w = .ok (.tuple #[.iface 30 v, .bool true]) w := run_typeAssert_hasB Tryz.underlying88 (by kernel_rfl) v xT w
theorem methodUnwrapW (v : Value) (w : World) : (Go.method 285 63 v "Unwrap").run Tryz.prog w = .ok (112, v) w := by kernel_rfl
theorem methodUnwrapF (v : Value) (w : World) : (Go.method 285 30 v "Unwrap").run Tryz.prog w = .ok (110, v) w := by kernel_rfl
theorem errnoComp : (Tryz.prog.info? 28).map (·.comparable) = some true := by kernel_rfl
set_option maxHeartbeats 4000000 in
set_option maxRecDepth 100000 in
theorem is_wrong (a e : Int) (w : World) : Calls Tryz.prog 11 #[errV a e, .iface 28 (.int .i64 e)] w fun en w' => en = .returned (.bool true) ∧ Below w.heap.size w w' := by
  have h8 := @run_callFunc_extern Tryz.prog 22 _ Extern.ReflectliteType.typeOf Tryz.func22 (by kernel_rfl) (by kernel_rfl) (by kernel_rfl) (by kernel_rfl)
  have h32 := @run_callFunc_extern Tryz.prog 118 _ cmpE Tryz.func118 (by kernel_rfl) (by kernel_rfl) (by kernel_rfl) (by kernel_rfl)
  have tT := isTypeOf
  have cT := isComparable
  have mR := isMethodComparable
  have nW := noIsW
  have nF := noIsF
  have uW := hasUnwrapW
  have uF := hasUnwrapF
  have mW := methodUnwrapW
  have mF := methodUnwrapF
  have hty1 := fun (v : Value) (w : World) => run_eql_iface_types (P := Tryz.prog) 63 28 v (.int .i64 e) Tryz.underlying25 (by decide) w
  have hty2 := fun (v : Value) (w : World) => run_eql_iface_types (P := Tryz.prog) 30 28 v (.int .i64 e) Tryz.underlying25 (by decide) w
  have heq := fun (w : World) => Lib.run_eql_iface_int (P := Tryz.prog) w (k := .i64) e e Tryz.underlying25 errnoComp Tryz.underlying28
  unfold errV
  go_enter Tryz.func11, Tryz.ntmps11
  go_wp2
  refine wp_loop_rounds 3 ?_
  rw [rounds_succ]
  go_wp2
  rw [rounds_succ]
  go_wp2
  rw [rounds_succ]
  go_wp2
  go_ret
  exact ⟨rfl, (((Below.refl _ _).alloc (Nat.le_refl _) _).alloc (by simp) _)⟩
end Go.Proofs.YtpgdmghhbbekjaaGreatDoor.L
end
section
set_option linter.unusedVariables false
set_option linter.unusedSimpArgs false
namespace Go.Proofs.YtpgdmghhbbekjaaGreatDoor.L
open Go.RowKit Go.Extern.Stop Go.Stop Go.Extern Go.Proofs.YtpgdmghhbbekjaaGreatDoorW.PrintWords Go.Proofs.YtpgdmghhbbekjaaGreatDoorW.PrintLast
theorem valueOfP (t : Addr) (w : World) : (ReflectliteValue.unpack (.iface 51 (.pointer (some t)))).run Tryz.prog w = .ok (.agg #[.pointer (some ⟨10, 51, none⟩), .pointer (some ⟨w.heap.size, 0, none⟩), .int .u64 150]) (w.alloc (.cells #[.pointer (some t)] 51)) := by kernel_rfl
theorem typeP (a : Addr) (w : World) : (ReflectliteValue.methodAny (ReflectliteValue.valueError "reflectlite.Value.Type" 0) (fun t _ _ _ => ReflectliteType.toType t) #[.agg #[.pointer (some ⟨10, 51, none⟩), .pointer (some a), .int .u64 150]]).run Tryz.prog w = .ok (.iface 83 (.agg #[.pointer (some ⟨10, 51, none⟩)])) w := by kernel_rfl
theorem methodKind (h : Value) (w : World) : (Go.method 285 83 (.agg #[h]) "Kind").run Tryz.prog w = .ok (105, h) w := by kernel_rfl
theorem kindP (w : World) : ((ReflectliteType.abiMethod fun t => (fun a : Nat => Value.int IntKind.u8 (a : Int)) <$> Rtype.kind t) #[.pointer (some ⟨10, 51, none⟩)]).run Tryz.prog w = .ok (.int .u8 22) w := by kernel_rfl
theorem kindF (w : World) : ((ReflectliteType.abiMethod fun t => (fun a : Nat => Value.int IntKind.u8 (a : Int)) <$> Rtype.kind t) #[.pointer (some ⟨10, 30, none⟩)]).run Tryz.prog w = .ok (.int .u8 25) w := by kernel_rfl
theorem rlm (z : Sem Value) (f : TypeId → Addr → Nat → Nat → Sem Value) (v : Value) : ReflectliteValue.method z f #[v] = (do match ← ReflectliteValue.parts v with | none => z | some (t, a, fl) => f t a fl (fl % 32)) := rfl
theorem partsP (a : Addr) (w : World) : (ReflectliteValue.parts (.agg #[.pointer (some ⟨10, 51, none⟩), .pointer (some a), .int .u64 150])).run Tryz.prog w = .ok (some (51, a, 150)) w := by kernel_rfl
theorem isNilP (a p : Addr) (W : World) (ha : W.cell? a = some (.pointer (some p))) :
    (ReflectliteValue.method (ReflectliteValue.valueError "reflectlite.Value.IsNil" 0) ReflectliteValue.isNil #[.agg #[.pointer (some ⟨10, 51, none⟩), .pointer (some a), .int .u64 150]]).run Tryz.prog W = .ok (.bool false) W := by
  rw [rlm]
  simp only [Sem.run_bind, partsP, Result.andThen]
  simp [ReflectliteValue.isNil, loadVar, isAgg, underlying, Tryz.underlying51, ha, Result.andThen]
theorem methodElem (h : Value) (w : World) : (Go.method 285 83 (.agg #[h]) "Elem").run Tryz.prog w = .ok (119, .agg #[h]) w := by kernel_rfl
theorem methodImplements (h : Value) (w : World) : (Go.method 285 83 (.agg #[h]) "Implements").run Tryz.prog w = .ok (120, .agg #[h]) w := by kernel_rfl
theorem methodAssignableTo (h : Value) (w : World) : (Go.method 285 83 (.agg #[h]) "AssignableTo").run Tryz.prog w = .ok (117, .agg #[h]) w := by kernel_rfl
theorem elemP (w : World) : (ReflectliteType.method ReflectliteType.elem #[.agg #[.pointer (some ⟨10, 51, none⟩)]]).run Tryz.prog w = .ok (.iface 83 (.agg #[.pointer (some ⟨10, 30, none⟩)])) w := by kernel_rfl
theorem implementsF (w : World) : (ReflectliteType.relation "Implements" ReflectliteType.implements_ #[.agg #[.pointer (some ⟨10, 30, none⟩)], .iface 83 (.agg #[.pointer (some ⟨10, 25, none⟩)])]).run Tryz.prog w = .ok (.bool true) w := by kernel_rfl
theorem typeOfF (v : Value) (w : World) : (ReflectliteType.typeOf #[.iface 30 v]).run Tryz.prog w = .ok (.iface 83 (.agg #[.pointer (some ⟨10, 30, none⟩)])) w := by kernel_rfl
theorem typeOfW (v : Value) (w : World) : (ReflectliteType.typeOf #[.iface 63 v]).run Tryz.prog w = .ok (.iface 83 (.agg #[.pointer (some ⟨10, 63, none⟩)])) w := by kernel_rfl
theorem assignableF (w : World) : (ReflectliteType.relation "AssignableTo" ReflectliteType.assignableTo #[.agg #[.pointer (some ⟨10, 30, none⟩)], .iface 83 (.agg #[.pointer (some ⟨10, 30, none⟩)])]).run Tryz.prog w = .ok (.bool true) w := by kernel_rfl
theorem assignableW (w : World) : (ReflectliteType.relation "AssignableTo" ReflectliteType.assignableTo #[.agg #[.pointer (some ⟨10, 63, none⟩)], .iface 83 (.agg #[.pointer (some ⟨10, 30, none⟩)])]).run Tryz.prog w = .ok (.bool false) w := by kernel_rfl
theorem valueOfF (a e : Int) (w : World) : (ReflectliteValue.unpack (.iface 30 (.agg #[.int .i64 a, .int .i64 e]))).run Tryz.prog w = .ok (.agg #[.pointer (some ⟨10, 30, none⟩), .pointer (some ⟨w.heap.size, 0, none⟩), .int .u64 153]) (w.alloc (.cells #[.int .i64 a, .int .i64 e] 30)) := by kernel_rfl
theorem elemOfP (w : World) : (Rtype.elem? 51).run Tryz.prog w = .ok (some 30) w := by kernel_rfl
theorem mkF (p : Addr) (w : World) : (ReflectliteValue.mk 30 p ReflectliteValue.flagAddr).run Tryz.prog w = .ok (.agg #[.pointer (some ⟨10, 30, none⟩), .pointer (some p), .int .u64 409]) w := by kernel_rfl
theorem elemV (a p : Addr) (W : World) (ha : W.cell? a = some (.pointer (some p))) :
    (ReflectliteValue.method (ReflectliteValue.valueError "reflectlite.Value.Elem" 0) ReflectliteValue.elem #[.agg #[.pointer (some ⟨10, 51, none⟩), .pointer (some a), .int .u64 150]]).run Tryz.prog W = .ok (.agg #[.pointer (some ⟨10, 30, none⟩), .pointer (some p), .int .u64 409]) W := by
  rw [rlm]
  simp only [Sem.run_bind, partsP, Result.andThen]
  simp [ReflectliteValue.elem, loadVar, isAgg, underlying, Tryz.underlying51, ha, Result.andThen, elemOfP, mkF]
theorem rls (v x : Value) : ReflectliteValue.set #[v, x] = (do
    let (some (dst, a, fl), some (src, b, _)) := (← ReflectliteValue.parts v, ← ReflectliteValue.parts x)
      | unsupported (.noEntry "extern/(internal/reflectlite.Value).Set.zeroValue")
    if fl / ReflectliteValue.flagAddr % 2 == 0 then unsupported (.noEntry "extern/(internal/reflectlite.Value).Set.unaddressable")
    let val ← loadVar src b
    if ← Rtype.directlyAssignable dst src then storeVar dst a val
    else if ← Rtype.implements dst src then
      if (← Rtype.kind src) == 20 then
        match val with
        | .nilIface => unsupported (.noEntry "extern/reflectlite: a nil value of one interface type handed on as a value of another")
        | _ => storeVar dst a val
      else storeVar dst a (.iface src val)
    else panicString ("reflectlite.Set: value of type " ++ (← Rtype.spelt src) ++ " is not assignable to type " ++ (← Rtype.spelt dst))
    pure (.tuple #[])) := rfl
theorem partsFa (a : Addr) (w : World) : (ReflectliteValue.parts (.agg #[.pointer (some ⟨10, 30, none⟩), .pointer (some a), .int .u64 409])).run Tryz.prog w = .ok (some (30, a, 409)) w := by kernel_rfl
theorem partsF (a : Addr) (w : World) : (ReflectliteValue.parts (.agg #[.pointer (some ⟨10, 30, none⟩), .pointer (some a), .int .u64 153])).run Tryz.prog w = .ok (some (30, a, 153)) w := by kernel_rfl
theorem directF (w : World) : (Rtype.directlyAssignable 30 30).run Tryz.prog w = .ok true w := by kernel_rfl
theorem noAsW (v : Value) (xT : TypeId) (w : World) : (Instr.typeAssert (.iface 63 v) xT 99 true).run Tryz.prog w = .ok (.tuple #[.nilIface, .bool false]) w := run_typeAssert_lacksB Tryz.underlying99 (by kernel_rfl) (by kernel_rfl) v xT w
theorem underF : ∃ fs, Tryz.prog.underlying 30 = some (.struct fs) := by
  have h : (Tryz.prog.underlying 30).map (fun d => match d with | .struct _ => true | _ => false) = some true := by kernel_rfl
  cases hd : Tryz.prog.underlying 30 with
  | none => rw [hd] at h; cases h
  | some d =>
    rw [hd] at h
    cases d <;> simp at h
    exact ⟨_, rfl⟩
theorem infoF : (Tryz.prog.info? 30).map (·.size) = some 2 := by kernel_rfl
theorem setF (g gb : Nat) (x y : Value) (ty tb : TypeId) (a e : Int) (W : World) (hb : W.heap[gb]? = some (.cells #[.int .i64 a, .int .i64 e] tb (0, 0))) (hg : W.heap[g]? = some (.cells #[x, y] ty (0, 0))) :
    (ReflectliteValue.set #[.agg #[.pointer (some ⟨10, 30, none⟩), .pointer (some ⟨g, 0, none⟩), .int .u64 409], .agg #[.pointer (some ⟨10, 30, none⟩), .pointer (some ⟨gb, 0, none⟩), .int .u64 153]]).run Tryz.prog W = .ok (.tuple #[]) (W.setRow g #[.int .i64 a, .int .i64 e]) := by
  obtain ⟨fs, hu⟩ := underF
  have hl := run_loadVar_mid (P := Tryz.prog) W gb 0 30 [.int .i64 a, .int .i64 e] (.struct fs) (fun j v hv => by
    have hv' : (#[Value.int .i64 a, Value.int .i64 e] : Array Value)[j]? = some v := by simpa using hv
    simp [World.cell?, hb, hv']) hu rfl (by rw [infoF]; rfl)
  have hs := run_storeVar_row (P := Tryz.prog) W g ty 30 #[x, y] #[.int .i64 a, .int .i64 e] hg (by rw [infoF]; rfl) rfl (by simp [Value.oneCell'])
  rw [rls]
  simp only [Sem.run_bind, partsFa, partsF, Result.andThen]
  simp [ReflectliteValue.flagAddr, hl, hs, directF, Result.andThen]
set_option maxHeartbeats 4000000 in
set_option maxRecDepth 100000 in
theorem as_step (a e : Int) (g n : Nat) (x y : Value) (ty : TypeId) (w : World) (hn : w.cell? ⟨n, 0, none⟩ = some (.pointer (some ⟨g, 0, none⟩))) (hg : w.heap[g]? = some (.cells #[x, y] ty (0, 0))) :
    Calls Tryz.prog 41 #[.iface 63 (.agg #[.int .i64 a, .int .i64 e]), .iface 51 (.pointer (some ⟨g, 0, none⟩)), .agg #[.pointer (some ⟨10, 51, none⟩), .pointer (some ⟨n, 0, none⟩), .int .u64 150], .iface 83 (.agg #[.pointer (some ⟨10, 30, none⟩)])] w
      fun en w' => en = .returned (.bool true) ∧ w'.heap[g]? = some (.cells #[.int .i64 a, .int .i64 e] ty (0, 0)) ∧ w.grownBy w' (some g) := by
  have h6 := @run_callFunc_extern Tryz.prog 38 _ (fun args => ReflectliteValue.unpack (args.getD 0 (.tuple #[]))) Tryz.func38 (by kernel_rfl) (by kernel_rfl) (by kernel_rfl) (by kernel_rfl)
  have h7 := @run_callFunc_extern Tryz.prog 39 _ (ReflectliteValue.methodAny (ReflectliteValue.valueError "reflectlite.Value.Type" 0) (fun t _ _ _ => ReflectliteType.toType t)) Tryz.func39 (by kernel_rfl) (by kernel_rfl) (by kernel_rfl) (by kernel_rfl)
  have h8 := @run_callFunc_extern Tryz.prog 40 _ (ReflectliteValue.method (ReflectliteValue.valueError "reflectlite.Value.IsNil" 0) ReflectliteValue.isNil) Tryz.func40 (by kernel_rfl) (by kernel_rfl) (by kernel_rfl) (by kernel_rfl)
  have h27 := @run_callFunc_extern Tryz.prog 105 _ (ReflectliteType.abiMethod fun t => do pure (.int .u8 (← Rtype.kind t))) Tryz.func105 (by kernel_rfl) (by kernel_rfl) (by kernel_rfl) (by kernel_rfl)
  have h37 := @run_callFunc_extern Tryz.prog 119 _ (ReflectliteType.method ReflectliteType.elem) Tryz.func119 (by kernel_rfl) (by kernel_rfl) (by kernel_rfl) (by kernel_rfl)
  have h38 := @run_callFunc_extern Tryz.prog 120 _ (ReflectliteType.relation "Implements" ReflectliteType.implements_) Tryz.func120 (by kernel_rfl) (by kernel_rfl) (by kernel_rfl) (by kernel_rfl)
  have h10 := @run_callFunc_extern Tryz.prog 22 _ ReflectliteType.typeOf Tryz.func22 (by kernel_rfl) (by kernel_rfl) (by kernel_rfl) (by kernel_rfl)
  have h35 := @run_callFunc_extern Tryz.prog 117 _ (ReflectliteType.relation "AssignableTo" ReflectliteType.assignableTo) Tryz.func117 (by kernel_rfl) (by kernel_rfl) (by kernel_rfl) (by kernel_rfl)
  have h11 := @run_callFunc_extern Tryz.prog 54 _ (ReflectliteValue.method (ReflectliteValue.valueError "reflectlite.Value.Elem" 0) ReflectliteValue.elem) Tryz.func54 (by kernel_rfl) (by kernel_rfl) (by kernel_rfl) (by kernel_rfl)
  have h12 := @run_callFunc_extern Tryz.prog 55 _ ReflectliteValue.set Tryz.func55 (by kernel_rfl) (by kernel_rfl) (by kernel_rfl) (by kernel_rfl)
  have v1 := valueOfP
  have v2 := typeP
  have v3 := methodKind
  have v4 := kindP
  have v5 := kindF
  have v6 := methodElem
  have v7 := methodImplements
  have v8 := methodAssignableTo
  have v9 := elemP
  have v10 := implementsF
  have v11 := typeOfF
  have v12 := typeOfW
  have v13 := assignableF
  have v14 := assignableW
  have v15 := valueOfF
  have v16 := noAsW
  have v17 := hasUnwrapW
  have v18 := methodUnwrapW
  have hgt : g < w.heap.size := (Array.getElem?_eq_some_iff.1 hg).1
  go_enter Tryz.func41, Tryz.ntmps41
  go_wp2
  refine wp_loop_rounds 2 ?_
  rw [rounds_succ]
  go_wp2
  rw [rounds_succ]
  have hnl : n < w.heap.size := by
    rcases Nat.lt_or_ge n w.heap.size with h | h
    · exact h
    · simp [World.cell?, Array.getElem?_eq_none h] at hn
  have el := elemV ⟨n, 0, none⟩ ⟨g, 0, none⟩ ((w.alloc (.cells #[.pointer (some ⟨10, 51, none⟩), .pointer (some ⟨n, 0, none⟩), .int .u64 150] 75)).alloc (.cells #[.int .i64 a, .int .i64 e] 63)) (by rw [World.cell?_alloc_lt _ _ ⟨n, 0, none⟩ (by simp; omega), World.cell?_alloc_lt _ _ ⟨n, 0, none⟩ hnl]; exact hn)
  have hw3 := heap_alloc_new ((w.alloc (.cells #[.pointer (some ⟨10, 51, none⟩), .pointer (some ⟨n, 0, none⟩), .int .u64 150] 75)).alloc (.cells #[.int .i64 a, .int .i64 e] 63)) (.cells #[.int .i64 a, .int .i64 e] 30)
  have hz : ((w.alloc (.cells #[.pointer (some ⟨10, 51, none⟩), .pointer (some ⟨n, 0, none⟩), .int .u64 150] 75)).alloc (.cells #[.int .i64 a, .int .i64 e] 63)).heap.size = w.heap.size + 1 + 1 := by simp
  rw [hz] at hw3
  have hg3 : (((w.alloc (.cells #[.pointer (some ⟨10, 51, none⟩), .pointer (some ⟨n, 0, none⟩), .int .u64 150] 75)).alloc (.cells #[.int .i64 a, .int .i64 e] 63)).alloc (.cells #[.int .i64 a, .int .i64 e] 30)).heap[g]? = some (.cells #[x, y] ty (0, 0)) := by rw [heap_alloc_old _ _ (by simp; omega), heap_alloc_old _ _ (by simp; omega), heap_alloc_old _ _ hgt]; exact hg
  have st := setF g (w.heap.size + 1 + 1) x y ty 30 a e (((w.alloc (.cells #[.pointer (some ⟨10, 51, none⟩), .pointer (some ⟨n, 0, none⟩), .int .u64 150] 75)).alloc (.cells #[.int .i64 a, .int .i64 e] 63)).alloc (.cells #[.int .i64 a, .int .i64 e] 30)) hw3 hg3
  clear hw3 hz
  go_wp2
  go_ret
  refine ⟨rfl, setRow_heap _ _ _ _ _ _ hg3, ⟨rfl, rfl, rfl, by simp; omega, fun k hk hne => ?_⟩⟩
  rw [setRow_other _ _ _ _ (fun e => hne (by rw [e])), heap_alloc_old _ _ (by simp; omega), heap_alloc_old _ _ (by simp; omega), heap_alloc_old _ _ hk]
set_option maxHeartbeats 4000000 in
set_option maxRecDepth 100000 in
theorem as_wrong (a e : Int) (g : Nat) (x y : Value) (ty : TypeId) (w : World) (hgl : w.cell? ⟨0, 0, none⟩ = some (.iface 83 (.agg #[.pointer (some ⟨10, 25, none⟩)]))) (hg : w.heap[g]? = some (.cells #[x, y] ty (0, 0))) :
    Calls Tryz.prog 19 #[errV a e, .iface 51 (.pointer (some ⟨g, 0, none⟩))] w fun en w' => en = .returned (.bool true) ∧ w'.heap[g]? = some (.cells #[.int .i64 a, .int .i64 e] ty (0, 0)) ∧ w.grownBy w' (some g) := by
  have h6 := @run_callFunc_extern Tryz.prog 38 _ (fun args => ReflectliteValue.unpack (args.getD 0 (.tuple #[]))) Tryz.func38 (by kernel_rfl) (by kernel_rfl) (by kernel_rfl) (by kernel_rfl)
  have h7 := @run_callFunc_extern Tryz.prog 39 _ (ReflectliteValue.methodAny (ReflectliteValue.valueError "reflectlite.Value.Type" 0) (fun t _ _ _ => ReflectliteType.toType t)) Tryz.func39 (by kernel_rfl) (by kernel_rfl) (by kernel_rfl) (by kernel_rfl)
  have h8 := @run_callFunc_extern Tryz.prog 40 _ (ReflectliteValue.method (ReflectliteValue.valueError "reflectlite.Value.IsNil" 0) ReflectliteValue.isNil) Tryz.func40 (by kernel_rfl) (by kernel_rfl) (by kernel_rfl) (by kernel_rfl)
  have h27 := @run_callFunc_extern Tryz.prog 105 _ (ReflectliteType.abiMethod fun t => do pure (.int .u8 (← Rtype.kind t))) Tryz.func105 (by kernel_rfl) (by kernel_rfl) (by kernel_rfl) (by kernel_rfl)
  have h37 := @run_callFunc_extern Tryz.prog 119 _ (ReflectliteType.method ReflectliteType.elem) Tryz.func119 (by kernel_rfl) (by kernel_rfl) (by kernel_rfl) (by kernel_rfl)
  have h38 := @run_callFunc_extern Tryz.prog 120 _ (ReflectliteType.relation "Implements" ReflectliteType.implements_) Tryz.func120 (by kernel_rfl) (by kernel_rfl) (by kernel_rfl) (by kernel_rfl)
  have h10 := @run_callFunc_extern Tryz.prog 22 _ ReflectliteType.typeOf Tryz.func22 (by kernel_rfl) (by kernel_rfl) (by kernel_rfl) (by kernel_rfl)
  have h35 := @run_callFunc_extern Tryz.prog 117 _ (ReflectliteType.relation "AssignableTo" ReflectliteType.assignableTo) Tryz.func117 (by kernel_rfl) (by kernel_rfl) (by kernel_rfl) (by kernel_rfl)
  have h11 := @run_callFunc_extern Tryz.prog 54 _ (ReflectliteValue.method (ReflectliteValue.valueError "reflectlite.Value.Elem" 0) ReflectliteValue.elem) Tryz.func54 (by kernel_rfl) (by kernel_rfl) (by kernel_rfl) (by kernel_rfl)
  have h12 := @run_callFunc_extern Tryz.prog 55 _ ReflectliteValue.set Tryz.func55 (by kernel_rfl) (by kernel_rfl) (by kernel_rfl) (by kernel_rfl)
  have v1 := valueOfP
  have v2 := typeP
  have v3 := methodKind
  have v4 := kindP
  have v5 := kindF
  have v6 := methodElem
  have v7 := methodImplements
  have v8 := methodAssignableTo
  have v9 := elemP
  have v10 := implementsF
  have v11 := typeOfF
  have v12 := typeOfW
  have v13 := assignableF
  have v14 := assignableW
  have v15 := valueOfF
  have v16 := noAsW
  have v17 := hasUnwrapW
  have v18 := methodUnwrapW
  have hlt : 0 < w.heap.size := by
    rcases Nat.lt_or_ge 0 w.heap.size with h0 | h
    · exact h0
    · simp [World.cell?, Array.getElem?_eq_none h] at hgl
  have hgt : g < w.heap.size := (Array.getElem?_eq_some_iff.1 hg).1
  have n8 := isNilP ⟨w.heap.size, 0, none⟩ ⟨g, 0, none⟩ ((w.alloc (.cells #[.pointer (some ⟨g, 0, none⟩)] 51)).alloc (.cells #[.pointer (some ⟨10, 51, none⟩), .pointer (some ⟨w.heap.size, 0, none⟩), .int .u64 150] 75)) (by simp)
  unfold errV
  go_enter Tryz.func19, Tryz.ntmps19
  go_wp2_with fail
  refine (as_step a e g w.heap.size x y ty _ (by rw [World.cell?_alloc_lt _ _ ⟨w.heap.size, 0, none⟩ (by simp)]; simp) (by rw [heap_alloc_old _ _ (by simp; omega), heap_alloc_old _ _ hgt]; exact hg)).mono ?_
  rintro en w' ⟨rfl, hx, hgr⟩
  go_wp2
  go_ret
  refine ⟨rfl, hx, ⟨hgr.os, hgr.tape, hgr.output, Nat.le_trans (by simp; omega) hgr.size, fun k hk hne => ?_⟩⟩
  rw [hgr.block k (by simp; omega) hne, heap_alloc_old _ _ (by simp; omega), heap_alloc_old _ _ hk]
end Go.Proofs.YtpgdmghhbbekjaaGreatDoor.L
end
section
set_option linter.unusedVariables false
set_option linter.unusedSimpArgs false
namespace Go.Proofs.YtpgdmghhbbekjaaGreatDoor.L
open Go.RowKit Go.Proofs.YtpgdmghhbbekjaaGreatDoorW.PrintWords Go.Proofs.YtpgdmghhbbekjaaGreatDoorW.PrintLast
def EtIs (w : World) : Prop := w.cell? ⟨0, 0, none⟩ = some (.iface 83 (.agg #[.pointer (some ⟨10, 25, none⟩)]))
theorem EtIs.below {w w' : World} (h : EtIs w) (hb : Below w.heap.size w w') : EtIs w' := by
  have hlt : 0 < w.heap.size := by
    rcases Nat.lt_or_ge 0 w.heap.size with h0 | h1
    · exact h0
    · unfold EtIs at h
      simp [World.cell?, Array.getElem?_eq_none h1] at h
  unfold EtIs at *
  rw [← h]
  simp [World.cell?, hb.block _ hlt]
set_option maxHeartbeats 4000000 in
set_option maxRecDepth 100000 in
theorem told_calls (a e : Int) (w : World) (hE : EtIs w) : Calls Tryz.prog 9 #[faultV (a, e), .agg #[.int .i64 a, .int .i64 e]] w fun en w' => en = .returned (.bool true) ∧ Below w.heap.size w w' := by
  by_cases h0 : e = 0
  · subst h0
    rw [show faultV (a, 0) = .nilIface from rfl]
    clear hE
    go_enter Tryz.func9, Tryz.ntmps9
    go_wp2
    go_ret
    exact ⟨rfl, (Below.refl _ _).alloc (Nat.le_refl _) _⟩
  · have d0 : (e == 0) = false := by simpa using h0
    rw [show faultV (a, e) = errV a e by unfold faultV; rw [if_neg h0]]
    have B1 := Aside0.mk ((Below.refl w.heap.size w).alloc (Nat.le_refl _) (.cells #[.int .i64 a, .int .i64 e] 30))
    have B2 := Aside0.mk (B1.out.alloc (by simp) (.cells #[.int .i64 0, .int .i64 0] 30))
    have HE2 := Aside0.mk (hE.below B2.out)
    have hb1 : ((w.alloc (.cells #[.int .i64 a, .int .i64 e] 30)).alloc (.cells #[.int .i64 0, .int .i64 0] 30)).heap[w.heap.size]? = some (.cells #[.int .i64 a, .int .i64 e] 30 (0, 0)) := (heap_alloc_old _ _ (by simp)).trans (heap_alloc_new _ _)
    have hb2 : ((w.alloc (.cells #[.int .i64 a, .int .i64 e] 30)).alloc (.cells #[.int .i64 0, .int .i64 0] 30)).heap[w.heap.size + 1]? = some (.cells #[.int .i64 0, .int .i64 0] 30 (0, 0)) := by
      have := heap_alloc_new (w.alloc (.cells #[.int .i64 a, .int .i64 e] 30)) (.cells #[.int .i64 0, .int .i64 0] 30)
      simpa using this
    have HB1 := Aside0.mk hb1
    have HB2 := Aside0.mk hb2
    have HAS := Aside0.mk (as_wrong a e (w.heap.size + 1) (.int .i64 0) (.int .i64 0) 30 _ HE2.out hb2)
    clear hE hb1 hb2 h0 B1
    unfold errV
    go_enter Tryz.func9, Tryz.ntmps9
    go_wp2_with fail
    refine HAS.out.mono ?_
    rintro en w3 ⟨rfl, hx, hgr⟩
    have hy := (hgr.block w.heap.size (by simp; omega) (fun e => by injection e with e; omega)).trans HB1.out
    have B3 : Below w.heap.size w w3 := ⟨hgr.os.trans B2.out.os, hgr.tape.trans B2.out.tape, hgr.output.trans B2.out.output, Nat.le_trans B2.out.size hgr.size, fun k hk => (hgr.block k (Nat.lt_of_lt_of_le hk B2.out.size) (fun e => by injection e with e; omega)).trans (B2.out.block k hk)⟩
    have c0 : w3.cell? ⟨w.heap.size, 0, none⟩ = some (.int .i64 a) := by simp [World.cell?, hy]
    have c1 : w3.cell? ⟨w.heap.size, 1, none⟩ = some (.int .i64 e) := by simp [World.cell?, hy]
    have c2 : w3.cell? ⟨w.heap.size + 1, 0, none⟩ = some (.int .i64 a) := by simp [World.cell?, hx]
    have c3 : w3.cell? ⟨w.heap.size + 1, 1, none⟩ = some (.int .i64 e) := by simp [World.cell?, hx]
    have BB3 := Aside0.mk B3
    clear hx hy hgr HB1 HB2 HE2 B2 B3 HAS
    go_wp2_with fail
    refine (is_wrong a e w3).mono ?_
    rintro en w4 ⟨rfl, hb⟩
    have BB4 := Aside0.mk (BB3.out.trans (hb.mono BB3.out.size))
    clear hb
    go_wp2
    go_ret
    exact ⟨rfl, BB4.out⟩
end Go.Proofs.YtpgdmghhbbekjaaGreatDoor.L
end
section
set_option linter.unusedVariables false
set_option linter.unusedSimpArgs false
namespace Go.Proofs.YtpgdmghhbbekjaaGreatDoor.L
open Go.RowKit Go.Proofs.YtpgdmghhbbekjaaGreatDoorW.PrintWords Go.Proofs.YtpgdmghhbbekjaaGreatDoorW.PrintLast Go.Proofs.YtpgdmghhbbekjaaGreatDoorW.PrintMore Go.Maps
def Stop (p : Prop) : Prop := p
theorem stop_here {p : Prop} (h : Stop p) : p := h
theorem infoK : (Tryz.prog.info? 39).map (fun i => (i.zero, i.size, i.bytes)) = some (some (.agg #[.int .u8 0, .string ⟨#[]⟩, .int .i64 0, .int .i64 0]), 4, 40) := by kernel_rfl
set_option maxHeartbeats 16000000 in
set_option maxRecDepth 100000 in
theorem tokens_calls (s : ByteArray) (hs : s.size ≤ 140737488355328) (w : World) (hL : Lib3 w) : Calls Tryz.prog 6 #[.string s] w (ToksPost (tokens s) w) := by
  have HSZ := Aside0.mk hs
  have HL := Aside0.mk hL
  obtain ⟨post, hpost⟩ : ∃ p, ToksPost (tokens s) w = p := ⟨_, rfl⟩
  rw [hpost]
  have HPO := Aside0.mk hpost
  clear hpost hL
  by_cases hlong : 65536 < s.size
  · have d1 : decide ((65536 : Int) < (s.size : Int)) = true := decide_eq_true (by omega)
    have d2 : decide (65536 < s.size) = true := decide_eq_true hlong
    have HT : Aside0 (tokens s = ([], 65536, 4)) := ⟨by unfold tokens; rw [if_pos hlong]⟩
    clear hlong
    go_enter Tryz.func6, Tryz.ntmps6
    go_wp2_with fail
    refine (fault_calls 65536 4 _).mono ?_
    rintro e w' ⟨rfl, rfl⟩
    go_wp2
    show post (.returned (.tuple #[.slice none 0 0, errV 65536 4])) w
    rw [← HPO.out, HT.out]
    exact ⟨⟨_, rfl, Kd.R_nil _ _ _ _ _⟩, Below.refl _ _⟩
  · have d1 : decide ((65536 : Int) < (s.size : Int)) = false := decide_eq_false (by omega)
    have d2 : decide (65536 < s.size) = false := decide_eq_false hlong
    obtain ⟨res, hres⟩ : ∃ r, tkR [] (tgo s (s.size + 1) (skp s s.size 0) 0) = r := ⟨_, rfl⟩
    have HT : Aside0 (tokens s = res) := ⟨by rw [tokens_zero, if_neg hlong]; exact hres⟩
    have HRS := Aside0.mk hres
    have hsk := skip_calls s hs 0 (Nat.zero_le _) w
    have hle := skp_le s s.size 0 (Nat.zero_le _)
    obtain ⟨i0, hi0⟩ : ∃ i, skp s s.size 0 = i := ⟨_, rfl⟩
    rw [hi0] at hsk hle HRS
    have HSK := Aside0.mk hsk
    have HLE := Aside0.mk hle
    clear hlong hres hsk hle hi0
    go_enter Tryz.func6, Tryz.ntmps6
    go_wp2_with fail
    refine HSK.out.mono ?_
    rintro e w' ⟨rfl, rfl⟩
    clear HSK
    go_wp2_with fail
    go_loopg [4, 5] (s.size + 1) (fun kq v4 v5 wr => ∃ (i : Nat) (acc : List Tk), v5 = .int .i64 (i : Int) ∧ Aside0 (s.size + 1 ≤ kq + i ∧ i ≤ s.size) ∧ Aside0 (tkR acc (tgo s kq i acc.length) = res) ∧ Aside0 (Kd.R kT 39 wr w.heap.size (fun _ => True) v4 acc) ∧ Aside0 (Below w.heap.size w wr) ∧ Aside0 (acc.length < 16384))
    case atStart => exact ⟨i0, [], rfl, ⟨by omega, HLE.out.2⟩, HRS, ⟨Kd.R_nil _ _ _ _ _⟩, ⟨Below.refl _ _⟩, ⟨by decide⟩⟩
    case round =>
      clear HRS HLE
      obtain ⟨i, acc, rfl, HK, HI, HR, HB, HA⟩ := hrel
      obtain ⟨A4, c4, rfl⟩ := Kd.R_slice HR.out
      by_cases hi : i < s.size
      · have dl : decide (i < s.size) = true := decide_eq_true hi
        have dl2 : decide ((i : Int) < (s.size : Int)) = true := decide_eq_true (by omega)
        obtain ⟨go, rfl⟩ : ∃ go, gk = go + 1 := ⟨gk - 1, by have := HK.out; omega⟩
        have htk := token_calls s HSZ.out i hi wr (HL.out.below HB.out)
        have hzx := ext_size s i s.size (Nat.le_refl _)
        have hrs := HI.out
        have hstep := fun h2 h3 => tgo_step (s := s) (n := go) (i := i) (c := acc.length) (acc := acc) rfl hi h2 h3
        rw [tgo, if_pos hi] at hrs
        obtain ⟨x, hx⟩ : ∃ x, s.extract i s.size = x := ⟨_, rfl⟩
        rw [hx] at htk hzx hrs hstep
        have HTK := Aside0.mk htk
        have HX0 : Aside0 (0 < x.size ∧ x.size + i = s.size) := ⟨by omega⟩
        have HST := Aside0.mk hstep
        have HRS := Aside0.mk hrs
        have hzt := zeroT
        clear htk hzx hrs hstep hx
        go_wp2_with fail
        refine HTK.out.mono ?_
        rintro e W2 ⟨⟨t, rfl, ht⟩, hb⟩
        have HTT := Aside0.mk ht
        have HB2 := Aside0.mk (HB.out.trans (hb.mono HB.out.size))
        have HR2 := Aside0.mk (Kd.R_below HR.out hb)
        clear hb ht HTK HR HB
        by_cases he : tkE x = 0
        · rw [if_pos he]
          have HE := Aside0.mk he
          obtain rfl := HTT.out he
          have hts := tkT_size (i := (i : Int)) HX0.out.1 he
          have hrs := HRS.out
          rw [if_neg (by rw [he]; decide)] at hrs
          have XB := Aside0.mk (heap_alloc_new W2 (.cells (tkA (tkT x i)) (39 : Nat)))
          have HB3 := Aside0.mk (HB2.out.alloc HB2.out.size (.cells (tkA (tkT x i)) (39 : Nat)))
          have HR3 := Aside0.mk (Kd.R_alloc HR2.out (.cells (tkA (tkT x i)) (39 : Nat)))
          have HOB : Aside0 (∀ k, (Value.slice A4 acc.length c4).ownBlock = some k → k < W2.heap.size) := ⟨fun k hk => ((Kd.R_bound HR2.out).1 k hk).2.2.1⟩
          have HZ3 : Aside0 ((W2.alloc (.cells (tkA (tkT x i)) (39 : Nat))).heap.size = W2.heap.size + 1) := ⟨by simp⟩
          obtain ⟨t, ht⟩ : ∃ t, tkT x i = t := ⟨_, rfl⟩
          rw [ht] at hts XB HB3 HR3 HZ3 ⊢
          have HTS := Aside0.mk hts
          have HTE := Aside0.mk ht
          clear hts ht he HR2 HB2
          by_cases hfull : 16384 ≤ acc.length + 1
          · rw [if_pos hfull] at hrs
            have HRES : Aside0 (res = ([], (i : Int), 6)) := ⟨by rw [← hrs]; rfl⟩
            have f1 : decide ((16384 : Int) ≤ (acc.length : Int) + 1) = true := decide_eq_true (by omega)
            have f2 : decide (16384 ≤ acc.length + 1) = true := decide_eq_true hfull
            have hacc : acc.length < 16384 := HA.out
            clear hrs HRS hfull
            go_wp2_with ((with_reducible refine gate_ (.store 39 (.tmp 6) (.tmp 22)) rfl ?_); refine wpList_tkstore (cs' := tkA t) rfl (.tmp 6) (.tmp 22) rfl rfl rfl (heap_alloc_new W2 _) rfl rfl (by simp [Value.oneCell', tkA]) ?_)
            rw [setRow_new]
            refine (fault_calls (i : Int) 6 _).mono ?_
            rintro e w' ⟨rfl, hw⟩
            subst hw
            go_wp2
            show post (.returned (.tuple #[.slice none 0 0, errV (i : Int) 6])) _
            rw [← HPO.out, HT.out, HRES.out]
            exact ⟨⟨_, rfl, Kd.R_nil _ _ _ _ _⟩, HB3.out⟩
          · rw [if_neg hfull] at hrs
            have HRES : Aside0 (tkR (acc ++ [t]) (tgo s go (skp s s.size (i + t.t.size)) (acc.length + 1)) = res) := ⟨by
              have h1 := HST.out HE.out hfull
              rw [HTE.out] at h1
              rw [← h1]
              exact HI.out⟩
            have f1 : decide ((16384 : Int) ≤ (acc.length : Int) + 1) = false := decide_eq_false (by omega)
            have f2 : decide (16384 ≤ acc.length + 1) = false := decide_eq_false hfull
            have HFL : Aside0 (acc.length + 1 < 16384) := ⟨by omega⟩
            have hacc : acc.length < 16384 := HA.out
            clear hrs HRS hfull HI HST
            go_wp2_with first | ((with_reducible refine gate_ (.store 39 (.tmp 6) (.tmp 22)) rfl ?_); refine wpList_tkstore (cs' := tkA t) rfl (.tmp 6) (.tmp 22) rfl rfl rfl (heap_alloc_new W2 _) rfl rfl (by simp [Value.oneCell', tkA]) ?_; refine stop_here ?_)
            unfold Stop
            rw [setRow_new]
            generalize W2.alloc (.cells (tkA t) (39 : Nat)) = W3 at XB HB3 HR3 HZ3 ⊢
            generalize W2.heap.size = bx at XB HOB HZ3 ⊢
            have XB2 : Aside0 (W3.heap[bx]? = some (.cells #[.int .u8 t.k, .string t.t, .int .i64 t.n, .int .i64 t.a] (39 : Nat) (0, 0))) := XB
            have hty := Tryz.underlying23
            have htn := infoK
            have HTY := Aside0.mk hty
            have HTN := Aside0.mk htn
            clear XB
            go_wp2_with first | ((with_reducible refine gate_ (.load 39 (.tmp 6)) rfl ?_); refine wpList_tkload rfl (.tmp 6) rfl rfl XB2.out rfl ?_) | ((with_reducible refine gate_builtin (b := .append) (xs := #[.tmp 35, .tmp 37]) rfl ?_); refine stop_here ?_)
            unfold Stop
            refine Kd.R_append kT (w0 := w) (W := W3) w.heap.size rfl (.tmp 35) (.tmp 37) 23 39 (.agg #[.int .u8 0, .string ⟨#[]⟩, .int .i64 0, .int .i64 0]) 40 rfl HTY.out HTN.out (by rfl) (by decide) (by decide) (.slice A4 acc.length c4) acc t [.int .u8 t.k, .string t.t, .int .i64 t.n, .int .i64 t.a] (fun _ => True) (fun _ => False) (by rfl) (by rfl) (kT_mkM _ _ _ t) (fun _ hk => hk.elim) (fun _ _ => trivial) HR3.out HB3.out HB3.out.size (by have := HA.out; omega) ?_
            intro v1 w1 ho hb hg hat
            have XB3 : Aside0 (w1.heap[bx]? = some (.cells #[.int .u8 t.k, .string t.t, .int .i64 t.n, .int .i64 t.a] (39 : Nat) (0, 0))) := ⟨(hg.block bx (Array.getElem?_eq_some_iff.1 XB2.out).1 (fun e => by have := HOB.out bx e.symm; omega)).trans XB2.out⟩
            have HR4 := Aside0.mk ho
            have HB4 := Aside0.mk hb
            clear ho hb hg hat HR3 HB3 XB2 HOB HZ3 hty htn
            obtain ⟨⟨_, r1, _, _⟩, _⟩ := cells4 XB3.out
            have hti : i + t.t.size ≤ s.size := by have := HTS.out; have := HX0.out; omega
            have hsk := skip_calls s HSZ.out (i + t.t.size) hti w1
            have hle := skp_le s s.size (i + t.t.size) hti
            obtain ⟨j, hj⟩ : ∃ j, skp s s.size (i + t.t.size) = j := ⟨_, rfl⟩
            rw [hj] at hsk hle HRES
            rw [Int.natCast_add] at hsk
            have HSK := Aside0.mk hsk
            have HLE := Aside0.mk hle
            have hts : t.t.size ≤ 140737488355328 := by omega
            clear hsk hle hj
            go_wp2_with fail
            refine HSK.out.mono ?_
            rintro e w' ⟨rfl, hw⟩
            subst hw
            clear HSK r1
            go_wp2
            go_roundg go
            case measure => omega
            case rel =>
              refine ⟨j, acc ++ [t], by first | rfl | trivial, ⟨?_⟩, ⟨?_⟩, HR4, HB4, ⟨?_⟩⟩
              · have := HLE.out; have := HK.out; have := HTS.out; omega
              · rw [List.length_append, List.length_singleton]; exact HRES.out
              · rw [List.length_append, List.length_singleton]; exact HFL.out
        · rw [if_neg he]
          have HE := Aside0.mk he
          have hrs := HRS.out
          rw [if_pos he] at hrs
          have HRES : Aside0 (res = ([], (i : Int), tkE x)) := ⟨by rw [← hrs, tkR, if_neg he]⟩
          have HB3 := Aside0.mk (HB2.out.alloc HB2.out.size (.cells (tkA t) (39 : Nat)))
          clear hrs HRS he
          unfold errV
          go_wp2_with ((with_reducible refine gate_ (.store 39 (.tmp 6) (.tmp 22)) rfl ?_); refine wpList_tkstore (cs' := tkA t) rfl (.tmp 6) (.tmp 22) rfl rfl rfl (heap_alloc_new W2 _) rfl rfl (by simp [Value.oneCell', tkA]) ?_)
          rw [setRow_new]
          show post (.returned (.tuple #[.slice none 0 0, errV (i : Int) (tkE x)])) _
          rw [← HPO.out, HT.out, HRES.out]
          exact ⟨⟨_, by rw [faultV, if_neg HE.out], Kd.R_nil _ _ _ _ _⟩, HB3.out⟩
      · have dl : decide (i < s.size) = false := decide_eq_false hi
        have dl2 : decide ((i : Int) < (s.size : Int)) = false := decide_eq_false (by omega)
        have HRES : Aside0 (res = (acc ++ [⟨0, ⟨#[]⟩, 0, i⟩], 0, 0)) := ⟨by
          have := HI.out
          cases gk with
          | zero => rw [tgo] at this; rw [← this]; rfl
          | succ n => rw [tgo, if_neg hi] at this; rw [← this]; rfl⟩
        have hty := Tryz.underlying23
        have htn := infoK
        have HTY := Aside0.mk hty
        have HTN := Aside0.mk htn
        have hzt := zeroT
        clear HI hi
        go_wp2_with ((with_reducible refine gate_builtin (b := .append) (xs := #[.tmp 46, .tmp 49]) rfl ?_); refine stop_here ?_)
        unfold Stop
        refine Kd.R_append kT (w0 := w) (W := wr) w.heap.size rfl (.tmp 46) (.tmp 49) 23 39 (.agg #[.int .u8 0, .string ⟨#[]⟩, .int .i64 0, .int .i64 0]) 40 rfl HTY.out HTN.out (by rfl) (by decide) (by decide) (.slice A4 acc.length c4) acc ⟨0, ⟨#[]⟩, 0, i⟩ [.int .u8 0, .string ⟨#[]⟩, .int .i64 0, .int .i64 (i : Int)] (fun _ => True) (fun _ => False) (by rfl) (by rfl) (kT_mkM _ _ _ (⟨0, ⟨#[]⟩, 0, i⟩ : Tk)) (fun _ hk => hk.elim) (fun _ _ => trivial) HR.out HB.out HB.out.size (by have := HA.out; omega) ?_
        intro v1 w1 ho hb hg hat
        have HR4 := Aside0.mk ho
        have HB4 := Aside0.mk hb
        clear ho hb hg hat HR HB hty htn hzt
        go_wp2
        show post (.returned (.tuple #[v1, .nilIface])) w1
        rw [← HPO.out, HT.out, HRES.out]
        exact ⟨⟨_, rfl, HR4.out⟩, HB4.out⟩
end Go.Proofs.YtpgdmghhbbekjaaGreatDoor.L
end
section
set_option linter.unusedVariables false
set_option linter.unusedSimpArgs false
namespace Go.Proofs.YtpgdmghhbbekjaaGreatDoor.L
open Go.RowKit Go.Proofs.YtpgdmghhbbekjaaGreatDoorW.PrintWords Go.Proofs.YtpgdmghhbbekjaaGreatDoorW.PrintLast Go.Maps
def nameB (s : ByteArray) : Bool := decide (0 < s.size) && decide (s.size ≤ 32) && letterB (bt s 0) && decide (spn namedB s s.size 0 = s.size) && !wordB s
def NamePost (b : Bool) (w : World) (e : Ending) (w' : World) : Prop := e = .returned (.bool b) ∧ Below w.heap.size w w'
set_option maxHeartbeats 4000000 in
theorem name_calls (s : ByteArray) (hs : s.size ≤ 140737488355328) (w : World) (htab : Tb w) : Calls Tryz.prog 13 #[.string s] w (NamePost (nameB s) w) := by
  obtain ⟨post, hpost⟩ : ∃ p, NamePost (nameB s) w = p := ⟨_, rfl⟩
  rw [hpost]
  have HPO := Aside0.mk hpost
  clear hpost
  by_cases h0 : s.size = 0
  · obtain rfl : s = ⟨#[]⟩ := by
      obtain ⟨d⟩ := s
      congr
      exact Array.size_eq_zero_iff.1 h0
    clear h0 htab hs
    go_enter Tryz.func13, Tryz.ntmps13
    go_wp2
    show post (.returned (.bool false)) w
    rw [← HPO.out]
    exact ⟨rfl, Below.refl _ _⟩
  have hne : s ≠ ⟨#[]⟩ := fun e => h0 (by rw [e]; rfl)
  have hne5 : s.toList.isEmpty = false := by
    rw [ByteArray.toList_eq]
    cases hz : s.data.toList with
    | nil => exact absurd (show s.size = 0 by show s.data.size = 0; rw [← Array.length_toList, hz]; rfl) h0
    | cons x y => rfl
  have hp : 0 < s.size := by omega
  by_cases h1 : s.size ≤ 32
  case neg =>
    have d1 : decide (s.size ≤ 32) = false := decide_eq_false h1
    have d2 : decide ((s.size : Int) ≤ 32) = false := decide_eq_false (by omega)
    have e0 : nameB s = false := by unfold nameB; rw [d1]; simp
    rw [e0] at HPO
    clear htab hs h0 h1 hp e0
    go_enter Tryz.func13, Tryz.ntmps13
    go_wp2
    show post (.returned (.bool false)) w
    rw [← HPO.out]
    exact ⟨rfl, Below.refl _ _⟩
  have d1 : decide (s.size ≤ 32) = true := decide_eq_true h1
  have d2 : decide ((s.size : Int) ≤ 32) = true := decide_eq_true (by omega)
  obtain ⟨c, hbc⟩ : ∃ c, bt s 0 = c := ⟨_, rfl⟩
  have hx6 : ((s[0]'hp).toNat : Int) = c := by have := bt_at s 0 (by simpa using hp); rw [← hbc]; simpa using this
  have q6 : ((0 : Int) < (s.size : Int)) = True := eq_true (by omega)
  obtain ⟨b0, b1⟩ := bt_range s 0
  rw [hbc] at b0 b1
  have hl := letter_calls b0 b1 w
  cases hb : letterB c with
  | false =>
    have e0 : nameB s = false := by unfold nameB; rw [hbc, hb]; simp
    rw [e0] at HPO
    rw [hb] at hl
    have HL := Aside0.mk hl
    clear htab hs h0 h1 e0 hb hl hbc b0 b1
    go_enter Tryz.func13, Tryz.ntmps13
    go_wp2_with fail
    refine HL.out.mono ?_
    rintro e w' ⟨rfl, rfl⟩
    go_wp2
    show post (.returned (.bool false)) w
    rw [← HPO.out]
    exact ⟨rfl, Below.refl _ _⟩
  | true =>
    rw [hb] at hl
    have HL := Aside0.mk hl
    have hspan := span_calls 27 namedB (fun c w h0 h1 => named_calls h0 h1 w) (enters_of Tryz.func27 (by kernel_rfl) rfl) s hs w
    have hle := spn_le namedB s s.size 0
    obtain ⟨m, hm⟩ : ∃ m, spn namedB s s.size 0 = m := ⟨_, rfl⟩
    rw [hm] at hspan hle
    have HS := Aside0.mk hspan
    have hms : m ≤ 140737488355328 := by omega
    by_cases h2 : m = s.size
    case neg =>
      have e0 : nameB s = false := by unfold nameB; rw [hm, decide_eq_false h2]; simp
      rw [e0] at HPO
      have d3 : ((m : Int) == (s.size : Int)) = false := by
        rw [beq_eq_false_iff_ne]
        omega
      have d4 : decide (m = s.size) = false := decide_eq_false h2
      have d5 : (m == s.size) = false := by simpa using h2
      clear htab hs h0 h1 e0 hb hl hbc b0 b1 hspan hle hm
      go_enter Tryz.func13, Tryz.ntmps13
      go_wp2_with fail
      refine HL.out.mono ?_
      rintro e w' ⟨rfl, rfl⟩
      go_wp2_with fail
      refine HS.out.mono ?_
      rintro e w' ⟨rfl, rfl⟩
      go_wp2
      show post (.returned (.bool false)) w
      rw [← HPO.out]
      exact ⟨rfl, Below.refl _ _⟩
    have e0 : nameB s = !wordB s := by unfold nameB; rw [hm, hbc, hb, decide_eq_true h2, d1, decide_eq_true hp]; simp
    rw [e0] at HPO
    subst h2
    have hw := word_calls s (by unfold maxLen; omega) w htab
    obtain ⟨b, hwb⟩ : ∃ b, wordB s = b := ⟨_, rfl⟩
    rw [hwb] at hw HPO
    have HW := Aside0.mk hw
    clear htab hs h0 h1 e0 hb hl hbc b0 b1 hspan hle hm hw hwb
    go_enter Tryz.func13, Tryz.ntmps13
    go_wp2_with fail
    refine HL.out.mono ?_
    rintro e w' ⟨rfl, rfl⟩
    go_wp2_with fail
    refine HS.out.mono ?_
    rintro e w' ⟨rfl, rfl⟩
    go_wp2_with fail
    refine HW.out.mono ?_
    rintro e w' ⟨rfl, hbw⟩
    have HBW := Aside0.mk hbw
    clear hbw
    go_wp2
    show post (.returned (.bool (!b))) w'
    rw [← HPO.out]
    exact ⟨rfl, HBW.out⟩
def lnM (s : ByteArray) (a : Int) : Nat := (min (max a 0) (s.size : Int)).toNat
def lnA (s : ByteArray) (a : Int) : Int := wrap64 (1 + (Lib.countByte (List.take (lnM s a) s.data.toList) 10 : Nat))
def lnC (s : ByteArray) (a : Int) : Int := wrap64 ((min (lnM s a) s.size : Nat) - Lib.lastIndexByte (s.extract 0 (lnM s a)) 10)
def LinePost (s : ByteArray) (a : Int) (w : World) (e : Ending) (w' : World) : Prop := e = .returned (.tuple #[.int .i64 (lnA s a), .int .i64 (lnC s a)]) ∧ w = w'
set_option maxHeartbeats 4000000 in
theorem lines_calls (s : ByteArray) (a : Int) (hs : s.size ≤ 140737488355328) (ha : -9223372036854775808 ≤ a ∧ a ≤ 9223372036854775807) (w : World) : Calls Tryz.prog 10 #[.string s, .int .i64 a] w (LinePost s a w) := by
  obtain ⟨post, hpost⟩ : ∃ p, LinePost s a w = p := ⟨_, rfl⟩
  rw [hpost]
  have HPO := Aside0.mk hpost
  clear hpost
  go_enter Tryz.func10, Tryz.ntmps10
  go_wp2_with fail
  refine (Tryz.strings_Count_one _ 10 _).mono ?_
  rintro e w' ⟨rfl, rfl⟩
  go_wp2_with fail
  refine (Tryz.strings_LastIndexByte _ 10 ?_ _).mono ?_
  · have : (s.extract 0 (min (max a 0) (s.size : Int)).toNat).size ≤ s.size := by
      simp only [ByteArray.size_extract]
      omega
    omega
  rintro e w' ⟨rfl, rfl⟩
  go_wp2
  show post (.returned (.tuple #[.int .i64 (lnA s a), .int .i64 (lnC s a)])) w'
  rw [← HPO.out]
  exact ⟨rfl, rfl⟩
end Go.Proofs.YtpgdmghhbbekjaaGreatDoor.L
end
section
set_option linter.unusedVariables false
set_option linter.unusedSimpArgs false
namespace Go.Proofs.YtpgdmghhbbekjaaGreatDoor.L
open Go.RowKit Go.Proofs.YtpgdmghhbbekjaaGreatDoorW.PrintWords Go.Proofs.YtpgdmghhbbekjaaGreatDoorW.PrintLast Go.Proofs.YtpgdmghhbbekjaaGreatDoorW.PrintMore Go.Maps
theorem alive_src : tokens ⟨#[120, 32, 61, 32, 121, 32, 42, 94, 32, 51, 59, 32, 45, 45, 32, 116, 104, 114, 101, 101]⟩ = ([⟨1, ⟨#[120]⟩, 0, 0⟩, ⟨4, ⟨#[61]⟩, 0, 2⟩, ⟨1, ⟨#[121]⟩, 0, 4⟩, ⟨4, ⟨#[42, 94]⟩, 0, 6⟩, ⟨2, ⟨#[51]⟩, 3, 9⟩, ⟨4, ⟨#[59]⟩, 0, 10⟩, ⟨0, ⟨#[]⟩, 0, 20⟩], 0, 0) := by kernel_rfl
theorem alive_bad : tokens ⟨#[120, 32, 61, 32, 121, 32, 38, 32, 122]⟩ = ([], 6, 30) := by kernel_rfl
def TkRow (w : World) (g : Nat) (l : List Tk) : Prop := ∀ i t, l[i]? = some t → w.rangeAt g (i * 4) [.int .u8 t.k, .string t.t, .int .i64 t.n, .int .i64 t.a]
theorem tk_row {w : World} {base : Nat} {ok : Nat → Prop} {v : Value} {l : List Tk} (h : Kd.R kT 39 w base ok v l) (h0 : 0 < l.length) : ∃ g cap, v = .slice (some ⟨g, 0, none⟩) l.length cap ∧ base ≤ g ∧ g < w.heap.size ∧ TkRow w g l := by
  obtain ⟨inner, ho⟩ := Kd.R_own h
  obtain ⟨A, c, he, hle, hC⟩ := Kd.R_reads h
  rcases ho.2 with ⟨hn, hl⟩ | ⟨g, cap, cur, hv, hg, hh, r⟩
  · rw [hn] at he
    injection he with _ e2 _
    omega
  · subst hv
    injection he with e1 _ e3
    subst e1
    refine ⟨g, cap, rfl, hg, (Array.getElem?_eq_some_iff.1 hh).1, fun i t hi => ?_⟩
    obtain ⟨hil, hit⟩ := List.getElem?_eq_some_iff.1 hi
    obtain ⟨ad, cc, ea, _, hK, hcell⟩ := Kd.C_get hC t (i : Int) (by omega) (by omega)
    injection ea with ea
    subst ea
    rw [Int.toNat_natCast, List.getD_eq_getElem?_getD, hi, Option.getD_some] at hK
    have := kT_open hK
    subst this
    intro j u hj
    have := hcell j u hj
    have e : Addr.add ⟨g, 0, none⟩ ((i : Int).toNat * kT.sz + j) = ⟨g, i * 4 + j, none⟩ := by
      rw [Int.toNat_natCast, show kT.sz = 4 from rfl]
      unfold Addr.add
      split
      · rename_i hh
        rw [hh]
      · simp
    rw [e] at this
    exact this
theorem TkRow.below {w w' : World} {g : Nat} {l : List Tk} (h : TkRow w g l) (hg : g < w.heap.size) (hb : Below w.heap.size w w') : TkRow w' g l := fun i t hi j u hj => by
  have := h i t hi j u hj
  simpa [World.cell?, hb.block g hg] using this
theorem wpList_tkmid {ops : Array Oper} {rest : List Oper} {op : Oper} {a : Act} {w : World} {Q : Exit → Act → World → Prop} (hw : Region.wanted op (yielded ops a.tmps) = true) (x : Operand) (ho : op.op = .load 39 x) {g o : Nat} (hx : a.eval x = .pointer (some ⟨g, o, none⟩)) {cs : List Value}
    (hb : w.rangeAt g o cs) (h4 : cs.length = 4) (h : wpList Tryz.prog ops Q rest (a.put op.dst (.agg cs.toArray)) w) : wpList Tryz.prog ops Q (op :: rest) a w := by
  rw [wpList, if_pos hw]
  left
  obtain ⟨fs, hu⟩ := underT
  unfold Oper.wp execOp
  simp only [ho, hx, Sem.run_bind, Result.andThen_ok, run_loadAt_mid w g o 39 cs (.struct fs) hb hu rfl (by rw [infoT, h4])]
  exact h
set_option maxHeartbeats 16000000 in
set_option maxRecDepth 100000 in
theorem alive_calls (w : World) (hL : Lib3 w) : Calls Tryz.prog 5 #[] w fun e w' => e = .returned (.bool true) ∧ Below w.heap.size w w' := by
  have ht1 := tokens_calls ⟨#[120, 32, 61, 32, 121, 32, 42, 94, 32, 51, 59, 32, 45, 45, 32, 116, 104, 114, 101, 101]⟩ (by decide) w hL
  rw [alive_src] at ht1
  have HT1 := Aside0.mk ht1
  have HL := Aside0.mk hL
  clear ht1 hL
  go_enter Tryz.func5, Tryz.ntmps5
  go_wp2_with fail
  refine HT1.out.mono ?_
  rintro e w1 ⟨⟨v, rfl, hr⟩, hb⟩
  rw [show faultV (0, 0) = .nilIface from rfl]
  obtain ⟨g, cap, rfl, hg0, hg1, hrow⟩ := tk_row hr (by decide)
  have ht2 := tokens_calls ⟨#[120, 32, 61, 32, 121, 32, 38, 32, 122]⟩ (by decide) w1 (HL.out.below hb)
  rw [alive_bad] at ht2
  have HT2 := Aside0.mk ht2
  have HR := Aside0.mk hrow
  have HB := Aside0.mk hb
  have HG1 := Aside0.mk hg1
  clear ht2 hb hrow hr HT1 hg0 hg1
  go_wp2_with fail
  refine HT2.out.mono ?_
  rintro e w2 ⟨⟨v, rfl, hr⟩, hb⟩
  rw [show faultV (6, 30) = errV 6 30 from rfl]
  have HR2 := Aside0.mk (HR.out.below HG1.out hb)
  have HB2 := Aside0.mk (HB.out.trans (hb.mono HB.out.size))
  clear hb hr HT2 HR HB HG1
  go_wp2_with fail
  refine (lines_calls ⟨#[97, 10, 98]⟩ 2 (by decide) (by decide) w2).mono ?_
  rintro e w' ⟨rfl, rfl⟩
  have hl : lnA ⟨#[97, 10, 98]⟩ 2 = 2 := by kernel_rfl
  have hc : lnC ⟨#[97, 10, 98]⟩ 2 = 1 := by kernel_rfl
  rw [hl, hc]
  clear hl hc
  have r3 := HR2.out 3 ⟨4, ⟨#[42, 94]⟩, 0, 6⟩ rfl
  have r4 := HR2.out 4 ⟨2, ⟨#[51]⟩, 3, 9⟩ rfl
  have r6 := HR2.out 6 ⟨0, ⟨#[]⟩, 0, 20⟩ rfl
  have R3 := Aside0.mk r3
  have R4 := Aside0.mk r4
  have R6 := Aside0.mk r6
  clear r3 r4 r6 HR2
  have hzt := zeroT
  go_wp2_with first | ((with_reducible refine gate_ (.load 39 (.tmp 28)) rfl ?_); refine wpList_tkmid (by rfl) (.tmp 28) rfl rfl (o := 12) R3.out rfl ?_) | ((with_reducible refine gate_ (.load 39 (.tmp 35)) rfl ?_); refine wpList_tkmid (by rfl) (.tmp 35) rfl rfl (o := 16) R4.out rfl ?_) | ((with_reducible refine gate_ (.load 39 (.tmp 42)) rfl ?_); refine wpList_tkmid (by rfl) (.tmp 42) rfl rfl (o := 24) R6.out rfl ?_)
  refine (is_wrong 6 30 w2).mono ?_
  rintro e w3 ⟨rfl, hb⟩
  have HB3 := Aside0.mk (HB2.out.trans (hb.mono HB2.out.size))
  clear hb HB2 R3 R4 R6 hzt
  have hw := word_calls ⟨#[102, 98, 121]⟩ (by decide) w3 (HL.out.below HB3.out).tb
  rw [show wordB ⟨#[102, 98, 121]⟩ = true by kernel_rfl] at hw
  have HW := Aside0.mk hw
  clear hw
  go_wp2_with fail
  refine HW.out.mono ?_
  rintro e w4 ⟨rfl, hb⟩
  have HB4 := Aside0.mk (HB3.out.trans (hb.mono HB3.out.size))
  clear hb HB3 HW
  have hw := name_calls ⟨#[120]⟩ (by decide) w4 (HL.out.below HB4.out).tb
  rw [show nameB ⟨#[120]⟩ = true by kernel_rfl] at hw
  have HW := Aside0.mk hw
  clear hw
  go_wp2_with fail
  refine HW.out.mono ?_
  rintro e w5 ⟨rfl, hb⟩
  have HB5 := Aside0.mk (HB4.out.trans (hb.mono HB4.out.size))
  clear hb HB4 HW
  go_wp2
  go_ret
  exact ⟨rfl, HB5.out⟩
end Go.Proofs.YtpgdmghhbbekjaaGreatDoor.L
end
section
set_option linter.unusedVariables false
set_option linter.unusedSimpArgs false
namespace Go.Proofs.YtpgdmghhbbekjaaGreatDoor.L
open Go.RowKit Go.Proofs.YtpgdmghhbbekjaaGreatDoorW.PrintWords Go.Proofs.YtpgdmghhbbekjaaGreatDoorW.PrintLast Go.Proofs.YtpgdmghhbbekjaaGreatDoorW.PrintMore Go.Maps
open Go.Proofs.YtpgdmghhbbekjaaGreatDoor.H
theorem toS_C {w : World} {A : Option Addr} {n : Nat} {l : List Tk} (h : Kd.C kT w A n l) : Kd.C k39 w A n (l.map toS) := by
  obtain ⟨h1, h2, h3⟩ := h
  refine ⟨by rw [List.length_map]; exact h1, h2, fun hn => ?_⟩
  obtain ⟨ad, e, hc⟩ := h3 hn
  refine ⟨ad, e, fun j p hj => ?_⟩
  rw [List.getElem?_map] at hj
  obtain ⟨t, ht, rfl⟩ := Option.map_eq_some_iff.1 hj
  obtain ⟨c, hs, hr, hcell⟩ := hc j t ht
  exact ⟨c, hs, hr, hcell⟩
theorem tgo_len (s : ByteArray) : ∀ n i c, (tgo s n i c).1.length ≤ n + 1
  | 0, i, c => by rw [tgo]; exact Nat.le_refl _
  | n + 1, i, c => by
    have ih := tgo_len s n (skp s s.size (i + (tkT (s.extract i s.size) i).t.size)) (c + 1)
    rw [tgo]
    repeat' split
    all_goals simp
    omega
theorem tokens_len (s : ByteArray) : (tokens s).1.length ≤ s.size + 2 := by
  unfold tokens
  split
  · simp
  · exact tgo_len s (s.size + 1) _ 0
theorem fa_store {W : World} {g : Nat} {t : TypeId} {cs cs' : Array Value} (h : W.heap[g]? = some (.cells cs t (0, 0))) (h4 : cs.size = 2) (h4' : cs'.size = 2) (h1 : cs'.all (·.oneCell') = true) : (Instr.storeAt 30 (.pointer (some ⟨g, 0, none⟩)) (.agg cs')).run Tryz.prog W = .ok () (W.setRow g cs') := by
  have := run_storeVar_row (P := Tryz.prog) W g t 30 cs cs' h (by rw [infoF, h4']) (by rw [h4, h4']) h1
  simp only [Instr.storeAt, Instr.sureAddr, Sem.run_bind, Sem.run_pure, Result.andThen]
  exact this
theorem wpList_fastore {ops : Array Oper} {rest : List Oper} {op : Oper} {a : Act} {w : World} {Q : Exit → Act → World → Prop} (hgd : op.guard = none) (x y : Operand) (ho : op.op = .store 30 x y) {g : Nat} (hx : a.eval x = .pointer (some ⟨g, 0, none⟩)) {t : TypeId} {cs cs' : Array Value}
    (hy : a.eval y = .agg cs') (hb : w.heap[g]? = some (.cells cs t (0, 0))) (h4 : cs.size = 2) (h4' : cs'.size = 2) (h1 : cs'.all (·.oneCell') = true) (h : wpList Tryz.prog ops Q rest (a.put op.dst undef) (w.setRow g cs')) : wpList Tryz.prog ops Q (op :: rest) a w := by
  refine wpList_plain hgd fun _ hK => ?_
  unfold Oper.wp execOp
  simp only [ho, hx, hy, Sem.run_bind, Result.andThen_ok, fa_store hb h4 h4' h1]
  exact hK _ _ h
theorem wpList_famid {ops : Array Oper} {rest : List Oper} {op : Oper} {a : Act} {w : World} {Q : Exit → Act → World → Prop} (hw : Region.wanted op (yielded ops a.tmps) = true) (x : Operand) (ho : op.op = .load 30 x) {g o : Nat} (hx : a.eval x = .pointer (some ⟨g, o, none⟩)) {cs : List Value}
    (hb : w.rangeAt g o cs) (h4 : cs.length = 2) (h : wpList Tryz.prog ops Q rest (a.put op.dst (.agg cs.toArray)) w) : wpList Tryz.prog ops Q (op :: rest) a w := by
  rw [wpList, if_pos hw]
  left
  obtain ⟨fs, hu⟩ := underF
  unfold Oper.wp execOp
  simp only [ho, hx, Sem.run_bind, Result.andThen_ok, run_loadAt_mid w g o 30 cs (.struct fs) hb hu rfl (by rw [infoF, h4])]
  exact h
set_option maxHeartbeats 16000000 in
set_option maxRecDepth 100000 in
theorem lextokens_calls (s : ByteArray) (hs : s.size ≤ 140737488355328) (w : World) (hL : Lib3 w) (hE : EtIs w) : Calls Tryz.prog 3 #[.string s] w fun e w' => e = .returned (.bool true) ∧ Below w.heap.size w w' := by
  have HL := Aside0.mk hL
  have HE := Aside0.mk hE
  have HSZ := Aside0.mk hs
  clear hL hE
  by_cases hlong : 4096 < s.size
  · have d1 : decide ((4096 : Int) < (s.size : Int)) = true := decide_eq_true (by omega)
    have d2 : decide (4096 < s.size) = true := decide_eq_true hlong
    have HA := Aside0.mk (alive_calls w HL.out)
    clear hlong
    go_enter Tryz.func3, Tryz.ntmps3
    go_wp2_with fail
    refine HA.out.mono ?_
    rintro e w' ⟨rfl, hb⟩
    have HB := Aside0.mk hb
    clear hb
    go_wp2
    go_ret
    exact ⟨rfl, HB.out⟩
  · have d1 : decide ((4096 : Int) < (s.size : Int)) = false := decide_eq_false (by omega)
    have d2 : decide (4096 < s.size) = false := decide_eq_false hlong
    have htc := tokens_calls s hs w HL.out
    have hrt := ref_tokens s (by omega) 100000 (Nat.le_refl _)
    have hsm := ref_same ((tokens s).1.map toS) (by rw [List.length_map]; have := tokens_len s; omega) 100001 (Nat.le_refl _)
    obtain ⟨⟨l, at_, er⟩, hl⟩ : ∃ r, tokens s = r := ⟨_, rfl⟩
    rw [hl] at htc hrt hsm
    have HTC := Aside0.mk htc
    have HRT := Aside0.mk hrt
    have HSM := Aside0.mk hsm
    clear htc hrt hsm hl hlong
    go_enter Tryz.func3, Tryz.ntmps3
    go_wp2_with fail
    refine HTC.out.mono ?_
    rintro e w1 ⟨⟨v, rfl, hr⟩, hb⟩
    obtain ⟨A1, c1, rfl, hc1, hC1⟩ := Kd.R_reads hr
    obtain ⟨fv, hfv⟩ : ∃ fv, faultV (at_, er) = fv := ⟨_, rfl⟩
    have HFV := Aside0.mk hfv
    have HB1 := Aside0.mk hb
    have HC1 := Aside0.mk (toS_C hC1)
    have HK1 := Aside0.mk hc1
    rw [show faultV (l, at_, er).2 = fv from hfv]
    clear hr hb hc1 hC1 HTC hfv
    go_wp2_with fail
    refine (carillonref03_Tokens.calls 100000 s _ _ _ w1 HRT.out).mono ?_
    rintro e w2 ⟨v, rfl, hr, hb⟩
    obtain ⟨A2, c2, rfl, hc2, hC2⟩ := Kd.R_reads hr
    have HB2 := Aside0.mk (HB1.out.trans (hb.mono HB1.out.size))
    have HC1b := Aside0.mk (Kd.C_below HC1.out hb)
    have HC2 := Aside0.mk hC2
    have HK2 := Aside0.mk hc2
    have HFX := Aside0.mk (heap_alloc_new w2 (.cells #[Value.int .i64 at_, .int .i64 er] (30 : Nat)))
    have HB3 := Aside0.mk (HB2.out.alloc HB2.out.size (.cells #[Value.int .i64 at_, .int .i64 er] (30 : Nat)))
    have HC1c := Aside0.mk (Kd.C_alloc HC1b.out (.cells #[Value.int .i64 at_, .int .i64 er] (30 : Nat)))
    have HC2c := Aside0.mk (Kd.C_alloc HC2.out (.cells #[Value.int .i64 at_, .int .i64 er] (30 : Nat)))
    clear hr hb hc2 hC2 HC1 HC2 HC1b HB1 HRT
    go_wp2_with first | ((with_reducible refine gate_ (.store 30 (.tmp 6) (.tmp 20)) rfl ?_); refine wpList_fastore (cs' := #[.int .i64 at_, .int .i64 er]) rfl (.tmp 6) (.tmp 20) rfl rfl rfl (heap_alloc_new w2 _) rfl rfl (by simp [Value.oneCell']) ?_; refine stop_here ?_)
    unfold Stop
    rw [setRow_new]
    have hz2 : (w2.alloc (.cells #[Value.int .i64 at_, .int .i64 er] (30 : Nat))).heap.size = w2.heap.size + 1 := by simp
    generalize w2.alloc (.cells #[Value.int .i64 at_, .int .i64 er] (30 : Nat)) = w3 at HFX HB3 HC1c HC2c hz2 ⊢
    generalize w2.heap.size = gf at HFX hz2 ⊢
    have HZ := Aside0.mk hz2
    clear hz2 HB2
    have hs2 := carillonlaw03_same.calls 100001 A1 c1 (l.map toS) A2 c2 (l.map toS) true w3 (by rw [List.length_map]; exact HC1c.out) (by rw [List.length_map]; exact HK1.out) HC2c.out HK2.out HSM.out
    rw [List.length_map] at hs2
    have HS2 := Aside0.mk hs2
    clear hs2
    go_wp2_with fail
    refine HS2.out.mono ?_
    rintro e w4 ⟨rfl, hd⟩
    have hb := hd.below
    have hfx := (hb.block gf (by have := HZ.out; omega)).trans HFX.out
    have HFX4 : Aside0 (w4.rangeAt gf 0 [Value.int .i64 at_, .int .i64 er]) := ⟨fun j v hj => by
      have hv : (#[Value.int .i64 at_, Value.int .i64 er] : Array Value)[j]? = some v := by simpa using hj
      simp [World.cell?, hfx, hv]⟩
    have HB4 := Aside0.mk (HB3.out.trans (hb.mono HB3.out.size))
    have HT := Aside0.mk (told_calls at_ er w4 (HE.out.below HB4.out))
    rw [HFV.out] at HT
    clear hd hb hfx HFX HB3 HC1c HC2c HS2 HK1 HK2 HSM HZ
    go_wp2_with first | ((with_reducible refine gate_ (.load 30 (.tmp 6)) rfl ?_); refine wpList_famid (by rfl) (.tmp 6) rfl rfl (o := 0) HFX4.out rfl ?_)
    refine HT.out.mono ?_
    rintro e w5 ⟨rfl, hb⟩
    have HB5 := Aside0.mk (HB4.out.trans (hb.mono HB4.out.size))
    have HA := Aside0.mk (alive_calls w5 (HL.out.below HB5.out))
    clear hb HT HB4 HFX4
    go_wp2_with fail
    refine HA.out.mono ?_
    rintro e w6 ⟨rfl, hb⟩
    have HB6 := Aside0.mk (HB5.out.trans (hb.mono HB5.out.size))
    clear hb
    go_wp2
    go_ret
    exact ⟨rfl, HB6.out⟩
end Go.Proofs.YtpgdmghhbbekjaaGreatDoor.L
end
