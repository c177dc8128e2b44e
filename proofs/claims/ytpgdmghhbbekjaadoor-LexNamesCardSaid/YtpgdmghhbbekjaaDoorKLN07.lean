/- The law LexNames: for every input it returns true, and its arguments read as they read before; and the tied card. The conditions: none. (Its parts: Lxj Lxk Lxn Lxo Lxp Open RowNames.) -/
import Derived.LaidEql
import Derived.Stop.Asserts
import Derived.Lib.IfaceEq
import Derived.RowKitTokens
import Derived.Test.YtpgdmghhbbekjaaDoorRows
import Derived.Stop.LaidErr
import Derived.Stop.Texts
import Derived.MakeChecks
import Derived.Lib.LaidTab
import Derived.LaidMore
import Derived.SizedLaws
import Derived.ChangeArms
import Derived.DataReads
import Derived.Test.YtpgdmghhbbekjaaDoorTie
import Derived.Test.YtpgdmghhbbekjaaDoorCards
import Derived.ChangeSlices
import Derived.WalkKit
import Derived.ProofKit
import Derived.OpenShut
import Derived.ShutString
import Derived.ChangeOld
import Derived.Below
import Derived.Stop.Joined
import Derived.SevenTiedAt
import Derived.Test.YtpgdmghhbbekjaaDoorKLN01
import Derived.Test.YtpgdmghhbbekjaaDoorKLN03
import Derived.Test.YtpgdmghhbbekjaaDoorKLN04
import Derived.Test.YtpgdmghhbbekjaaDoorKLN05
import Derived.Test.YtpgdmghhbbekjaaDoorKLN06
section
set_option linter.unusedVariables false
set_option linter.unusedSimpArgs false
namespace Go.Proofs.YtpgdmghhbbekjaaDoor.L
open Go.RowKit Go.Proofs.YtpgdmghhbbekjaaDoorW.PrintWords Go.Proofs.YtpgdmghhbbekjaaDoorW.PrintLast Go.Proofs.YtpgdmghhbbekjaaDoorW.PrintMore Go.Maps
def Stop (p : Prop) : Prop := p
theorem stop_here {p : Prop} (h : Stop p) : p := h
theorem infoK : (Tryd.prog.info? 34).map (fun i => (i.zero, i.size, i.bytes)) = some (some (.agg #[.int .u8 0, .string ⟨#[]⟩, .int .i64 0, .int .i64 0]), 4, 40) := by kernel_rfl
set_option maxHeartbeats 16000000 in
set_option maxRecDepth 100000 in
theorem tokens_calls (s : ByteArray) (hs : s.size ≤ 140737488355328) (w : World) (hL : Lib3 w) : Calls Tryd.prog 12 #[.string s] w (ToksPost (tokens s) w) := by
  have HSZ := Aside0.mk hs
  have HL := Aside0.mk hL
  obtain ⟨post, hpost⟩ : ∃ p, ToksPost (tokens s) w = p := ⟨_, rfl⟩
  rw [hpost]
  have HPO := Aside0.mk hpost
  clear hpost hL
  by_cases hlong : 65536 < s.size
  · have d1 : decide ((65536 : Int) < (s.size : Int)) = true := decide_eq_true (by omega)
    have d2 : decide (65536 < s.size) = true := decide_eq_true hlong
    have HT : Aside0 (tokens s = ([], 65536, 4)) := ⟨by unfold tokens; rw [if_pos hlong]⟩
    clear hlong
    go_enter Tryd.func12, Tryd.ntmps12
    go_wp2_with fail
    refine (fault_calls 65536 4 _).mono ?_
    rintro e w' ⟨rfl, rfl⟩
    go_wp2
    show post (.returned (.tuple #[.slice none 0 0, errV 65536 4])) w
    rw [← HPO.out, HT.out]
    exact ⟨⟨_, rfl, Kd.R_nil _ _ _ _ _⟩, Below.refl _ _⟩
  · have d1 : decide ((65536 : Int) < (s.size : Int)) = false := decide_eq_false (by omega)
    have d2 : decide (65536 < s.size) = false := decide_eq_false hlong
    obtain ⟨res, hres⟩ : ∃ r, tkR [] (tgo s (s.size + 1) (skp s s.size 0) 0) = r := ⟨_, rfl⟩
    have HT : Aside0 (tokens s = res) := ⟨by rw [tokens_zero, if_neg hlong]; exact hres⟩
    have HRS := Aside0.mk hres
    have hsk := skip_calls s hs 0 (Nat.zero_le _) w
    have hle := skp_le s s.size 0 (Nat.zero_le _)
    obtain ⟨i0, hi0⟩ : ∃ i, skp s s.size 0 = i := ⟨_, rfl⟩
    rw [hi0] at hsk hle HRS
    have HSK := Aside0.mk hsk
    have HLE := Aside0.mk hle
    clear hlong hres hsk hle hi0
    go_enter Tryd.func12, Tryd.ntmps12
    go_wp2_with fail
    refine HSK.out.mono ?_
    rintro e w' ⟨rfl, rfl⟩
    clear HSK
    go_wp2_with fail
    go_loopg [4, 5] (s.size + 1) (fun kq v4 v5 wr => ∃ (i : Nat) (acc : List Tk), v5 = .int .i64 (i : Int) ∧ Aside0 (s.size + 1 ≤ kq + i ∧ i ≤ s.size) ∧ Aside0 (tkR acc (tgo s kq i acc.length) = res) ∧ Aside0 (Kd.R kT 34 wr w.heap.size (fun _ => True) v4 acc) ∧ Aside0 (Below w.heap.size w wr) ∧ Aside0 (acc.length < 16384))
    case atStart => exact ⟨i0, [], rfl, ⟨by omega, HLE.out.2⟩, HRS, ⟨Kd.R_nil _ _ _ _ _⟩, ⟨Below.refl _ _⟩, ⟨by decide⟩⟩
    case round =>
      clear HRS HLE
      obtain ⟨i, acc, rfl, HK, HI, HR, HB, HA⟩ := hrel
      obtain ⟨A4, c4, rfl⟩ := Kd.R_slice HR.out
      by_cases hi : i < s.size
      · have dl : decide (i < s.size) = true := decide_eq_true hi
        have dl2 : decide ((i : Int) < (s.size : Int)) = true := decide_eq_true (by omega)
        obtain ⟨go, rfl⟩ : ∃ go, gk = go + 1 := ⟨gk - 1, by have := HK.out; omega⟩
        have htk := token_calls s HSZ.out i hi wr (HL.out.below HB.out)
        have hzx := ext_size s i s.size (Nat.le_refl _)
        have hrs := HI.out
        have hstep := fun h2 h3 => tgo_step (s := s) (n := go) (i := i) (c := acc.length) (acc := acc) rfl hi h2 h3
        rw [tgo, if_pos hi] at hrs
        obtain ⟨x, hx⟩ : ∃ x, s.extract i s.size = x := ⟨_, rfl⟩
        rw [hx] at htk hzx hrs hstep
        have HTK := Aside0.mk htk
        have HX0 : Aside0 (0 < x.size ∧ x.size + i = s.size) := ⟨by omega⟩
        have HST := Aside0.mk hstep
        have HRS := Aside0.mk hrs
        have hzt := zeroT
        clear htk hzx hrs hstep hx
        go_wp2_with fail
        refine HTK.out.mono ?_
        rintro e W2 ⟨⟨t, rfl, ht⟩, hb⟩
        have HTT := Aside0.mk ht
        have HB2 := Aside0.mk (HB.out.trans (hb.mono HB.out.size))
        have HR2 := Aside0.mk (Kd.R_below HR.out hb)
        clear hb ht HTK HR HB
        by_cases he : tkE x = 0
        · rw [if_pos he]
          have HE := Aside0.mk he
          obtain rfl := HTT.out he
          have hts := tkT_size (i := (i : Int)) HX0.out.1 he
          have hrs := HRS.out
          rw [if_neg (by rw [he]; decide)] at hrs
          have XB := Aside0.mk (heap_alloc_new W2 (.cells (tkA (tkT x i)) (34 : Nat)))
          have HB3 := Aside0.mk (HB2.out.alloc HB2.out.size (.cells (tkA (tkT x i)) (34 : Nat)))
          have HR3 := Aside0.mk (Kd.R_alloc HR2.out (.cells (tkA (tkT x i)) (34 : Nat)))
          have HOB : Aside0 (∀ k, (Value.slice A4 acc.length c4).ownBlock = some k → k < W2.heap.size) := ⟨fun k hk => ((Kd.R_bound HR2.out).1 k hk).2.2.1⟩
          have HZ3 : Aside0 ((W2.alloc (.cells (tkA (tkT x i)) (34 : Nat))).heap.size = W2.heap.size + 1) := ⟨by simp⟩
          obtain ⟨t, ht⟩ : ∃ t, tkT x i = t := ⟨_, rfl⟩
          rw [ht] at hts XB HB3 HR3 HZ3 ⊢
          have HTS := Aside0.mk hts
          have HTE := Aside0.mk ht
          clear hts ht he HR2 HB2
          by_cases hfull : 16384 ≤ acc.length + 1
          · rw [if_pos hfull] at hrs
            have HRES : Aside0 (res = ([], (i : Int), 6)) := ⟨by rw [← hrs]; rfl⟩
            have f1 : decide ((16384 : Int) ≤ (acc.length : Int) + 1) = true := decide_eq_true (by omega)
            have f2 : decide (16384 ≤ acc.length + 1) = true := decide_eq_true hfull
            have hacc : acc.length < 16384 := HA.out
            clear hrs HRS hfull
            go_wp2_with ((with_reducible refine gate_ (.store 34 (.tmp 6) (.tmp 22)) rfl ?_); refine wpList_tkstore (cs' := tkA t) rfl (.tmp 6) (.tmp 22) rfl rfl rfl (heap_alloc_new W2 _) rfl rfl (by simp [Value.oneCell', tkA]) ?_)
            rw [setRow_new]
            refine (fault_calls (i : Int) 6 _).mono ?_
            rintro e w' ⟨rfl, hw⟩
            subst hw
            go_wp2
            show post (.returned (.tuple #[.slice none 0 0, errV (i : Int) 6])) _
            rw [← HPO.out, HT.out, HRES.out]
            exact ⟨⟨_, rfl, Kd.R_nil _ _ _ _ _⟩, HB3.out⟩
          · rw [if_neg hfull] at hrs
            have HRES : Aside0 (tkR (acc ++ [t]) (tgo s go (skp s s.size (i + t.t.size)) (acc.length + 1)) = res) := ⟨by
              have h1 := HST.out HE.out hfull
              rw [HTE.out] at h1
              rw [← h1]
              exact HI.out⟩
            have f1 : decide ((16384 : Int) ≤ (acc.length : Int) + 1) = false := decide_eq_false (by omega)
            have f2 : decide (16384 ≤ acc.length + 1) = false := decide_eq_false hfull
            have HFL : Aside0 (acc.length + 1 < 16384) := ⟨by omega⟩
            have hacc : acc.length < 16384 := HA.out
            clear hrs HRS hfull HI HST
            go_wp2_with first | ((with_reducible refine gate_ (.store 34 (.tmp 6) (.tmp 22)) rfl ?_); refine wpList_tkstore (cs' := tkA t) rfl (.tmp 6) (.tmp 22) rfl rfl rfl (heap_alloc_new W2 _) rfl rfl (by simp [Value.oneCell', tkA]) ?_; refine stop_here ?_)
            unfold Stop
            rw [setRow_new]
            generalize W2.alloc (.cells (tkA t) (34 : Nat)) = W3 at XB HB3 HR3 HZ3 ⊢
            generalize W2.heap.size = bx at XB HOB HZ3 ⊢
            have XB2 : Aside0 (W3.heap[bx]? = some (.cells #[.int .u8 t.k, .string t.t, .int .i64 t.n, .int .i64 t.a] (34 : Nat) (0, 0))) := XB
            have hty := Tryd.underlying28
            have htn := infoK
            have HTY := Aside0.mk hty
            have HTN := Aside0.mk htn
            clear XB
            go_wp2_with first | ((with_reducible refine gate_ (.load 34 (.tmp 6)) rfl ?_); refine wpList_tkload rfl (.tmp 6) rfl rfl XB2.out rfl ?_) | ((with_reducible refine gate_builtin (b := .append) (xs := #[.tmp 35, .tmp 37]) rfl ?_); refine stop_here ?_)
            unfold Stop
            refine Kd.R_append kT (w0 := w) (W := W3) w.heap.size rfl (.tmp 35) (.tmp 37) 28 34 (.agg #[.int .u8 0, .string ⟨#[]⟩, .int .i64 0, .int .i64 0]) 40 rfl HTY.out HTN.out (by rfl) (by decide) (by decide) (.slice A4 acc.length c4) acc t [.int .u8 t.k, .string t.t, .int .i64 t.n, .int .i64 t.a] (fun _ => True) (fun _ => False) (by rfl) (by rfl) (kT_mkM _ _ _ t) (fun _ hk => hk.elim) (fun _ _ => trivial) HR3.out HB3.out HB3.out.size (by have := HA.out; omega) ?_
            intro v1 w1 ho hb hg hat
            have XB3 : Aside0 (w1.heap[bx]? = some (.cells #[.int .u8 t.k, .string t.t, .int .i64 t.n, .int .i64 t.a] (34 : Nat) (0, 0))) := ⟨(hg.block bx (Array.getElem?_eq_some_iff.1 XB2.out).1 (fun e => by have := HOB.out bx e.symm; omega)).trans XB2.out⟩
            have HR4 := Aside0.mk ho
            have HB4 := Aside0.mk hb
            clear ho hb hg hat HR3 HB3 XB2 HOB HZ3 hty htn
            obtain ⟨⟨_, r1, _, _⟩, _⟩ := cells4 XB3.out
            have hti : i + t.t.size ≤ s.size := by have := HTS.out; have := HX0.out; omega
            have hsk := skip_calls s HSZ.out (i + t.t.size) hti w1
            have hle := skp_le s s.size (i + t.t.size) hti
            obtain ⟨j, hj⟩ : ∃ j, skp s s.size (i + t.t.size) = j := ⟨_, rfl⟩
            rw [hj] at hsk hle HRES
            rw [Int.natCast_add] at hsk
            have HSK := Aside0.mk hsk
            have HLE := Aside0.mk hle
            have hts : t.t.size ≤ 140737488355328 := by omega
            clear hsk hle hj
            go_wp2_with fail
            refine HSK.out.mono ?_
            rintro e w' ⟨rfl, hw⟩
            subst hw
            clear HSK r1
            go_wp2
            go_roundg go
            case measure => omega
            case rel =>
              refine ⟨j, acc ++ [t], by first | rfl | trivial, ⟨?_⟩, ⟨?_⟩, HR4, HB4, ⟨?_⟩⟩
              · have := HLE.out; have := HK.out; have := HTS.out; omega
              · rw [List.length_append, List.length_singleton]; exact HRES.out
              · rw [List.length_append, List.length_singleton]; exact HFL.out
        · rw [if_neg he]
          have HE := Aside0.mk he
          have hrs := HRS.out
          rw [if_pos he] at hrs
          have HRES : Aside0 (res = ([], (i : Int), tkE x)) := ⟨by rw [← hrs, tkR, if_neg he]⟩
          have HB3 := Aside0.mk (HB2.out.alloc HB2.out.size (.cells (tkA t) (34 : Nat)))
          clear hrs HRS he
          unfold errV
          go_wp2_with ((with_reducible refine gate_ (.store 34 (.tmp 6) (.tmp 22)) rfl ?_); refine wpList_tkstore (cs' := tkA t) rfl (.tmp 6) (.tmp 22) rfl rfl rfl (heap_alloc_new W2 _) rfl rfl (by simp [Value.oneCell', tkA]) ?_)
          rw [setRow_new]
          show post (.returned (.tuple #[.slice none 0 0, errV (i : Int) (tkE x)])) _
          rw [← HPO.out, HT.out, HRES.out]
          exact ⟨⟨_, by rw [faultV, if_neg HE.out], Kd.R_nil _ _ _ _ _⟩, HB3.out⟩
      · have dl : decide (i < s.size) = false := decide_eq_false hi
        have dl2 : decide ((i : Int) < (s.size : Int)) = false := decide_eq_false (by omega)
        have HRES : Aside0 (res = (acc ++ [⟨0, ⟨#[]⟩, 0, i⟩], 0, 0)) := ⟨by
          have := HI.out
          cases gk with
          | zero => rw [tgo] at this; rw [← this]; rfl
          | succ n => rw [tgo, if_neg hi] at this; rw [← this]; rfl⟩
        have hty := Tryd.underlying28
        have htn := infoK
        have HTY := Aside0.mk hty
        have HTN := Aside0.mk htn
        have hzt := zeroT
        clear HI hi
        go_wp2_with ((with_reducible refine gate_builtin (b := .append) (xs := #[.tmp 46, .tmp 49]) rfl ?_); refine stop_here ?_)
        unfold Stop
        refine Kd.R_append kT (w0 := w) (W := wr) w.heap.size rfl (.tmp 46) (.tmp 49) 28 34 (.agg #[.int .u8 0, .string ⟨#[]⟩, .int .i64 0, .int .i64 0]) 40 rfl HTY.out HTN.out (by rfl) (by decide) (by decide) (.slice A4 acc.length c4) acc ⟨0, ⟨#[]⟩, 0, i⟩ [.int .u8 0, .string ⟨#[]⟩, .int .i64 0, .int .i64 (i : Int)] (fun _ => True) (fun _ => False) (by rfl) (by rfl) (kT_mkM _ _ _ (⟨0, ⟨#[]⟩, 0, i⟩ : Tk)) (fun _ hk => hk.elim) (fun _ _ => trivial) HR.out HB.out HB.out.size (by have := HA.out; omega) ?_
        intro v1 w1 ho hb hg hat
        have HR4 := Aside0.mk ho
        have HB4 := Aside0.mk hb
        clear ho hb hg hat HR HB hty htn hzt
        go_wp2
        show post (.returned (.tuple #[v1, .nilIface])) w1
        rw [← HPO.out, HT.out, HRES.out]
        exact ⟨⟨_, rfl, HR4.out⟩, HB4.out⟩
end Go.Proofs.YtpgdmghhbbekjaaDoor.L
end
section
set_option linter.unusedVariables false
set_option linter.unusedSimpArgs false
namespace Go.Proofs.YtpgdmghhbbekjaaDoor.L
open Go.RowKit Go.Extern.Stop Go.Stop Go.Extern Go.Proofs.YtpgdmghhbbekjaaDoorW.PrintWords Go.Proofs.YtpgdmghhbbekjaaDoorW.PrintLast
theorem isTypeOf (v : Value) (w : World) : (Extern.ReflectliteType.typeOf #[.iface 38 v]).run Tryd.prog w = .ok (.iface 66 (.agg #[.pointer (some ⟨9, 38, none⟩)])) w := by kernel_rfl
def cmpE : Array Value → Sem Value := Extern.ReflectliteType.method fun t => do Go.Extern.Rtype.noPackHeld "Comparable" t; pure (.bool (← typeInfo t).comparable)
theorem isComparable (w : World) : (cmpE #[.agg #[.pointer (some ⟨9, 38, none⟩)]]).run Tryd.prog w = .ok (.bool true) w := by kernel_rfl
theorem isMethodComparable (v : Value) (w : World) : (Go.method 265 66 v "Comparable").run Tryd.prog w = .ok (103, v) w := by kernel_rfl
theorem noIsW (v : Value) (xT : TypeId) (w : World) : (Instr.typeAssert (.iface 61 v) xT 68 true).run Tryd.prog w = .ok (.tuple #[.nilIface, .bool false]) w := run_typeAssert_lacksB Tryd.underlying68 (by kernel_rfl) (by kernel_rfl) v xT w
theorem noIsF (v : Value) (xT : TypeId) (w : World) : (Instr.typeAssert (.iface 59 v) xT 68 true).run Tryd.prog w = .ok (.tuple #[.nilIface, .bool false]) w := run_typeAssert_lacksB Tryd.underlying68 (by kernel_rfl) (by kernel_rfl) v xT w
theorem hasUnwrapW (v : Value) (xT : TypeId) (w : World) : (Instr.typeAssert (.iface 61 v) xT 71 true).run Tryd.prog w = .ok (.tuple #[.iface 61 v, .bool true]) w := run_typeAssert_hasB Tryd.underlying71 (by kernel_rfl) v xT w
theorem hasUnwrapF (v : Value) (xT : TypeId) (w : World) : (Instr.typeAssert (.iface 59 v) xT 71 true).run Tryd.prog w = .ok (.tuple #[.iface 59 v, .bool true]) w := run_typeAssert_hasB Tryd.underlying71 (by kernel_rfl) v xT w
theorem methodUnwrapW (v : Value) (w : World) : (Go.method 265 61 v "Unwrap").run Tryd.prog w = .ok (99, v) w := by kernel_rfl
theorem methodUnwrapF (v : Value) (w : World) : (Go.method 265 59 v "Unwrap").run Tryd.prog w = .ok (97, v) w := by kernel_rfl
theorem errnoComp : (Tryd.prog.info? 38).map (·.comparable) = some true := by kernel_rfl
set_option maxHeartbeats 4000000 in
set_option maxRecDepth 100000 in
theorem is_wrong (a e : Int) (w : World) : Calls Tryd.prog 14 #[errV a e, .iface 38 (.int .i64 e)] w fun en w' => en = .returned (.bool true) ∧ Below w.heap.size w w' := by
  have h8 := @run_callFunc_extern Tryd.prog 28 _ Extern.ReflectliteType.typeOf Tryd.func28 (by kernel_rfl) (by kernel_rfl) (by kernel_rfl) (by kernel_rfl)
  have h32 := @run_callFunc_extern Tryd.prog 103 _ cmpE Tryd.func103 (by kernel_rfl) (by kernel_rfl) (by kernel_rfl) (by kernel_rfl)
  have tT := isTypeOf
  have cT := isComparable
  have mR := isMethodComparable
  have nW := noIsW
  have nF := noIsF
  have uW := hasUnwrapW
  have uF := hasUnwrapF
  have mW := methodUnwrapW
  have mF := methodUnwrapF
  have hty1 := fun (v : Value) (w : World) => run_eql_iface_types (P := Tryd.prog) 61 38 v (.int .i64 e) Tryd.underlying30 (by decide) w
  have hty2 := fun (v : Value) (w : World) => run_eql_iface_types (P := Tryd.prog) 59 38 v (.int .i64 e) Tryd.underlying30 (by decide) w
  have heq := fun (w : World) => Lib.run_eql_iface_int (P := Tryd.prog) w (k := .i64) e e Tryd.underlying30 errnoComp Tryd.underlying38
  unfold errV
  go_enter Tryd.func14, Tryd.ntmps14
  go_wp2
  refine wp_loop_rounds 3 ?_
  rw [rounds_succ]
  go_wp2
  rw [rounds_succ]
  go_wp2
  rw [rounds_succ]
  go_wp2
  go_ret
  exact ⟨rfl, (((Below.refl _ _).alloc (Nat.le_refl _) _).alloc (by simp) _)⟩
end Go.Proofs.YtpgdmghhbbekjaaDoor.L
end
section
set_option linter.unusedVariables false
set_option linter.unusedSimpArgs false
namespace Go.Proofs.YtpgdmghhbbekjaaDoor.L
open Go.RowKit Go.Proofs.YtpgdmghhbbekjaaDoorW.PrintWords Go.Proofs.YtpgdmghhbbekjaaDoorW.PrintLast Go.Proofs.YtpgdmghhbbekjaaDoorW.PrintMore Go.Maps
theorem alive_src : tokens ⟨#[120, 32, 61, 32, 121, 32, 42, 94, 32, 51, 59, 32, 45, 45, 32, 116, 104, 114, 101, 101]⟩ = ([⟨1, ⟨#[120]⟩, 0, 0⟩, ⟨4, ⟨#[61]⟩, 0, 2⟩, ⟨1, ⟨#[121]⟩, 0, 4⟩, ⟨4, ⟨#[42, 94]⟩, 0, 6⟩, ⟨2, ⟨#[51]⟩, 3, 9⟩, ⟨4, ⟨#[59]⟩, 0, 10⟩, ⟨0, ⟨#[]⟩, 0, 20⟩], 0, 0) := by kernel_rfl
theorem alive_bad : tokens ⟨#[120, 32, 61, 32, 121, 32, 38, 32, 122]⟩ = ([], 6, 30) := by kernel_rfl
def TkRow (w : World) (g : Nat) (l : List Tk) : Prop := ∀ i t, l[i]? = some t → w.rangeAt g (i * 4) [.int .u8 t.k, .string t.t, .int .i64 t.n, .int .i64 t.a]
theorem tk_row {w : World} {base : Nat} {ok : Nat → Prop} {v : Value} {l : List Tk} (h : Kd.R kT 34 w base ok v l) (h0 : 0 < l.length) : ∃ g cap, v = .slice (some ⟨g, 0, none⟩) l.length cap ∧ base ≤ g ∧ g < w.heap.size ∧ TkRow w g l := by
  obtain ⟨inner, ho⟩ := Kd.R_own h
  obtain ⟨A, c, he, hle, hC⟩ := Kd.R_reads h
  rcases ho.2 with ⟨hn, hl⟩ | ⟨g, cap, cur, hv, hg, hh, r⟩
  · rw [hn] at he
    injection he with _ e2 _
    omega
  · subst hv
    injection he with e1 _ e3
    subst e1
    refine ⟨g, cap, rfl, hg, (Array.getElem?_eq_some_iff.1 hh).1, fun i t hi => ?_⟩
    obtain ⟨hil, hit⟩ := List.getElem?_eq_some_iff.1 hi
    obtain ⟨ad, cc, ea, _, hK, hcell⟩ := Kd.C_get hC t (i : Int) (by omega) (by omega)
    injection ea with ea
    subst ea
    rw [Int.toNat_natCast, List.getD_eq_getElem?_getD, hi, Option.getD_some] at hK
    have := kT_open hK
    subst this
    intro j u hj
    have := hcell j u hj
    have e : Addr.add ⟨g, 0, none⟩ ((i : Int).toNat * kT.sz + j) = ⟨g, i * 4 + j, none⟩ := by
      rw [Int.toNat_natCast, show kT.sz = 4 from rfl]
      unfold Addr.add
      split
      · rename_i hh
        rw [hh]
      · simp
    rw [e] at this
    exact this
theorem TkRow.below {w w' : World} {g : Nat} {l : List Tk} (h : TkRow w g l) (hg : g < w.heap.size) (hb : Below w.heap.size w w') : TkRow w' g l := fun i t hi j u hj => by
  have := h i t hi j u hj
  simpa [World.cell?, hb.block g hg] using this
theorem wpList_tkmid {ops : Array Oper} {rest : List Oper} {op : Oper} {a : Act} {w : World} {Q : Exit → Act → World → Prop} (hw : Region.wanted op (yielded ops a.tmps) = true) (x : Operand) (ho : op.op = .load 34 x) {g o : Nat} (hx : a.eval x = .pointer (some ⟨g, o, none⟩)) {cs : List Value}
    (hb : w.rangeAt g o cs) (h4 : cs.length = 4) (h : wpList Tryd.prog ops Q rest (a.put op.dst (.agg cs.toArray)) w) : wpList Tryd.prog ops Q (op :: rest) a w := by
  rw [wpList, if_pos hw]
  left
  obtain ⟨fs, hu⟩ := underT
  unfold Oper.wp execOp
  simp only [ho, hx, Sem.run_bind, Result.andThen_ok, run_loadAt_mid w g o 34 cs (.struct fs) hb hu rfl (by rw [infoT, h4])]
  exact h
set_option maxHeartbeats 16000000 in
set_option maxRecDepth 100000 in
theorem alive_calls (w : World) (hL : Lib3 w) : Calls Tryd.prog 5 #[] w fun e w' => e = .returned (.bool true) ∧ Below w.heap.size w w' := by
  have ht1 := tokens_calls ⟨#[120, 32, 61, 32, 121, 32, 42, 94, 32, 51, 59, 32, 45, 45, 32, 116, 104, 114, 101, 101]⟩ (by decide) w hL
  rw [alive_src] at ht1
  have HT1 := Aside0.mk ht1
  have HL := Aside0.mk hL
  clear ht1 hL
  go_enter Tryd.func5, Tryd.ntmps5
  go_wp2_with fail
  refine HT1.out.mono ?_
  rintro e w1 ⟨⟨v, rfl, hr⟩, hb⟩
  rw [show faultV (0, 0) = .nilIface from rfl]
  obtain ⟨g, cap, rfl, hg0, hg1, hrow⟩ := tk_row hr (by decide)
  have ht2 := tokens_calls ⟨#[120, 32, 61, 32, 121, 32, 38, 32, 122]⟩ (by decide) w1 (HL.out.below hb)
  rw [alive_bad] at ht2
  have HT2 := Aside0.mk ht2
  have HR := Aside0.mk hrow
  have HB := Aside0.mk hb
  have HG1 := Aside0.mk hg1
  clear ht2 hb hrow hr HT1 hg0 hg1
  go_wp2_with fail
  refine HT2.out.mono ?_
  rintro e w2 ⟨⟨v, rfl, hr⟩, hb⟩
  rw [show faultV (6, 30) = errV 6 30 from rfl]
  have HR2 := Aside0.mk (HR.out.below HG1.out hb)
  have HB2 := Aside0.mk (HB.out.trans (hb.mono HB.out.size))
  clear hb hr HT2 HR HB HG1
  go_wp2_with fail
  refine (lines_calls ⟨#[97, 10, 98]⟩ 2 (by decide) (by decide) w2).mono ?_
  rintro e w' ⟨rfl, rfl⟩
  have hl : lnA ⟨#[97, 10, 98]⟩ 2 = 2 := by kernel_rfl
  have hc : lnC ⟨#[97, 10, 98]⟩ 2 = 1 := by kernel_rfl
  rw [hl, hc]
  clear hl hc
  have r3 := HR2.out 3 ⟨4, ⟨#[42, 94]⟩, 0, 6⟩ rfl
  have r4 := HR2.out 4 ⟨2, ⟨#[51]⟩, 3, 9⟩ rfl
  have r6 := HR2.out 6 ⟨0, ⟨#[]⟩, 0, 20⟩ rfl
  have R3 := Aside0.mk r3
  have R4 := Aside0.mk r4
  have R6 := Aside0.mk r6
  clear r3 r4 r6 HR2
  have hzt := zeroT
  go_wp2_with first | ((with_reducible refine gate_ (.load 34 (.tmp 28)) rfl ?_); refine wpList_tkmid (by rfl) (.tmp 28) rfl rfl (o := 12) R3.out rfl ?_) | ((with_reducible refine gate_ (.load 34 (.tmp 35)) rfl ?_); refine wpList_tkmid (by rfl) (.tmp 35) rfl rfl (o := 16) R4.out rfl ?_) | ((with_reducible refine gate_ (.load 34 (.tmp 42)) rfl ?_); refine wpList_tkmid (by rfl) (.tmp 42) rfl rfl (o := 24) R6.out rfl ?_)
  refine (is_wrong 6 30 w2).mono ?_
  rintro e w3 ⟨rfl, hb⟩
  have HB3 := Aside0.mk (HB2.out.trans (hb.mono HB2.out.size))
  clear hb HB2 R3 R4 R6 hzt
  have hw := word_calls ⟨#[102, 98, 121]⟩ (by decide) w3 (HL.out.below HB3.out).tb
  rw [show wordB ⟨#[102, 98, 121]⟩ = true by kernel_rfl] at hw
  have HW := Aside0.mk hw
  clear hw
  go_wp2_with fail
  refine HW.out.mono ?_
  rintro e w4 ⟨rfl, hb⟩
  have HB4 := Aside0.mk (HB3.out.trans (hb.mono HB3.out.size))
  clear hb HB3 HW
  have hw := name_calls ⟨#[120]⟩ (by decide) w4 (HL.out.below HB4.out).tb
  rw [show nameB ⟨#[120]⟩ = true by kernel_rfl] at hw
  have HW := Aside0.mk hw
  clear hw
  go_wp2_with fail
  refine HW.out.mono ?_
  rintro e w5 ⟨rfl, hb⟩
  have HB5 := Aside0.mk (HB4.out.trans (hb.mono HB4.out.size))
  clear hb HB4 HW
  go_wp2
  go_ret
  exact ⟨rfl, HB5.out⟩
end Go.Proofs.YtpgdmghhbbekjaaDoor.L
end
section
set_option linter.unusedVariables false
set_option linter.unusedSimpArgs false
namespace Go.Proofs.YtpgdmghhbbekjaaDoor.L
open Go.RowKit Go.Proofs.YtpgdmghhbbekjaaDoorW.PrintWords Go.Proofs.YtpgdmghhbbekjaaDoorW.PrintLast Go.Proofs.YtpgdmghhbbekjaaDoorW.PrintMore Go.Maps
open Go.Proofs.YtpgdmghhbbekjaaDoor.H
set_option maxHeartbeats 16000000 in
set_option maxRecDepth 100000 in
theorem names_calls (s : ByteArray) (a : Int) (hs : s.size ≤ 140737488355328) (ha : -9223372036854775808 ≤ a ∧ a ≤ 9223372036854775807) (w : World) (hL : Lib3 w) :
    Calls Tryd.prog 3 #[.string s, .int .i64 a] w fun e w' => e = .returned (.bool true) ∧ Below w.heap.size w w' := by
  have HL := Aside0.mk hL
  clear hL
  by_cases hlong : 4096 < s.size
  · have d1 : decide ((4096 : Int) < (s.size : Int)) = true := decide_eq_true (by omega)
    have d2 : decide (4096 < s.size) = true := decide_eq_true hlong
    have HA := Aside0.mk (alive_calls w HL.out)
    clear hlong
    go_enter Tryd.func3, Tryd.ntmps3
    go_wp2_with fail
    refine HA.out.mono ?_
    rintro e w1 ⟨rfl, hb⟩
    have HB := Aside0.mk hb
    clear hb
    go_wp2
    go_ret
    exact ⟨rfl, HB.out⟩
  · have d1 : decide ((4096 : Int) < (s.size : Int)) = false := decide_eq_false (by omega)
    have d2 : decide (4096 < s.size) = false := decide_eq_false hlong
    have h1 := lines_calls s a hs ha w
    have h2 := carillonref03_Line.calls 10000 s a _ _ w (ref_line s a (by omega) 10000 (Nat.le_refl _))
    obtain ⟨x, hx⟩ : ∃ x, lnA s a = x := ⟨_, rfl⟩
    obtain ⟨y, hy⟩ : ∃ y, lnC s a = y := ⟨_, rfl⟩
    unfold LinePost at h1
    rw [hx, hy] at h1 h2
    have H1 := Aside0.mk h1
    have H2 := Aside0.mk h2
    have HM : Aside0 (s.size ≤ maxLen) := ⟨by unfold maxLen; omega⟩
    have HS := Aside0.mk hs
    clear h1 h2 hx hy hlong hs ha
    go_enter Tryd.func3, Tryd.ntmps3
    go_wp2_with fail
    refine H1.out.mono ?_
    rintro e w' ⟨rfl, rfl⟩
    go_wp2_with fail
    refine H2.out.mono ?_
    rintro e w1 ⟨rfl, hd⟩
    have HB1 := Aside0.mk hd.below
    clear hd H1 H2
    obtain ⟨b, hwb⟩ : ∃ b, wordB s = b := ⟨_, rfl⟩
    obtain ⟨c, hnb⟩ : ∃ c, nameB s = c := ⟨_, rfl⟩
    have HWB := Aside0.mk hwb
    have HNB := Aside0.mk hnb
    clear hwb hnb
    have hc := word_calls s HM.out w1 (HL.out.below HB1.out).tb
    rw [HWB.out] at hc
    have HC := Aside0.mk hc
    clear hc
    go_wp2_with fail
    refine HC.out.mono ?_
    rintro e w2 ⟨rfl, hb⟩
    have HB2 := Aside0.mk (HB1.out.trans (hb.mono HB1.out.size))
    clear hb HB1 HC
    have hc := carillonref03_Word.calls 30 s _ w2 (ref_word s 30 (Nat.le_refl _))
    rw [HWB.out] at hc
    have HC := Aside0.mk hc
    clear hc
    go_wp2_with fail
    refine HC.out.mono ?_
    rintro e w3 ⟨rfl, hb⟩
    have HB3 := Aside0.mk (HB2.out.trans (hb.mono HB2.out.size))
    clear hb HB2 HC
    have hc := name_calls s HS.out w3 (HL.out.below HB3.out).tb
    rw [HNB.out] at hc
    have HC := Aside0.mk hc
    clear hc
    go_wp2_with fail
    refine HC.out.mono ?_
    rintro e w4 ⟨rfl, hb⟩
    have HB4 := Aside0.mk (HB3.out.trans (hb.mono HB3.out.size))
    clear hb HB3 HC
    have hc := carillonref03_Name.calls 100 s _ w4 (ref_name s 100 (Nat.le_refl _))
    rw [HNB.out] at hc
    have HC := Aside0.mk hc
    clear hc
    go_wp2_with fail
    refine HC.out.mono ?_
    rintro e w5 ⟨rfl, hb⟩
    have HB5 := Aside0.mk (HB4.out.trans (hb.mono HB4.out.size))
    clear hb HB4 HC
    have hc := alive_calls w5 (HL.out.below HB5.out)
    have HC := Aside0.mk hc
    clear hc
    go_wp2_with fail
    refine HC.out.mono ?_
    rintro e w6 ⟨rfl, hb⟩
    have HB6 := Aside0.mk (HB5.out.trans (hb.mono HB5.out.size))
    clear hb HB5 HC
    go_wp2
    go_ret
    exact ⟨rfl, HB6.out⟩
end Go.Proofs.YtpgdmghhbbekjaaDoor.L
end
section
set_option linter.unusedVariables false
namespace Go.Proofs.YtpgdmghhbbekjaaDoor.L
open Go.RowKit Go.Stop
theorem pE : Tryd.prog.globalNamed "strconv.ErrRange" = some 4 := by kernel_rfl
theorem pS : Tryd.prog.globalNamed "strconv.ErrSyntax" = some 3 := by kernel_rfl
theorem pT : Tryd.prog.globalNamed "strings.asciiSpace" = some 1 := by kernel_rfl
theorem tyE : (Tryd.prog.globals[4]?).map (·.type) = some 30 := by kernel_rfl
theorem tyS : (Tryd.prog.globals[3]?).map (·.type) = some 30 := by kernel_rfl
theorem tyT : (Tryd.prog.globals[1]?).map (·.type) = some 76 := by kernel_rfl
theorem starE : "*" ++ "errors.errorString" = "*errors.errorString" := by decide
theorem rowE (u : TypeId) (h : Tryd.prog.typeName? 3 u = some "*errors.errorString") : u = 117 :=
  typeName_ptr_named (nm := "errors.errorString") (by rw [starE]; kernel_rfl) (by kernel_rfl) (by decide) u (by rw [starE]; exact h)
theorem lib_of_three {W : World} {r1 r2 r3 : List (String × DataW Unit)} {d1 d2 : List UInt8} (h1 : laidMet Tryd.prog (("strconv.ErrRange", .iface "*errors.errorString" (.ptr (.agg [.lit (.string d1)]))) :: r1) W)
    (h2 : laidMet Tryd.prog (("strconv.ErrSyntax", .iface "*errors.errorString" (.ptr (.agg [.lit (.string d2)]))) :: r2) W)
    (h3 : laidMet Tryd.prog (("strings.asciiSpace", Lib.tabData .u8 Lib.asciiSpaceTab) :: r3) W) : Lib3 W := by
  obtain ⟨a1, s1, v1, _⟩ := laid_sentinel h1 pE tyE Tryd.underlying30 rowE Tryd.underlying117 Tryd.underlying119 rfl rfl Tryd.underlying9 (by kernel_rfl) (by kernel_rfl)
  obtain ⟨a2, s2, v2, _⟩ := laid_sentinel h2 pS tyS Tryd.underlying30 rowE Tryd.underlying117 Tryd.underlying119 rfl rfl Tryd.underlying9 (by kernel_rfl) (by kernel_rfl)
  exact ⟨Lib.tabIs_of_head pT tyT Tryd.underlying76 Tryd.underlying5 (by kernel_rfl) (by kernel_rfl) h3, ⟨_, _, v2⟩, ⟨_, _, v1⟩⟩
end Go.Proofs.YtpgdmghhbbekjaaDoor.L
end
section
set_option linter.unusedVariables false
namespace Go.Proofs.YtpgdmghhbbekjaaDoorOpen
open Go.Proofs.YtpgdmghhbbekjaaDoorW.PrintWords
def Fits (P : Program) (t : TypeId) {α : Type} (k : Kd α) (G : α → Prop) (n : Nat) : Prop :=
  ∀ (H : Type) (enc : TypeId × Value → H) (w : World) (base : Nat) (spare : Nat → Bool) (held : Bool) (cs : List Value) (x : DataW H × List MemPlace),
    DataW.trod enc P w base spare held n t cs = some x → (∀ m ∈ x.1.weights P t, m ≤ 140737488351232) → ∃ y, k.K w y cs ∧ G y
section
variable {P : Program} {t e : TypeId}
theorem fits_int {k : IntKind} (hu : P.underlying t = some (.int k)) (n : Nat) : Fits P t (Kd.int k) (fun x => (Lit.int k x).wf = true) n := by
  intro H enc w base spare held cs x h _
  obtain ⟨y, rfl, _, hw⟩ := DataW.trod_int hu h
  exact ⟨y, rfl, hw⟩
theorem fits_string (hu : P.underlying t = some .string) (n : Nat) : Fits P t Kd.string (fun s => s.size ≤ 140737488351232) n := by
  intro H enc w base spare held cs x h hW
  obtain ⟨s, rfl, rfl, hm⟩ := DataW.trod_string hu h
  refine ⟨s, rfl, ?_⟩
  have := hW s.data.toList.length (by simp [DataW.weights])
  rwa [data_length] at this
end
theorem arg_of {H : Type} {enc : TypeId × Value → H} {P : Program} {W : World} {base : Nat} {spare : Nat → Bool} {held : Bool} {t : TypeId} {α : Type} {k : Kd α} {G : α → Prop} (hf : ∀ n, Fits P t k G n) {v : Value} {d : DataW H} {ps : List MemPlace} {ts : List TypeId} {ds : List (DataW H)} {j : Nat}
    (hsz : (DataW.weightsEach P ts ds).all (· ≤ reachBytes) = true) (ht : ts[j]? = some t) (hd : ds[j]? = some d) (h : DataW.Trod enc P W base spare held t v d ps) : ∃ y, k.K W y v.cells.toList ∧ G y := by
  obtain ⟨n, hn⟩ := h
  refine hf n H enc W base spare held _ _ hn (fun m hm => ?_)
  have := List.all_eq_true.1 hsz m (DataW.weights_mem_each ht hd m hm)
  have h2 := of_decide_eq_true this
  exact h2
end Go.Proofs.YtpgdmghhbbekjaaDoorOpen
end
section
namespace Go.Proofs.YtpgdmghhbbekjaaDoor.L.NamesRow
open Go.ChangeShapes Go.WideShapes Go.ChangeAt Go.RowKit Go.Proofs.YtpgdmghhbbekjaaDoorW.PrintWords Go.Proofs.YtpgdmghhbbekjaaDoorOpen Go.Proofs.YtpgdmghhbbekjaaDoor.L
open Go.ChangeMaps (open_string shut_string)
set_option linter.unusedVariables false
theorem own : ownKnob Tryd.prog.godebug = none := by kernel_rfl
theorem laidOut : laidOutB Tryd.prog = true := by kernel_rfl
set_option maxRecDepth 100000 in
theorem lib_of {W : World} (h : laidMetH Tryd.prog Rows.lexNamesRow.laid W) : Lib3 W := by
  rw [MakeChecks.laidMetH_plain _ _ _ (by kernel_rfl)] at h
  exact lib_of_three h.tail.tail.tail h.tail.tail.tail.tail h.tail.tail.tail.tail.tail.tail
theorem door_met (os : Os) (args : Array Value) : laidMetH Tryd.prog Rows.lexNamesRow.laid ((World.doorLaid Tryd.prog 86 os).forCall (fun _ _ => 0) ⟨#[], args, []⟩).memory :=
  laidMetH_of_parts3 (fuel := 8) (laidMet_of_run' 8 (by kernel_rfl) (by kernel_rfl)) (by kernel_rfl) (by kernel_rfl)
set_option maxRecDepth 100000 in
set_option maxHeartbeats 2000000 in
theorem lifted (os : Os) (started : os.Started) (H : Type) (enc : TypeId × Value → H) :
    ReturnsInHanded {} Tryd.checked os 3 .any (fun w args => (Rows.lexNamesSpec.pre enc Tryd.prog Tryd.f3 [] false w args ∧ laidMetH Tryd.prog Rows.lexNamesRow.laid w) ∧ sizedMet enc Tryd.prog Tryd.f3 (OpenSpec.ofChange Rows.lexNamesSpec) false w args)
      (Rows.lexNamesSpec.post enc Tryd.prog Tryd.f3 false true false false) := by
  refine returnsInHanded_of_change_and (C := Tryd.checked) (X := fun w _ => laidMetH Tryd.prog Rows.lexNamesRow.laid w) (fun _ _ _ hh h => h.of_heap hh) own started (by kernel_rfl) Tryd.func3
    (ChangeSpec.witness_shaped (enc := enc) (C := Tryd.checked) (os := os) (X := fun w _ => laidMetH Tryd.prog Rows.lexNamesRow.laid w) false (World.doorLaid Tryd.prog 86 os) #[.string ByteArray.empty, .int .i64 0] 8 rfl (World.shaped_of_RefB (by kernel_rfl) (by kernel_rfl)) (by kernel_rfl) (by kernel_rfl) (by kernel_rfl) (door_met os _)) ?_
  intro W base args ds gs before hval0 hW _ hsz0 hL _
  have hsz : (DataW.weightsEach Tryd.prog (Tryd.f3.params.toList ++ Rows.lexNamesSpec.plain.varTypes Tryd.prog) (ds ++ gs)).all (· ≤ reachBytes) = true := hsz0
  have hval : ∀ (j : Nat) t v, Tryd.f3.params[j]? = some t → args[j]? = some v → Value.okWide Tryd.prog W .any base t v := hval0
  have hW' := hW
  obtain ⟨p, q, hA0, hV, rfl, hfz, hnd⟩ := hW
  have hA : DataW.TrodAll enc Tryd.prog W 0 (fun _ => true) true Tryd.f3.params.toList args.toList ds p := hA0
  rw [Tryd.params3] at hA hval
  obtain ⟨v0, vs0, d0, ds0, p0, q0, hargs, rfl, rfl, h0, r0⟩ := trodAll_cons hA
  obtain ⟨v1, vs1, d1, ds1, p1, q1, rfl, rfl, rfl, h1, r1⟩ := trodAll_cons r0
  obtain ⟨rfl, rfl, rfl⟩ := trodAll_nil r1
  obtain rfl : args = #[v0, v1] := by cases args; simp_all
  obtain ⟨rfl, rfl⟩ := trodVars_none hV
  have k0 := h0
  have k1 := h1
  have lt0 : ∀ x ∈ p0, x.block < W.heap.size := by obtain ⟨m, hm⟩ := k0; exact DataW.trod_lt m _ _ _ hm
  have lt1 : ∀ x ∈ p1, x.block < W.heap.size := by obtain ⟨m, hm⟩ := k1; exact DataW.trod_lt m _ _ _ hm
  obtain ⟨y0, hy0, g0⟩ := arg_of (fun n => fits_string Tryd.underlying9 n) hsz (j := 0) (t := 9) rfl rfl h0
  obtain ⟨y1, hy1, g1⟩ := arg_of (fun n => fits_int Tryd.underlying3 n) hsz (j := 1) (t := 3) rfl rfl h1
  obtain ⟨x0, rfl⟩ := okWide_string Tryd.underlying9 (hval 0 9 v0 rfl rfl)
  have he0 : [_] = [_] := hy0
  simp only [List.cons.injEq, and_true, Value.string.injEq] at he0
  subst he0
  obtain ⟨x1, rfl⟩ := okWide_int Tryd.underlying3 (hval 1 3 v1 rfl rfl)
  have he1 : [_] = [_] := hy1
  simp only [List.cons.injEq, and_true, Value.int.injEq, true_and] at he1
  subst he1
  have hx1 : -9223372036854775808 ≤ x1 ∧ x1 ≤ 9223372036854775807 := by
    have e : IntKind.min .i64 = -9223372036854775808 := rfl
    have := g1
    simp [Lit.wf] at this
    omega
  have hlib := lib_of hL
  clear hA0 hval0 hsz0 hsz
  refine (names_calls x0 x1 (by omega) hx1 W hlib).mono fun e W' ⟨he, bel⟩ => ?_
  subst he
  exact ⟨_, rfl, _, _, _, [], _, [], hW', trodAll_mk1 (shut_bool Tryd.underlying4 _), (trodAll_cons_mk (Below.trod laidOut (by kernel_rfl) (of_decide_eq_true (by kernel_rfl)) k0 bel lt0) (trodAll_cons_mk (Below.trod laidOut (by kernel_rfl) (of_decide_eq_true (by kernel_rfl)) k1 bel lt1) trodAll_mk0)), rfl, bel.frame _, fun h => by cases h⟩
theorem over : Rows.lexNamesRow.holds Tryd.pinned (OpenSpec.ofChange Rows.lexNamesSpec) :=
  OpenClaim.holds_of_wide 3 Tryd.f3 rfl rfl rfl rfl rfl rfl rfl ⟨rfl, rfl, rfl, rfl, rfl⟩ rfl rfl rfl rfl rfl (by kernel_rfl) Tryd.func3 (by kernel_rfl)
    (of_decide_eq_true (by kernel_rfl)) (by unfold Func.isWrapper; first | (rw [if_pos (by decide +kernel)]; kernel_rfl) | (rw [if_neg (by decide +kernel)]; exact ⟨rfl, rfl⟩))
    (fun os started H enc _ => lifted os started H enc)
theorem card_holds : Rows.LexNamesCardSaid :=
  Claim7.holds_tied_plain_at .later [] [.data, .data, .data, .sentinel, .sentinel, .listed, .data] true (true, "86a7f981822497cc945efd7c46acf1d587d1d9e8c99a68fb5098d41cb1b9cd4d") true
    over (fun _ h => by cases h) (by kernel_rfl) (fun _ h => by cases h) lexNames_row_tie rfl ⟨rfl, rfl⟩ (by kernel_rfl) rfl
    (fun f fn hf hfn => by
      obtain rfl : f = 3 := Option.some.inj ((show Tryd.prog.funcNamed "carillon/carillonlaw03.LexNames" = some 3 by kernel_rfl).symm.trans hf) |>.symm
      obtain rfl : fn = Tryd.f3 := (Option.some.inj (Tryd.func3.symm.trans hfn)).symm
      exact ⟨by kernel_rfl, fun j t ht => by
        rw [Tryd.params3] at ht
        have hm : t ∈ [9, 3] := by simpa using Array.mem_of_getElem? ht
        have hall : ([9, 3].all fun u => !Tryd.prog.wantsStandIn u) = true := by kernel_rfl
        exact (show Tryd.prog.wantsStandIn t = false by simpa using List.all_eq_true.1 hall t hm)⟩)
    (by kernel_rfl)
#print axioms card_holds
end Go.Proofs.YtpgdmghhbbekjaaDoor.L.NamesRow
namespace Go.Proofs.YtpgdmghhbbekjaaDoor
theorem lexNames_holds : Rows.LexNamesCardSaid := L.NamesRow.card_holds
end Go.Proofs.YtpgdmghhbbekjaaDoor
end
