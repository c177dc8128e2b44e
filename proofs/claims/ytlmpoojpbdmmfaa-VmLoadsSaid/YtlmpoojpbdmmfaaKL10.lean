/- Part 10 of the proof of the law L. The conditions: none. (Its parts: New22.) -/
import Derived.Laws.MakeOwn
import Derived.Test.YtlmpoojpbdmmfaaKL08
import Derived.Test.YtlmpoojpbdmmfaaKL09
section
set_option linter.unusedVariables false
set_option linter.unusedSimpArgs false
namespace Go.Proofs.Ytlmpoojpbdmmfaa.H
open Go.RowKit Go.Proofs.YtlmpoojpbdmmfaaW.PrintWords Go.Proofs.YtlmpoojpbdmmfaaW.PrintLast Go.Proofs.YtlmpoojpbdmmfaaW.PrintMore Go.Maps
def ctx0 (c : Cf) (ins : List Int) : Ctx := ⟨0, [], List.replicate c.slots.toNat 0, ins, List.replicate c.writes.toNat 0, 0, false⟩
def newE (l : List S53) (c : Cf) (n : Nat) : Int := if (ver l c).2 ≠ 0 then (ver l c).2 else if (n : Int) ≠ c.reads then 2 else 0
theorem made_list (n : Nat) : (madeCells #[Value.int .i64 0] n).toList = ints (List.replicate n 0) := by
  apply List.ext_getElem
  · simp [madeCells, ints]
  · intro i h1 h2
    simp [madeCells, ints, Nat.mod_one]
theorem mk25 {z : Int} (h0 : 0 ≤ z) (h1 : z ≤ 1000) (w : World) : (Instr.makeSlice 25 (.int .i64 z) (.int .i64 z)).run Try.prog w = .ok (.slice (some ⟨w.heap.size, 0, none⟩) z.toNat z.toNat) (w.alloc (.cells (madeCells #[Value.int .i64 0] z.toNat) 2)) := by
  obtain ⟨i, hi, hz, hsz, hby⟩ := info2'
  have := run_makeSlice (P := Try.prog) w 25 2 i (.int .i64 0) Try.underlying25 hi hz .i64 .i64 z z h0 (Int.le_refl _) (by rw [hsz]; omega) (by rw [hby]; omega) (by omega)
  rw [this, hsz]
  simp [Value.cells]
theorem made_IR {z : Int} (h1 : z ≤ 1000) (w : World) : IR (w.alloc (.cells (madeCells #[Value.int .i64 0] z.toNat) 2)) (.slice (some ⟨w.heap.size, 0, none⟩) z.toNat z.toNat) (List.replicate z.toNat 0) := by
  refine ⟨by simp [ints], .inr ⟨w.heap.size, z.toNat, _, by simp, Nat.zero_le _, heap_alloc_new _ _, by simp, by unfold maxLen; omega, by simp [madeCells], ?_⟩⟩
  rw [List.length_replicate, made_list, List.take_of_length_le (by simp [ints])]
def Phi (c : Cf) (ins : List Int) (lo : Nat) (i : Fin 4) (v : Value) (w : World) : Prop :=
  if i = 0 then IR w v (List.replicate c.slots.toNat 0) else if i = 1 then IR w v (List.replicate c.writes.toNat 0) else if i = 2 then IR w v ins else ∃ g, v = .pointer (some ⟨g, 0, none⟩) ∧ lo ≤ g ∧ w.heap[g]? = some (.cells cx0 37 (0, 0))
theorem Phi.below {c : Cf} {ins : List Int} {lo : Nat} {i : Fin 4} {v : Value} {w w' : World} (h : Phi c ins lo i v w) (hb : Below w.heap.size w w') : Phi c ins lo i v w' := by
  unfold Phi at h ⊢
  split
  · rename_i e; rw [if_pos e] at h; exact h.move (fun k hk => hb.block k (h.lt hk))
  rename_i e0; rw [if_neg e0] at h
  split
  · rename_i e; rw [if_pos e] at h; exact h.move (fun k hk => hb.block k (h.lt hk))
  rename_i e1; rw [if_neg e1] at h
  split
  · rename_i e; rw [if_pos e] at h; exact h.move (fun k hk => hb.block k (h.lt hk))
  rename_i e2; rw [if_neg e2] at h
  obtain ⟨g, h1, h2, h3⟩ := h
  exact ⟨g, h1, h2, (hb.block g (Array.getElem?_eq_some_iff.1 h3).1).trans h3⟩
structure NI (c : Cf) (ins : List Int) (lo : Nat) (w0 : World) (s : Fin 4 → Option Value) (w : World) : Prop where
  bel : Below lo w0 w
  lw : lo ≤ w.heap.size
  ph : ∀ i v, s i = some v → Phi c ins lo i v w
  bd : ∀ i v k, s i = some v → v.ownBlock = some k → lo ≤ k ∧ k < w.heap.size
  ap : ∀ i j vi vj k, i ≠ j → s i = some vi → s j = some vj → vi.ownBlock = some k → vj.ownBlock ≠ some k
theorem NI.add {c : Cf} {ins : List Int} {lo : Nat} {w0 w w' : World} {s : Fin 4 → Option Value} (h : NI c ins lo w0 s w) {i : Fin 4} {v : Value} (hn : s i = none) (hb : Below w.heap.size w w') (hv : Phi c ins lo i v w') (hk : ∀ k, v.ownBlock = some k → w.heap.size ≤ k ∧ k < w'.heap.size) : NI c ins lo w0 (upd s i v) w' := by
  refine ⟨h.bel.trans (hb.mono h.lw), Nat.le_trans h.lw hb.size, fun j u hj => ?_, fun j u k hj hu => ?_, fun j1 j2 u1 u2 k hne h1 h2 hu e => ?_⟩
  · unfold upd at hj
    split at hj
    · rename_i e; subst e; cases hj; exact hv
    · exact (h.ph j u hj).below hb
  · unfold upd at hj
    split at hj
    · cases hj; have := hk k hu; have := h.lw; omega
    · have := h.bd j u k hj hu; have := hb.size; omega
  · unfold upd at h1 h2
    split at h1
    · rename_i e1
      cases h1
      split at h2
      · rename_i e2; exact hne (e1.trans e2.symm)
      · have := hk k hu; have := h.bd j2 u2 k h2 e; omega
    · split at h2
      · cases h2; have := hk k e; have := h.bd j1 u1 k h1 hu; omega
      · exact h.ap j1 j2 u1 u2 k hne h1 h2 hu e
def n7 (v0 v1 v2 : Value) : Array Value := #[.int .i64 0, .slice none 0 0, v0, v2, v1, .int .i64 0, .bool false]
def frN (a : Act) (s : Fin 4 → Option Value) : Act := (((a.put (some 27) ((s 0).getD undef)).put (some 30) ((s 1).getD undef)).put (some 32) ((s 2).getD undef)).put (some 10) ((s 3).getD undef)
def dsN (i : Fin 4) : Nat := if i = 0 then 27 else if i = 1 then 30 else if i = 2 then 32 else 10
theorem frN_put (a : Act) (s : Fin 4 → Option Value) (i : Fin 4) (v : Value) : (frN a s).put (some (dsN i)) v = frN a (upd s i v) := by
  rcases i with ⟨_ | _ | _ | _ | k, hk⟩
  · show Act.mk (((((a.tmps.setIfInBounds 27 _).setIfInBounds 30 _).setIfInBounds 32 _).setIfInBounds 10 _).setIfInBounds 27 _) _ = Act.mk _ _
    rw [Array.setIfInBounds_comm (i := 10) (j := 27) _ _ (by decide), Array.setIfInBounds_comm (i := 32) (j := 27) _ _ (by decide), Array.setIfInBounds_comm (i := 30) (j := 27) _ _ (by decide), Array.setIfInBounds_setIfInBounds]
    rfl
  · show Act.mk (((((a.tmps.setIfInBounds 27 _).setIfInBounds 30 _).setIfInBounds 32 _).setIfInBounds 10 _).setIfInBounds 30 _) _ = Act.mk _ _
    rw [Array.setIfInBounds_comm (i := 10) (j := 30) _ _ (by decide), Array.setIfInBounds_comm (i := 32) (j := 30) _ _ (by decide), Array.setIfInBounds_setIfInBounds]
    rfl
  · show Act.mk (((((a.tmps.setIfInBounds 27 _).setIfInBounds 30 _).setIfInBounds 32 _).setIfInBounds 10 _).setIfInBounds 32 _) _ = Act.mk _ _
    rw [Array.setIfInBounds_comm (i := 10) (j := 32) _ _ (by decide), Array.setIfInBounds_setIfInBounds]
    rfl
  · show Act.mk (((((a.tmps.setIfInBounds 27 _).setIfInBounds 30 _).setIfInBounds 32 _).setIfInBounds 10 _).setIfInBounds 10 _) _ = Act.mk _ _
    rw [Array.setIfInBounds_setIfInBounds]
    rfl
  · omega
def lstN (s : Fin 4 → Option Value) : Array Bool := #[true, true, (s 0).isSome, true, true, (s 1).isSome, true, (s 2).isSome, false, (s 3).isSome, false]
theorem lstN_set (s : Fin 4 → Option Value) (i : Fin 4) (v : Value) : (lstN s).setIfInBounds (if i = 0 then 2 else if i = 1 then 5 else if i = 2 then 7 else 9) true = lstN (upd s i v) := by
  rcases i with ⟨_ | _ | _ | _ | k, hk⟩
  · simp [lstN, upd]
  · simp [lstN, upd]
  · simp [lstN, upd]
  · simp [lstN, upd]
  · omega
def l8 : Array Bool := #[true, true, true, true, true, true, true, true, false, false, false]
def l8a : Array Bool := #[true, true, true, true, true, true, true, true, true, false, false]
def l8b : Array Bool := #[true, true, true, true, true, true, true, true, false, true, false]
def l8c : Array Bool := #[true, true, true, true, true, true, true, true, true, true, false]
theorem put_comm (a : Act) (x y : Value) {i j : Nat} (h : i ≠ j) : (a.put (some i) x).put (some j) y = (a.put (some j) y).put (some i) x := by
  simp only [Act.put]
  rw [Array.setIfInBounds_comm _ _ h]
set_option maxHeartbeats 1000000 in
theorem makersN {ops : Array Oper} {Q : Exit → Act → World → Prop} {S : World → Prop} {a : Act} {w : World} (hix : ∀ i : Fin 4, (ops[if i = 0 then 2 else if i = 1 then 5 else if i = 2 then 7 else 9]?).isSome = true) (hready : ∀ s, cnt s ≠ 0 → ¬((s 0).isSome = true ∧ (s 1).isSome = true ∧ (s 2).isSome = true) → Region.ready .any ops (lstN s) = lack s (fun i => if i = 0 then 2 else if i = 1 then 5 else if i = 2 then 7 else 9))
    (hdst : ∀ (i : Fin 4) o, ops[if i = 0 then 2 else if i = 1 then 5 else if i = 2 then 7 else 9]? = some o → o.dst = some (dsN i))
    (ha : frN a (fun _ => none) = a) (Inv : (Fin 4 → Option Value) → World → Prop) (hS : ∀ s w, Inv s w → S w)
    (hrun : ∀ s (i : Fin 4) o w, ops[if i = 0 then 2 else if i = 1 then 5 else if i = 2 then 7 else 9]? = some o → i ≠ 3 → s i = none → Inv s w → ∀ K : Act → World → Prop, (∀ v w', Inv (upd s i v) w' → K ((frN a s).put o.dst v) w') → if Region.wanted o (yielded ops (frN a s).tmps) = true then Oper.wp Try.prog o (frN a s) w K Q else K ((frN a s).put o.dst undef) w)
    (hrun3 : ∀ s o a' w, ops[9]? = some o → s 3 = none → Inv s w → ∀ K : Act → World → Prop, (∀ v w', Inv (upd s 3 v) w' → K (a'.put (some 10) v) w') → if Region.wanted o (yielded ops a'.tmps) = true then Oper.wp Try.prog o a' w K Q else K (a'.put (some 10) undef) w)
    {o8 : Oper} (h8 : ops[8]? = some o8) (hd8 : o8.dst = some 33) (hQ : ∀ c a (N : Tmp) v w, Q (.panic c) (a.put (some N) v) w → Q (.panic c) a w) (bv : Value → Value → Value → Value)
    (hc8 : anyB .any ops l8 l8a 8 = true) (hc9 : readyB .any ops l8a l8c 9 = true) (hc8' : anyB .any ops l8b l8c 8 = true)
    (hy : ∀ s v0 v1 v2 w, s 0 = some v0 → s 1 = some v1 → s 2 = some v2 → Inv s w → Yields Try.prog ops o8 (bv v0 v1 v2) (frN a s))
    (hend : ∀ s w v0 v1 v2 v3, s 0 = some v0 → s 1 = some v1 → s 2 = some v2 → s 3 = some v3 → Inv s w → wpAnyLast Try.prog .any ops Q S [10] 1 l8c ((frN a s).put (some 33) (bv v0 v1 v2)) w) (h0 : Inv (fun _ => none) w) : wpAnyLast Try.prog .any ops Q S [10] 6 (lstN (fun _ => none)) a w := by
  have hi : ∀ i : Fin 4, ops[if i = 0 then 2 else if i = 1 then 5 else if i = 2 then 7 else 9]? = some ((ops[if i = 0 then 2 else if i = 1 then 5 else if i = 2 then 7 else 9]?).get (hix i)) := fun i => (Option.some_get _).symm
  have := makers (Q := Q) (S := S) (ds := [10]) (m := 2) (fun i : Fin 4 => if i = 0 then 2 else if i = 1 then 5 else if i = 2 then 7 else 9) (fun i => (ops[if i = 0 then 2 else if i = 1 then 5 else if i = 2 then 7 else 9]?).get (hix i)) lstN (frN a) Inv hi hready (fun s i v _ => lstN_set s i v) (fun s i v _ => by rw [hdst i _ (hi i)]; exact frN_put a s i v) hS ?hr ?hx ?he 4 (fun _ => none) w rfl h0
  case hr =>
    intro s i w hn hI K hK
    by_cases e3 : i = 3
    · subst e3
      have e := hdst 3 _ (hi 3)
      rw [e] at hK ⊢
      exact hrun3 s _ (frN a s) w (hi 3) hn hI K hK
    · exact hrun s i _ w (hi i) e3 hn hI K hK
  case hx =>
    intro s w x0 x1 x2 h3 hI
    obtain ⟨v0, e0⟩ := Option.isSome_iff_exists.1 x0
    obtain ⟨v1, e1⟩ := Option.isSome_iff_exists.1 x1
    obtain ⟨v2, e2⟩ := Option.isSome_iff_exists.1 x2
    have el : lstN s = l8 := by simp [lstN, l8, e0, e1, e2, h3]
    rw [el]
    refine pure_ (i := 8) (N := some 33) l8a h8 hd8 hc8 (fun c a w h => hQ c a 33 _ w (by rw [hd8] at h; exact h)) (hy s v0 v1 v2 w e0 e1 e2 hI) rfl ?_
    refine one_ (i := 9) (N := some 10) l8c (hi 3) (hdst 3 _ (hi 3)) hc9 (by decide) (fun K hK => ?_)
    refine hrun3 s _ _ w (hi 3) h3 hI K (fun v w' hI' => hK.out _ _ (hS _ _ hI') (fun _ => ?_))
    have ep : (((frN a s).put (some 33) (bv v0 v1 v2)).put (some 10) v) = (frN a (upd s 3 v)).put (some 33) (bv v0 v1 v2) := by
      have h1 := frN_put a s 3 v
      have h2 : dsN 3 = 10 := rfl
      rw [h2] at h1
      rw [← h1]
      exact put_comm _ _ _ (by decide)
    rw [ep]
    exact hend (upd s 3 v) w' v0 v1 v2 v (by simp [upd, e0]) (by simp [upd, e1]) (by simp [upd, e2]) (by simp [upd]) hI'
  case he =>
    intro s w hs hI
    obtain ⟨v0, e0⟩ := Option.isSome_iff_exists.1 (hs 0)
    obtain ⟨v1, e1⟩ := Option.isSome_iff_exists.1 (hs 1)
    obtain ⟨v2, e2⟩ := Option.isSome_iff_exists.1 (hs 2)
    obtain ⟨v3, e3⟩ := Option.isSome_iff_exists.1 (hs 3)
    have el : lstN s = l8b := by simp [lstN, l8b, e0, e1, e2, e3]
    rw [el]
    refine pure_ (i := 8) (N := some 33) l8c h8 hd8 hc8' (fun c a w h => hQ c a 33 _ w (by rw [hd8] at h; exact h)) (hy s v0 v1 v2 w e0 e1 e2 hI) rfl ?_
    exact hend s w v0 v1 v2 v3 e0 e1 e2 e3 hI
  rw [ha] at this
  exact this
set_option maxHeartbeats 16000000 in
set_option maxRecDepth 100000 in
theorem new_calls {W : World} {A : Option Addr} {l : List S53} {cap : Nat} (hC : Kd.C k53 W A l.length l) (hcap : l.length ≤ cap) (hA : A = none → cap = 0) (c : Cf) {Ai : Option Addr} {ins : List Int} {ci : Nat} (hI : RdI W Ai ins) (hAi : Ai = none → ci = 0) (he : newE l c ins.length = 0) :
    Calls Try.prog 9 #[.slice A l.length cap, cfVal c, .slice Ai ins.length ci] W fun e W' => ∃ b, e = .returned (.tuple #[.pointer (some ⟨b, 0, none⟩), .int .i64 0]) ∧ VMem W' (fun k => W.heap.size ≤ k ∧ k < W'.heap.size) b c l (ctx0 c ins) ∧ Below W.heap.size W W' := by
  have hv0 : (ver l c).2 = 0 := by
    unfold newE at he
    split at he
    · rename_i h; exact absurd he h
    · rename_i h; simpa using h
  have hn : (ins.length : Int) = c.reads := by
    unfold newE at he
    rw [if_neg (by simpa using hv0)] at he
    split at he
    · simp at he
    · rename_i h; simpa using h
  obtain ⟨hm, hl0, hl1, _⟩ := ver_ok hv0
  obtain ⟨cs, cr, cw, ck⟩ := c
  simp only at hn hm
  have hmc : (0 ≤ cs ∧ cs ≤ 512) ∧ (0 ≤ cr ∧ cr ≤ 64) ∧ (0 ≤ cw ∧ cw ≤ 64) ∧ (1 ≤ ck ∧ ck ≤ 256) := by simpa [mayC, and_assoc] using hm
  have HM := Aside0.mk hmc
  have HC := Aside0.mk hC
  have HA := Aside0.mk hcap
  have HAA := Aside0.mk hA
  have HL := Aside0.mk (And.intro hl0 hl1)
  have HI := Aside0.mk (And.intro hI hAi)
  obtain ⟨r1, hr1⟩ : ∃ r, (ver l ⟨cs, cr, cw, ck⟩).1 = r := ⟨_, rfl⟩
  have HV : Aside0 (verify_Verify.f l cs cr cw ck = some (r1, 0)) := ⟨by unfold verify_Verify.f; rw [← hr1, ← hv0]⟩
  have X := Aside0.mk (heap_alloc_new W (.cells #[.int .i64 cs, .int .i64 cr, .int .i64 cw, .int .i64 ck] (24 : Nat)))
  have B := Aside0.mk ((Below.refl W.heap.size W).alloc (Nat.le_refl _) (.cells #[.int .i64 cs, .int .i64 cr, .int .i64 cw, .int .i64 ck] (24 : Nat)))
  have Z : Aside0 (W.heap.size < (W.alloc (.cells #[.int .i64 cs, .int .i64 cr, .int .i64 cw, .int .i64 ck] (24 : Nat))).heap.size) := ⟨by simp⟩
  have hu24 := Try.underlying24
  have q : ((ins.length : Int) != cr) = false := by simp [hn]
  have HN := Aside0.mk hn
  clear hr1 hC hcap hA hI hAi he hv0 hn hm hmc hl0 hl1
  simp only [cfVal]
  go_enter Try.func9, Try.ntmps9
  go_wp2_with fail
  generalize W.alloc (.cells #[.int .i64 cs, .int .i64 cr, .int .i64 cw, .int .i64 ck] (24 : Nat)) = W1 at X B Z ⊢
  refine (verify_Verify.calls A cap l cs cr cw ck r1 0 _ (Kd.C_below HC.out B.out) HA.out HV.out).mono ?_
  rintro e W2 ⟨rfl, hb⟩
  have X2 := Aside0.mk ((hb.block _ Z.out).trans X.out)
  have B2 := Aside0.mk (B.out.trans (hb.mono (Nat.le_of_lt Z.out)))
  have Z2 : Aside0 (W.heap.size < W2.heap.size) := ⟨Nat.lt_of_lt_of_le Z.out hb.size⟩
  have x1 : W2.cell? ⟨W.heap.size, 1, none⟩ = some (.int .i64 cr) := by simp [World.cell?, X2.out]
  clear hb X B Z
  go_wp2_with fail
  have X3 : Aside0 (W2.drew.heap[W.heap.size]? = some (.cells #[.int .i64 cs, .int .i64 cr, .int .i64 cw, .int .i64 ck] (24 : Nat) (0, 0))) := ⟨X2.out⟩
  have B3 := Aside0.mk (below_drew1 B2.out)
  have Z3 : Aside0 (W.heap.size < W2.drew.heap.size) := ⟨Z2.out⟩
  refine start_ (n := 11) (S := fun w' => w'.cell? ⟨W.heap.size, 0, none⟩ = some (.int .i64 cs) ∧ w'.cell? ⟨W.heap.size, 2, none⟩ = some (.int .i64 cw)) (ds := [10]) #[false, false, false, false, false, false, false, false, false, false, false] (by kernel_rfl) rfl rfl ⟨by simp [World.cell?, X3.out], by simp [World.cell?, X3.out]⟩ (fun hHeld => ?_)
  generalize W2.drew = W3 at X3 B3 Z3 hHeld ⊢
  clear X2 B2 Z2 x1
  refine pure_ (i := 0) (N := some 25) (v := ?_) (a' := ?_) #[true, false, false, false, false, false, false, false, false, false, false] rfl rfl (by kernel_rfl) (fun _ _ _ h => h) (Or.inl ⟨by rfl, ?_⟩) ?_ ?_
  rotate_left
  · intro w'
    go_simp
    with_reducible rfl
  rotate_left
  · simp only [Act.put, List.setIfInBounds_toArray, List.set_cons_zero, List.set_cons_succ, i64_w, i32_w]
    rfl
  refine take_ (i := 1) (N := some 26) (v := ?_) (a' := ?_) #[true, true, false, false, false, false, false, false, false, false, false] rfl rfl (by kernel_rfl) (fun _ _ _ h => h) (Or.inl ⟨by rfl, ?_⟩) hHeld ?_ ?_
  rotate_left
  · rintro w' ⟨s0, s1⟩
    go_simp
    with_reducible rfl
  rotate_left
  · simp only [Act.put, List.setIfInBounds_toArray, List.set_cons_zero, List.set_cons_succ, i64_w, i32_w]
    rfl
  refine pure_ (i := 3) (N := some 28) (v := ?_) (a' := ?_) #[true, true, false, true, false, false, false, false, false, false, false] rfl rfl (by kernel_rfl) (fun _ _ _ h => h) (Or.inl ⟨by rfl, ?_⟩) ?_ ?_
  rotate_left
  · intro w'
    go_simp
    with_reducible rfl
  rotate_left
  · simp only [Act.put, List.setIfInBounds_toArray, List.set_cons_zero, List.set_cons_succ, i64_w, i32_w]
    rfl
  refine take_ (i := 4) (N := some 29) (v := ?_) (a' := ?_) #[true, true, false, true, true, false, false, false, false, false, false] rfl rfl (by kernel_rfl) (fun _ _ _ h => h) (Or.inl ⟨by rfl, ?_⟩) hHeld ?_ ?_
  rotate_left
  · rintro w' ⟨s0, s1⟩
    go_simp
    with_reducible rfl
  rotate_left
  · simp only [Act.put, List.setIfInBounds_toArray, List.set_cons_zero, List.set_cons_succ, i64_w, i32_w]
    rfl
  refine pure_ (i := 6) (N := some 31) (v := ?_) (a' := ?_) #[true, true, false, true, true, false, true, false, false, false, false] rfl rfl (by kernel_rfl) (fun _ _ _ h => h) (Or.inl ⟨by rfl, ?_⟩) ?_ ?_
  rotate_left
  · intro w'
    go_simp
    with_reducible rfl
  rotate_left
  · simp only [Act.put, List.setIfInBounds_toArray, List.set_cons_zero, List.set_cons_succ, i64_w, i32_w]
    rfl
  have hI0 : NI ⟨cs, cr, cw, ck⟩ ins W3.heap.size W3 (fun _ => none) W3 := ⟨Below.refl _ _, Nat.le_refl _, fun i v h => (by cases h), fun i v k h => (by cases h), fun i j vi vj k _ h => (by cases h)⟩
  have HM0 : Aside0 ((0 ≤ cs ∧ cs ≤ 1000) ∧ (0 ≤ cw ∧ cw ≤ 1000)) := ⟨by have := HM.out; omega⟩
  have HR : Aside0 (RdI W3 Ai ins) := ⟨HI.out.1.below (B3.out)⟩
  have HIL : Aside0 (ins.length ≤ 500000) := ⟨by have := HM.out; have := HN.out; omega⟩
  refine makersN ?hix ?hready ?hdst rfl (fun s w => NI ⟨cs, cr, cw, ck⟩ ins W3.heap.size W3 s w) ?hS ?hrun ?hrun3 rfl rfl ?hQ (fun v0 v1 v2 => .agg (n7 v0 v1 v2)) (by kernel_rfl) (by kernel_rfl) (by kernel_rfl) ?hy ?hend hI0
  case hix =>
    rintro ⟨_ | _ | _ | _ | k, hk⟩
    · rfl
    · rfl
    · rfl
    · rfl
    · omega
  case hdst =>
    rintro ⟨_ | _ | _ | _ | k, hk⟩ o ho
    · cases ho; rfl
    · cases ho; rfl
    · cases ho; rfl
    · cases ho; rfl
    · omega
  case hS => exact fun s w h => ⟨pw_cell_below h.bel hHeld.1, pw_cell_below h.bel hHeld.2⟩
  case hQ => exact fun _ _ _ _ _ h => h
  case hready =>
    intro s hs hx
    cases h0 : s 0 <;> cases h1 : s 1 <;> cases h2 : s 2 <;> cases h3 : s 3 <;> simp only [lstN, lack, h0, h1, h2, h3, Option.isSome_none, Option.isSome_some, Option.isNone_none, Option.isNone_some, if_true, Bool.false_eq_true, if_false, List.nil_append, List.append_nil, List.cons_append]
    all_goals first | (exfalso; apply hs; simp [cnt, h0, h1, h2, h3]; done) | (exfalso; apply hx; simp [h0, h1, h2]; done) | kernel_rfl
  case hrun3 =>
    intro s o a' w ho hn hI K hK
    cases ho
    refine value_ (v := .pointer (some ⟨w.heap.size, 0, none⟩)) (w1 := w.alloc (.cells cx0 (37 : Nat))) (by rfl) rfl ?_ ?_
    · have hz := zero37
      go_simp
    refine hK _ _ (hI.add hn ((Below.refl _ _).alloc (Nat.le_refl _) _) ?_ ?_)
    · exact ⟨w.heap.size, rfl, hI.lw, heap_alloc_new _ _⟩
    · intro k hk; cases hk
  case hrun =>
    rintro s ⟨_ | _ | _ | _ | k, hk⟩ o w ho h3 hn hI K hK
    · cases ho
      refine value_ (v := .slice (some ⟨w.heap.size, 0, none⟩) cs.toNat cs.toNat) (w1 := w.alloc (.cells (madeCells #[Value.int .i64 0] cs.toNat) 2)) (by rfl) rfl ?_ ?_
      · show (do let r ← Instr.makeSlice 25 (Value.int .i64 cs) (Value.int .i64 cs); pure (Next.value r) : Sem Next).run Try.prog w = _
        rw [Sem.run_bind, mk25 HM0.out.1.1 HM0.out.1.2]
        rfl
      refine hK _ _ (hI.add hn ((Below.refl _ _).alloc (Nat.le_refl _) _) (made_IR HM0.out.1.2 w) ?_)
      intro k hk
      have : w.heap.size = k := by simpa [Value.ownBlock] using hk
      simp; omega
    · cases ho
      refine value_ (v := .slice (some ⟨w.heap.size, 0, none⟩) cw.toNat cw.toNat) (w1 := w.alloc (.cells (madeCells #[Value.int .i64 0] cw.toNat) 2)) (by rfl) rfl ?_ ?_
      · show (do let r ← Instr.makeSlice 25 (Value.int .i64 cw) (Value.int .i64 cw); pure (Next.value r) : Sem Next).run Try.prog w = _
        rw [Sem.run_bind, mk25 HM0.out.2.1 HM0.out.2.2]
        rfl
      refine hK _ _ (hI.add hn ((Below.refl _ _).alloc (Nat.le_refl _) _) (made_IR HM0.out.2.2 w) ?_)
      intro k hk
      have : w.heap.size = k := by simpa [Value.ownBlock] using hk
      simp; omega
    · cases ho
      refine goes_ Try.func28 (by kernel_rfl) rfl #[.slice Ai ins.length ci] (by rfl) rfl rfl (by simp only [List.map_toArray, List.map_cons, List.map_nil]; rfl) ?_
      refine (clone_ints (HR.out.below hI.bel) HI.out.2 HIL.out).mono ?_
      rintro e w' ⟨v, rfl, iv, ov, bv⟩
      exact ⟨v, rfl, hK v w' (hI.add hn bv iv (fun k hk => ⟨ov k hk, iv.lt hk⟩))⟩
    · exact absurd rfl h3
    · omega
  case hy =>
    intro s v0 v1 v2 w e0 e1 e2 hI
    have p0 : IR w v0 (List.replicate cs.toNat 0) := hI.ph 0 v0 e0
    have p1 : IR w v1 (List.replicate cw.toNat 0) := hI.ph 1 v1 e1
    have p2 : IR w v2 ins := hI.ph 2 v2 e2
    obtain ⟨A0, q0, r0, _⟩ := p0.slice
    obtain ⟨A1, q1, r1, _⟩ := p1.slice
    obtain ⟨A2, q2, r2, _⟩ := p2.slice
    clear p0 p1 p2 hI
    subst r0 r1 r2
    refine Or.inl ⟨by rfl, ?_⟩
    intro w'
    simp only [frN, e0, e1, e2, Option.getD_some, Act.put, List.setIfInBounds_toArray, List.set_cons_zero, List.set_cons_succ, n7]
    go_simp
    try with_reducible rfl
  case hend =>
    intro s w v0 v1 v2 v3 e0 e1 e2 e3 hI
    have p0 : Aside0 (IR w v0 (List.replicate cs.toNat 0)) := ⟨hI.ph 0 v0 e0⟩
    have p1 : Aside0 (IR w v1 (List.replicate cw.toNat 0)) := ⟨hI.ph 1 v1 e1⟩
    have p2 : Aside0 (IR w v2 ins) := ⟨hI.ph 2 v2 e2⟩
    have p3 : ∃ g, v3 = .pointer (some ⟨g, 0, none⟩) ∧ W3.heap.size ≤ g ∧ w.heap[g]? = some (.cells cx0 37 (0, 0)) := hI.ph 3 v3 e3
    obtain ⟨g, rfl, hg1, hg2⟩ := p3
    have AP : Aside0 ((∀ k, v0.ownBlock = some k → v2.ownBlock ≠ some k ∧ v1.ownBlock ≠ some k) ∧ (∀ k, v2.ownBlock = some k → v1.ownBlock ≠ some k)) := ⟨fun k h => ⟨hI.ap 0 2 v0 v2 k (by decide) e0 e2 h, hI.ap 0 1 v0 v1 k (by decide) e0 e1 h⟩, fun k h => hI.ap 2 1 v2 v1 k (by decide) e2 e1 h⟩
    have BD : Aside0 ((∀ k, v0.ownBlock = some k → W3.heap.size ≤ k ∧ k < w.heap.size) ∧ (∀ k, v1.ownBlock = some k → W3.heap.size ≤ k ∧ k < w.heap.size) ∧ (∀ k, v2.ownBlock = some k → W3.heap.size ≤ k ∧ k < w.heap.size)) := ⟨fun k h => hI.bd 0 v0 k e0 h, fun k h => hI.bd 1 v1 k e1 h, fun k h => hI.bd 2 v2 k e2 h⟩
    refine norm_ (a' := ?_) ?_ ?_
    rotate_left
    · simp only [frN, e0, e1, e2, e3, Option.getD_some, Act.put, List.setIfInBounds_toArray, List.set_cons_zero, List.set_cons_succ, n7]
      rfl
    have hall : (n7 v0 v1 v2).all (·.oneCell') = true := by
      have a0 := one_slice p0.out
      have a1 := one_slice p1.out
      have a2 := one_slice p2.out
      simp [n7, a0, a1, a2]
      simp [Value.oneCell']
    refine last_ (i := 10) (N := none) #[true, true, true, true, true, true, true, true, true, true, true] rfl rfl (by kernel_rfl) (by decide) (fun K hK => ?_)
    refine skip_ (w1 := w.setRow g (n7 v0 v1 v2)) (by rfl) rfl ?_ ?_
    · show (do Instr.storeAt 37 (.pointer (some ⟨g, 0, none⟩)) (.agg (n7 v0 v1 v2)); pure Next.skip : Sem Next).run Try.prog w = _
      rw [Sem.run_bind, cx_store hg2 rfl rfl hall]
      rfl
    have hne : ∀ (v : Value) (xs : List Int), IR w v xs → ∀ k, v.ownBlock = some k → k ≠ g := fun v xs hv k hk e => by
      obtain ⟨cs', hc⟩ := hv.typed hk
      rw [e, hg2] at hc
      simp at hc
    refine hK.out _ _ (done_ (by kernel_rfl) ?_)
    have Q0 := Aside0.mk (p0.out.move (W' := w.setRow g (n7 v0 v1 v2)) (fun k hk => setRow_other w g k _ (hne _ _ p0.out k hk)))
    have Q1 := Aside0.mk (p1.out.move (W' := w.setRow g (n7 v0 v1 v2)) (fun k hk => setRow_other w g k _ (hne _ _ p1.out k hk)))
    have Q2 := Aside0.mk (p2.out.move (W' := w.setRow g (n7 v0 v1 v2)) (fun k hk => setRow_other w g k _ (hne _ _ p2.out k hk)))
    have G4 := Aside0.mk (setRow_heap w g _ (n7 v0 v1 v2) _ _ hg2)
    have hgW : W.heap.size < g := by have := Z3.out; omega
    have X4 : Aside0 ((w.setRow g (n7 v0 v1 v2)).heap[W.heap.size]? = some (.cells #[.int .i64 cs, .int .i64 cr, .int .i64 cw, .int .i64 ck] (24 : Nat) (0, 0))) := ⟨(setRow_other w g _ _ (by omega)).trans ((hI.bel.block _ Z3.out).trans X3.out)⟩
    have B4 := Aside0.mk (setRow_below2 (B3.out.trans (hI.bel.mono (Nat.le_of_lt Z3.out))) (Nat.le_of_lt hgW) (n7 v0 v1 v2))
    have L0 : Aside0 ((∀ k, v0.ownBlock = some k → W.heap.size ≤ k) ∧ (∀ k, v1.ownBlock = some k → W.heap.size ≤ k) ∧ (∀ k, v2.ownBlock = some k → W.heap.size ≤ k)) := ⟨by
      have := Z3.out
      refine ⟨fun k h => ?_, fun k h => ?_, fun k h => ?_⟩
      · have := BD.out.1 k h; omega
      · have := BD.out.2.1 k h; omega
      · have := BD.out.2.2 k h; omega⟩
    obtain ⟨A0, q0, r0, _⟩ := p0.out.slice
    obtain ⟨A1, q1, r1, _⟩ := p1.out.slice
    obtain ⟨A2, q2, r2, _⟩ := p2.out.slice
    generalize hW4 : w.setRow g (n7 v0 v1 v2) = W4 at Q0 Q1 Q2 G4 X4 B4 ⊢
    clear hK K p0 p1 p2 hne hW4 BD hI hg1 hg2 hall e0 e1 e2 e3 hgW hHeld hI0 HR X3 B3 Z3 HM0
    subst r0 r1 r2
    have S4 : Aside0 (Below W.heap.size W W4.drew ∧ W.heap.size ≤ W4.drew.heap.size) := ⟨below_drew1 B4.out, B4.out.size⟩
    have g4 : ∀ j v, (n7 (.slice A0 (List.replicate cs.toNat (0 : Int)).length q0) (.slice A1 (List.replicate cw.toNat (0 : Int)).length q1) (.slice A2 ins.length q2))[j]? = some v → W4.drew.cell? ⟨g, j, none⟩ = some v := fun j v hv => by
      have : W4.drew.heap[g]? = _ := G4.out
      simp only [World.cell?, this]
      simpa using hv
    have x4 : ∀ j v, (#[.int .i64 cs, .int .i64 cr, .int .i64 cw, .int .i64 ck] : Array Value)[j]? = some v → W4.drew.cell? ⟨W.heap.size, j, none⟩ = some v := fun j v hv => by
      have : W4.drew.heap[W.heap.size]? = _ := X4.out
      simp [World.cell?, this, hv]
    have GX := Aside0.mk (And.intro g4 x4)
    clear g4 x4
    have T0 : Aside0 (IR W4.drew (.slice A0 cs.toNat q0) (List.replicate cs.toNat 0)) := ⟨by have h := Q0.out.move (W' := W4.drew) (fun _ _ => rfl); rw [List.length_replicate] at h; exact h⟩
    have T1 : Aside0 (IR W4.drew (.slice A1 cw.toNat q1) (List.replicate cw.toNat 0)) := ⟨by have h := Q1.out.move (W' := W4.drew) (fun _ _ => rfl); rw [List.length_replicate] at h; exact h⟩
    have T2 : Aside0 (IR W4.drew (.slice A2 ins.length q2) ins) := ⟨Q2.out.move (fun _ _ => rfl)⟩
    clear Q0 Q1 Q2
    go_wp2_with fail
    refine start_ (n := 9) (S := fun w' => (∀ j v, (n7 (.slice A0 (List.replicate cs.toNat (0 : Int)).length q0) (.slice A1 (List.replicate cw.toNat (0 : Int)).length q1) (.slice A2 ins.length q2))[j]? = some v → w'.cell? ⟨g, j, none⟩ = some v) ∧ (∀ j v, (#[.int .i64 cs, .int .i64 cr, .int .i64 cw, .int .i64 ck] : Array Value)[j]? = some v → w'.cell? ⟨W.heap.size, j, none⟩ = some v)) (ds := []) #[false, false, false, false, false, false, false, false, false] (by kernel_rfl) rfl rfl GX.out (fun hHeld => ?_)
    generalize W4.drew = W5 at *
    refine pure_ (i := 0) (N := some 34) (v := ?_) (a' := ?_) #[true, false, false, false, false, false, false, false, false] rfl rfl (by kernel_rfl) (fun _ _ _ h => h) (Or.inl ⟨by rfl, ?_⟩) ?_ ?_
    rotate_left
    · intro w'
      go_simp
      with_reducible rfl
    rotate_left
    · simp only [Act.put, List.setIfInBounds_toArray, List.set_cons_zero, List.set_cons_succ, i64_w, i32_w]
      rfl
    refine take_ (i := 2) (N := some 36) (v := ?_) (a' := ?_) #[true, false, true, false, false, false, false, false, false] rfl rfl (by kernel_rfl) (fun _ _ _ h => h) (Or.inl ⟨by rfl, ?_⟩) hHeld ?_ ?_
    rotate_left
    · rintro w' ⟨s0, s1⟩
      have k0 := s1 0 _ rfl
      have k1 := s1 1 _ rfl
      have k2 := s1 2 _ rfl
      have k3 := s1 3 _ rfl
      clear s0 s1
      go_simp
      with_reducible rfl
    rotate_left
    · simp only [Act.put, List.setIfInBounds_toArray, List.set_cons_zero, List.set_cons_succ, i64_w, i32_w]
      rfl
    refine take_ (i := 3) (N := some 37) (v := ?_) (a' := ?_) #[true, false, true, true, false, false, false, false, false] rfl rfl (by kernel_rfl) (fun _ _ _ h => h) (Or.inl ⟨by rfl, ?_⟩) hHeld ?_ ?_
    rotate_left
    · rintro w' ⟨s0, s1⟩
      have k0 := s0 0 _ rfl
      have k1 := s0 1 _ rfl
      have k2 := s0 2 _ rfl
      have k3 := s0 3 _ rfl
      have k4 := s0 4 _ rfl
      have k5 := s0 5 _ rfl
      have k6 := s0 6 _ rfl
      clear s0 s1
      go_simp
      with_reducible rfl
    rotate_left
    · simp only [Act.put, List.setIfInBounds_toArray, List.set_cons_zero, List.set_cons_succ, i64_w, i32_w]
      rfl
    refine one_ (i := 1) (N := some 35) #[true, true, true, true, false, false, false, false, false] rfl rfl (by kernel_rfl) (by decide) (fun K hK => ?_)
    refine goes_ Try.func29 (by kernel_rfl) rfl #[.slice A l.length cap] (by rfl) rfl rfl (by simp only [List.map_toArray, List.map_cons, List.map_nil]; rfl) ?_
    refine (clone_code (Kd.C_below HC.out S4.out.1) HAA.out (Nat.le_trans HL.out.2 (by decide))).mono ?_
    rintro e W6 ⟨cv, rfl, hcv, bcv⟩
    refine ⟨_, rfl, ?_⟩
    obtain ⟨cad, cp, rfl⟩ := Kd.R_slice1 hcv HL.out.1
    have CV := Aside0.mk hcv
    have S6 : Aside0 (Below W.heap.size W W6 ∧ W.heap.size ≤ W5.heap.size ∧ W5.heap.size ≤ W6.heap.size ∧ (∀ k, k < W5.heap.size → W6.heap[k]? = W5.heap[k]?)) := ⟨S4.out.1.trans (bcv.mono S4.out.2), S4.out.2, bcv.size, fun k hk => bcv.block k hk⟩
    refine hK.out _ _ ⟨fun j v hv => pw_cell_below bcv (hHeld.1 j v hv), fun j v hv => pw_cell_below bcv (hHeld.2 j v hv)⟩ (fun hHeld2 => ?_)
    clear hK K hcv bcv hHeld
    refine norm_ (a' := ?_) ?_ ?_
    rotate_left
    · show Act.put _ (some 35) _ = _
      simp only [Act.put, List.setIfInBounds_toArray, List.set_cons_zero, List.set_cons_succ, i64_w, i32_w]
      rfl
    refine one_ (i := 4) (N := some 38) #[true, true, true, true, true, false, false, false, false] rfl rfl (by kernel_rfl) (by decide) (fun K hK => ?_)
    refine goes_ Try.func30 (by kernel_rfl) rfl #[] (by rfl) rfl rfl (by simp only [List.map_toArray, List.map_nil]) ?_
    refine (pairs_calls _).mono ?_
    rintro e W7 ⟨M, rfl, hM, hMl, bM⟩
    refine ⟨_, rfl, ?_⟩
    have MM := Aside0.mk (And.intro hM hMl)
    have S7 : Aside0 (Below W.heap.size W W7 ∧ W6.heap.size ≤ W7.heap.size ∧ (∀ k, k < W6.heap.size → W7.heap[k]? = W6.heap[k]?)) := ⟨S6.out.1.trans (bM.mono (Nat.le_trans S6.out.2.1 S6.out.2.2.1)), bM.size, fun k hk => bM.block k hk⟩
    refine hK.out _ _ ⟨fun j v hv => pw_cell_below bM (hHeld2.1 j v hv), fun j v hv => pw_cell_below bM (hHeld2.2 j v hv)⟩ (fun hHeld => ?_)
    clear hK K hM hMl bM hHeld2
    refine norm_ (a' := ?_) ?_ ?_
    rotate_left
    · show Act.put _ (some 38) _ = _
      simp only [Act.put, List.setIfInBounds_toArray, List.set_cons_zero, List.set_cons_succ, i64_w, i32_w]
      rfl
    refine pure_ (i := 5) (N := some 39) (v := ?_) (a' := ?_) #[true, true, true, true, true, true, false, false, false] rfl rfl (by kernel_rfl) (fun _ _ _ h => h) (Or.inl ⟨by rfl, ?_⟩) ?_ ?_
    rotate_left
    · intro w'
      go_simp
      with_reducible rfl
    rotate_left
    · simp only [Act.put, List.setIfInBounds_toArray, List.set_cons_zero, List.set_cons_succ, i64_w, i32_w]
      rfl
    refine one_ (i := 6) (N := some 40) #[true, true, true, true, true, true, true, false, false] rfl rfl (by kernel_rfl) (by decide) (fun K hK => ?_)
    refine value_ (v := .pointer (some ⟨W7.heap.size, 0, none⟩)) (w1 := W7.alloc (.cells #[.slice (some cad) l.length cp, .int .i64 cs, .int .i64 cr, .int .i64 cw, .int .i64 ck, .int .i64 0, .slice none 0 0, .slice A0 cs.toNat q0, .slice A2 ins.length q2, .slice A1 cw.toNat q1, .int .i64 0, .bool false, .map (some M)] (70 : Nat))) (by rfl) rfl ?_ ?_
    · have hu70 := Try.underlying70
      go_simp
      rfl
    have B8 := Aside0.mk ((Below.refl _ _).alloc (w := W7) (Nat.le_refl _) (.cells #[.slice (some cad) l.length cp, .int .i64 cs, .int .i64 cr, .int .i64 cw, .int .i64 ck, .int .i64 0, .slice none 0 0, .slice A0 cs.toNat q0, .slice A2 ins.length q2, .slice A1 cw.toNat q1, .int .i64 0, .bool false, .map (some M)] (70 : Nat)))
    have X8 := Aside0.mk (heap_alloc_new W7 (.cells #[.slice (some cad) l.length cp, .int .i64 cs, .int .i64 cr, .int .i64 cw, .int .i64 ck, .int .i64 0, .slice none 0 0, .slice A0 cs.toNat q0, .slice A2 ins.length q2, .slice A1 cw.toNat q1, .int .i64 0, .bool false, .map (some M)] (70 : Nat)))
    have Z8 : Aside0 ((W7.alloc (.cells #[.slice (some cad) l.length cp, .int .i64 cs, .int .i64 cr, .int .i64 cw, .int .i64 ck, .int .i64 0, .slice none 0 0, .slice A0 cs.toNat q0, .slice A2 ins.length q2, .slice A1 cw.toNat q1, .int .i64 0, .bool false, .map (some M)] (70 : Nat))).heap.size = W7.heap.size + 1) := ⟨by simp⟩
    refine hK.out _ _ ⟨fun j v hv => pw_cell_below B8.out (hHeld.1 j v hv), fun j v hv => pw_cell_below B8.out (hHeld.2 j v hv)⟩ (fun hHeld2 => ?_)
    clear hK K hHeld hHeld2
    generalize W7.alloc (.cells #[.slice (some cad) l.length cp, .int .i64 cs, .int .i64 cr, .int .i64 cw, .int .i64 ck, .int .i64 0, .slice none 0 0, .slice A0 cs.toNat q0, .slice A2 ins.length q2, .slice A1 cw.toNat q1, .int .i64 0, .bool false, .map (some M)] (70 : Nat)) = W8 at B8 X8 Z8 ⊢
    refine norm_ (a' := ?_) ?_ ?_
    rotate_left
    · show Act.put _ (some 40) _ = _
      simp only [Act.put, List.setIfInBounds_toArray, List.set_cons_zero, List.set_cons_succ, i64_w, i32_w]
      rfl
    refine pure_ (i := 7) (N := some 6) (v := ?_) (a' := ?_) #[true, true, true, true, true, true, true, true, false] rfl rfl (by kernel_rfl) (fun _ _ _ h => h) (Or.inl ⟨by rfl, ?_⟩) ?_ ?_
    rotate_left
    · intro w'
      go_simp
      with_reducible rfl
    rotate_left
    · simp only [Act.put, List.setIfInBounds_toArray, List.set_cons_zero, List.set_cons_succ, i64_w, i32_w]
      rfl
    refine pure_ (i := 8) (N := some 7) (v := ?_) (a' := ?_) #[true, true, true, true, true, true, true, true, true] rfl rfl (by kernel_rfl) (fun _ _ _ h => h) (Or.inl ⟨by rfl, ?_⟩) ?_ ?_
    rotate_left
    · intro w'
      go_simp
      with_reducible rfl
    rotate_left
    · simp only [Act.put, List.setIfInBounds_toArray, List.set_cons_zero, List.set_cons_succ, i64_w, i32_w]
      rfl
    refine done_ (by kernel_rfl) ?_
    go_wp2
    go_ret2
    have hz := Z8.out
    have AP' := AP.out
    have L0' := L0.out
    simp only [List.length_replicate] at AP' L0'
    have m7 : ∀ k, k < W7.heap.size → W8.heap[k]? = W7.heap[k]? := fun k hk => B8.out.block k hk
    have m6 : ∀ k, k < W6.heap.size → W8.heap[k]? = W6.heap[k]? := fun k hk => (m7 k (Nat.lt_of_lt_of_le hk S7.out.2.1)).trans (S7.out.2.2 k hk)
    have m5 : ∀ k, k < W5.heap.size → W8.heap[k]? = W5.heap[k]? := fun k hk => (m6 k (Nat.lt_of_lt_of_le hk S6.out.2.2.1)).trans (S6.out.2.2.2 k hk)
    have z1 := S4.out.2
    have z2 := S6.out.2.2.1
    have z3 := S7.out.2.1
    refine ⟨W7.heap.size, rfl, ⟨M, .slice (some cad) l.length cp, .slice none 0 0, .slice A0 cs.toNat q0, .slice A2 ins.length q2, .slice A1 cw.toNat q1, ?_⟩, S7.out.1.trans (B8.out.mono (by omega))⟩
    have i0 : IR W8 (.slice A0 cs.toNat q0) (List.replicate cs.toNat 0) := T0.out.move (fun k hk => m5 k (T0.out.lt hk))
    have i1 : IR W8 (.slice A1 cw.toNat q1) (List.replicate cw.toNat 0) := T1.out.move (fun k hk => m5 k (T1.out.lt hk))
    have i2 : IR W8 (.slice A2 ins.length q2) ins := T2.out.move (fun k hk => m5 k (T2.out.lt hk))
    refine { vb := X8.out, code := ?_, st := IR.nil _, sl := i0, inn := i2, ou := i1, mp := MM.out.1.move (m7 M MM.out.1.lt), d1 := (fun k hk => by cases hk), d2 := ?_, d3 := ?_, zb := (by constructor <;> omega), zM := (by have h1 := MM.out.2; have h2 := MM.out.1.lt; constructor <;> omega), zs := ?_ }
    · refine Kd.R_mono (Kd.R_move (Kd.R_bound CV.out) (fun k hk => ?_)) (fun k hk => ?_)
      · obtain ⟨_, _, _, q, hq, cs', hc⟩ := hk
        exact m6 k (Array.getElem?_eq_some_iff.1 hc).1
      · obtain ⟨h1, _, _, q, hq, cs', hc⟩ := hk
        have := (Array.getElem?_eq_some_iff.1 hc).1
        exact ⟨by omega, by omega⟩
    · exact fun k h => AP'.1 k h
    · exact fun k h => AP'.2 k h
    · rintro k (h | h | h | h)
      · cases h
      · exact ⟨L0'.1 k h, i0.lt h⟩
      · exact ⟨L0'.2.2 k h, i2.lt h⟩
      · exact ⟨L0'.2.1 k h, i1.lt h⟩
end Go.Proofs.Ytlmpoojpbdmmfaa.H
end
