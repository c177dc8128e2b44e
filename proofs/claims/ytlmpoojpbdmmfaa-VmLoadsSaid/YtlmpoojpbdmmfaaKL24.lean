/- Part 24 of the proof of the law L. The conditions: none. (Its parts: Scarillonref01Div Scarillonref01Mod Hx8 Ref22.) -/
import Derived.Test.YtlmpoojpbdmmfaaKL02
import Derived.Test.YtlmpoojpbdmmfaaKL12
import Derived.Test.YtlmpoojpbdmmfaaKL16
import Derived.Test.YtlmpoojpbdmmfaaKL18
import Derived.Test.YtlmpoojpbdmmfaaKL23
section
set_option linter.unusedVariables false
set_option linter.unusedSimpArgs false
namespace Go.Proofs.Ytlmpoojpbdmmfaa.H
open Go.RowKit Go.Proofs.YtlmpoojpbdmmfaaW.PrintWords Go.Proofs.YtlmpoojpbdmmfaaW.PrintLast Go.Proofs.YtlmpoojpbdmmfaaW.PrintMore
def is64 (x : Int) : Prop := -9223372036854775808 ≤ x ∧ x ≤ 9223372036854775807
instance (x : Int) : Decidable (is64 x) := by unfold is64; infer_instance
theorem dg_small {N : Nat} (h : N < 18446744073709551616) : dg N 0 = ((N : Nat) : Int) % 4294967296 ∧ dg N 1 = ((N : Nat) : Int) / 4294967296 ∧ dg N 2 = 0 ∧ dg N 3 = 0 := by
  unfold dg
  simp only [Nat.mul_zero, Nat.pow_zero, Nat.div_one, Nat.mul_one, show (32 : Nat) * 2 = 64 from rfl, show (32 : Nat) * 3 = 96 from rfl, show (2 : Nat) ^ 32 = 4294967296 from rfl, show (2 : Nat) ^ 64 = 18446744073709551616 from rfl, show (2 : Nat) ^ 96 = 79228162514264337593543950336 from rfl]
  refine ⟨?_, ?_, ?_, ?_⟩ <;> omega
theorem of_abs {x : Int} (hx : is64 x) (w : World) : Calls Try.prog 78 #[.int .i64 x] w fun e w' => e = .returned (.agg #[.int .u64 (dg x.natAbs 0), .int .u64 (dg x.natAbs 1), .int .u64 (dg x.natAbs 2), .int .u64 (dg x.natAbs 3), .bool (decide (x < 0))]) ∧ Below w.heap.size w w' := by
  unfold is64 at hx
  have hN : x.natAbs < 18446744073709551616 := by omega
  obtain ⟨h0, h1, h2, h3⟩ := dg_small hN
  rw [h0, h1, h2, h3]
  refine of_calls x ((x.natAbs : Nat) : Int) _ _ ?_ ?_ rfl w
  · rw [IntKind.wrap_u64]
    by_cases hn : x < 0
    · rw [if_pos hn, IntKind.wrap_u64]; omega
    · rw [if_neg hn]; omega
  · exact and32 (by omega) (by omega)
theorem round_val {N : Nat} {n : Bool} {g0 g1 g2 g3 : Int} (h0 : 0 ≤ g0 ∧ g0 < 4294967296) (h1 : 0 ≤ g1 ∧ g1 < 4294967296) (hv : g0 + 4294967296 * g1 = (N : Int)) (hN : N ≤ 9223372036854775808) (w : World) :
    Calls Try.prog 81 #[.agg #[.int .u64 g0, .int .u64 g1, .int .u64 g2, .int .u64 g3, .bool n]] w fun e w' => e = .returned (.int .i64 (wrap64 (if n = true then -(N : Int) else (N : Int)))) ∧ Below w.heap.size w w' := by
  refine round_calls g0 g1 g2 g3 (N : Int) _ n ?_ ?_ w
  · have hw : IntKind.u64.wrap (g1 * 4294967296) = g1 * 4294967296 := wraps_u64 _ (by omega) (by omega)
    rw [hw]
    have hc : Go.bits .or .u64 (g1 * 4294967296) g0 = g1 * 4294967296 + g0 := bits_join .u64 64 (by decide) wraps_u64 32 _ _ (by omega) (by omega) (by omega) h0.1 (by omega) (by omega)
    rw [show Go.bits .or .u64 g0 (g1 * 4294967296) = Go.bits .or .u64 (g1 * 4294967296) g0 from ?_, hc]
    · omega
    · simp only [Go.bits]
      first | rw [BitVec.or_comm] | (simp [BitVec.or_comm])
  · rw [i64_w]
    cases n with
    | true =>
      simp only [if_true]
      rw [IntKind.wrap_u64]
      unfold wrap64
      omega
    | false => simp
theorem natAbs_div (a b : Int) : a.tdiv b = if (decide (a < 0) != decide (b < 0)) = true then -((a.natAbs / b.natAbs : Nat) : Int) else ((a.natAbs / b.natAbs : Nat) : Int) := by
  obtain ⟨m, rfl | rfl⟩ := Int.eq_nat_or_neg a <;> obtain ⟨n, rfl | rfl⟩ := Int.eq_nat_or_neg b
  · have h1 : decide ((m : Int) < 0) = false := decide_eq_false (by omega)
    have h2 : decide ((n : Int) < 0) = false := decide_eq_false (by omega)
    rw [h1, h2, if_neg (by simp), Int.natAbs_natCast, Int.natAbs_natCast, Int.ofNat_tdiv]
  · have h1 : decide ((m : Int) < 0) = false := decide_eq_false (by omega)
    rw [h1, Int.natAbs_natCast, Int.natAbs_neg, Int.natAbs_natCast, Int.tdiv_neg, Int.ofNat_tdiv]
    by_cases hn : n = 0
    · subst hn; simp
    · have h2 : decide (-(n : Int) < 0) = true := decide_eq_true (by omega)
      rw [h2, if_pos (by simp)]
  · have h2 : decide ((n : Int) < 0) = false := decide_eq_false (by omega)
    rw [h2, Int.natAbs_natCast, Int.natAbs_neg, Int.natAbs_natCast, Int.neg_tdiv, Int.ofNat_tdiv]
    by_cases hn : m = 0
    · subst hn; simp
    · have h1 : decide (-(m : Int) < 0) = true := decide_eq_true (by omega)
      rw [h1, if_pos (by simp)]
  · rw [Int.natAbs_neg, Int.natAbs_neg, Int.natAbs_natCast, Int.natAbs_natCast, Int.neg_tdiv, Int.tdiv_neg, Int.neg_neg, Int.ofNat_tdiv]
    by_cases hm : m = 0
    · subst hm; simp
    by_cases hn : n = 0
    · subst hn; simp
    have h1 : decide (-(m : Int) < 0) = true := decide_eq_true (by omega)
    have h2 : decide (-(n : Int) < 0) = true := decide_eq_true (by omega)
    rw [h1, h2, if_neg (by simp)]
theorem natAbs_mod (a b : Int) : a.tmod b = if a < 0 then -((a.natAbs % b.natAbs : Nat) : Int) else ((a.natAbs % b.natAbs : Nat) : Int) := by
  obtain ⟨m, rfl | rfl⟩ := Int.eq_nat_or_neg a <;> obtain ⟨n, rfl | rfl⟩ := Int.eq_nat_or_neg b
  · rw [if_neg (by omega), Int.natAbs_natCast, Int.natAbs_natCast, Int.ofNat_tmod]
  · rw [if_neg (by omega), Int.natAbs_natCast, Int.natAbs_neg, Int.natAbs_natCast, Int.tmod_neg, Int.ofNat_tmod]
  · rw [Int.natAbs_natCast, Int.natAbs_neg, Int.natAbs_natCast, Int.neg_tmod, Int.ofNat_tmod]
    by_cases hm : m = 0
    · subst hm; simp
    · rw [if_pos (by omega)]
  · rw [Int.natAbs_neg, Int.natAbs_neg, Int.natAbs_natCast, Int.natAbs_natCast, Int.neg_tmod, Int.tmod_neg, Int.ofNat_tmod]
    by_cases hm : m = 0
    · subst hm; simp
    · rw [if_pos (by omega)]
theorem divv_eq {a b : Int} (ha : is64 a) (hb : b ≠ 0) : divv a b = wrap64 (a.tdiv b) := by
  unfold divv is64 at *
  by_cases h1 : b = -1
  · rw [if_pos h1, h1, Int.tdiv_neg, Int.tdiv_one]
  rw [if_neg h1]
  by_cases h2 : b = 1
  · rw [if_pos h2, h2, Int.tdiv_one]; unfold wrap64; omega
  rw [if_neg h2, if_neg hb]
theorem modv_eq {a b : Int} (hb : b ≠ 0) : modv a b = a.tmod b := by
  unfold modv
  by_cases h1 : b = -1
  · rw [if_pos h1, h1, Int.tmod_neg, Int.tmod_one]
  rw [if_neg h1, if_neg hb]
  by_cases h2 : b = 1
  · rw [if_pos h2, h2, Int.tmod_one]
  rw [if_neg h2]
def carillonref01_Div.f (a0 : Int) (a1 : Int) : Option (Int) := if is64 a0 ∧ is64 a1 then some (divv a0 a1) else none
set_option maxHeartbeats 8000000 in
set_option maxRecDepth 100000 in
theorem carillonref01_Div.calls (a0 : Int) (a1 : Int) (r : Int) (w : World) (h : carillonref01_Div.f a0 a1 = some r) :
    Calls Try.prog 71 #[.int .i64 a0, .int .i64 a1] w fun e w' => e = .returned (.int .i64 r) ∧ Below w.heap.size w w' := by
  unfold carillonref01_Div.f at h
  split at h
  case isFalse => cases h
  rename_i h64
  obtain ⟨ha, hb⟩ := h64
  obtain rfl := Option.some.inj h
  clear h
  have hu117 := Try.underlying117
  have hz := zero117
  by_cases h0 : a1 = 0
  · subst h0
    have e0 : divv a0 0 = 0 := by simp [divv]
    rw [e0]
    go_enter Try.func71, Try.ntmps71
    go_wp2
    go_ret
    exact ⟨rfl, Below.refl _ _⟩
  have q : (a1 == 0) = false := by simpa using h0
  rw [divv_eq ha h0]
  have HA := Aside0.mk (And.intro ha (And.intro hb h0))
  have hbd : a0.natAbs ≤ 9223372036854775808 ∧ a1.natAbs ≤ 9223372036854775808 ∧ 0 < a1.natAbs := by unfold is64 at ha hb; omega
  have HBD := Aside0.mk hbd
  clear hbd ha hb h0
  go_enter Try.func71, Try.ntmps71
  go_wp2_with fail
  refine (of_abs HA.out.1 _).mono ?_
  rintro e W1 ⟨rfl, hb⟩
  have B1 := Aside0.mk hb
  clear hb
  go_wp2_with fail
  refine (signed_calls _ _ _ _ _ false _).mono ?_
  rintro e W2 ⟨rfl, hb⟩
  have B2 : Aside0 (Below w.heap.size w W2) := ⟨B1.out.trans (hb.mono B1.out.size)⟩
  clear hb B1
  go_wp2_with fail
  refine (of_abs HA.out.2.1 _).mono ?_
  rintro e W3 ⟨rfl, hb⟩
  have B3 : Aside0 (Below w.heap.size w W3) := ⟨B2.out.trans (hb.mono B2.out.size)⟩
  clear hb B2
  go_wp2_with fail
  refine (signed_calls _ _ _ _ _ false _).mono ?_
  rintro e W4 ⟨rfl, hb⟩
  have B4 : Aside0 (Below w.heap.size w W4) := ⟨B3.out.trans (hb.mono B3.out.size)⟩
  clear hb B3
  go_wp2_with fail
  refine (quo_calls a0.natAbs a1.natAbs false false (by have := HBD.out; omega) HBD.out.2.2 (by have := HBD.out; omega) _).mono ?_
  rintro e W5 ⟨⟨g0, g1, g2, g3, rfl, hgr, hgv⟩, hb⟩
  have B5 : Aside0 (Below w.heap.size w W5) := ⟨B4.out.trans (hb.mono B4.out.size)⟩
  have HG := Aside0.mk (And.intro hgr hgv)
  clear hb B4 hgr hgv
  obtain ⟨Q0, hQ0⟩ : ∃ Q, dg (a0.natAbs / a1.natAbs) 0 = Q := ⟨_, rfl⟩
  obtain ⟨Q1, hQ1⟩ : ∃ Q, dg (a0.natAbs / a1.natAbs) 1 = Q := ⟨_, rfl⟩
  obtain ⟨Q2, hQ2⟩ : ∃ Q, dg (a0.natAbs / a1.natAbs) 2 = Q := ⟨_, rfl⟩
  obtain ⟨Q3, hQ3⟩ : ∃ Q, dg (a0.natAbs / a1.natAbs) 3 = Q := ⟨_, rfl⟩
  rw [hQ0, hQ1, hQ2, hQ3]
  have HQ := Aside0.mk (And.intro hQ0 (And.intro hQ1 (And.intro hQ2 hQ3)))
  clear hQ0 hQ1 hQ2 hQ3
  go_wp2_with fail
  have B5' : Aside0 (Below w.heap.size w ((W5.alloc (.cells #[.int .u64 Q0, .int .u64 Q1, .int .u64 Q2, .int .u64 Q3, .bool false] (117 : Nat))).alloc (.cells #[.int .u64 g0, .int .u64 g1, .int .u64 g2, .int .u64 g3, .bool false] (117 : Nat)))) := ⟨(B5.out.alloc B5.out.size _).alloc (by simp; have := B5.out.size; omega) _⟩
  generalize ((W5.alloc (.cells #[.int .u64 Q0, .int .u64 Q1, .int .u64 Q2, .int .u64 Q3, .bool false] (117 : Nat))).alloc (.cells #[.int .u64 g0, .int .u64 g1, .int .u64 g2, .int .u64 g3, .bool false] (117 : Nat))) = W5' at B5' ⊢
  refine (signed_calls Q0 Q1 Q2 Q3 false _ _).mono ?_
  rintro e W6 ⟨rfl, hb⟩
  have B6 : Aside0 (Below w.heap.size w W6) := ⟨B5'.out.trans (hb.mono B5'.out.size)⟩
  clear hb B5 B5'
  obtain ⟨n, hn⟩ : ∃ n, ((!decide (a0 < 0) == decide (a1 < 0)) && !(Q0 == 0 && Q1 == 0 && Q2 == 0 && Q3 == 0)) = n := ⟨_, rfl⟩
  rw [hn]
  have HN := Aside0.mk hn
  clear hn
  go_wp2_with fail
  have hle : a0.natAbs / a1.natAbs ≤ a0.natAbs := Nat.div_le_self _ _
  have hsm := dg_small (N := a0.natAbs / a1.natAbs) (by have := HBD.out; omega)
  have HS : Aside0 (Q0 = ((a0.natAbs / a1.natAbs : Nat) : Int) % 4294967296 ∧ Q1 = ((a0.natAbs / a1.natAbs : Nat) : Int) / 4294967296 ∧ Q2 = 0 ∧ Q3 = 0) := ⟨by rw [← HQ.out.1, ← HQ.out.2.1, ← HQ.out.2.2.1, ← HQ.out.2.2.2]; exact hsm⟩
  have HLE : Aside0 (a0.natAbs / a1.natAbs ≤ 9223372036854775808) := ⟨by have := HBD.out; omega⟩
  clear hle hsm
  refine (round_val (N := a0.natAbs / a1.natAbs) (n := n) (g0 := Q0) (g1 := Q1) (g2 := Q2) (g3 := Q3) (by have := HS.out.1; omega) (by have h1 := HS.out.2.1; have h2 := HLE.out; have h3 : (0 : Int) ≤ ((a0.natAbs / a1.natAbs : Nat) : Int) := Int.natCast_nonneg _; omega) (by have := HS.out; omega) HLE.out _).mono ?_
  rintro e W7 ⟨rfl, hb⟩
  have B7 : Aside0 (Below w.heap.size w W7) := ⟨B6.out.trans (hb.mono B6.out.size)⟩
  clear hb B6
  have hval : wrap64 (if n = true then -((a0.natAbs / a1.natAbs : Nat) : Int) else ((a0.natAbs / a1.natAbs : Nat) : Int)) = wrap64 (a0.tdiv a1) := by
    rw [natAbs_div, ← HN.out]
    have hs := HS.out
    generalize a0.natAbs / a1.natAbs = Q at hs ⊢
    obtain ⟨s0, s1, s2, s3⟩ := hs
    by_cases hQ : Q = 0
    · subst hQ; simp
    · have hz' : (Q0 == 0 && Q1 == 0 && Q2 == 0 && Q3 == 0) = false := by
        by_cases e0 : Q0 = 0
        · have : Q1 ≠ 0 := by omega
          simp [this]
        · simp [e0]
      rw [hz', Bool.not_false, Bool.and_true]
      rfl
  rw [hval]
  clear hval
  go_wp2
  go_ret
  exact ⟨rfl, B7.out⟩
end Go.Proofs.Ytlmpoojpbdmmfaa.H
end
section
set_option linter.unusedVariables false
set_option linter.unusedSimpArgs false
namespace Go.Proofs.Ytlmpoojpbdmmfaa.H
open Go.RowKit Go.Proofs.YtlmpoojpbdmmfaaW.PrintWords Go.Proofs.YtlmpoojpbdmmfaaW.PrintLast Go.Proofs.YtlmpoojpbdmmfaaW.PrintMore
def carillonref01_Mod.f (a0 : Int) (a1 : Int) : Option (Int) := if is64 a0 ∧ is64 a1 then some (modv a0 a1) else none
set_option maxHeartbeats 8000000 in
set_option maxRecDepth 100000 in
theorem carillonref01_Mod.calls (a0 : Int) (a1 : Int) (r : Int) (w : World) (h : carillonref01_Mod.f a0 a1 = some r) :
    Calls Try.prog 72 #[.int .i64 a0, .int .i64 a1] w fun e w' => e = .returned (.int .i64 r) ∧ Below w.heap.size w w' := by
  unfold carillonref01_Mod.f at h
  split at h
  case isFalse => cases h
  rename_i h64
  obtain ⟨ha, hb⟩ := h64
  obtain rfl := Option.some.inj h
  clear h
  have hu117 := Try.underlying117
  have hz := zero117
  by_cases h0 : a1 = 0
  · subst h0
    have e0 : modv a0 0 = 0 := by simp [modv]
    rw [e0]
    go_enter Try.func72, Try.ntmps72
    go_wp2
    go_ret
    exact ⟨rfl, Below.refl _ _⟩
  have q : (a1 == 0) = false := by simpa using h0
  rw [modv_eq h0]
  have HA := Aside0.mk (And.intro ha (And.intro hb h0))
  have hbd : a0.natAbs ≤ 9223372036854775808 ∧ a1.natAbs ≤ 9223372036854775808 ∧ 0 < a1.natAbs := by unfold is64 at ha hb; omega
  have HBD := Aside0.mk hbd
  clear hbd ha hb h0
  go_enter Try.func72, Try.ntmps72
  go_wp2_with fail
  refine (of_abs HA.out.1 _).mono ?_
  rintro e W1 ⟨rfl, hb⟩
  have B1 := Aside0.mk hb
  clear hb
  go_wp2_with fail
  refine (signed_calls _ _ _ _ _ false _).mono ?_
  rintro e W2 ⟨rfl, hb⟩
  have B2 : Aside0 (Below w.heap.size w W2) := ⟨B1.out.trans (hb.mono B1.out.size)⟩
  clear hb B1
  go_wp2_with fail
  refine (of_abs HA.out.2.1 _).mono ?_
  rintro e W3 ⟨rfl, hb⟩
  have B3 : Aside0 (Below w.heap.size w W3) := ⟨B2.out.trans (hb.mono B2.out.size)⟩
  clear hb B2
  go_wp2_with fail
  refine (signed_calls _ _ _ _ _ false _).mono ?_
  rintro e W4 ⟨rfl, hb⟩
  have B4 : Aside0 (Below w.heap.size w W4) := ⟨B3.out.trans (hb.mono B3.out.size)⟩
  clear hb B3
  go_wp2_with fail
  refine (quo_calls a0.natAbs a1.natAbs false false (by have := HBD.out; omega) HBD.out.2.2 (by have := HBD.out; omega) _).mono ?_
  rintro e W5 ⟨⟨g0, g1, g2, g3, rfl, hgr, hgv⟩, hb⟩
  have B5 : Aside0 (Below w.heap.size w W5) := ⟨B4.out.trans (hb.mono B4.out.size)⟩
  have HG := Aside0.mk (And.intro hgr hgv)
  clear hb B4 hgr hgv
  obtain ⟨Q0, hQ0⟩ : ∃ Q, dg (a0.natAbs / a1.natAbs) 0 = Q := ⟨_, rfl⟩
  obtain ⟨Q1, hQ1⟩ : ∃ Q, dg (a0.natAbs / a1.natAbs) 1 = Q := ⟨_, rfl⟩
  obtain ⟨Q2, hQ2⟩ : ∃ Q, dg (a0.natAbs / a1.natAbs) 2 = Q := ⟨_, rfl⟩
  obtain ⟨Q3, hQ3⟩ : ∃ Q, dg (a0.natAbs / a1.natAbs) 3 = Q := ⟨_, rfl⟩
  rw [hQ0, hQ1, hQ2, hQ3]
  have HQ := Aside0.mk (And.intro hQ0 (And.intro hQ1 (And.intro hQ2 hQ3)))
  clear hQ0 hQ1 hQ2 hQ3
  go_wp2_with fail
  have B5' : Aside0 (Below w.heap.size w ((W5.alloc (.cells #[.int .u64 Q0, .int .u64 Q1, .int .u64 Q2, .int .u64 Q3, .bool false] (117 : Nat))).alloc (.cells #[.int .u64 g0, .int .u64 g1, .int .u64 g2, .int .u64 g3, .bool false] (117 : Nat)))) := ⟨(B5.out.alloc B5.out.size _).alloc (by simp; have := B5.out.size; omega) _⟩
  generalize ((W5.alloc (.cells #[.int .u64 Q0, .int .u64 Q1, .int .u64 Q2, .int .u64 Q3, .bool false] (117 : Nat))).alloc (.cells #[.int .u64 g0, .int .u64 g1, .int .u64 g2, .int .u64 g3, .bool false] (117 : Nat))) = W5' at B5' ⊢
  refine (signed_calls g0 g1 g2 g3 false _ _).mono ?_
  rintro e W6 ⟨rfl, hb⟩
  have B6 : Aside0 (Below w.heap.size w W6) := ⟨B5'.out.trans (hb.mono B5'.out.size)⟩
  clear hb B5 B5'
  obtain ⟨n, hn⟩ : ∃ n, (decide (a0 < 0) && !(g0 == 0 && g1 == 0 && g2 == 0 && g3 == 0)) = n := ⟨_, rfl⟩
  rw [hn]
  have HN := Aside0.mk hn
  clear hn
  go_wp2_with fail
  have hlt := Nat.mod_lt a0.natAbs HBD.out.2.2
  have HLT : Aside0 (a0.natAbs % a1.natAbs < 9223372036854775808) := ⟨by have := HBD.out; omega⟩
  have HS : Aside0 (g0 + 4294967296 * g1 = ((a0.natAbs % a1.natAbs : Nat) : Int) ∧ g2 = 0 ∧ g3 = 0) := ⟨by
    have h1 := HG.out.2
    have h2 := HG.out.1
    have h3 := HLT.out
    unfold vl at h1
    refine ⟨?_, ?_, ?_⟩ <;> omega⟩
  clear hlt
  refine (round_val (N := a0.natAbs % a1.natAbs) (n := n) (g0 := g0) (g1 := g1) (g2 := g2) (g3 := g3) HG.out.1.1 HG.out.1.2.1 HS.out.1 (Nat.le_of_lt HLT.out) _).mono ?_
  rintro e W7 ⟨rfl, hb⟩
  have B7 : Aside0 (Below w.heap.size w W7) := ⟨B6.out.trans (hb.mono B6.out.size)⟩
  clear hb B6
  have hval : wrap64 (if n = true then -((a0.natAbs % a1.natAbs : Nat) : Int) else ((a0.natAbs % a1.natAbs : Nat) : Int)) = a0.tmod a1 := by
    rw [natAbs_mod, ← HN.out]
    have hs := HS.out
    have hl := HLT.out
    have hr := HG.out.1
    generalize a0.natAbs % a1.natAbs = R at hs hl ⊢
    obtain ⟨s0, s1, s2⟩ := hs
    by_cases hR : R = 0
    · subst hR; simp [wrap64]
    · have hz' : (g0 == 0 && g1 == 0 && g2 == 0 && g3 == 0) = false := by
        by_cases e0 : g0 = 0
        · have : g1 ≠ 0 := by omega
          simp [this]
        · simp [e0]
      rw [hz', Bool.not_false, Bool.and_true]
      by_cases hneg : a0 < 0
      · rw [if_pos (by simpa using hneg), if_pos hneg]; unfold wrap64; omega
      · rw [if_neg (by simpa using hneg), if_neg hneg]; unfold wrap64; omega
  rw [hval]
  clear hval
  go_wp2
  go_ret
  exact ⟨rfl, B7.out⟩
end Go.Proofs.Ytlmpoojpbdmmfaa.H
end
section
namespace Go.Proofs.Ytlmpoojpbdmmfaa.H
open Go.RowKit Go.Proofs.YtlmpoojpbdmmfaaW.PrintWords Go.Proofs.YtlmpoojpbdmmfaaW.PrintLast Go.Proofs.YtlmpoojpbdmmfaaW.PrintMore
attribute [local go_sem] max2_int min2_int max_two min_two max_three min_three max_four min_four   -- for this text's walks alone
set_option linter.unusedVariables false
set_option linter.unusedSimpArgs false
def carillonref22_two.f (a0 : Int) (a1 : Int) (a2 : Int) : Option (Int) := if a0 = 8 then (some (wrap64 (a1 + a2))) else (if a0 = 9 then (some (wrap64 (a1 - a2))) else (if a0 = 10 then (some (wrap64 (a1 * a2))) else (if a0 = 11 then ((carillonref01_Div.f a1 a2).bind fun t150 => (some t150)) else (if a0 = 12 then ((carillonref01_Mod.f a1 a2).bind fun t151 => (some t151)) else (if a0 = 13 then ((carillonref22_truth.f (a1 == a2)).bind fun t152 => (some t152)) else (if a0 = 14 then ((carillonref22_truth.f (a1 != a2)).bind fun t153 => (some t153)) else (if a0 = 15 then ((carillonref22_truth.f (decide (a1 < a2))).bind fun t154 => (some t154)) else (if a0 = 16 then ((carillonref22_truth.f (decide (a1 ≤ a2))).bind fun t155 => (some t155)) else (if a0 = 17 then ((carillonref22_truth.f (decide (a1 > a2))).bind fun t156 => (some t156)) else (if a0 = 18 then ((carillonref22_truth.f (decide (a1 ≥ a2))).bind fun t157 => (some t157)) else (if a0 = 19 then (if a1 = 0 then ((carillonref22_truth.f false).bind fun t158 => (some t158)) else ((carillonref22_truth.f (a2 != 0)).bind fun t159 => (some t159))) else (if a1 = 0 then ((carillonref22_truth.f (a2 != 0)).bind fun t160 => (some t160)) else ((carillonref22_truth.f true).bind fun t161 => (some t161))))))))))))))
set_option maxHeartbeats 8000000 in
set_option maxRecDepth 100000 in
theorem carillonref22_two.calls (a0 : Int) (a1 : Int) (a2 : Int) (r : Int) (w : World) (h : carillonref22_two.f a0 a1 a2 = some r) :
    Calls Try.prog 39 #[.int .u8 a0, .int .i64 a1, .int .i64 a2] w fun e w' => e = .returned (.int .i64 r) ∧ Below w.heap.size w w' := by
  have HB := Aside0.mk (Below.refl w.heap.size w)
  have H : (if a0 = 8 then (some (wrap64 (a1 + a2))) else (if a0 = 9 then (some (wrap64 (a1 - a2))) else (if a0 = 10 then (some (wrap64 (a1 * a2))) else (if a0 = 11 then ((carillonref01_Div.f a1 a2).bind fun t150 => (some t150)) else (if a0 = 12 then ((carillonref01_Mod.f a1 a2).bind fun t151 => (some t151)) else (if a0 = 13 then ((carillonref22_truth.f (a1 == a2)).bind fun t152 => (some t152)) else (if a0 = 14 then ((carillonref22_truth.f (a1 != a2)).bind fun t153 => (some t153)) else (if a0 = 15 then ((carillonref22_truth.f (decide (a1 < a2))).bind fun t154 => (some t154)) else (if a0 = 16 then ((carillonref22_truth.f (decide (a1 ≤ a2))).bind fun t155 => (some t155)) else (if a0 = 17 then ((carillonref22_truth.f (decide (a1 > a2))).bind fun t156 => (some t156)) else (if a0 = 18 then ((carillonref22_truth.f (decide (a1 ≥ a2))).bind fun t157 => (some t157)) else (if a0 = 19 then (if a1 = 0 then ((carillonref22_truth.f false).bind fun t158 => (some t158)) else ((carillonref22_truth.f (a2 != 0)).bind fun t159 => (some t159))) else (if a1 = 0 then ((carillonref22_truth.f (a2 != 0)).bind fun t160 => (some t160)) else ((carillonref22_truth.f true).bind fun t161 => (some t161))))))))))))))) = some r := h
  clear h
  by_cases c4 : a0 = 8
  · rw [if_pos c4] at H
    have c4b0 : (a0 == 8) = true := beq_iff_eq.mpr c4
    have c4b1 : (a0 != 8) = false := bne_eq_false_iff_eq.mpr c4
    clear c4
    obtain rfl := Option.some.inj H
    go_enter Try.func39, Try.ntmps39
    go_wp2
    go_ret
    exact ⟨by first | rfl | (simp [errW_none, errW_some] <;> rfl) | (simp [*, errW_none, errW_some] <;> rfl), by repeat (first | (with_reducible first | exact HB.out | apply below_alloc | apply pw_below_drewN | apply below_drew1) | exact HB.out)⟩
  · rw [if_neg c4] at H
    have c4b0 : (a0 == 8) = false := beq_eq_false_iff_ne.mpr c4
    have c4b1 : (a0 != 8) = true := bne_iff_ne.mpr c4
    by_cases c5 : a0 = 9
    · rw [if_pos c5] at H
      have c5b0 : (a0 == 9) = true := beq_iff_eq.mpr c5
      have c5b1 : (a0 != 9) = false := bne_eq_false_iff_eq.mpr c5
      clear c5
      obtain rfl := Option.some.inj H
      go_enter Try.func39, Try.ntmps39
      go_wp2
      go_ret
      exact ⟨by first | rfl | (simp [errW_none, errW_some] <;> rfl) | (simp [*, errW_none, errW_some] <;> rfl), by repeat (first | (with_reducible first | exact HB.out | apply below_alloc | apply pw_below_drewN | apply below_drew1) | exact HB.out)⟩
    · rw [if_neg c5] at H
      have c5b0 : (a0 == 9) = false := beq_eq_false_iff_ne.mpr c5
      have c5b1 : (a0 != 9) = true := bne_iff_ne.mpr c5
      by_cases c6 : a0 = 10
      · rw [if_pos c6] at H
        have c6b0 : (a0 == 10) = true := beq_iff_eq.mpr c6
        have c6b1 : (a0 != 10) = false := bne_eq_false_iff_eq.mpr c6
        clear c6
        obtain rfl := Option.some.inj H
        go_enter Try.func39, Try.ntmps39
        go_wp2
        go_ret
        exact ⟨by first | rfl | (simp [errW_none, errW_some] <;> rfl) | (simp [*, errW_none, errW_some] <;> rfl), by repeat (first | (with_reducible first | exact HB.out | apply below_alloc | apply pw_below_drewN | apply below_drew1) | exact HB.out)⟩
      · rw [if_neg c6] at H
        have c6b0 : (a0 == 10) = false := beq_eq_false_iff_ne.mpr c6
        have c6b1 : (a0 != 10) = true := bne_iff_ne.mpr c6
        by_cases c7 : a0 = 11
        · rw [if_pos c7] at H
          have c7b0 : (a0 == 11) = true := beq_iff_eq.mpr c7
          have c7b1 : (a0 != 11) = false := bne_eq_false_iff_eq.mpr c7
          clear c7
          replace H := Option.bind_eq_some_iff.mp H
          obtain ⟨t150, A80, H⟩ := H
          replace H : (some t150) = some r := H
          have A8 := Aside0.mk A80
          clear A80
          obtain rfl := Option.some.inj H
          go_enter Try.func39, Try.ntmps39
          go_wp2_with (first | ((with_reducible refine gate_callee (f := 71) rfl ?_); refine goesL_ (some 27) rfl rfl Try.func71 (by kernel_rfl) rfl #[.int .i64 a1, .int .i64 a2] rfl (by (try simp only [List.map_toArray, List.map_cons, List.map_nil]); first | done | rfl | (simp only [List.length_drop, List.length_take]; rfl)) ?_; (with_reducible refine (carillonref01_Div.calls a1 a2 t150 _ A8.out).mono ?_); rintro e w9 ⟨rfl, hb⟩; refine ⟨_, rfl, ?_⟩; have n0_ := Aside0.mk (below_step (by repeat (first | (with_reducible first | exact HB.out | apply below_alloc | apply pw_below_drewN | apply below_drew1) | exact HB.out)) hb); clear HB; have HB := n0_; clear n0_; (try clear hb); (try clear hb2); (try clear hk); (try clear hi)))
          go_ret
          exact ⟨by first | rfl | (simp [errW_none, errW_some] <;> rfl) | (simp [*, errW_none, errW_some] <;> rfl), by repeat (first | (with_reducible first | exact HB.out | apply below_alloc | apply pw_below_drewN | apply below_drew1) | exact HB.out)⟩
        · rw [if_neg c7] at H
          have c7b0 : (a0 == 11) = false := beq_eq_false_iff_ne.mpr c7
          have c7b1 : (a0 != 11) = true := bne_iff_ne.mpr c7
          by_cases c10 : a0 = 12
          · rw [if_pos c10] at H
            have c10b0 : (a0 == 12) = true := beq_iff_eq.mpr c10
            have c10b1 : (a0 != 12) = false := bne_eq_false_iff_eq.mpr c10
            clear c10
            replace H := Option.bind_eq_some_iff.mp H
            obtain ⟨t151, A110, H⟩ := H
            replace H : (some t151) = some r := H
            have A11 := Aside0.mk A110
            clear A110
            obtain rfl := Option.some.inj H
            go_enter Try.func39, Try.ntmps39
            go_wp2_with (first | ((with_reducible refine gate_callee (f := 72) rfl ?_); refine goesL_ (some 32) rfl rfl Try.func72 (by kernel_rfl) rfl #[.int .i64 a1, .int .i64 a2] rfl (by (try simp only [List.map_toArray, List.map_cons, List.map_nil]); first | done | rfl | (simp only [List.length_drop, List.length_take]; rfl)) ?_; (with_reducible refine (carillonref01_Mod.calls a1 a2 t151 _ A11.out).mono ?_); rintro e w12 ⟨rfl, hb⟩; refine ⟨_, rfl, ?_⟩; have n0_ := Aside0.mk (below_step (by repeat (first | (with_reducible first | exact HB.out | apply below_alloc | apply pw_below_drewN | apply below_drew1) | exact HB.out)) hb); clear HB; have HB := n0_; clear n0_; (try clear hb); (try clear hb2); (try clear hk); (try clear hi)))
            go_ret
            exact ⟨by first | rfl | (simp [errW_none, errW_some] <;> rfl) | (simp [*, errW_none, errW_some] <;> rfl), by repeat (first | (with_reducible first | exact HB.out | apply below_alloc | apply pw_below_drewN | apply below_drew1) | exact HB.out)⟩
          · rw [if_neg c10] at H
            have c10b0 : (a0 == 12) = false := beq_eq_false_iff_ne.mpr c10
            have c10b1 : (a0 != 12) = true := bne_iff_ne.mpr c10
            by_cases c13 : a0 = 13
            · rw [if_pos c13] at H
              have c13b0 : (a0 == 13) = true := beq_iff_eq.mpr c13
              have c13b1 : (a0 != 13) = false := bne_eq_false_iff_eq.mpr c13
              clear c13
              replace H := Option.bind_eq_some_iff.mp H
              obtain ⟨t152, A140, H⟩ := H
              replace H : (some t152) = some r := H
              have A14 := Aside0.mk A140
              clear A140
              obtain rfl := Option.some.inj H
              go_enter Try.func39, Try.ntmps39
              go_wp2_with (first | ((with_reducible refine gate_callee (f := 70) rfl ?_); refine goesL_ (some 38) rfl rfl Try.func70 (by kernel_rfl) rfl #[.bool (a1 == a2)] rfl (by (try simp only [List.map_toArray, List.map_cons, List.map_nil]); first | done | rfl | (simp only [List.length_drop, List.length_take]; rfl)) ?_; (with_reducible refine (carillonref22_truth.calls (a1 == a2) t152 _ A14.out).mono ?_); rintro e w' ⟨rfl, ⟨nd, rfl⟩⟩; refine ⟨_, rfl, ?_⟩))
              go_ret
              exact ⟨by first | rfl | (simp [errW_none, errW_some] <;> rfl) | (simp [*, errW_none, errW_some] <;> rfl), by repeat (first | (with_reducible first | exact HB.out | apply below_alloc | apply pw_below_drewN | apply below_drew1) | exact HB.out)⟩
            · rw [if_neg c13] at H
              have c13b0 : (a0 == 13) = false := beq_eq_false_iff_ne.mpr c13
              have c13b1 : (a0 != 13) = true := bne_iff_ne.mpr c13
              by_cases c15 : a0 = 14
              · rw [if_pos c15] at H
                have c15b0 : (a0 == 14) = true := beq_iff_eq.mpr c15
                have c15b1 : (a0 != 14) = false := bne_eq_false_iff_eq.mpr c15
                clear c15
                replace H := Option.bind_eq_some_iff.mp H
                obtain ⟨t153, A160, H⟩ := H
                replace H : (some t153) = some r := H
                have A16 := Aside0.mk A160
                clear A160
                obtain rfl := Option.some.inj H
                go_enter Try.func39, Try.ntmps39
                go_wp2_with (first | ((with_reducible refine gate_callee (f := 70) rfl ?_); refine goesL_ (some 44) rfl rfl Try.func70 (by kernel_rfl) rfl #[.bool (a1 != a2)] rfl (by (try simp only [List.map_toArray, List.map_cons, List.map_nil]); first | done | rfl | (simp only [List.length_drop, List.length_take]; rfl)) ?_; (with_reducible refine (carillonref22_truth.calls (a1 != a2) t153 _ A16.out).mono ?_); rintro e w' ⟨rfl, ⟨nd, rfl⟩⟩; refine ⟨_, rfl, ?_⟩))
                go_ret
                exact ⟨by first | rfl | (simp [errW_none, errW_some] <;> rfl) | (simp [*, errW_none, errW_some] <;> rfl), by repeat (first | (with_reducible first | exact HB.out | apply below_alloc | apply pw_below_drewN | apply below_drew1) | exact HB.out)⟩
              · rw [if_neg c15] at H
                have c15b0 : (a0 == 14) = false := beq_eq_false_iff_ne.mpr c15
                have c15b1 : (a0 != 14) = true := bne_iff_ne.mpr c15
                by_cases c17 : a0 = 15
                · rw [if_pos c17] at H
                  have c17b0 : (a0 == 15) = true := beq_iff_eq.mpr c17
                  have c17b1 : (a0 != 15) = false := bne_eq_false_iff_eq.mpr c17
                  clear c17
                  replace H := Option.bind_eq_some_iff.mp H
                  obtain ⟨t154, A180, H⟩ := H
                  replace H : (some t154) = some r := H
                  have A18 := Aside0.mk A180
                  clear A180
                  obtain rfl := Option.some.inj H
                  go_enter Try.func39, Try.ntmps39
                  go_wp2_with (first | ((with_reducible refine gate_callee (f := 70) rfl ?_); refine goesL_ (some 50) rfl rfl Try.func70 (by kernel_rfl) rfl #[.bool (decide (a1 < a2))] rfl (by (try simp only [List.map_toArray, List.map_cons, List.map_nil]); first | done | rfl | (simp only [List.length_drop, List.length_take]; rfl)) ?_; (with_reducible refine (carillonref22_truth.calls (decide (a1 < a2)) t154 _ A18.out).mono ?_); rintro e w' ⟨rfl, ⟨nd, rfl⟩⟩; refine ⟨_, rfl, ?_⟩))
                  go_ret
                  exact ⟨by first | rfl | (simp [errW_none, errW_some] <;> rfl) | (simp [*, errW_none, errW_some] <;> rfl), by repeat (first | (with_reducible first | exact HB.out | apply below_alloc | apply pw_below_drewN | apply below_drew1) | exact HB.out)⟩
                · rw [if_neg c17] at H
                  have c17b0 : (a0 == 15) = false := beq_eq_false_iff_ne.mpr c17
                  have c17b1 : (a0 != 15) = true := bne_iff_ne.mpr c17
                  by_cases c19 : a0 = 16
                  · rw [if_pos c19] at H
                    have c19b0 : (a0 == 16) = true := beq_iff_eq.mpr c19
                    have c19b1 : (a0 != 16) = false := bne_eq_false_iff_eq.mpr c19
                    clear c19
                    replace H := Option.bind_eq_some_iff.mp H
                    obtain ⟨t155, A200, H⟩ := H
                    replace H : (some t155) = some r := H
                    have A20 := Aside0.mk A200
                    clear A200
                    obtain rfl := Option.some.inj H
                    go_enter Try.func39, Try.ntmps39
                    go_wp2_with (first | ((with_reducible refine gate_callee (f := 70) rfl ?_); refine goesL_ (some 56) rfl rfl Try.func70 (by kernel_rfl) rfl #[.bool (decide (a1 ≤ a2))] rfl (by (try simp only [List.map_toArray, List.map_cons, List.map_nil]); first | done | rfl | (simp only [List.length_drop, List.length_take]; rfl)) ?_; (with_reducible refine (carillonref22_truth.calls (decide (a1 ≤ a2)) t155 _ A20.out).mono ?_); rintro e w' ⟨rfl, ⟨nd, rfl⟩⟩; refine ⟨_, rfl, ?_⟩))
                    go_ret
                    exact ⟨by first | rfl | (simp [errW_none, errW_some] <;> rfl) | (simp [*, errW_none, errW_some] <;> rfl), by repeat (first | (with_reducible first | exact HB.out | apply below_alloc | apply pw_below_drewN | apply below_drew1) | exact HB.out)⟩
                  · rw [if_neg c19] at H
                    have c19b0 : (a0 == 16) = false := beq_eq_false_iff_ne.mpr c19
                    have c19b1 : (a0 != 16) = true := bne_iff_ne.mpr c19
                    by_cases c21 : a0 = 17
                    · rw [if_pos c21] at H
                      have c21b0 : (a0 == 17) = true := beq_iff_eq.mpr c21
                      have c21b1 : (a0 != 17) = false := bne_eq_false_iff_eq.mpr c21
                      clear c21
                      replace H := Option.bind_eq_some_iff.mp H
                      obtain ⟨t156, A220, H⟩ := H
                      replace H : (some t156) = some r := H
                      have A22 := Aside0.mk A220
                      clear A220
                      obtain rfl := Option.some.inj H
                      go_enter Try.func39, Try.ntmps39
                      go_wp2_with (first | ((with_reducible refine gate_callee (f := 70) rfl ?_); refine goesL_ (some 62) rfl rfl Try.func70 (by kernel_rfl) rfl #[.bool (decide (a1 > a2))] rfl (by (try simp only [List.map_toArray, List.map_cons, List.map_nil]); first | done | rfl | (simp only [List.length_drop, List.length_take]; rfl)) ?_; (with_reducible refine (carillonref22_truth.calls (decide (a1 > a2)) t156 _ A22.out).mono ?_); rintro e w' ⟨rfl, ⟨nd, rfl⟩⟩; refine ⟨_, rfl, ?_⟩))
                      go_ret
                      exact ⟨by first | rfl | (simp [errW_none, errW_some] <;> rfl) | (simp [*, errW_none, errW_some] <;> rfl), by repeat (first | (with_reducible first | exact HB.out | apply below_alloc | apply pw_below_drewN | apply below_drew1) | exact HB.out)⟩
                    · rw [if_neg c21] at H
                      have c21b0 : (a0 == 17) = false := beq_eq_false_iff_ne.mpr c21
                      have c21b1 : (a0 != 17) = true := bne_iff_ne.mpr c21
                      by_cases c23 : a0 = 18
                      · rw [if_pos c23] at H
                        have c23b0 : (a0 == 18) = true := beq_iff_eq.mpr c23
                        have c23b1 : (a0 != 18) = false := bne_eq_false_iff_eq.mpr c23
                        clear c23
                        replace H := Option.bind_eq_some_iff.mp H
                        obtain ⟨t157, A240, H⟩ := H
                        replace H : (some t157) = some r := H
                        have A24 := Aside0.mk A240
                        clear A240
                        obtain rfl := Option.some.inj H
                        go_enter Try.func39, Try.ntmps39
                        go_wp2_with (first | ((with_reducible refine gate_callee (f := 70) rfl ?_); refine goesL_ (some 68) rfl rfl Try.func70 (by kernel_rfl) rfl #[.bool (decide (a1 ≥ a2))] rfl (by (try simp only [List.map_toArray, List.map_cons, List.map_nil]); first | done | rfl | (simp only [List.length_drop, List.length_take]; rfl)) ?_; (with_reducible refine (carillonref22_truth.calls (decide (a1 ≥ a2)) t157 _ A24.out).mono ?_); rintro e w' ⟨rfl, ⟨nd, rfl⟩⟩; refine ⟨_, rfl, ?_⟩))
                        go_ret
                        exact ⟨by first | rfl | (simp [errW_none, errW_some] <;> rfl) | (simp [*, errW_none, errW_some] <;> rfl), by repeat (first | (with_reducible first | exact HB.out | apply below_alloc | apply pw_below_drewN | apply below_drew1) | exact HB.out)⟩
                      · rw [if_neg c23] at H
                        have c23b0 : (a0 == 18) = false := beq_eq_false_iff_ne.mpr c23
                        have c23b1 : (a0 != 18) = true := bne_iff_ne.mpr c23
                        by_cases c25 : a0 = 19
                        · rw [if_pos c25] at H
                          have c25b0 : (a0 == 19) = true := beq_iff_eq.mpr c25
                          have c25b1 : (a0 != 19) = false := bne_eq_false_iff_eq.mpr c25
                          clear c25
                          by_cases c26 : a1 = 0
                          · rw [if_pos c26] at H
                            have c26b0 : (a1 == 0) = true := beq_iff_eq.mpr c26
                            have c26b1 : (a1 != 0) = false := bne_eq_false_iff_eq.mpr c26
                            clear c26
                            replace H := Option.bind_eq_some_iff.mp H
                            obtain ⟨t158, A270, H⟩ := H
                            replace H : (some t158) = some r := H
                            have A27 := Aside0.mk A270
                            clear A270
                            obtain rfl := Option.some.inj H
                            go_enter Try.func39, Try.ntmps39
                            go_wp2_with (first | ((with_reducible refine gate_callee (f := 70) rfl ?_); refine goesL_ (some 77) rfl rfl Try.func70 (by kernel_rfl) rfl #[.bool false] rfl (by (try simp only [List.map_toArray, List.map_cons, List.map_nil]); first | done | rfl | (simp only [List.length_drop, List.length_take]; rfl)) ?_; (with_reducible refine (carillonref22_truth.calls false t158 _ A27.out).mono ?_); rintro e w' ⟨rfl, ⟨nd, rfl⟩⟩; refine ⟨_, rfl, ?_⟩))
                            go_ret
                            exact ⟨by first | rfl | (simp [errW_none, errW_some] <;> rfl) | (simp [*, errW_none, errW_some] <;> rfl), by repeat (first | (with_reducible first | exact HB.out | apply below_alloc | apply pw_below_drewN | apply below_drew1) | exact HB.out)⟩
                          · rw [if_neg c26] at H
                            have c26b0 : (a1 == 0) = false := beq_eq_false_iff_ne.mpr c26
                            have c26b1 : (a1 != 0) = true := bne_iff_ne.mpr c26
                            replace H := Option.bind_eq_some_iff.mp H
                            obtain ⟨t159, A280, H⟩ := H
                            replace H : (some t159) = some r := H
                            have A28 := Aside0.mk A280
                            clear A280
                            obtain rfl := Option.some.inj H
                            go_enter Try.func39, Try.ntmps39
                            go_wp2_with (first | ((with_reducible refine gate_callee (f := 70) rfl ?_); refine goesL_ (some 77) rfl rfl Try.func70 (by kernel_rfl) rfl #[.bool (a2 != 0)] rfl (by (try simp only [List.map_toArray, List.map_cons, List.map_nil]); first | done | rfl | (simp only [List.length_drop, List.length_take]; rfl)) ?_; (with_reducible refine (carillonref22_truth.calls (a2 != 0) t159 _ A28.out).mono ?_); rintro e w' ⟨rfl, ⟨nd, rfl⟩⟩; refine ⟨_, rfl, ?_⟩))
                            go_ret
                            exact ⟨by first | rfl | (simp [errW_none, errW_some] <;> rfl) | (simp [*, errW_none, errW_some] <;> rfl), by repeat (first | (with_reducible first | exact HB.out | apply below_alloc | apply pw_below_drewN | apply below_drew1) | exact HB.out)⟩
                        · rw [if_neg c25] at H
                          have c25b0 : (a0 == 19) = false := beq_eq_false_iff_ne.mpr c25
                          have c25b1 : (a0 != 19) = true := bne_iff_ne.mpr c25
                          by_cases c29 : a1 = 0
                          · rw [if_pos c29] at H
                            have c29b0 : (a1 == 0) = true := beq_iff_eq.mpr c29
                            have c29b1 : (a1 != 0) = false := bne_eq_false_iff_eq.mpr c29
                            clear c29
                            replace H := Option.bind_eq_some_iff.mp H
                            obtain ⟨t160, A300, H⟩ := H
                            replace H : (some t160) = some r := H
                            have A30 := Aside0.mk A300
                            clear A300
                            obtain rfl := Option.some.inj H
                            go_enter Try.func39, Try.ntmps39
                            go_wp2_with (first | ((with_reducible refine gate_callee (f := 70) rfl ?_); refine goesL_ (some 84) rfl rfl Try.func70 (by kernel_rfl) rfl #[.bool (a2 != 0)] rfl (by (try simp only [List.map_toArray, List.map_cons, List.map_nil]); first | done | rfl | (simp only [List.length_drop, List.length_take]; rfl)) ?_; (with_reducible refine (carillonref22_truth.calls (a2 != 0) t160 _ A30.out).mono ?_); rintro e w' ⟨rfl, ⟨nd, rfl⟩⟩; refine ⟨_, rfl, ?_⟩))
                            go_ret
                            exact ⟨by first | rfl | (simp [errW_none, errW_some] <;> rfl) | (simp [*, errW_none, errW_some] <;> rfl), by repeat (first | (with_reducible first | exact HB.out | apply below_alloc | apply pw_below_drewN | apply below_drew1) | exact HB.out)⟩
                          · rw [if_neg c29] at H
                            have c29b0 : (a1 == 0) = false := beq_eq_false_iff_ne.mpr c29
                            have c29b1 : (a1 != 0) = true := bne_iff_ne.mpr c29
                            replace H := Option.bind_eq_some_iff.mp H
                            obtain ⟨t161, A310, H⟩ := H
                            replace H : (some t161) = some r := H
                            have A31 := Aside0.mk A310
                            clear A310
                            obtain rfl := Option.some.inj H
                            go_enter Try.func39, Try.ntmps39
                            go_wp2_with (first | ((with_reducible refine gate_callee (f := 70) rfl ?_); refine goesL_ (some 84) rfl rfl Try.func70 (by kernel_rfl) rfl #[.bool true] rfl (by (try simp only [List.map_toArray, List.map_cons, List.map_nil]); first | done | rfl | (simp only [List.length_drop, List.length_take]; rfl)) ?_; (with_reducible refine (carillonref22_truth.calls true t161 _ A31.out).mono ?_); rintro e w' ⟨rfl, ⟨nd, rfl⟩⟩; refine ⟨_, rfl, ?_⟩))
                            go_ret
                            exact ⟨by first | rfl | (simp [errW_none, errW_some] <;> rfl) | (simp [*, errW_none, errW_some] <;> rfl), by repeat (first | (with_reducible first | exact HB.out | apply below_alloc | apply pw_below_drewN | apply below_drew1) | exact HB.out)⟩
end Go.Proofs.Ytlmpoojpbdmmfaa.H
end
section
set_option linter.unusedVariables false
set_option linter.unusedSimpArgs false
namespace Go.Proofs.Ytlmpoojpbdmmfaa.H
open Go.RowKit Go.Proofs.YtlmpoojpbdmmfaaW.PrintWords Go.Proofs.YtlmpoojpbdmmfaaW.PrintLast Go.Proofs.YtlmpoojpbdmmfaaW.PrintMore Go.Maps
def Rng (x : Ctx) : Prop := (∀ v ∈ x.stack, is64 v) ∧ (∀ v ∈ x.slots, is64 v) ∧ (∀ v ∈ x.ins, is64 v) ∧ (∀ v ∈ x.outs, is64 v)
theorem is64_wrap (x : Int) : is64 (wrap64 x) := by unfold is64 wrap64; omega
theorem is64_tr (p : Bool) : is64 (tr p) := by unfold is64 tr; split <;> omega
theorem is64_zero : is64 0 := by unfold is64; omega
theorem is64_getD {xs : List Int} (h : ∀ v ∈ xs, is64 v) (k : Nat) : is64 (xs.getD k 0) := by
  rw [List.getD_eq_getElem?_getD]
  cases e : xs[k]? with
  | none => exact is64_zero
  | some v => exact h v (List.mem_of_getElem? e)
theorem tmod_range {d t : Int} (hd : is64 d) (ht : t ≠ 0) : is64 (d.tmod t) := by
  rw [natAbs_mod]
  unfold is64 at hd ⊢
  have h1 : d.natAbs % t.natAbs ≤ d.natAbs := Nat.mod_le _ _
  have h2 : t.natAbs ≠ 0 := by omega
  have h3 := Nat.mod_lt d.natAbs (Nat.pos_of_ne_zero h2)
  split <;> omega
theorem is64_pr {op d t : Int} (hd : is64 d) (ht : is64 t) : is64 (pr op d t) := by
  unfold pr
  by_cases h1 : op = 8
  · rw [if_pos h1]; exact is64_wrap _
  rw [if_neg h1]
  by_cases h2 : op = 9
  · rw [if_pos h2]; exact is64_wrap _
  rw [if_neg h2]
  by_cases h3 : op = 10
  · rw [if_pos h3]; exact is64_wrap _
  rw [if_neg h3]
  by_cases h4 : op = 11
  · rw [if_pos h4]
    by_cases h0 : t = 0
    · subst h0; simp [divv, is64]
    · rw [divv_eq hd h0]; exact is64_wrap _
  rw [if_neg h4]
  by_cases h5 : op = 12
  · rw [if_pos h5]
    by_cases h0 : t = 0
    · subst h0; simp [modv, is64]
    · rw [modv_eq h0]; exact tmod_range hd h0
  rw [if_neg h5]
  repeat' split
  all_goals exact is64_tr _
theorem two_val {op d t : Int} (h0 : 8 ≤ op) (h1 : op ≤ 20) (hd : is64 d) (ht : is64 t) : carillonref22_two.f op d t = some (pr op d t) := by
  have tv : ∀ p : Bool, carillonref22_truth.f p = some (tr p) := fun p => by cases p <;> rfl
  unfold carillonref22_two.f pr
  have hdv : carillonref01_Div.f d t = some (divv d t) := by unfold carillonref01_Div.f; rw [if_pos ⟨hd, ht⟩]
  have hmv : carillonref01_Mod.f d t = some (modv d t) := by unfold carillonref01_Mod.f; rw [if_pos ⟨hd, ht⟩]
  have h : op = 8 ∨ op = 9 ∨ op = 10 ∨ op = 11 ∨ op = 12 ∨ op = 13 ∨ op = 14 ∨ op = 15 ∨ op = 16 ∨ op = 17 ∨ op = 18 ∨ op = 19 ∨ op = 20 := by omega
  rcases h with rfl | rfl | rfl | rfl | rfl | rfl | rfl | rfl | rfl | rfl | rfl | rfl | rfl
  · simp
  · simp
  · simp
  · simp [hdv]
  · simp [hmv]
  · simp only [tv]
    by_cases e : d = t
    · simp [e]
    · have : (d == t) = false := by simpa using e
      simp [this, e]
  · simp only [tv]
    by_cases e : d = t
    · simp [e]
    · have : (d != t) = true := by simpa using e
      simp [this, e]
  · simp only [tv]; simp
  · simp only [tv]; simp
  · simp only [tv]; simp
  · simp only [tv]; simp
  · simp only [tv]
    by_cases e2 : t = 0
    · by_cases e : d = 0 <;> simp [e, e2]
    · have : (t != 0) = true := by simpa using e2
      by_cases e : d = 0 <;> simp [e, e2, this]
  · simp only [tv]
    by_cases e2 : t = 0
    · by_cases e : d = 0 <;> simp [e, e2]
    · have : (t != 0) = true := by simpa using e2
      by_cases e : d = 0 <;> simp [e, e2, this]
theorem rone_val6 (t : Int) : carillonref22_one.f 6 t = some (wrap64 (-t)) := by simp [carillonref22_one.f]
theorem rone_val7 (t : Int) : carillonref22_one.f 7 t = some (tr (t == 0)) := by
  have tv : ∀ p : Bool, carillonref22_truth.f p = some (tr p) := fun p => by cases p <;> rfl
  simp [carillonref22_one.f, tv]
def rmA (c : Cf) (x : Ctx) (cv sv tv iv ov : Value) : Array Value :=
  #[cv, .int .i64 c.slots, .int .i64 c.reads, .int .i64 c.writes, .int .i64 c.stack, .int .i64 (x.at_ : Int), sv, tv, iv, ov, .int .i64 x.spent, .bool x.ended]
structure RA (W : World) (P : Nat → Prop) (b : Nat) (c : Cf) (x : Ctx) (cv sv tv iv ov : Value) : Prop where
  vb : W.heap[b]? = some (.cells (rmA c x cv sv tv iv ov) 42 (0, 0))
  st : IR W sv x.stack
  sl : IR W tv x.slots
  inn : IR W iv x.ins
  ou : IR W ov x.outs
  d1 : ∀ k, sv.ownBlock = some k → tv.ownBlock ≠ some k ∧ iv.ownBlock ≠ some k ∧ ov.ownBlock ≠ some k
  d2 : ∀ k, tv.ownBlock = some k → iv.ownBlock ≠ some k ∧ ov.ownBlock ≠ some k
  d3 : ∀ k, iv.ownBlock = some k → ov.ownBlock ≠ some k
  zb : P b
  zs : ∀ k, (sv.ownBlock = some k ∨ tv.ownBlock = some k ∨ iv.ownBlock = some k ∨ ov.ownBlock = some k) → P k
section
variable {W W1 : World} {P P' : Nat → Prop} {b : Nat} {c : Cf} {x : Ctx} {cv sv tv iv ov : Value}
theorem RA.mono (h : RA W P b c x cv sv tv iv ov) (hp : ∀ k, P k → P' k) : RA W P' b c x cv sv tv iv ov :=
  ⟨h.vb, h.st, h.sl, h.inn, h.ou, h.d1, h.d2, h.d3, hp _ h.zb, fun k hk => hp k (h.zs k hk)⟩
theorem RA.move (h : RA W P b c x cv sv tv iv ov) (hm : ∀ k, P k → k < W.heap.size → W1.heap[k]? = W.heap[k]?) : RA W1 P b c x cv sv tv iv ov :=
  ⟨(hm b h.zb (Array.getElem?_eq_some_iff.1 h.vb).1).trans h.vb,
    h.st.move (fun k hk => hm k (h.zs k (.inl hk)) (h.st.lt hk)), h.sl.move (fun k hk => hm k (h.zs k (.inr (.inl hk))) (h.sl.lt hk)), h.inn.move (fun k hk => hm k (h.zs k (.inr (.inr (.inl hk)))) (h.inn.lt hk)), h.ou.move (fun k hk => hm k (h.zs k (.inr (.inr (.inr hk)))) (h.ou.lt hk)),
    h.d1, h.d2, h.d3, h.zb, h.zs⟩
theorem RA.below (h : RA W P b c x cv sv tv iv ov) (hb : Below W.heap.size W W1) : RA W1 P b c x cv sv tv iv ov := h.move (fun k _ hk => hb.block k hk)
theorem RA.cell (h : RA W P b c x cv sv tv iv ov) {j : Nat} {v : Value} (hv : (rmA c x cv sv tv iv ov)[j]? = some v) : W.cell? ⟨b, j, none⟩ = some v := by simp [World.cell?, h.vb, hv]
theorem RA.froz (h : RA W P b c x cv sv tv iv ov) (j : Nat) : W.frozen? ⟨b, j, none⟩ = false := by simp [World.frozen?, h.vb]
theorem RA.ne (h : RA W P b c x cv sv tv iv ov) {v : Value} {xs : List Int} (hv : IR W v xs) : v.ownBlock ≠ some b := fun e => by
  obtain ⟨cs, hc⟩ := hv.typed e
  rw [h.vb] at hc
  simp at hc
theorem RA.put (h : RA W P b c x cv sv tv iv ov) {x' : Ctx} {j : Nat} {u : Value} (hst : x'.stack = x.stack) (hsl : x'.slots = x.slots) (hin : x'.ins = x.ins) (hou : x'.outs = x.outs)
    (he : (rmA c x cv sv tv iv ov).setIfInBounds j u = rmA c x' cv sv tv iv ov) : RA (W.setCell ⟨b, j, none⟩ u) P b c x' cv sv tv iv ov := by
  have hne : ∀ {v : Value} {xs : List Int}, IR W v xs → IR (W.setCell ⟨b, j, none⟩ u) v xs := fun hv => hv.move (fun k hk => Below.heap_setCell W ⟨b, j, none⟩ u k (fun e => h.ne hv (by rw [hk, e])))
  refine ⟨by simp [World.setCell, Array.getElem?_modify, h.vb, he], by rw [hst]; exact hne h.st, by rw [hsl]; exact hne h.sl, by rw [hin]; exact hne h.inn, by rw [hou]; exact hne h.ou, h.d1, h.d2, h.d3, h.zb, h.zs⟩
theorem RA.newst (h : RA W P b c x cv sv tv iv ov) {xs : List Int} {rv : Value} (hr : IR W rv xs) (hd : ∀ k, rv.ownBlock = some k → tv.ownBlock ≠ some k ∧ iv.ownBlock ≠ some k ∧ ov.ownBlock ≠ some k) (hz : ∀ k, rv.ownBlock = some k → P k) :
    RA (W.setCell ⟨b, 6, none⟩ rv) P b c { x with stack := xs } cv rv tv iv ov := by
  have hne : ∀ {v : Value} {xs : List Int}, IR W v xs → IR (W.setCell ⟨b, 6, none⟩ rv) v xs := fun hv => hv.move (fun k hk => Below.heap_setCell W ⟨b, 6, none⟩ rv k (fun e => h.ne hv (by rw [hk, e])))
  refine ⟨by simp [World.setCell, Array.getElem?_modify, h.vb, rmA], hne hr, hne h.sl, hne h.inn, hne h.ou, hd, h.d2, h.d3, h.zb, fun k hk => ?_⟩
  rcases hk with hk | hk
  · exact hz k hk
  · exact h.zs k (.inr hk)
theorem RA.setSl (h : RA W P b c x cv sv tv iv ov) {g i : Nat} (hg : tv.ownBlock = some g) (hi : i < x.slots.length) (y : Int) : RA (W.setCell ⟨g, i, none⟩ (.int .i64 y)) P b c { x with slots := x.slots.set i y } cv sv tv iv ov := by
  refine ⟨(Below.heap_setCell W ⟨g, i, none⟩ _ b (fun e => h.ne h.sl (by rw [hg]; exact congrArg some e.symm))).trans h.vb, IR.other h.st hg (fun k hk e => (h.d1 k e).1 hk), h.sl.set hg hi y, IR.other h.inn hg (fun k hk => (h.d2 k hk).1), IR.other h.ou hg (fun k hk => (h.d2 k hk).2), h.d1, h.d2, h.d3, h.zb, h.zs⟩
theorem RA.setOu (h : RA W P b c x cv sv tv iv ov) {g i : Nat} (hg : ov.ownBlock = some g) (hi : i < x.outs.length) (y : Int) : RA (W.setCell ⟨g, i, none⟩ (.int .i64 y)) P b c { x with outs := x.outs.set i y } cv sv tv iv ov := by
  refine ⟨(Below.heap_setCell W ⟨g, i, none⟩ _ b (fun e => h.ne h.ou (by rw [hg]; exact congrArg some e.symm))).trans h.vb, IR.other h.st hg (fun k hk e => (h.d1 k e).2.2 hk), IR.other h.sl hg (fun k hk e => (h.d2 k e).2 hk), IR.other h.inn hg (fun k hk e => h.d3 k e hk), h.ou.set hg hi y, h.d1, h.d2, h.d3, h.zb, h.zs⟩
end
def RMem (W : World) (P : Nat → Prop) (b : Nat) (c : Cf) (x : Ctx) (cv : Value) : Prop := ∃ sv tv iv ov, RA W P b c x cv sv tv iv ov
theorem RMem.other {W W1 : World} {P Pv : Nat → Prop} {b : Nat} {c : Cf} {x : Ctx} {cv : Value} (h : RMem W P b c x cv) (hk : Kept2 W W1 Pv) (hd : ∀ k, P k → k < W.heap.size → ¬ Pv k) : RMem W1 P b c x cv := by
  obtain ⟨sv, tv, iv, ov, h⟩ := h
  exact ⟨sv, tv, iv, ov, h.move (fun k hP hlt => hk.block k hlt (hd k hP hlt))⟩
theorem RMem.below {W W1 : World} {P : Nat → Prop} {b : Nat} {c : Cf} {x : Ctx} {cv : Value} (h : RMem W P b c x cv) (hb : Below W.heap.size W W1) : RMem W1 P b c x cv := by
  obtain ⟨sv, tv, iv, ov, h⟩ := h
  exact ⟨sv, tv, iv, ov, h.below hb⟩
theorem IR.takeN {W : World} {A : Option Addr} {n cap : Nat} {xs : List Int} (h : IR W (.slice A n cap) xs) {k : Nat} (hk : k ≤ xs.length) : IR W (.slice A k cap) (xs.take k) := by
  have hl : (xs.take k).length = k := by simp; omega
  rcases h.2 with ⟨he, h0⟩ | ⟨g, cap', cur, he, h0, hg, hnc, hcm, hcs, ht⟩
  · simp only [Value.slice.injEq] at he
    obtain ⟨rfl, _, rfl⟩ := he
    have : k = 0 := by omega
    subst this
    exact IR.nil W
  · simp only [Value.slice.injEq] at he
    obtain ⟨rfl, rfl, rfl⟩ := he
    refine ⟨by rw [ints_length, hl]; omega, .inr ⟨g, cap, cur, by rw [hl], h0, hg, by omega, hcm, hcs, ?_⟩⟩
    rw [hl]
    have e : ints (xs.take k) = (ints xs).take k := by simp [ints, List.map_take]
    rw [e, ← ht, List.take_take]
    congr 1
    omega
end Go.Proofs.Ytlmpoojpbdmmfaa.H
end
