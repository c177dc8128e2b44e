/- Part 23 of the proof of the law L. The conditions: none. (Its parts: Quo22.) -/
import Derived.StillTailTactics
import Derived.Test.YtlmpoojpbdmmfaaKL06
import Derived.Test.YtlmpoojpbdmmfaaKL22
section
set_option linter.unusedVariables false
set_option linter.unusedSimpArgs false
namespace Go.Proofs.Ytlmpoojpbdmmfaa.H
open Go.RowKit Go.Proofs.YtlmpoojpbdmmfaaW.PrintWords Go.Proofs.YtlmpoojpbdmmfaaW.PrintLast Go.Proofs.YtlmpoojpbdmmfaaW.PrintMore
def dg (A w : Nat) : Int := ((A / 2 ^ (32 * w) % 4294967296 : Nat) : Int)
def qd (Q w k : Nat) : Int := ((Q / 2 ^ (32 * w) % 4294967296 / 2 ^ (min (k - 32 * w) 32) * 2 ^ (min (k - 32 * w) 32) : Nat) : Int)
theorem dg_range (A w : Nat) : 0 ≤ dg A w ∧ dg A w < 4294967296 := by unfold dg; omega
theorem bit_mod (x s : Nat) (h : s < 32) : x % 4294967296 / 2 ^ s % 2 = x / 2 ^ s % 2 := by
  have h1 := Nat.testBit_mod_two_pow x 32 s
  rw [Nat.testBit_eq_decide_div_mod_eq, Nat.testBit_eq_decide_div_mod_eq] at h1
  simp [h] at h1
  have a := Nat.mod_two_eq_zero_or_one (x % 4294967296 / 2 ^ s)
  have b := Nat.mod_two_eq_zero_or_one (x / 2 ^ s)
  omega
theorem dg_bit (A w s : Nat) (h : s < 32) : (A / 2 ^ (32 * w) % 4294967296) / 2 ^ s % 2 = A / 2 ^ (32 * w + s) % 2 := by
  rw [bit_mod _ _ h, Nat.div_div_eq_div_mul, Nat.pow_add]
theorem half_step (A k : Nat) : A / 2 ^ k = 2 * (A / 2 ^ (k + 1)) + A / 2 ^ k % 2 := by
  have : A / 2 ^ (k + 1) = A / 2 ^ k / 2 := by rw [Nat.pow_succ, Nat.div_div_eq_div_mul]
  rw [this]
  omega
theorem qd_low (Q w k : Nat) (h : k ≤ 32 * w) : qd Q w k = dg Q w := by
  unfold qd dg
  rw [show min (k - 32 * w) 32 = 0 by omega]
  simp
theorem qd_high (Q w k : Nat) (h : 32 * w + 32 ≤ k) : qd Q w k = 0 := by
  unfold qd
  rw [show min (k - 32 * w) 32 = 32 by omega]
  have : Q / 2 ^ (32 * w) % 4294967296 / 2 ^ 32 = 0 := by omega
  rw [this]
  simp
theorem qd_same (Q w s v : Nat) (h : s < 32) (hv : v ≠ w) : qd Q v (32 * w + s) = qd Q v (32 * w + s + 1) := by
  rcases Nat.lt_or_gt_of_ne hv with e | e
  · rw [qd_high _ _ _ (by omega), qd_high _ _ _ (by omega)]
  · rw [qd_low _ _ _ (by omega), qd_low _ _ _ (by omega)]
theorem qd_turn (Q w s : Nat) (h : s < 32) : qd Q w (32 * w + s) = qd Q w (32 * w + s + 1) + ((Q / 2 ^ (32 * w + s) % 2 : Nat) : Int) * 2 ^ s := by
  unfold qd
  rw [show min (32 * w + s - 32 * w) 32 = s by omega, show min (32 * w + s + 1 - 32 * w) 32 = s + 1 by omega, ← dg_bit Q w s h]
  generalize Q / 2 ^ (32 * w) % 4294967296 = x
  have h1 := half_step x s
  generalize x / 2 ^ (s + 1) = t at *
  generalize hb : x / 2 ^ s % 2 = y at *
  have h2 : x / 2 ^ s * 2 ^ s = t * 2 ^ (s + 1) + y * 2 ^ s := by
    rw [h1, Nat.pow_succ, Nat.add_mul, Nat.mul_comm 2 t, Nat.mul_assoc, Nat.mul_comm 2 (2 ^ s)]
  exact_mod_cast h2
theorem qd_join (Q w s : Nat) (h : s < 32) : Go.bits .or .u64 (qd Q w (32 * w + s + 1)) (2 ^ s) = qd Q w (32 * w + s + 1) + 2 ^ s := by
  unfold qd
  rw [show min (32 * w + s + 1 - 32 * w) 32 = s + 1 by omega]
  generalize hx : Q / 2 ^ (32 * w) % 4294967296 = x
  have hxl : x < 4294967296 := by omega
  have hle : x / 2 ^ (s + 1) * 2 ^ (s + 1) ≤ x := Nat.div_mul_le_self _ _
  have hp : (2 : Nat) ^ s < 2 ^ (s + 1) := Nat.pow_lt_pow_right (by decide) (by omega)
  have hp2 : (2 : Nat) ^ s < 2 ^ 64 := Nat.pow_lt_pow_right (by decide) (by omega)
  have hc : ((2 : Int) ^ s) = ((2 ^ s : Nat) : Int) := by simp
  rw [hc]
  refine bits_join .u64 64 (by decide) wraps_u64 (s + 1) ((x / 2 ^ (s + 1) * 2 ^ (s + 1) : Nat) : Int) ((2 ^ s : Nat) : Int) (Int.natCast_nonneg _) ?_ (by omega) (Int.natCast_nonneg _) ?_ ?_
  · have : (x / 2 ^ (s + 1) * 2 ^ (s + 1)) % 2 ^ (s + 1) = 0 := Nat.mul_mod_left _ _
    exact_mod_cast this
  · exact_mod_cast hp
  · exact_mod_cast hp2
theorem div_bit (A B k : Nat) (hB : 0 < B) : (2 * (A / 2 ^ (k + 1) % B) + A / 2 ^ k % 2 < B → A / 2 ^ k % B = 2 * (A / 2 ^ (k + 1) % B) + A / 2 ^ k % 2 ∧ A / B / 2 ^ k % 2 = 0) ∧
    (¬ 2 * (A / 2 ^ (k + 1) % B) + A / 2 ^ k % 2 < B → A / 2 ^ k % B = 2 * (A / 2 ^ (k + 1) % B) + A / 2 ^ k % 2 - B ∧ A / B / 2 ^ k % 2 = 1) := by
  have h1 := half_step A k
  have hc : A / B / 2 ^ k = A / 2 ^ k / B := by rw [Nat.div_div_eq_div_mul, Nat.div_div_eq_div_mul, Nat.mul_comm]
  rw [hc]
  generalize A / 2 ^ (k + 1) = y at *
  generalize hb : A / 2 ^ k % 2 = b at *
  rw [h1]
  have hy := Nat.div_add_mod y B
  have hm := Nat.mod_lt y hB
  generalize hr : y % B = r at *
  generalize y / B = t at *
  have hb2 : b < 2 := by omega
  have e : 2 * y + b = B * (2 * t) + (2 * r + b) := by rw [← hy, Nat.mul_add, ← Nat.mul_assoc, ← Nat.mul_assoc, Nat.mul_comm 2 B, Nat.add_assoc]
  rw [e]
  constructor
  · intro h
    rw [Nat.mul_add_mod, Nat.mod_eq_of_lt h, Nat.mul_add_div hB, Nat.div_eq_of_lt h]
    exact ⟨rfl, by omega⟩
  · intro h
    have e2 : B * (2 * t) + (2 * r + b) = B * (2 * t + 1) + (2 * r + b - B) := by rw [Nat.mul_add]; omega
    have hlt : 2 * r + b - B < B := by omega
    rw [e2, Nat.mul_add_mod, Nat.mod_eq_of_lt hlt, Nat.mul_add_div hB, Nat.div_eq_of_lt hlt]
    exact ⟨rfl, by omega⟩
def vl (r0 r1 r2 r3 : Int) : Int := r0 + 4294967296 * r1 + 18446744073709551616 * r2 + 79228162514264337593543950336 * r3
theorem vl_dg (A : Nat) (h : A < 340282366920938463463374607431768211456) : vl (dg A 0) (dg A 1) (dg A 2) (dg A 3) = (A : Int) := by
  unfold vl dg
  simp only [Nat.mul_zero, Nat.pow_zero, Nat.div_one, Nat.mul_one, show (32 : Nat) * 2 = 64 from rfl, show (32 : Nat) * 3 = 96 from rfl, show (2 : Nat) ^ 32 = 4294967296 from rfl, show (2 : Nat) ^ 64 = 18446744073709551616 from rfl, show (2 : Nat) ^ 96 = 79228162514264337593543950336 from rfl]
  omega
theorem less_vl {a0 a1 a2 a3 b0 b1 b2 b3 : Int} (ha : (0 ≤ a0 ∧ a0 < 4294967296) ∧ (0 ≤ a1 ∧ a1 < 4294967296) ∧ (0 ≤ a2 ∧ a2 < 4294967296) ∧ (0 ≤ a3 ∧ a3 < 4294967296)) (hb : (0 ≤ b0 ∧ b0 < 4294967296) ∧ (0 ≤ b1 ∧ b1 < 4294967296) ∧ (0 ≤ b2 ∧ b2 < 4294967296) ∧ (0 ≤ b3 ∧ b3 < 4294967296)) : less4 a0 a1 a2 a3 b0 b1 b2 b3 = decide (vl a0 a1 a2 a3 < vl b0 b1 b2 b3) := by
  unfold less4 less3 less2 less1 vl
  by_cases e3 : a3 = b3
  · rw [if_pos e3]
    by_cases e2 : a2 = b2
    · rw [if_pos e2]
      by_cases e1 : a1 = b1
      · rw [if_pos e1]
        by_cases e0 : a0 = b0
        · rw [if_pos e0]; symm; exact decide_eq_false (by omega)
        · rw [if_neg e0]; by_cases h : a0 < b0
          · rw [decide_eq_true h]; symm; exact decide_eq_true (by omega)
          · rw [decide_eq_false h]; symm; exact decide_eq_false (by omega)
      · rw [if_neg e1]; by_cases h : a1 < b1
        · rw [decide_eq_true h]; symm; exact decide_eq_true (by omega)
        · rw [decide_eq_false h]; symm; exact decide_eq_false (by omega)
    · rw [if_neg e2]; by_cases h : a2 < b2
      · rw [decide_eq_true h]; symm; exact decide_eq_true (by omega)
      · rw [decide_eq_false h]; symm; exact decide_eq_false (by omega)
  · rw [if_neg e3]; by_cases h : a3 < b3
    · rw [decide_eq_true h]; symm; exact decide_eq_true (by omega)
    · rw [decide_eq_false h]; symm; exact decide_eq_false (by omega)
structure QB (W : World) (B A D : Nat) (n m : Bool) (q0 q1 q2 q3 r0 r1 r2 r3 : Int) : Prop where
  a : W.heap[B]? = some (.cells #[.int .u64 (dg A 0), .int .u64 (dg A 1), .int .u64 (dg A 2), .int .u64 (dg A 3), .bool n] (117 : Nat) (0, 0))
  b : W.heap[B + 1]? = some (.cells #[.int .u64 (dg D 0), .int .u64 (dg D 1), .int .u64 (dg D 2), .int .u64 (dg D 3), .bool m] (117 : Nat) (0, 0))
  c : W.heap[B + 1 + 1]? = some (.cells #[.int .u64 0, .int .u64 0, .int .u64 0, .int .u64 0, .bool false] (117 : Nat) (0, 0))
  d : W.heap[B + 1 + 1 + 1]? = some (.cells #[.int .u64 0, .int .u64 0, .int .u64 0, .int .u64 0, .bool false] (117 : Nat) (0, 0))
  q : W.heap[B + 1 + 1 + 1 + 1]? = some (.cells #[.int .u64 q0, .int .u64 q1, .int .u64 q2, .int .u64 q3, .bool false] (117 : Nat) (0, 0))
  r : W.heap[B + 1 + 1 + 1 + 1 + 1]? = some (.cells #[.int .u64 r0, .int .u64 r1, .int .u64 r2, .int .u64 r3, .bool false] (117 : Nat) (0, 0))
theorem qstart (w : World) (A D : Nat) (n m : Bool) (hA : A < 340282366920938463463374607431768211456) (hD : 0 < D) : QB ((((((w.alloc (.cells #[.int .u64 (dg A 0), .int .u64 (dg A 1), .int .u64 (dg A 2), .int .u64 (dg A 3), .bool n] (117 : Nat))).alloc (.cells #[.int .u64 (dg D 0), .int .u64 (dg D 1), .int .u64 (dg D 2), .int .u64 (dg D 3), .bool m] (117 : Nat))).alloc (.cells #[.int .u64 0, .int .u64 0, .int .u64 0, .int .u64 0, .bool false] (117 : Nat))).alloc (.cells #[.int .u64 0, .int .u64 0, .int .u64 0, .int .u64 0, .bool false] (117 : Nat))).alloc (.cells #[.int .u64 0, .int .u64 0, .int .u64 0, .int .u64 0, .bool false] (117 : Nat))).alloc (.cells #[.int .u64 0, .int .u64 0, .int .u64 0, .int .u64 0, .bool false] (117 : Nat))) w.heap.size A D n m (qd (A / D) 0 128) (qd (A / D) 1 128) (qd (A / D) 2 128) (qd (A / D) 3 128) 0 0 0 0 := by
  have e : ∀ v, v < 4 → qd (A / D) v 128 = 0 := fun v hv => qd_high _ _ _ (by omega)
  refine ⟨?_, ?_, ?_, ?_, ?_, ?_⟩
  · rw [heap_alloc_old _ _ (by simp <;> omega), heap_alloc_old _ _ (by simp <;> omega), heap_alloc_old _ _ (by simp <;> omega), heap_alloc_old _ _ (by simp <;> omega), heap_alloc_old _ _ (by simp)]; exact heap_alloc_new _ _
  · rw [heap_alloc_old _ _ (by simp <;> omega), heap_alloc_old _ _ (by simp <;> omega), heap_alloc_old _ _ (by simp <;> omega), heap_alloc_old _ _ (by simp)]
    have := heap_alloc_new (w.alloc (.cells #[.int .u64 (dg A 0), .int .u64 (dg A 1), .int .u64 (dg A 2), .int .u64 (dg A 3), .bool n] (117 : Nat))) (.cells #[.int .u64 (dg D 0), .int .u64 (dg D 1), .int .u64 (dg D 2), .int .u64 (dg D 3), .bool m] (117 : Nat))
    simpa using this
  · rw [heap_alloc_old _ _ (by simp <;> omega), heap_alloc_old _ _ (by simp <;> omega), heap_alloc_old _ _ (by simp)]
    have := heap_alloc_new ((w.alloc (.cells #[.int .u64 (dg A 0), .int .u64 (dg A 1), .int .u64 (dg A 2), .int .u64 (dg A 3), .bool n] (117 : Nat))).alloc (.cells #[.int .u64 (dg D 0), .int .u64 (dg D 1), .int .u64 (dg D 2), .int .u64 (dg D 3), .bool m] (117 : Nat))) (.cells #[.int .u64 0, .int .u64 0, .int .u64 0, .int .u64 0, .bool false] (117 : Nat))
    simpa using this
  · rw [heap_alloc_old _ _ (by simp <;> omega), heap_alloc_old _ _ (by simp)]
    have := heap_alloc_new (((w.alloc (.cells #[.int .u64 (dg A 0), .int .u64 (dg A 1), .int .u64 (dg A 2), .int .u64 (dg A 3), .bool n] (117 : Nat))).alloc (.cells #[.int .u64 (dg D 0), .int .u64 (dg D 1), .int .u64 (dg D 2), .int .u64 (dg D 3), .bool m] (117 : Nat))).alloc (.cells #[.int .u64 0, .int .u64 0, .int .u64 0, .int .u64 0, .bool false] (117 : Nat))) (.cells #[.int .u64 0, .int .u64 0, .int .u64 0, .int .u64 0, .bool false] (117 : Nat))
    simpa using this
  · rw [heap_alloc_old _ _ (by simp), e 0 (by omega), e 1 (by omega), e 2 (by omega), e 3 (by omega)]
    have := heap_alloc_new ((((w.alloc (.cells #[.int .u64 (dg A 0), .int .u64 (dg A 1), .int .u64 (dg A 2), .int .u64 (dg A 3), .bool n] (117 : Nat))).alloc (.cells #[.int .u64 (dg D 0), .int .u64 (dg D 1), .int .u64 (dg D 2), .int .u64 (dg D 3), .bool m] (117 : Nat))).alloc (.cells #[.int .u64 0, .int .u64 0, .int .u64 0, .int .u64 0, .bool false] (117 : Nat))).alloc (.cells #[.int .u64 0, .int .u64 0, .int .u64 0, .int .u64 0, .bool false] (117 : Nat))) (.cells #[.int .u64 0, .int .u64 0, .int .u64 0, .int .u64 0, .bool false] (117 : Nat))
    simpa using this
  · have := heap_alloc_new (((((w.alloc (.cells #[.int .u64 (dg A 0), .int .u64 (dg A 1), .int .u64 (dg A 2), .int .u64 (dg A 3), .bool n] (117 : Nat))).alloc (.cells #[.int .u64 (dg D 0), .int .u64 (dg D 1), .int .u64 (dg D 2), .int .u64 (dg D 3), .bool m] (117 : Nat))).alloc (.cells #[.int .u64 0, .int .u64 0, .int .u64 0, .int .u64 0, .bool false] (117 : Nat))).alloc (.cells #[.int .u64 0, .int .u64 0, .int .u64 0, .int .u64 0, .bool false] (117 : Nat))).alloc (.cells #[.int .u64 0, .int .u64 0, .int .u64 0, .int .u64 0, .bool false] (117 : Nat))) (.cells #[.int .u64 0, .int .u64 0, .int .u64 0, .int .u64 0, .bool false] (117 : Nat))
    simpa using this
theorem QB.below {W W' : World} {B A D : Nat} {n m : Bool} {q0 q1 q2 q3 r0 r1 r2 r3 : Int} (h : QB W B A D n m q0 q1 q2 q3 r0 r1 r2 r3) (hb : Below W.heap.size W W') : QB W' B A D n m q0 q1 q2 q3 r0 r1 r2 r3 :=
  ⟨(hb.block _ (Array.getElem?_eq_some_iff.1 h.a).1).trans h.a, (hb.block _ (Array.getElem?_eq_some_iff.1 h.b).1).trans h.b, (hb.block _ (Array.getElem?_eq_some_iff.1 h.c).1).trans h.c, (hb.block _ (Array.getElem?_eq_some_iff.1 h.d).1).trans h.d, (hb.block _ (Array.getElem?_eq_some_iff.1 h.q).1).trans h.q, (hb.block _ (Array.getElem?_eq_some_iff.1 h.r).1).trans h.r⟩
theorem info117 : (Try.prog.info? 117).map (·.size) = some 5 := by kernel_rfl
theorem bg_one (p0 p1 p2 p3 : Int) (n : Bool) : (#[.int .u64 p0, .int .u64 p1, .int .u64 p2, .int .u64 p3, .bool n] : Array Value).all (·.oneCell') = true := by simp [Value.oneCell']
theorem b_store {W : World} {g : Nat} {t : TypeId} {cs cs' : Array Value} (h : W.heap[g]? = some (.cells cs t (0, 0))) (h5 : cs.size = 5) (h5' : cs'.size = 5) (h1 : cs'.all (·.oneCell') = true) : (Instr.storeAt 117 (.pointer (some ⟨g, 0, none⟩)) (.agg cs')).run Try.prog W = .ok () (W.setRow g cs') := by
  have := run_storeVar_row (P := Try.prog) W g t 117 cs cs' h (by rw [info117, h5']) (by rw [h5, h5']) h1
  simp only [Instr.storeAt, Instr.sureAddr, Sem.run_bind, Sem.run_pure, Result.andThen]
  exact this
theorem wpList_bstore {ops : Array Oper} {rest : List Oper} {op : Oper} {a : Act} {w : World} {Q : Exit → Act → World → Prop} (hgd : op.guard = none) (x y : Operand) (ho : op.op = .store 117 x y) {g : Nat} (hx : a.eval x = .pointer (some ⟨g, 0, none⟩)) {t : TypeId} {cs cs' : Array Value}
    (hy : a.eval y = .agg cs') (hb : w.heap[g]? = some (.cells cs t (0, 0))) (h5 : cs.size = 5) (h5' : cs'.size = 5) (h1 : cs'.all (·.oneCell') = true) (h : wpList Try.prog ops Q rest (a.put op.dst undef) (w.setRow g cs')) : wpList Try.prog ops Q (op :: rest) a w := by
  refine wpList_plain hgd fun _ hK => ?_
  unfold Oper.wp execOp
  simp only [ho, hx, hy, Sem.run_bind, Result.andThen_ok, b_store hb h5 h5' h1]
  exact hK _ _ h
theorem QB.setr {W : World} {B A D : Nat} {n m : Bool} {q0 q1 q2 q3 r0 r1 r2 r3 : Int} (h : QB W B A D n m q0 q1 q2 q3 r0 r1 r2 r3) (p0 p1 p2 p3 : Int) : QB (W.setRow (B + 1 + 1 + 1 + 1 + 1) #[.int .u64 p0, .int .u64 p1, .int .u64 p2, .int .u64 p3, .bool false]) B A D n m q0 q1 q2 q3 p0 p1 p2 p3 :=
  ⟨(setRow_other _ _ _ _ (by omega)).trans h.a, (setRow_other _ _ _ _ (by omega)).trans h.b, (setRow_other _ _ _ _ (by omega)).trans h.c, (setRow_other _ _ _ _ (by omega)).trans h.d, (setRow_other _ _ _ _ (by omega)).trans h.q, setRow_heap _ _ _ _ _ _ h.r⟩
theorem QB.setr0 {W : World} {B A D : Nat} {n m : Bool} {q0 q1 q2 q3 r0 r1 r2 r3 : Int} (h : QB W B A D n m q0 q1 q2 q3 r0 r1 r2 r3) (t : Int) : QB (W.setCell ⟨B + 1 + 1 + 1 + 1 + 1, 0, none⟩ (.int .u64 t)).drew B A D n m q0 q1 q2 q3 t r1 r2 r3 :=
  ⟨bother (W := W) h.a (by omega) _ _, bother (W := W) h.b (by omega) _ _, bother (W := W) h.c (by omega) _ _, bother (W := W) h.d (by omega) _ _, bother (W := W) h.q (by omega) _ _, bset (W := W) h.r 0 (.int .u64 t)⟩
theorem bit_in (A v s : Nat) (p0 : Int) (hs : s < 32) (hp : 0 ≤ p0 ∧ p0 < 4294967296) (he : p0 % 2 = 0) : Go.bits .or .u64 p0 (Go.bits .and .u64 (dg A v / 2 ^ s) 1) = p0 + ((A / 2 ^ (32 * v + s) % 2 : Nat) : Int) := by
  have h0 : dg A v / 2 ^ s = ((A / 2 ^ (32 * v) % 4294967296 / 2 ^ s : Nat) : Int) := by
    unfold dg
    rw [Int.natCast_ediv]
    simp
  have h1 := dg_bit A v s hs
  rw [h0]
  have hlt : A / 2 ^ (32 * v) % 4294967296 / 2 ^ s < 4294967296 := Nat.lt_of_le_of_lt (Nat.div_le_self _ _) (Nat.mod_lt _ (by decide))
  have h2 : Go.bits .and .u64 ((A / 2 ^ (32 * v) % 4294967296 / 2 ^ s : Nat) : Int) 1 = ((A / 2 ^ (32 * v) % 4294967296 / 2 ^ s : Nat) : Int) % 2 := bits_mask .u64 64 (by decide) wraps_u64 1 (by decide) _ (Int.natCast_nonneg _) (by omega)
  rw [h2]
  have h3 : ((A / 2 ^ (32 * v) % 4294967296 / 2 ^ s : Nat) : Int) % 2 = ((A / 2 ^ (32 * v + s) % 2 : Nat) : Int) := by rw [← h1]; simp
  rw [h3]
  have hb : A / 2 ^ (32 * v + s) % 2 < 2 := Nat.mod_lt _ (by decide)
  exact bits_join .u64 64 (by decide) wraps_u64 1 _ _ hp.1 (by simpa using he) (by omega) (by omega) (by simp; omega) (by omega)
theorem bit_rng {p0 t0 : Int} {x : Nat} (hp : 0 ≤ p0 ∧ p0 < 4294967296) (he : p0 % 2 = 0) (ht : t0 = p0 + ((x % 2 : Nat) : Int)) : 0 ≤ t0 ∧ t0 < 4294967296 := by omega
theorem bit_yes {A D v s : Nat} {p0 p1 p2 p3 t0 : Int} (hA : A < 340282366920938463463374607431768211456) (hD : 0 < D) (hs : s < 32) (hp : (0 ≤ p0 ∧ p0 < 4294967296) ∧ (0 ≤ p1 ∧ p1 < 4294967296) ∧ (0 ≤ p2 ∧ p2 < 4294967296) ∧ (0 ≤ p3 ∧ p3 < 4294967296)) (hv : vl p0 p1 p2 p3 = 2 * ((A / 2 ^ (32 * v + s + 1) % D : Nat) : Int)) (he : p0 % 2 = 0) (ht : t0 = p0 + ((A / 2 ^ (32 * v + s) % 2 : Nat) : Int))
    (hl : less4 t0 p1 p2 p3 (dg D 0) (dg D 1) (dg D 2) (dg D 3) = true) (hD2 : D < 340282366920938463463374607431768211456 := by omega) : (0 ≤ t0 ∧ t0 < 4294967296) ∧ vl t0 p1 p2 p3 = ((A / 2 ^ (32 * v + s) % D : Nat) : Int) ∧ ∀ u, qd (A / D) u (32 * v + s) = qd (A / D) u (32 * v + s + 1) := by
  have hr := bit_rng hp.1 he ht
  rw [less_vl ⟨hr, hp.2⟩ ⟨dg_range D 0, dg_range D 1, dg_range D 2, dg_range D 3⟩, vl_dg D hD2] at hl
  have hl' := of_decide_eq_true hl
  have hd := (div_bit A D (32 * v + s) hD).1
  have e : vl t0 p1 p2 p3 = ((2 * (A / 2 ^ (32 * v + s + 1) % D) + A / 2 ^ (32 * v + s) % 2 : Nat) : Int) := by
    have : vl t0 p1 p2 p3 = vl p0 p1 p2 p3 + ((A / 2 ^ (32 * v + s) % 2 : Nat) : Int) := by rw [ht]; unfold vl; omega
    rw [this, hv]
    simp
  rw [e] at hl' ⊢
  obtain ⟨d1, d2⟩ := hd (by exact_mod_cast hl')
  refine ⟨hr, by rw [d1], fun u => ?_⟩
  by_cases eu : u = v
  · subst eu
    rw [qd_turn _ _ _ hs, d2]
    simp
  · exact qd_same _ _ _ _ hs eu
theorem QB.setq0 {W : World} {B A D : Nat} {n m : Bool} {q0 q1 q2 q3 r0 r1 r2 r3 : Int} (h : QB W B A D n m q0 q1 q2 q3 r0 r1 r2 r3) (x : Int) : QB (W.setCell ⟨B + 1 + 1 + 1 + 1, 0, none⟩ (.int .u64 x)) B A D n m x q1 q2 q3 r0 r1 r2 r3 :=
  ⟨bother (W := W) h.a (by omega) _ _, bother (W := W) h.b (by omega) _ _, bother (W := W) h.c (by omega) _ _, bother (W := W) h.d (by omega) _ _, bset (W := W) h.q 0 (.int .u64 x), bother (W := W) h.r (by omega) _ _⟩
theorem QB.setq1 {W : World} {B A D : Nat} {n m : Bool} {q0 q1 q2 q3 r0 r1 r2 r3 : Int} (h : QB W B A D n m q0 q1 q2 q3 r0 r1 r2 r3) (x : Int) : QB (W.setCell ⟨B + 1 + 1 + 1 + 1, 1, none⟩ (.int .u64 x)) B A D n m q0 x q2 q3 r0 r1 r2 r3 :=
  ⟨bother (W := W) h.a (by omega) _ _, bother (W := W) h.b (by omega) _ _, bother (W := W) h.c (by omega) _ _, bother (W := W) h.d (by omega) _ _, bset (W := W) h.q 1 (.int .u64 x), bother (W := W) h.r (by omega) _ _⟩
theorem QB.setq2 {W : World} {B A D : Nat} {n m : Bool} {q0 q1 q2 q3 r0 r1 r2 r3 : Int} (h : QB W B A D n m q0 q1 q2 q3 r0 r1 r2 r3) (x : Int) : QB (W.setCell ⟨B + 1 + 1 + 1 + 1, 2, none⟩ (.int .u64 x)) B A D n m q0 q1 x q3 r0 r1 r2 r3 :=
  ⟨bother (W := W) h.a (by omega) _ _, bother (W := W) h.b (by omega) _ _, bother (W := W) h.c (by omega) _ _, bother (W := W) h.d (by omega) _ _, bset (W := W) h.q 2 (.int .u64 x), bother (W := W) h.r (by omega) _ _⟩
theorem QB.setq3 {W : World} {B A D : Nat} {n m : Bool} {q0 q1 q2 q3 r0 r1 r2 r3 : Int} (h : QB W B A D n m q0 q1 q2 q3 r0 r1 r2 r3) (x : Int) : QB (W.setCell ⟨B + 1 + 1 + 1 + 1, 3, none⟩ (.int .u64 x)) B A D n m q0 q1 q2 x r0 r1 r2 r3 :=
  ⟨bother (W := W) h.a (by omega) _ _, bother (W := W) h.b (by omega) _ _, bother (W := W) h.c (by omega) _ _, bother (W := W) h.d (by omega) _ _, bset (W := W) h.q 3 (.int .u64 x), bother (W := W) h.r (by omega) _ _⟩
theorem bit_no {A D v s : Nat} {p0 p1 p2 p3 t0 g0 g1 g2 g3 c3 : Int} (hA : A < 340282366920938463463374607431768211456) (hD : 0 < D) (hs : s < 32) (hp : (0 ≤ p0 ∧ p0 < 4294967296) ∧ (0 ≤ p1 ∧ p1 < 4294967296) ∧ (0 ≤ p2 ∧ p2 < 4294967296) ∧ (0 ≤ p3 ∧ p3 < 4294967296)) (hv : vl p0 p1 p2 p3 = 2 * ((A / 2 ^ (32 * v + s + 1) % D : Nat) : Int)) (he : p0 % 2 = 0) (ht : t0 = p0 + ((A / 2 ^ (32 * v + s) % 2 : Nat) : Int))
    (hl : less4 t0 p1 p2 p3 (dg D 0) (dg D 1) (dg D 2) (dg D 3) = false) (hg : (0 ≤ g0 ∧ g0 < 4294967296) ∧ (0 ≤ g1 ∧ g1 < 4294967296) ∧ (0 ≤ g2 ∧ g2 < 4294967296) ∧ (0 ≤ g3 ∧ g3 < 4294967296)) (hgv : vl g0 g1 g2 g3 = vl t0 p1 p2 p3 - vl (dg D 0) (dg D 1) (dg D 2) (dg D 3) + 340282366920938463463374607431768211456 * c3) (hc : 0 ≤ c3 ∧ c3 ≤ 1) (hD2 : D < 340282366920938463463374607431768211456) :
    vl g0 g1 g2 g3 = ((A / 2 ^ (32 * v + s) % D : Nat) : Int) ∧ (∀ u, u ≠ v → qd (A / D) u (32 * v + s) = qd (A / D) u (32 * v + s + 1)) ∧ Go.bits .or .u64 (qd (A / D) v (32 * v + s + 1)) (IntKind.u64.wrap (2 ^ s)) = qd (A / D) v (32 * v + s) := by
  have hr := bit_rng hp.1 he ht
  rw [less_vl ⟨hr, hp.2⟩ ⟨dg_range D 0, dg_range D 1, dg_range D 2, dg_range D 3⟩, vl_dg D hD2] at hl
  have hl' := of_decide_eq_false hl
  have hd := (div_bit A D (32 * v + s) hD).2
  have e : vl t0 p1 p2 p3 = ((2 * (A / 2 ^ (32 * v + s + 1) % D) + A / 2 ^ (32 * v + s) % 2 : Nat) : Int) := by
    have : vl t0 p1 p2 p3 = vl p0 p1 p2 p3 + ((A / 2 ^ (32 * v + s) % 2 : Nat) : Int) := by rw [ht]; unfold vl; omega
    rw [this, hv]
    simp
  rw [vl_dg D hD2] at hgv
  rw [e] at hl' hgv
  obtain ⟨d1, d2⟩ := hd (by intro h; apply hl'; exact_mod_cast h)
  have hlt : vl g0 g1 g2 g3 < 340282366920938463463374607431768211456 := by unfold vl; omega
  refine ⟨?_, fun u eu => qd_same _ _ _ _ hs eu, ?_⟩
  · rw [d1]
    generalize 2 * (A / 2 ^ (32 * v + s + 1) % D) + A / 2 ^ (32 * v + s) % 2 = N at *
    omega
  · have hw : IntKind.u64.wrap ((2 : Int) ^ s) = 2 ^ s := by
      have h2 : ((2 : Int) ^ s) = ((2 ^ s : Nat) : Int) := by simp
      have h3 : (2 : Nat) ^ s < 2 ^ 64 := Nat.pow_lt_pow_right (by decide) (by omega)
      rw [h2]
      exact wraps_u64 _ (Int.natCast_nonneg _) (by exact_mod_cast h3)
    rw [hw, qd_join _ _ _ hs, qd_turn _ _ _ hs, d2]
    simp
theorem b_load {W : World} {g : Nat} {cs : Array Value} (h : W.heap[g]? = some (.cells cs (117 : Nat) (0, 0))) (h5 : cs.size = 5) : (Instr.loadAt 117 (.pointer (some ⟨g, 0, none⟩))).run Try.prog W = .ok (.agg cs) W := by
  obtain ⟨fs, hu⟩ : ∃ fs, Try.prog.underlying 117 = some (.struct fs) := ⟨_, Try.underlying117⟩
  have := run_loadAt_mid (P := Try.prog) W g 0 117 cs.toList (.struct fs) (fun j v hv => by
    have hv' : cs[j]? = some v := by simpa using hv
    simp [World.cell?, h, hv']) hu rfl (by rw [info117, Array.length_toList, h5])
  simpa using this
def QuoPost (A D : Nat) (w : World) (e : Ending) (w' : World) : Prop := (∃ r0 r1 r2 r3 : Int, e = .returned (.tuple #[.agg #[.int .u64 (dg (A / D) 0), .int .u64 (dg (A / D) 1), .int .u64 (dg (A / D) 2), .int .u64 (dg (A / D) 3), .bool false], .agg #[.int .u64 r0, .int .u64 r1, .int .u64 r2, .int .u64 r3, .bool false]]) ∧ ((0 ≤ r0 ∧ r0 < 4294967296) ∧ (0 ≤ r1 ∧ r1 < 4294967296) ∧ (0 ≤ r2 ∧ r2 < 4294967296) ∧ (0 ≤ r3 ∧ r3 < 4294967296)) ∧ vl r0 r1 r2 r3 = ((A % D : Nat) : Int)) ∧ Below w.heap.size w w'
set_option maxHeartbeats 16000000 in
set_option maxRecDepth 100000 in
theorem quo_calls (A D : Nat) (n m : Bool) (hA : A < 340282366920938463463374607431768211456) (hD : 0 < D) (hD2 : D ≤ 18446744073709551616) (w : World) : Calls Try.prog 80 #[.agg #[.int .u64 (dg A 0), .int .u64 (dg A 1), .int .u64 (dg A 2), .int .u64 (dg A 3), .bool n], .agg #[.int .u64 (dg D 0), .int .u64 (dg D 1), .int .u64 (dg D 2), .int .u64 (dg D 3), .bool m]] w (QuoPost A D w) := by
  have X0 := Aside0.mk (qstart w A D n m hA hD)
  have HD := Aside0.mk (And.intro hA (And.intro hD hD2))
  have B0 : Aside0 (Below w.heap.size w ((((((w.alloc (.cells #[.int .u64 (dg A 0), .int .u64 (dg A 1), .int .u64 (dg A 2), .int .u64 (dg A 3), .bool n] (117 : Nat))).alloc (.cells #[.int .u64 (dg D 0), .int .u64 (dg D 1), .int .u64 (dg D 2), .int .u64 (dg D 3), .bool m] (117 : Nat))).alloc (.cells #[.int .u64 0, .int .u64 0, .int .u64 0, .int .u64 0, .bool false] (117 : Nat))).alloc (.cells #[.int .u64 0, .int .u64 0, .int .u64 0, .int .u64 0, .bool false] (117 : Nat))).alloc (.cells #[.int .u64 0, .int .u64 0, .int .u64 0, .int .u64 0, .bool false] (117 : Nat))).alloc (.cells #[.int .u64 0, .int .u64 0, .int .u64 0, .int .u64 0, .bool false] (117 : Nat)))) := ⟨(((((((Below.refl w.heap.size w).alloc (Nat.le_refl _) _).alloc (by simp) _).alloc (by simp <;> omega) _).alloc (by simp <;> omega) _).alloc (by simp <;> omega) _).alloc (by simp <;> omega) _)⟩
  clear hA hD hD2
  have hu117 := Try.underlying117
  have hu115 := under115
  have hz := zero117
  go_enter Try.func80, Try.ntmps80
  go_wp2_with fail
  generalize ((((((w.alloc (.cells #[.int .u64 (dg A 0), .int .u64 (dg A 1), .int .u64 (dg A 2), .int .u64 (dg A 3), .bool n] (117 : Nat))).alloc (.cells #[.int .u64 (dg D 0), .int .u64 (dg D 1), .int .u64 (dg D 2), .int .u64 (dg D 3), .bool m] (117 : Nat))).alloc (.cells #[.int .u64 0, .int .u64 0, .int .u64 0, .int .u64 0, .bool false] (117 : Nat))).alloc (.cells #[.int .u64 0, .int .u64 0, .int .u64 0, .int .u64 0, .bool false] (117 : Nat))).alloc (.cells #[.int .u64 0, .int .u64 0, .int .u64 0, .int .u64 0, .bool false] (117 : Nat))).alloc (.cells #[.int .u64 0, .int .u64 0, .int .u64 0, .int .u64 0, .bool false] (117 : Nat))) = W0 at X0 B0 ⊢
  generalize hB : w.heap.size = b at X0 B0 ⊢
  go_loopg [8] 128 (fun kq v8 wr => ∃ (k : Nat) (r0 r1 r2 r3 : Int), v8 = .int .i64 ((k : Int) - 1) ∧ kq = k ∧ k ≤ 128 ∧ Aside0 (QB wr b A D n m (qd (A / D) 0 k) (qd (A / D) 1 k) (qd (A / D) 2 k) (qd (A / D) 3 k) r0 r1 r2 r3) ∧ Aside0 (((0 ≤ r0 ∧ r0 < 4294967296) ∧ (0 ≤ r1 ∧ r1 < 4294967296) ∧ (0 ≤ r2 ∧ r2 < 4294967296) ∧ (0 ≤ r3 ∧ r3 < 4294967296)) ∧ vl r0 r1 r2 r3 = ((A / 2 ^ k % D : Nat) : Int)) ∧ Aside0 (Below b w wr))
  case atStart => exact ⟨128, 0, 0, 0, 0, rfl, rfl, by omega, X0, ⟨⟨by omega, by have := HD.out.1; rw [Nat.div_eq_of_lt (by simpa using this)]; simp [vl]⟩⟩, B0⟩
  case round =>
    obtain ⟨k, r0, r1, r2, r3, rfl, rfl, hk, HX, HV, HB⟩ := hrel
    rcases gk with _ | j
    · have X1 : Aside0 (QB wr b A D n m (dg (A / D) 0) (dg (A / D) 1) (dg (A / D) 2) (dg (A / D) 3) r0 r1 r2 r3) := ⟨by
        have h := HX.out
        rw [qd_low _ 0 0 (by omega), qd_low _ 1 0 (by omega), qd_low _ 2 0 (by omega), qd_low _ 3 0 (by omega)] at h
        exact h⟩
      obtain ⟨Q0, hQ0⟩ : ∃ Q, dg (A / D) 0 = Q := ⟨_, rfl⟩
      obtain ⟨Q1, hQ1⟩ : ∃ Q, dg (A / D) 1 = Q := ⟨_, rfl⟩
      obtain ⟨Q2, hQ2⟩ : ∃ Q, dg (A / D) 2 = Q := ⟨_, rfl⟩
      obtain ⟨Q3, hQ3⟩ : ∃ Q, dg (A / D) 3 = Q := ⟨_, rfl⟩
      rw [hQ0, hQ1, hQ2, hQ3] at X1
      have HQ := Aside0.mk (And.intro hQ0 (And.intro hQ1 (And.intro hQ2 hQ3)))
      have HRV : Aside0 (vl r0 r1 r2 r3 = ((A % D : Nat) : Int)) := ⟨by have := HV.out.2; simpa using this⟩
      clear hQ0 hQ1 hQ2 hQ3 HX
      go_wp2_with fail
      have Y1 : Aside0 (wr.drew.heap[b + 1 + 1]? = some (.cells #[.int .u64 0, .int .u64 0, .int .u64 0, .int .u64 0, .bool false] (117 : Nat) (0, 0))) := ⟨X1.out.c⟩
      have Y2 : Aside0 (((wr.drew).setRow (b + 1 + 1) #[.int .u64 Q0, .int .u64 Q1, .int .u64 Q2, .int .u64 Q3, .bool false]).heap[b + 1 + 1 + 1]? = some (.cells #[.int .u64 0, .int .u64 0, .int .u64 0, .int .u64 0, .bool false] (117 : Nat) (0, 0))) := ⟨(setRow_other _ _ _ _ (by omega)).trans X1.out.d⟩
      have Y3 : Aside0 ((((wr.drew).setRow (b + 1 + 1) #[.int .u64 Q0, .int .u64 Q1, .int .u64 Q2, .int .u64 Q3, .bool false]).setRow (b + 1 + 1 + 1) #[.int .u64 r0, .int .u64 r1, .int .u64 r2, .int .u64 r3, .bool false]).heap[b + 1 + 1]? = some (.cells #[.int .u64 Q0, .int .u64 Q1, .int .u64 Q2, .int .u64 Q3, .bool false] (117 : Nat) (0, 0))) := ⟨(setRow_other _ _ _ _ (by omega)).trans (setRow_heap _ _ _ _ _ _ Y1.out)⟩
      have Y4 : Aside0 ((((wr.drew).setRow (b + 1 + 1) #[.int .u64 Q0, .int .u64 Q1, .int .u64 Q2, .int .u64 Q3, .bool false]).setRow (b + 1 + 1 + 1) #[.int .u64 r0, .int .u64 r1, .int .u64 r2, .int .u64 r3, .bool false]).heap[b + 1 + 1 + 1]? = some (.cells #[.int .u64 r0, .int .u64 r1, .int .u64 r2, .int .u64 r3, .bool false] (117 : Nat) (0, 0))) := ⟨setRow_heap _ _ _ _ _ _ Y2.out⟩
      have B4 : Aside0 (Below b w (((wr.drew).setRow (b + 1 + 1) #[.int .u64 Q0, .int .u64 Q1, .int .u64 Q2, .int .u64 Q3, .bool false]).setRow (b + 1 + 1 + 1) #[.int .u64 r0, .int .u64 r1, .int .u64 r2, .int .u64 r3, .bool false])) := ⟨setRow_below2 (setRow_below2 (below_drew1 HB.out) (by omega) _) (by omega) _⟩
      refine start_ (n := 4) (S := fun w' => w'.heap[b + 1 + 1 + 1 + 1]? = some (.cells #[.int .u64 Q0, .int .u64 Q1, .int .u64 Q2, .int .u64 Q3, .bool false] (117 : Nat) (0, 0)) ∧ w'.heap[b + 1 + 1 + 1 + 1 + 1]? = some (.cells #[.int .u64 r0, .int .u64 r1, .int .u64 r2, .int .u64 r3, .bool false] (117 : Nat) (0, 0))) (ds := []) #[false, false, false, false] (by kernel_rfl) rfl rfl ⟨X1.out.q, X1.out.r⟩ (fun hHeld => ?_)
      refine take_ (i := 0) (N := some 53) (v := ?_) (a' := ?_) #[true, false, false, false] rfl rfl (by kernel_rfl) (fun _ _ _ h => h) (Or.inl ⟨by rfl, ?_⟩) hHeld ?_ ?_
      rotate_left
      · intro w' s0
        show (do let r ← Instr.loadAt 117 (.pointer (some ⟨b + 1 + 1 + 1 + 1, 0, none⟩)); pure (Next.value r) : Sem Next).run Try.prog w' = _
        rw [Sem.run_bind, b_load s0.1 rfl]
        rfl
      rotate_left
      · simp only [Act.put, List.setIfInBounds_toArray, List.set_cons_zero, List.set_cons_succ, i64_w, i32_w]
        rfl
      refine take_ (i := 1) (N := some 54) (v := ?_) (a' := ?_) #[true, true, false, false] rfl rfl (by kernel_rfl) (fun _ _ _ h => h) (Or.inl ⟨by rfl, ?_⟩) hHeld ?_ ?_
      rotate_left
      · intro w' s0
        show (do let r ← Instr.loadAt 117 (.pointer (some ⟨b + 1 + 1 + 1 + 1 + 1, 0, none⟩)); pure (Next.value r) : Sem Next).run Try.prog w' = _
        rw [Sem.run_bind, b_load s0.2 rfl]
        rfl
      rotate_left
      · simp only [Act.put, List.setIfInBounds_toArray, List.set_cons_zero, List.set_cons_succ, i64_w, i32_w]
        rfl
      refine one_ (i := 2) (N := none) #[true, true, true, false] rfl rfl (by kernel_rfl) (by decide) (fun K hK => ?_)
      refine skip_ (w1 := (wr.drew).setRow (b + 1 + 1) #[.int .u64 Q0, .int .u64 Q1, .int .u64 Q2, .int .u64 Q3, .bool false]) (by rfl) rfl ?_ ?_
      · show (do Instr.storeAt 117 (.pointer (some ⟨b + 1 + 1, 0, none⟩)) (.agg #[.int .u64 Q0, .int .u64 Q1, .int .u64 Q2, .int .u64 Q3, .bool false]); pure Next.skip : Sem Next).run Try.prog _ = _
        rw [Sem.run_bind, b_store Y1.out rfl rfl (bg_one _ _ _ _ _)]
        rfl
      refine hK.out _ _ ⟨(setRow_other _ _ _ _ (by omega)).trans hHeld.1, (setRow_other _ _ _ _ (by omega)).trans hHeld.2⟩ (fun hHeld2 => ?_)
      clear hK K
      refine one_ (i := 3) (N := none) #[true, true, true, true] rfl rfl (by kernel_rfl) (by decide) (fun K hK => ?_)
      refine skip_ (w1 := ((wr.drew).setRow (b + 1 + 1) #[.int .u64 Q0, .int .u64 Q1, .int .u64 Q2, .int .u64 Q3, .bool false]).setRow (b + 1 + 1 + 1) #[.int .u64 r0, .int .u64 r1, .int .u64 r2, .int .u64 r3, .bool false]) (by rfl) rfl ?_ ?_
      · show (do Instr.storeAt 117 (.pointer (some ⟨b + 1 + 1 + 1, 0, none⟩)) (.agg #[.int .u64 r0, .int .u64 r1, .int .u64 r2, .int .u64 r3, .bool false]); pure Next.skip : Sem Next).run Try.prog _ = _
        rw [Sem.run_bind, b_store Y2.out rfl rfl (bg_one _ _ _ _ _)]
        rfl
      refine hK.out _ _ ⟨(setRow_other _ _ _ _ (by omega)).trans hHeld2.1, (setRow_other _ _ _ _ (by omega)).trans hHeld2.2⟩ (fun _ => ?_)
      clear hK K hHeld hHeld2
      refine done_ (by kernel_rfl) ?_
      go_wp2
      generalize ((wr.drew).setRow (b + 1 + 1) #[.int .u64 Q0, .int .u64 Q1, .int .u64 Q2, .int .u64 Q3, .bool false]).setRow (b + 1 + 1 + 1) #[.int .u64 r0, .int .u64 r1, .int .u64 r2, .int .u64 r3, .bool false] = W4 at Y3 Y4 B4 ⊢
      obtain ⟨x0, x1, x2, x3, x4, _⟩ := bcells Y3.out
      obtain ⟨y0, y1, y2, y3, y4, _⟩ := bcells Y4.out
      exact bodyPost_ret (v := .tuple #[.agg #[.int .u64 Q0, .int .u64 Q1, .int .u64 Q2, .int .u64 Q3, .bool false], .agg #[.int .u64 r0, .int .u64 r1, .int .u64 r2, .int .u64 r3, .bool false]]) (by simp [results, Try.results80, go_sem, x0, x1, x2, x3, x4, y0, y1, y2, y3, y4]) rfl ⟨⟨r0, r1, r2, r3, by rw [HQ.out.1, HQ.out.2.1, HQ.out.2.2.1, HQ.out.2.2.2], HV.out.1, HRV.out⟩, by rw [hB]; exact B4.out⟩
    · obtain ⟨v, s, rfl, hs⟩ : ∃ v s, j = 32 * v + s ∧ s < 32 := ⟨j / 32, j % 32, by omega, Nat.mod_lt _ (by decide)⟩
      obtain ⟨I, hI⟩ : ∃ I : Int, ((32 * v + s + 1 : Nat) : Int) - 1 = I := ⟨_, rfl⟩
      rw [hI]
      have i0 : 0 ≤ I := by omega
      have i1 : I < 128 := by omega
      have q2 : I % 32 = (s : Int) := by omega
      have hs1 : (s : Int) < 32 := by omega
      have HI := Aside0.mk hI
      have hv : v = 0 ∨ v = 1 ∨ v = 2 ∨ v = 3 := by omega
      have HV2 := Aside0.mk hv
      clear hI hv
      obtain ⟨x0, x1, x2, x3, x4, xf⟩ := bcells HX.out.r
      go_wp2_with fail
      clear x0 x1 x2 x3 x4 xf
      refine (plus_calls r0 r1 r2 r3 r0 r1 r2 r3 false false HV.out.1 HV.out.1 _).mono ?_
      rintro e W1 ⟨⟨p0, p1, p2, p3, c0, c1, c2, c3, rfl, e0, e1, e2, e3, pr0, pr1, pr2, pr3, cr⟩, hb⟩
      have X1 := Aside0.mk (HX.out.below hb)
      have B1 : Aside0 (Below b w W1) := ⟨by rw [← hB] at HB ⊢; exact HB.out.trans (hb.mono HB.out.size)⟩
      have HP : Aside0 ((0 ≤ p0 ∧ p0 < 4294967296) ∧ (0 ≤ p1 ∧ p1 < 4294967296) ∧ (0 ≤ p2 ∧ p2 < 4294967296) ∧ (0 ≤ p3 ∧ p3 < 4294967296)) := ⟨⟨pr0, pr1, pr2, pr3⟩⟩
      have HPV : Aside0 (vl p0 p1 p2 p3 = 2 * ((A / 2 ^ (32 * v + s + 1) % D : Nat) : Int) ∧ p0 % 2 = 0) := ⟨by
        have h := HV.out.2
        have hlt := Nat.mod_lt (A / 2 ^ (32 * v + s + 1)) HD.out.2.1
        have hd2 := HD.out.2.2
        generalize A / 2 ^ (32 * v + s + 1) % D = R at *
        unfold vl at h ⊢
        obtain ⟨v0, v1, v2, v3⟩ := HV.out.1
        constructor <;> omega⟩
      clear hb HX HB e0 e1 e2 e3 pr0 pr1 pr2 pr3 cr
      go_wp2_with ((with_reducible refine gate_store (t := 117) (p := 7) rfl ?_); refine wpList_bstore (cs' := #[.int .u64 p0, .int .u64 p1, .int .u64 p2, .int .u64 p3, .bool false]) rfl (.tmp 7) (.tmp 15) rfl rfl rfl X1.out.r rfl rfl (bg_one _ _ _ _ _) ?_)
      have X2 := Aside0.mk (X1.out.setr p0 p1 p2 p3)
      have B2 : Aside0 (Below b w (W1.setRow (b + 1 + 1 + 1 + 1 + 1) #[.int .u64 p0, .int .u64 p1, .int .u64 p2, .int .u64 p3, .bool false])) := ⟨setRow_below2 B1.out (by omega) _⟩
      generalize W1.setRow (b + 1 + 1 + 1 + 1 + 1) #[.int .u64 p0, .int .u64 p1, .int .u64 p2, .int .u64 p3, .bool false] = W2 at X2 B2 ⊢
      clear X1 B1
      obtain ⟨x0, x1, x2, x3, x4, xf⟩ := bcells X2.out.r
      obtain ⟨y0, y1, y2, y3, y4, yf⟩ := bcells X2.out.a
      rcases HV2.out with rfl | rfl | rfl | rfl
      · have q1 : I / 32 = 0 := by have := HI.out; omega
        have t1 : IntKind.i64.wrap (I.tdiv 32) = 0 := by rw [Int.tdiv_eq_ediv_of_nonneg i0, q1]; rfl
        have t2 : I.tmod 32 = (s : Int) := by rw [Int.tmod_eq_emod_of_nonneg i0]; exact q2
        have t3 : IntKind.u64.wrap (s : Int) = (s : Int) := wraps_u64 _ (by omega) (by omega)
        have t4 : IntKind.i64.wrap (s : Int) = (s : Int) := by rw [IntKind.wrap_i64]; omega
        obtain ⟨Q0, hQ0⟩ : ∃ Q, qd (A / D) 0 (32 * 0 + s + 1) = Q := ⟨_, rfl⟩
        obtain ⟨Q1, hQ1⟩ : ∃ Q, qd (A / D) 1 (32 * 0 + s + 1) = Q := ⟨_, rfl⟩
        obtain ⟨Q2, hQ2⟩ : ∃ Q, qd (A / D) 2 (32 * 0 + s + 1) = Q := ⟨_, rfl⟩
        obtain ⟨Q3, hQ3⟩ : ∃ Q, qd (A / D) 3 (32 * 0 + s + 1) = Q := ⟨_, rfl⟩
        rw [hQ0, hQ1, hQ2, hQ3] at X2
        have HQ := Aside0.mk (And.intro hQ0 (And.intro hQ1 (And.intro hQ2 hQ3)))
        clear hQ0 hQ1 hQ2 hQ3
        obtain ⟨t0, ht0⟩ : ∃ t, Go.bits .or .u64 p0 (Go.bits .and .u64 (dg A 0 / 2 ^ s) 1) = t := ⟨_, rfl⟩
        have HT0 : Aside0 (t0 = p0 + ((A / 2 ^ (32 * 0 + s) % 2 : Nat) : Int)) := ⟨by rw [← ht0]; exact bit_in A 0 s p0 (by omega) HP.out.1 HPV.out.2⟩
        obtain ⟨z0, z1, z2, z3, z4, zf⟩ := bcells X2.out.b
        go_still_tail 16, (by kernel_rfl)
        change wpList _ _ _ _ _ W2.drew
        go_wp2_with fail
        have X3 : Aside0 (QB ((W2.setCell ⟨b + 1 + 1 + 1 + 1 + 1, 0, none⟩ (.int .u64 t0)).drew) b A D n m Q0 Q1 Q2 Q3 t0 p1 p2 p3) := ⟨X2.out.setr0 t0⟩
        have B3 : Aside0 (Below b w ((W2.setCell ⟨b + 1 + 1 + 1 + 1 + 1, 0, none⟩ (.int .u64 t0)).drew)) := ⟨below_drew1 (B2.out.setCell (by simp; omega) _)⟩
        generalize (W2.setCell ⟨b + 1 + 1 + 1 + 1 + 1, 0, none⟩ (.int .u64 t0)).drew = W3 at X3 B3 ⊢
        clear ht0 x0 x1 x2 x3 x4 xf y0 y1 y2 y3 y4 yf z0 z1 z2 z3 z4 zf X2 B2
        refine (less_calls t0 p1 p2 p3 (dg D 0) (dg D 1) (dg D 2) (dg D 3) false m _).mono ?_
        rintro e W4 ⟨rfl, hb⟩
        have X4 := Aside0.mk (X3.out.below hb)
        have B4 : Aside0 (Below b w W4) := ⟨by rw [← hB] at B3 ⊢; exact B3.out.trans (hb.mono B3.out.size)⟩
        obtain ⟨ls, hls⟩ : ∃ l, less4 t0 p1 p2 p3 (dg D 0) (dg D 1) (dg D 2) (dg D 3) = l := ⟨_, rfl⟩
        rw [hls]
        have HLS := Aside0.mk hls
        clear hb X3 B3 hls
        obtain ⟨x0, x1, x2, x3, x4, xf⟩ := bcells X4.out.r
        obtain ⟨z0, z1, z2, z3, z4, zf⟩ := bcells X4.out.b
        cases ls with
        | true =>
          go_wp2_with fail
          clear x0 x1 x2 x3 x4 xf z0 z1 z2 z3 z4 zf
          go_roundg (32 * 0 + s)
          case measure => omega
          case rel =>
            obtain ⟨f1, f2, f3⟩ := bit_yes HD.out.1 HD.out.2.1 hs HP.out HPV.out.1 HPV.out.2 HT0.out HLS.out (by have := HD.out.2.2; omega)
            refine ⟨32 * 0 + s, t0, p1, p2, p3, congrArg (Value.int .i64) (by have := HI.out; omega), rfl, by omega, ⟨?_⟩, ⟨⟨f1, HP.out.2⟩, f2⟩, B4⟩
            rw [f3 0, f3 1, f3 2, f3 3, HQ.out.1, HQ.out.2.1, HQ.out.2.2.1, HQ.out.2.2.2]
            exact X4.out
        | false =>
          go_wp2_with fail
          clear x0 x1 x2 x3 x4 xf z0 z1 z2 z3 z4 zf
          refine (minus_calls t0 p1 p2 p3 (dg D 0) (dg D 1) (dg D 2) (dg D 3) false m ⟨bit_rng HP.out.1 HPV.out.2 HT0.out, HP.out.2⟩ ⟨dg_range D 0, dg_range D 1, dg_range D 2, dg_range D 3⟩ _).mono ?_
          rintro e W5 ⟨⟨g0, g1, g2, g3, c0, c1, c2, c3, rfl, e0, e1, e2, e3, pr0, pr1, pr2, pr3, cr⟩, hb⟩
          have X5 := Aside0.mk (X4.out.below hb)
          have B5 : Aside0 (Below b w W5) := ⟨by rw [← hB] at B4 ⊢; exact B4.out.trans (hb.mono B4.out.size)⟩
          have HGR : Aside0 (((0 ≤ g0 ∧ g0 < 4294967296) ∧ (0 ≤ g1 ∧ g1 < 4294967296) ∧ (0 ≤ g2 ∧ g2 < 4294967296) ∧ (0 ≤ g3 ∧ g3 < 4294967296)) ∧ vl g0 g1 g2 g3 = vl t0 p1 p2 p3 - vl (dg D 0) (dg D 1) (dg D 2) (dg D 3) + 340282366920938463463374607431768211456 * c3 ∧ 0 ≤ c3 ∧ c3 ≤ 1) := ⟨⟨pr0, pr1, pr2, pr3⟩, by unfold vl; omega, cr⟩
          clear hb X4 B4 e0 e1 e2 e3 pr0 pr1 pr2 pr3 cr
          obtain ⟨N, hN⟩ : ∃ N, Go.bits .or .u64 Q0 (IntKind.u64.wrap (2 ^ s)) = N := ⟨_, rfl⟩
          have HN : Aside0 (Go.bits .or .u64 Q0 (IntKind.u64.wrap (2 ^ s)) = N) := ⟨hN⟩
          have X6 := Aside0.mk ((X5.out.setr g0 g1 g2 g3).setq0 N)
          have B6 : Aside0 (Below b w ((W5.setRow (b + 1 + 1 + 1 + 1 + 1) #[.int .u64 g0, .int .u64 g1, .int .u64 g2, .int .u64 g3, .bool false]).setCell ⟨b + 1 + 1 + 1 + 1, 0, none⟩ (.int .u64 N))) := ⟨(setRow_below2 B5.out (by omega) _).setCell (by simp; omega) _⟩
          obtain ⟨y0, y1, y2, y3, y4, yf⟩ := bcells (X5.out.setr g0 g1 g2 g3).q
          go_wp2_with ((with_reducible refine gate_store (t := 117) (p := 7) rfl ?_); refine wpList_bstore (cs' := #[.int .u64 g0, .int .u64 g1, .int .u64 g2, .int .u64 g3, .bool false]) rfl (.tmp 7) (.tmp 38) rfl rfl rfl X5.out.r rfl rfl (bg_one _ _ _ _ _) ?_)
          clear y0 y1 y2 y3 y4 yf hN X5 B5
          go_roundg (32 * 0 + s)
          case measure => omega
          case rel =>
            obtain ⟨f1, f2, f3⟩ := bit_no HD.out.1 HD.out.2.1 hs HP.out HPV.out.1 HPV.out.2 HT0.out HLS.out HGR.out.1 HGR.out.2.1 HGR.out.2.2 (by have := HD.out.2.2; omega)
            refine ⟨32 * 0 + s, g0, g1, g2, g3, congrArg (Value.int .i64) (by have := HI.out; omega), rfl, by omega, ⟨?_⟩, ⟨HGR.out.1, f1⟩, B6⟩
            rw [HQ.out.1, HN.out] at f3
            have h0 := fun (u : Nat) (h : u ≠ 0) => f2 u h
            rw [← f3, h0 1 (by decide), HQ.out.2.1, h0 2 (by decide), HQ.out.2.2.1, h0 3 (by decide), HQ.out.2.2.2]
            exact X6.out
      · have q1 : I / 32 = 1 := by have := HI.out; omega
        have t1 : IntKind.i64.wrap (I.tdiv 32) = 1 := by rw [Int.tdiv_eq_ediv_of_nonneg i0, q1]; rfl
        have t2 : I.tmod 32 = (s : Int) := by rw [Int.tmod_eq_emod_of_nonneg i0]; exact q2
        have t3 : IntKind.u64.wrap (s : Int) = (s : Int) := wraps_u64 _ (by omega) (by omega)
        have t4 : IntKind.i64.wrap (s : Int) = (s : Int) := by rw [IntKind.wrap_i64]; omega
        obtain ⟨Q0, hQ0⟩ : ∃ Q, qd (A / D) 0 (32 * 1 + s + 1) = Q := ⟨_, rfl⟩
        obtain ⟨Q1, hQ1⟩ : ∃ Q, qd (A / D) 1 (32 * 1 + s + 1) = Q := ⟨_, rfl⟩
        obtain ⟨Q2, hQ2⟩ : ∃ Q, qd (A / D) 2 (32 * 1 + s + 1) = Q := ⟨_, rfl⟩
        obtain ⟨Q3, hQ3⟩ : ∃ Q, qd (A / D) 3 (32 * 1 + s + 1) = Q := ⟨_, rfl⟩
        rw [hQ0, hQ1, hQ2, hQ3] at X2
        have HQ := Aside0.mk (And.intro hQ0 (And.intro hQ1 (And.intro hQ2 hQ3)))
        clear hQ0 hQ1 hQ2 hQ3
        obtain ⟨t0, ht0⟩ : ∃ t, Go.bits .or .u64 p0 (Go.bits .and .u64 (dg A 1 / 2 ^ s) 1) = t := ⟨_, rfl⟩
        have HT0 : Aside0 (t0 = p0 + ((A / 2 ^ (32 * 1 + s) % 2 : Nat) : Int)) := ⟨by rw [← ht0]; exact bit_in A 1 s p0 (by omega) HP.out.1 HPV.out.2⟩
        obtain ⟨z0, z1, z2, z3, z4, zf⟩ := bcells X2.out.b
        go_still_tail 16, (by kernel_rfl)
        change wpList _ _ _ _ _ W2.drew
        go_wp2_with fail
        have X3 : Aside0 (QB ((W2.setCell ⟨b + 1 + 1 + 1 + 1 + 1, 0, none⟩ (.int .u64 t0)).drew) b A D n m Q0 Q1 Q2 Q3 t0 p1 p2 p3) := ⟨X2.out.setr0 t0⟩
        have B3 : Aside0 (Below b w ((W2.setCell ⟨b + 1 + 1 + 1 + 1 + 1, 0, none⟩ (.int .u64 t0)).drew)) := ⟨below_drew1 (B2.out.setCell (by simp; omega) _)⟩
        generalize (W2.setCell ⟨b + 1 + 1 + 1 + 1 + 1, 0, none⟩ (.int .u64 t0)).drew = W3 at X3 B3 ⊢
        clear ht0 x0 x1 x2 x3 x4 xf y0 y1 y2 y3 y4 yf z0 z1 z2 z3 z4 zf X2 B2
        refine (less_calls t0 p1 p2 p3 (dg D 0) (dg D 1) (dg D 2) (dg D 3) false m _).mono ?_
        rintro e W4 ⟨rfl, hb⟩
        have X4 := Aside0.mk (X3.out.below hb)
        have B4 : Aside0 (Below b w W4) := ⟨by rw [← hB] at B3 ⊢; exact B3.out.trans (hb.mono B3.out.size)⟩
        obtain ⟨ls, hls⟩ : ∃ l, less4 t0 p1 p2 p3 (dg D 0) (dg D 1) (dg D 2) (dg D 3) = l := ⟨_, rfl⟩
        rw [hls]
        have HLS := Aside0.mk hls
        clear hb X3 B3 hls
        obtain ⟨x0, x1, x2, x3, x4, xf⟩ := bcells X4.out.r
        obtain ⟨z0, z1, z2, z3, z4, zf⟩ := bcells X4.out.b
        cases ls with
        | true =>
          go_wp2_with fail
          clear x0 x1 x2 x3 x4 xf z0 z1 z2 z3 z4 zf
          go_roundg (32 * 1 + s)
          case measure => omega
          case rel =>
            obtain ⟨f1, f2, f3⟩ := bit_yes HD.out.1 HD.out.2.1 hs HP.out HPV.out.1 HPV.out.2 HT0.out HLS.out (by have := HD.out.2.2; omega)
            refine ⟨32 * 1 + s, t0, p1, p2, p3, congrArg (Value.int .i64) (by have := HI.out; omega), rfl, by omega, ⟨?_⟩, ⟨⟨f1, HP.out.2⟩, f2⟩, B4⟩
            rw [f3 0, f3 1, f3 2, f3 3, HQ.out.1, HQ.out.2.1, HQ.out.2.2.1, HQ.out.2.2.2]
            exact X4.out
        | false =>
          go_wp2_with fail
          clear x0 x1 x2 x3 x4 xf z0 z1 z2 z3 z4 zf
          refine (minus_calls t0 p1 p2 p3 (dg D 0) (dg D 1) (dg D 2) (dg D 3) false m ⟨bit_rng HP.out.1 HPV.out.2 HT0.out, HP.out.2⟩ ⟨dg_range D 0, dg_range D 1, dg_range D 2, dg_range D 3⟩ _).mono ?_
          rintro e W5 ⟨⟨g0, g1, g2, g3, c0, c1, c2, c3, rfl, e0, e1, e2, e3, pr0, pr1, pr2, pr3, cr⟩, hb⟩
          have X5 := Aside0.mk (X4.out.below hb)
          have B5 : Aside0 (Below b w W5) := ⟨by rw [← hB] at B4 ⊢; exact B4.out.trans (hb.mono B4.out.size)⟩
          have HGR : Aside0 (((0 ≤ g0 ∧ g0 < 4294967296) ∧ (0 ≤ g1 ∧ g1 < 4294967296) ∧ (0 ≤ g2 ∧ g2 < 4294967296) ∧ (0 ≤ g3 ∧ g3 < 4294967296)) ∧ vl g0 g1 g2 g3 = vl t0 p1 p2 p3 - vl (dg D 0) (dg D 1) (dg D 2) (dg D 3) + 340282366920938463463374607431768211456 * c3 ∧ 0 ≤ c3 ∧ c3 ≤ 1) := ⟨⟨pr0, pr1, pr2, pr3⟩, by unfold vl; omega, cr⟩
          clear hb X4 B4 e0 e1 e2 e3 pr0 pr1 pr2 pr3 cr
          obtain ⟨N, hN⟩ : ∃ N, Go.bits .or .u64 Q1 (IntKind.u64.wrap (2 ^ s)) = N := ⟨_, rfl⟩
          have HN : Aside0 (Go.bits .or .u64 Q1 (IntKind.u64.wrap (2 ^ s)) = N) := ⟨hN⟩
          have X6 := Aside0.mk ((X5.out.setr g0 g1 g2 g3).setq1 N)
          have B6 : Aside0 (Below b w ((W5.setRow (b + 1 + 1 + 1 + 1 + 1) #[.int .u64 g0, .int .u64 g1, .int .u64 g2, .int .u64 g3, .bool false]).setCell ⟨b + 1 + 1 + 1 + 1, 1, none⟩ (.int .u64 N))) := ⟨(setRow_below2 B5.out (by omega) _).setCell (by simp; omega) _⟩
          obtain ⟨y0, y1, y2, y3, y4, yf⟩ := bcells (X5.out.setr g0 g1 g2 g3).q
          go_wp2_with ((with_reducible refine gate_store (t := 117) (p := 7) rfl ?_); refine wpList_bstore (cs' := #[.int .u64 g0, .int .u64 g1, .int .u64 g2, .int .u64 g3, .bool false]) rfl (.tmp 7) (.tmp 38) rfl rfl rfl X5.out.r rfl rfl (bg_one _ _ _ _ _) ?_)
          clear y0 y1 y2 y3 y4 yf hN X5 B5
          go_roundg (32 * 1 + s)
          case measure => omega
          case rel =>
            obtain ⟨f1, f2, f3⟩ := bit_no HD.out.1 HD.out.2.1 hs HP.out HPV.out.1 HPV.out.2 HT0.out HLS.out HGR.out.1 HGR.out.2.1 HGR.out.2.2 (by have := HD.out.2.2; omega)
            refine ⟨32 * 1 + s, g0, g1, g2, g3, congrArg (Value.int .i64) (by have := HI.out; omega), rfl, by omega, ⟨?_⟩, ⟨HGR.out.1, f1⟩, B6⟩
            rw [HQ.out.2.1, HN.out] at f3
            have h0 := fun (u : Nat) (h : u ≠ 1) => f2 u h
            rw [h0 0 (by decide), HQ.out.1, ← f3, h0 2 (by decide), HQ.out.2.2.1, h0 3 (by decide), HQ.out.2.2.2]
            exact X6.out
      · have q1 : I / 32 = 2 := by have := HI.out; omega
        have t1 : IntKind.i64.wrap (I.tdiv 32) = 2 := by rw [Int.tdiv_eq_ediv_of_nonneg i0, q1]; rfl
        have t2 : I.tmod 32 = (s : Int) := by rw [Int.tmod_eq_emod_of_nonneg i0]; exact q2
        have t3 : IntKind.u64.wrap (s : Int) = (s : Int) := wraps_u64 _ (by omega) (by omega)
        have t4 : IntKind.i64.wrap (s : Int) = (s : Int) := by rw [IntKind.wrap_i64]; omega
        obtain ⟨Q0, hQ0⟩ : ∃ Q, qd (A / D) 0 (32 * 2 + s + 1) = Q := ⟨_, rfl⟩
        obtain ⟨Q1, hQ1⟩ : ∃ Q, qd (A / D) 1 (32 * 2 + s + 1) = Q := ⟨_, rfl⟩
        obtain ⟨Q2, hQ2⟩ : ∃ Q, qd (A / D) 2 (32 * 2 + s + 1) = Q := ⟨_, rfl⟩
        obtain ⟨Q3, hQ3⟩ : ∃ Q, qd (A / D) 3 (32 * 2 + s + 1) = Q := ⟨_, rfl⟩
        rw [hQ0, hQ1, hQ2, hQ3] at X2
        have HQ := Aside0.mk (And.intro hQ0 (And.intro hQ1 (And.intro hQ2 hQ3)))
        clear hQ0 hQ1 hQ2 hQ3
        obtain ⟨t0, ht0⟩ : ∃ t, Go.bits .or .u64 p0 (Go.bits .and .u64 (dg A 2 / 2 ^ s) 1) = t := ⟨_, rfl⟩
        have HT0 : Aside0 (t0 = p0 + ((A / 2 ^ (32 * 2 + s) % 2 : Nat) : Int)) := ⟨by rw [← ht0]; exact bit_in A 2 s p0 (by omega) HP.out.1 HPV.out.2⟩
        obtain ⟨z0, z1, z2, z3, z4, zf⟩ := bcells X2.out.b
        go_still_tail 16, (by kernel_rfl)
        change wpList _ _ _ _ _ W2.drew
        go_wp2_with fail
        have X3 : Aside0 (QB ((W2.setCell ⟨b + 1 + 1 + 1 + 1 + 1, 0, none⟩ (.int .u64 t0)).drew) b A D n m Q0 Q1 Q2 Q3 t0 p1 p2 p3) := ⟨X2.out.setr0 t0⟩
        have B3 : Aside0 (Below b w ((W2.setCell ⟨b + 1 + 1 + 1 + 1 + 1, 0, none⟩ (.int .u64 t0)).drew)) := ⟨below_drew1 (B2.out.setCell (by simp; omega) _)⟩
        generalize (W2.setCell ⟨b + 1 + 1 + 1 + 1 + 1, 0, none⟩ (.int .u64 t0)).drew = W3 at X3 B3 ⊢
        clear ht0 x0 x1 x2 x3 x4 xf y0 y1 y2 y3 y4 yf z0 z1 z2 z3 z4 zf X2 B2
        refine (less_calls t0 p1 p2 p3 (dg D 0) (dg D 1) (dg D 2) (dg D 3) false m _).mono ?_
        rintro e W4 ⟨rfl, hb⟩
        have X4 := Aside0.mk (X3.out.below hb)
        have B4 : Aside0 (Below b w W4) := ⟨by rw [← hB] at B3 ⊢; exact B3.out.trans (hb.mono B3.out.size)⟩
        obtain ⟨ls, hls⟩ : ∃ l, less4 t0 p1 p2 p3 (dg D 0) (dg D 1) (dg D 2) (dg D 3) = l := ⟨_, rfl⟩
        rw [hls]
        have HLS := Aside0.mk hls
        clear hb X3 B3 hls
        obtain ⟨x0, x1, x2, x3, x4, xf⟩ := bcells X4.out.r
        obtain ⟨z0, z1, z2, z3, z4, zf⟩ := bcells X4.out.b
        cases ls with
        | true =>
          go_wp2_with fail
          clear x0 x1 x2 x3 x4 xf z0 z1 z2 z3 z4 zf
          go_roundg (32 * 2 + s)
          case measure => omega
          case rel =>
            obtain ⟨f1, f2, f3⟩ := bit_yes HD.out.1 HD.out.2.1 hs HP.out HPV.out.1 HPV.out.2 HT0.out HLS.out (by have := HD.out.2.2; omega)
            refine ⟨32 * 2 + s, t0, p1, p2, p3, congrArg (Value.int .i64) (by have := HI.out; omega), rfl, by omega, ⟨?_⟩, ⟨⟨f1, HP.out.2⟩, f2⟩, B4⟩
            rw [f3 0, f3 1, f3 2, f3 3, HQ.out.1, HQ.out.2.1, HQ.out.2.2.1, HQ.out.2.2.2]
            exact X4.out
        | false =>
          go_wp2_with fail
          clear x0 x1 x2 x3 x4 xf z0 z1 z2 z3 z4 zf
          refine (minus_calls t0 p1 p2 p3 (dg D 0) (dg D 1) (dg D 2) (dg D 3) false m ⟨bit_rng HP.out.1 HPV.out.2 HT0.out, HP.out.2⟩ ⟨dg_range D 0, dg_range D 1, dg_range D 2, dg_range D 3⟩ _).mono ?_
          rintro e W5 ⟨⟨g0, g1, g2, g3, c0, c1, c2, c3, rfl, e0, e1, e2, e3, pr0, pr1, pr2, pr3, cr⟩, hb⟩
          have X5 := Aside0.mk (X4.out.below hb)
          have B5 : Aside0 (Below b w W5) := ⟨by rw [← hB] at B4 ⊢; exact B4.out.trans (hb.mono B4.out.size)⟩
          have HGR : Aside0 (((0 ≤ g0 ∧ g0 < 4294967296) ∧ (0 ≤ g1 ∧ g1 < 4294967296) ∧ (0 ≤ g2 ∧ g2 < 4294967296) ∧ (0 ≤ g3 ∧ g3 < 4294967296)) ∧ vl g0 g1 g2 g3 = vl t0 p1 p2 p3 - vl (dg D 0) (dg D 1) (dg D 2) (dg D 3) + 340282366920938463463374607431768211456 * c3 ∧ 0 ≤ c3 ∧ c3 ≤ 1) := ⟨⟨pr0, pr1, pr2, pr3⟩, by unfold vl; omega, cr⟩
          clear hb X4 B4 e0 e1 e2 e3 pr0 pr1 pr2 pr3 cr
          obtain ⟨N, hN⟩ : ∃ N, Go.bits .or .u64 Q2 (IntKind.u64.wrap (2 ^ s)) = N := ⟨_, rfl⟩
          have HN : Aside0 (Go.bits .or .u64 Q2 (IntKind.u64.wrap (2 ^ s)) = N) := ⟨hN⟩
          have X6 := Aside0.mk ((X5.out.setr g0 g1 g2 g3).setq2 N)
          have B6 : Aside0 (Below b w ((W5.setRow (b + 1 + 1 + 1 + 1 + 1) #[.int .u64 g0, .int .u64 g1, .int .u64 g2, .int .u64 g3, .bool false]).setCell ⟨b + 1 + 1 + 1 + 1, 2, none⟩ (.int .u64 N))) := ⟨(setRow_below2 B5.out (by omega) _).setCell (by simp; omega) _⟩
          obtain ⟨y0, y1, y2, y3, y4, yf⟩ := bcells (X5.out.setr g0 g1 g2 g3).q
          go_wp2_with ((with_reducible refine gate_store (t := 117) (p := 7) rfl ?_); refine wpList_bstore (cs' := #[.int .u64 g0, .int .u64 g1, .int .u64 g2, .int .u64 g3, .bool false]) rfl (.tmp 7) (.tmp 38) rfl rfl rfl X5.out.r rfl rfl (bg_one _ _ _ _ _) ?_)
          clear y0 y1 y2 y3 y4 yf hN X5 B5
          go_roundg (32 * 2 + s)
          case measure => omega
          case rel =>
            obtain ⟨f1, f2, f3⟩ := bit_no HD.out.1 HD.out.2.1 hs HP.out HPV.out.1 HPV.out.2 HT0.out HLS.out HGR.out.1 HGR.out.2.1 HGR.out.2.2 (by have := HD.out.2.2; omega)
            refine ⟨32 * 2 + s, g0, g1, g2, g3, congrArg (Value.int .i64) (by have := HI.out; omega), rfl, by omega, ⟨?_⟩, ⟨HGR.out.1, f1⟩, B6⟩
            rw [HQ.out.2.2.1, HN.out] at f3
            have h0 := fun (u : Nat) (h : u ≠ 2) => f2 u h
            rw [h0 0 (by decide), HQ.out.1, h0 1 (by decide), HQ.out.2.1, ← f3, h0 3 (by decide), HQ.out.2.2.2]
            exact X6.out
      · have q1 : I / 32 = 3 := by have := HI.out; omega
        have t1 : IntKind.i64.wrap (I.tdiv 32) = 3 := by rw [Int.tdiv_eq_ediv_of_nonneg i0, q1]; rfl
        have t2 : I.tmod 32 = (s : Int) := by rw [Int.tmod_eq_emod_of_nonneg i0]; exact q2
        have t3 : IntKind.u64.wrap (s : Int) = (s : Int) := wraps_u64 _ (by omega) (by omega)
        have t4 : IntKind.i64.wrap (s : Int) = (s : Int) := by rw [IntKind.wrap_i64]; omega
        obtain ⟨Q0, hQ0⟩ : ∃ Q, qd (A / D) 0 (32 * 3 + s + 1) = Q := ⟨_, rfl⟩
        obtain ⟨Q1, hQ1⟩ : ∃ Q, qd (A / D) 1 (32 * 3 + s + 1) = Q := ⟨_, rfl⟩
        obtain ⟨Q2, hQ2⟩ : ∃ Q, qd (A / D) 2 (32 * 3 + s + 1) = Q := ⟨_, rfl⟩
        obtain ⟨Q3, hQ3⟩ : ∃ Q, qd (A / D) 3 (32 * 3 + s + 1) = Q := ⟨_, rfl⟩
        rw [hQ0, hQ1, hQ2, hQ3] at X2
        have HQ := Aside0.mk (And.intro hQ0 (And.intro hQ1 (And.intro hQ2 hQ3)))
        clear hQ0 hQ1 hQ2 hQ3
        obtain ⟨t0, ht0⟩ : ∃ t, Go.bits .or .u64 p0 (Go.bits .and .u64 (dg A 3 / 2 ^ s) 1) = t := ⟨_, rfl⟩
        have HT0 : Aside0 (t0 = p0 + ((A / 2 ^ (32 * 3 + s) % 2 : Nat) : Int)) := ⟨by rw [← ht0]; exact bit_in A 3 s p0 (by omega) HP.out.1 HPV.out.2⟩
        obtain ⟨z0, z1, z2, z3, z4, zf⟩ := bcells X2.out.b
        go_still_tail 16, (by kernel_rfl)
        change wpList _ _ _ _ _ W2.drew
        go_wp2_with fail
        have X3 : Aside0 (QB ((W2.setCell ⟨b + 1 + 1 + 1 + 1 + 1, 0, none⟩ (.int .u64 t0)).drew) b A D n m Q0 Q1 Q2 Q3 t0 p1 p2 p3) := ⟨X2.out.setr0 t0⟩
        have B3 : Aside0 (Below b w ((W2.setCell ⟨b + 1 + 1 + 1 + 1 + 1, 0, none⟩ (.int .u64 t0)).drew)) := ⟨below_drew1 (B2.out.setCell (by simp; omega) _)⟩
        generalize (W2.setCell ⟨b + 1 + 1 + 1 + 1 + 1, 0, none⟩ (.int .u64 t0)).drew = W3 at X3 B3 ⊢
        clear ht0 x0 x1 x2 x3 x4 xf y0 y1 y2 y3 y4 yf z0 z1 z2 z3 z4 zf X2 B2
        refine (less_calls t0 p1 p2 p3 (dg D 0) (dg D 1) (dg D 2) (dg D 3) false m _).mono ?_
        rintro e W4 ⟨rfl, hb⟩
        have X4 := Aside0.mk (X3.out.below hb)
        have B4 : Aside0 (Below b w W4) := ⟨by rw [← hB] at B3 ⊢; exact B3.out.trans (hb.mono B3.out.size)⟩
        obtain ⟨ls, hls⟩ : ∃ l, less4 t0 p1 p2 p3 (dg D 0) (dg D 1) (dg D 2) (dg D 3) = l := ⟨_, rfl⟩
        rw [hls]
        have HLS := Aside0.mk hls
        clear hb X3 B3 hls
        obtain ⟨x0, x1, x2, x3, x4, xf⟩ := bcells X4.out.r
        obtain ⟨z0, z1, z2, z3, z4, zf⟩ := bcells X4.out.b
        cases ls with
        | true =>
          go_wp2_with fail
          clear x0 x1 x2 x3 x4 xf z0 z1 z2 z3 z4 zf
          go_roundg (32 * 3 + s)
          case measure => omega
          case rel =>
            obtain ⟨f1, f2, f3⟩ := bit_yes HD.out.1 HD.out.2.1 hs HP.out HPV.out.1 HPV.out.2 HT0.out HLS.out (by have := HD.out.2.2; omega)
            refine ⟨32 * 3 + s, t0, p1, p2, p3, congrArg (Value.int .i64) (by have := HI.out; omega), rfl, by omega, ⟨?_⟩, ⟨⟨f1, HP.out.2⟩, f2⟩, B4⟩
            rw [f3 0, f3 1, f3 2, f3 3, HQ.out.1, HQ.out.2.1, HQ.out.2.2.1, HQ.out.2.2.2]
            exact X4.out
        | false =>
          go_wp2_with fail
          clear x0 x1 x2 x3 x4 xf z0 z1 z2 z3 z4 zf
          refine (minus_calls t0 p1 p2 p3 (dg D 0) (dg D 1) (dg D 2) (dg D 3) false m ⟨bit_rng HP.out.1 HPV.out.2 HT0.out, HP.out.2⟩ ⟨dg_range D 0, dg_range D 1, dg_range D 2, dg_range D 3⟩ _).mono ?_
          rintro e W5 ⟨⟨g0, g1, g2, g3, c0, c1, c2, c3, rfl, e0, e1, e2, e3, pr0, pr1, pr2, pr3, cr⟩, hb⟩
          have X5 := Aside0.mk (X4.out.below hb)
          have B5 : Aside0 (Below b w W5) := ⟨by rw [← hB] at B4 ⊢; exact B4.out.trans (hb.mono B4.out.size)⟩
          have HGR : Aside0 (((0 ≤ g0 ∧ g0 < 4294967296) ∧ (0 ≤ g1 ∧ g1 < 4294967296) ∧ (0 ≤ g2 ∧ g2 < 4294967296) ∧ (0 ≤ g3 ∧ g3 < 4294967296)) ∧ vl g0 g1 g2 g3 = vl t0 p1 p2 p3 - vl (dg D 0) (dg D 1) (dg D 2) (dg D 3) + 340282366920938463463374607431768211456 * c3 ∧ 0 ≤ c3 ∧ c3 ≤ 1) := ⟨⟨pr0, pr1, pr2, pr3⟩, by unfold vl; omega, cr⟩
          clear hb X4 B4 e0 e1 e2 e3 pr0 pr1 pr2 pr3 cr
          obtain ⟨N, hN⟩ : ∃ N, Go.bits .or .u64 Q3 (IntKind.u64.wrap (2 ^ s)) = N := ⟨_, rfl⟩
          have HN : Aside0 (Go.bits .or .u64 Q3 (IntKind.u64.wrap (2 ^ s)) = N) := ⟨hN⟩
          have X6 := Aside0.mk ((X5.out.setr g0 g1 g2 g3).setq3 N)
          have B6 : Aside0 (Below b w ((W5.setRow (b + 1 + 1 + 1 + 1 + 1) #[.int .u64 g0, .int .u64 g1, .int .u64 g2, .int .u64 g3, .bool false]).setCell ⟨b + 1 + 1 + 1 + 1, 3, none⟩ (.int .u64 N))) := ⟨(setRow_below2 B5.out (by omega) _).setCell (by simp; omega) _⟩
          obtain ⟨y0, y1, y2, y3, y4, yf⟩ := bcells (X5.out.setr g0 g1 g2 g3).q
          go_wp2_with ((with_reducible refine gate_store (t := 117) (p := 7) rfl ?_); refine wpList_bstore (cs' := #[.int .u64 g0, .int .u64 g1, .int .u64 g2, .int .u64 g3, .bool false]) rfl (.tmp 7) (.tmp 38) rfl rfl rfl X5.out.r rfl rfl (bg_one _ _ _ _ _) ?_)
          clear y0 y1 y2 y3 y4 yf hN X5 B5
          go_roundg (32 * 3 + s)
          case measure => omega
          case rel =>
            obtain ⟨f1, f2, f3⟩ := bit_no HD.out.1 HD.out.2.1 hs HP.out HPV.out.1 HPV.out.2 HT0.out HLS.out HGR.out.1 HGR.out.2.1 HGR.out.2.2 (by have := HD.out.2.2; omega)
            refine ⟨32 * 3 + s, g0, g1, g2, g3, congrArg (Value.int .i64) (by have := HI.out; omega), rfl, by omega, ⟨?_⟩, ⟨HGR.out.1, f1⟩, B6⟩
            rw [HQ.out.2.2.2, HN.out] at f3
            have h0 := fun (u : Nat) (h : u ≠ 3) => f2 u h
            rw [h0 0 (by decide), HQ.out.1, h0 1 (by decide), HQ.out.2.1, h0 2 (by decide), HQ.out.2.2.1, ← f3]
            exact X6.out
end Go.Proofs.Ytlmpoojpbdmmfaa.H
end
