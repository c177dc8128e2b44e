/- verify's follows: a state comes to all places that follow an instruction. The conditions: the boxes and the map lie in memory. -/
import Derived.Test.YtnaapecmooljaaaGoes19
set_option linter.unusedVariables false
set_option linter.unusedSimpArgs false
namespace Go.Proofs.Ytnaapecmooljaaa.H
open Go.RowKit Go.Proofs.YtnaapecmooljaaaW.PrintWords Go.Proofs.YtnaapecmooljaaaW.PrintLast Go.Proofs.YtnaapecmooljaaaW.PrintMore

/-- A state comes to all places that follow an instruction. -/
def folP (n : Nat) (m : Nat → Option Vst) (s : Vst) (p : Nat) (i : S26) : (Nat → Option Vst) × Int :=
  if i.f0 = 23 then (m, 0) else if i.f0 = 21 then goesP n m s (p + i.f1.toNat) 190
  else if i.f0 = 22 then (if (goesP n m s (p + 1) 195).2 = 0 then goesP n (goesP n m s (p + 1) 195).1 s (p + i.f1.toNat) 190 else goesP n m s (p + 1) 195)
  else goesP n m s (p + 1) 195
theorem goesP_at {n : Nat} {m : Nat → Option Vst} {s : Vst} {tg p : Nat} {be : Int} (h : p ≠ tg) : (goesP n m s tg be).1 p = m p := by
  unfold goesP
  split
  · rfl
  · split <;> simp [h]
theorem meetS_len {s t : Vst} (hs : s.has.length = 8) (ht : t.has.length = 8) : (meetS s t).1.has.length = 8 := by
  unfold meetS
  split
  · exact hs
  split
  · exact hs
  · simp [andL, hs, ht]
theorem goesP_ok {n : Nat} {m : Nat → Option Vst} {s : Vst} {tg : Nat} {be : Int} (hm : ∀ k x, m k = some x → x.has.length = 8) (hs : s.has.length = 8) : ∀ k x, (goesP n m s tg be).1 k = some x → x.has.length = 8 := by
  intro k x hx
  unfold goesP at hx
  split at hx
  · exact hm k x hx
  · split at hx
    · rename_i t ht
      by_cases e : k = tg
      · simp [e] at hx; subst hx; exact meetS_len (hm _ _ ht) hs
      · simp [e] at hx; exact hm k x hx
    · by_cases e : k = tg
      · simp [e] at hx; subst hx; exact hs
      · simp [e] at hx; exact hm k x hx
set_option maxHeartbeats 4000000 in
set_option maxRecDepth 100000 in
theorem vfollows_calls (w W : World) (lb ab sb p : Nat) (A : Option Addr) (n c : Nat) (M q : Nat) (m : Nat → Option Vst) (bl : Nat → Nat) (s : Vst) (i : S26)
    (h : VM w M q m bl W) (hl : W.heap[lb]? = some (.cells #[.slice A n c] 22 (0, 0))) (ha : W.heap[ab]? = some (.cells #[.map (some M)] 88 (0, 0))) (hsb : W.heap[sb]? = some (.cells #[.pointer (some ⟨bl p, 0, none⟩)] 84 (0, 0)))
    (hs : m p = some s) (hp : p ≤ 5000) (hq : q < 900000) (hok : ∀ k x, m k = some x → x.has.length = 8) (hw : w.heap.size ≤ W.heap.size) (hi : (1 ≤ i.f1 ∧ i.f1 ≤ 4096) ∨ (i.f0 ≠ 21 ∧ i.f0 ≠ 22)) :
    Calls Try.prog 49 #[.agg #[.int .u8 i.f0, .int .i64 i.f1], .int .i64 (p : Int), .func (.func 46) #[] #[.pointer (some ⟨lb, 0, none⟩), .pointer (some ⟨ab, 0, none⟩), .pointer (some ⟨sb, 0, none⟩)]] W fun e W' =>
      e = .returned (.int .i64 (folP n m s p i).2) ∧ ∃ bl', VM w M (q + 2) (folP n m s p i).1 bl' W' ∧ Keeps M m bl W W' ∧ bl' p = bl p ∧ Grows W.heap.size m bl (folP n m s p i).1 bl' := by
  obtain ⟨op, ar⟩ := i
  have hlb : lb < W.heap.size := (Array.getElem?_eq_some_iff.1 hl).1
  have hab : ab < W.heap.size := (Array.getElem?_eq_some_iff.1 ha).1
  have hsbl : sb < W.heap.size := (Array.getElem?_eq_some_iff.1 hsb).1
  have H1 := Aside0.mk (h.alloc (.cells #[.int .u8 op, .int .i64 ar] (26 : Nat)))
  have H := Aside0.mk h
  have E1 : Aside0 ((W.alloc (.cells #[.int .u8 op, .int .i64 ar] (26 : Nat))).heap[lb]? = some (.cells #[.slice A n c] 22 (0, 0))) := ⟨by rw [heap_alloc_old _ _ hlb]; exact hl⟩
  have E2 : Aside0 ((W.alloc (.cells #[.int .u8 op, .int .i64 ar] (26 : Nat))).heap[ab]? = some (.cells #[.map (some M)] 88 (0, 0))) := ⟨by rw [heap_alloc_old _ _ hab]; exact ha⟩
  have E3 : Aside0 ((W.alloc (.cells #[.int .u8 op, .int .i64 ar] (26 : Nat))).heap[sb]? = some (.cells #[.pointer (some ⟨bl p, 0, none⟩)] 84 (0, 0))) := ⟨by rw [heap_alloc_old _ _ hsbl]; exact hsb⟩
  have E4 : Aside0 ((W.alloc (.cells #[.int .u8 op, .int .i64 ar] (26 : Nat))).heap[W.heap.size]? = some (.cells #[.int .u8 op, .int .i64 ar] (26 : Nat) (0, 0))) := ⟨heap_alloc_new _ _⟩
  have E5 : Aside0 (Keeps M m bl W (W.alloc (.cells #[.int .u8 op, .int .i64 ar] (26 : Nat)))) := ⟨⟨rfl, rfl, rfl, by simp, fun k hk _ _ => heap_alloc_old _ _ hk⟩⟩
  have HS := Aside0.mk hs
  have HOK := Aside0.mk hok
  have HW : Aside0 (w.heap.size ≤ (W.alloc (.cells #[.int .u8 op, .int .i64 ar] (26 : Nat))).heap.size) := ⟨by simp; omega⟩
  have HZ : Aside0 (W.heap.size ≤ (W.alloc (.cells #[.int .u8 op, .int .i64 ar] (26 : Nat))).heap.size) := ⟨by simp⟩
  clear h hl ha hsb hs hok hlb hab hsbl hw
  have e1 : wrap64 ((p : Int) + 1) = (p : Int) + 1 := by unfold wrap64; omega
  have hcast : ((p + 1 : Nat) : Int) = (p : Int) + 1 := by omega
  by_cases o23 : op = 23
  · subst o23
    go_enter Try.func49, Try.ntmps49
    go_wp2
    go_ret
    refine ⟨by simp [folP], bl, ?_, E5.out, rfl, fun j hj => .inl ⟨by simpa [folP] using hj, rfl⟩⟩
    simp only [folP, if_true]
    obtain ⟨D, hD, hE⟩ := H1.out.own
    exact ⟨⟨D, hD.mono (by omega), hE⟩, H1.out.st, H1.out.inj, H1.out.low⟩
  by_cases o21 : op = 21
  · subst o21
    have hi' : 1 ≤ ar ∧ ar ≤ 4096 := by rcases hi with h | h; exact h; exact absurd rfl h.1
    have e2 : wrap64 ((p : Int) + ar) = (p : Int) + ar := by unfold wrap64; omega
    have hc2 : ((p + ar.toNat : Nat) : Int) = (p : Int) + ar := by omega
    go_enter Try.func49, Try.ntmps49
    go_wp2_with fail
    generalize W.alloc (.cells #[.int .u8 21, .int .i64 ar] (26 : Nat)) = W1 at H1 E1 E2 E3 E4 E5 HW HZ ⊢
    have G := goes_calls w W1 lb ab sb p A n c M q m bl s (p + ar.toNat) 190 H1.out E1.out E2.out E3.out HS.out (by omega) (by omega) (by omega) HOK.out HW.out
    rw [hc2] at G
    refine G.mono ?_
    clear G
    rintro e W2 ⟨rfl, bl1, hv, hk, hb, hg⟩
    go_wp2
    go_ret
    exact ⟨by simp [folP], bl1, by simpa [folP] using hv.more (by omega), E5.out.trans hk (Grows.refl _ _ _), hb, by simpa [folP] using (Grows.refl W.heap.size m bl).trans HZ.out hg⟩
  by_cases o22 : op = 22
  · subst o22
    have hi' : 1 ≤ ar ∧ ar ≤ 4096 := by rcases hi with h | h; exact h; exact absurd rfl h.2
    have e2 : wrap64 ((p : Int) + ar) = (p : Int) + ar := by unfold wrap64; omega
    have hc2 : ((p + ar.toNat : Nat) : Int) = (p : Int) + ar := by omega
    go_enter Try.func49, Try.ntmps49
    go_wp2_with fail
    generalize W.alloc (.cells #[.int .u8 22, .int .i64 ar] (26 : Nat)) = W1 at H1 E1 E2 E3 E4 E5 HW HZ ⊢
    have G := goes_calls w W1 lb ab sb p A n c M q m bl s (p + 1) 195 H1.out E1.out E2.out E3.out HS.out (by omega) (by omega) (by omega) HOK.out HW.out
    rw [hcast] at G
    refine G.mono ?_
    clear G
    rintro e W2 ⟨rfl, bl1, hv, hk, hb, hg⟩
    have X4 := hk.cells H1.out E4.out (by decide)
    have hm1 : (goesP n m s (p + 1) 195).1 p = some s := by rw [goesP_at (by omega)]; exact HS.out
    have hok1 := goesP_ok (n := n) (tg := p + 1) (be := 195) HOK.out (HOK.out p s HS.out)
    have eF : folP n m s p ⟨22, ar⟩ = if (goesP n m s (p + 1) 195).2 = 0 then goesP n (goesP n m s (p + 1) 195).1 s (p + ar.toNat) 190 else goesP n m s (p + 1) 195 := by simp [folP]
    have X1 := hk.cells H1.out E1.out (by decide)
    have X2 := hk.cells H1.out E2.out (by decide)
    have X3 := hk.cells H1.out E3.out (by decide)
    rw [← hb] at X3
    have HSZ : w.heap.size ≤ W2.heap.size := Nat.le_trans HW.out hk.size
    have HF := Aside0.mk eF
    clear eF
    generalize goesP n m s (p + 1) 195 = r1 at *
    have x0 : W2.cell? ⟨W.heap.size, 0, none⟩ = some (.int .u8 22) := by simp [World.cell?, X4]
    have x1 : W2.cell? ⟨W.heap.size, 1, none⟩ = some (.int .i64 ar) := by simp [World.cell?, X4]
    have HX := Aside0.mk (And.intro X1 (And.intro X2 (And.intro X3 (And.intro hm1 (And.intro hok1 HSZ)))))
    have HV := Aside0.mk hv
    have HK := Aside0.mk hk
    have HB := Aside0.mk hb
    have HG := Aside0.mk hg
    clear X1 X2 X3 X4 hm1 hok1 HSZ hv hk hb hg
    by_cases hr : r1.2 = 0
    · have q0 : (r1.2 != 0) = false := by simp [hr]
      have HR := Aside0.mk hr
      clear hr
      go_wp2_with fail
      have G := goes_calls w W2 lb ab sb p A n c M (q + 1) r1.1 bl1 s (p + ar.toNat) 190 HV.out HX.out.1 HX.out.2.1 HX.out.2.2.1 HX.out.2.2.2.1 (by omega) (by omega) (by omega) HX.out.2.2.2.2.1 HX.out.2.2.2.2.2
      rw [hc2] at G
      refine G.mono ?_
      clear G
      rintro e W3 ⟨rfl, bl2, hv2, hk2, hb2, hg2⟩
      go_wp2
      go_ret
      rw [HF.out, if_pos HR.out]
      exact ⟨rfl, bl2, hv2, (E5.out.trans HK.out (Grows.refl _ _ _)).trans hk2 ((Grows.refl _ _ _).trans HZ.out HG.out), hb2.trans HB.out, ((Grows.refl W.heap.size m bl).trans HZ.out HG.out).trans (Nat.le_trans HZ.out HK.out.size) hg2⟩
    · have q0 : (r1.2 != 0) = true := by simp [hr]
      have HR := Aside0.mk hr
      clear hr
      go_wp2
      go_ret
      rw [HF.out, if_neg HR.out]
      exact ⟨rfl, bl1, HV.out.more (by omega), E5.out.trans HK.out (Grows.refl _ _ _), HB.out, (Grows.refl W.heap.size m bl).trans HZ.out HG.out⟩
  · have q23 : (op == 23) = false := beq_eq_false_iff_ne.mpr o23
    have q21 : (op == 21) = false := beq_eq_false_iff_ne.mpr o21
    have q22 : (op != 22) = true := bne_iff_ne.mpr o22
    go_enter Try.func49, Try.ntmps49
    go_wp2_with fail
    generalize W.alloc (.cells #[.int .u8 op, .int .i64 ar] (26 : Nat)) = W1 at H1 E1 E2 E3 E4 E5 HW HZ ⊢
    have G := goes_calls w W1 lb ab sb p A n c M q m bl s (p + 1) 195 H1.out E1.out E2.out E3.out HS.out (by omega) (by omega) (by omega) HOK.out HW.out
    rw [hcast] at G
    refine G.mono ?_
    clear G
    rintro e W2 ⟨rfl, bl1, hv, hk, hb, hg⟩
    have X4 := hk.cells H1.out E4.out (by decide)
    have x0 : W2.cell? ⟨W.heap.size, 0, none⟩ = some (.int .u8 op) := by simp [World.cell?, X4]
    go_wp2
    go_ret
    exact ⟨by simp [folP, o23, o21, o22], bl1, by simpa [folP, o23, o21, o22] using hv.more (by omega), E5.out.trans hk (Grows.refl _ _ _), hb, by simpa [folP, o23, o21, o22] using (Grows.refl W.heap.size m bl).trans HZ.out hg⟩
end Go.Proofs.Ytnaapecmooljaaa.H
