/- A region that draws its order, inside a round of a range-over-func loop: from the walk outside all fences. The conditions: no operation defers; what follows holds nothing of a run that outgrew. -/
import Derived.Test.YtnaapecmooljaaaIter21
import Derived.StillTailTactics
import Derived.Orders
import Derived.OrdersIn
import Derived.Sort.QuietIn
namespace Go.Proofs.Ytnaapecmooljaaa.H
open Go

def noDefer (ops : Array Oper) : Bool := ops.all fun o => match o.op with | .defer _ => false | _ => true
theorem noDefer_spec {ops : Array Oper} (h : noDefer ops = true) {i : Nat} {o : Oper} (hi : ops[i]? = some o) : ∀ c, o.op ≠ .defer c := by
  intro c hc
  have hm : o ∈ ops := Array.mem_of_getElem? hi
  have := (Array.all_eq_true_iff_forall_mem.1 h) o hm
  rw [hc] at this
  cases this
theorem wpOpIn_of_wpOp {P : Program} {ops : Array Oper} {Q : Exit → Act → World → Prop} {n i l : Nat} {K K' : Act → World → Prop} {a : Act} {w : World} (hnd : noDefer ops = true) (hno : ¬ LetsOut Q) (hK : ∀ a w, K a w → K' a w)
    (h : wpOp P ops Q i K a w) : wpOpIn (Fence.wide.inRound l) n P ops Q i K' a w := by
  unfold wpOp at h
  unfold wpOpIn
  split at h
  · rename_i hi
    rw [hi]; exact hK _ _ h
  · rename_i o hi
    rw [hi]
    simp only
    split at h
    · rename_i hw
      rw [if_pos hw]
      rcases h with h | h
      · refine ⟨fun _ _ => trivial, ?_⟩
        rw [Oper.semAt_eq _ _ _ (noDefer_spec hnd hi)]
        unfold Oper.wp at h
        generalize (execOp a.eval o).run P w = r at h ⊢
        cases r with
        | ok x w' =>
          cases x <;> simp only [Oper.upon, Oper.uponIn] at h ⊢
          case value => exact hK _ _ h
          case skip => exact hK _ _ h
          case defer => exact hK _ _ h
          case enter f args =>
            refine ⟨fun h => (by cases h), ?_⟩
            exact callsIn_wide.2 (h.mono (fun e w he => by cases e <;> first | exact hK _ _ he | exact he))
          case row => exact ⟨fun h => (by cases h), fun c cs _ => let ⟨v, w', r, s⟩ := h c cs; ⟨v, w', hK _ _ r, stepsIn_wide.2 s⟩⟩
        | halt x w' => cases x <;> simp only [Oper.upon, Oper.uponIn] at h ⊢ <;> exact h
      · exact absurd h.2 hno
    · rename_i hw
      rw [if_neg hw]
      exact ⟨fun _ _ => trivial, hK _ _ h⟩
theorem wpAnyIn_of_wpAny {P : Program} {md : Region.Mode} {ops : Array Oper} {Q : Exit → Act → World → Prop} {n l : Nat} (hnd : noDefer ops = true) (hno : ¬ LetsOut Q) : ∀ (fuel : Nat) (listed : Array Bool) (a : Act) (w : World),
    wpAny P md ops Q fuel listed a w → wpAnyIn (Fence.wide.inRound l) n P md ops Q fuel listed a w
  | 0, _, _, _, h => h
  | fuel + 1, _, _, _, h => ⟨h.1, fun i hi => wpOpIn_of_wpOp hnd hno (fun a w => wpAnyIn_of_wpAny hnd hno fuel _ a w) (h.2 i hi)⟩
/-- Reads ahead of one last operation. -/
theorem tail_any {P : Program} {Q : Exit → Act → World → Prop} {a : Act} {W : World} {l : List Oper} (n : Nat) (hB : Region.lexTailB .any l.toArray n = true)
    (h : wpStill P l.toArray W (fun a' => wpList P l.toArray Q (l.drop n) a' W) (l.take n) a) : wpAny P .any l.toArray Q l.toArray.size (Array.replicate l.toArray.size false) a W := by
  simp only [Region.lexTailB, Bool.and_eq_true, decide_eq_true_eq] at hB
  have hsz : n < l.length := by simpa using hB.1.1.1.2
  have hlen : (l.take n).length = n := by simp; omega
  have hrest : (l.drop n).length = l.toArray.size - n := by simp
  have head := wpAnyL_lex (md := .any) (g := l.toArray.size - n) hB.1.1.1.1 hB.1.1.2 hB.1.2 hB.1.1.1.2 (l.take n) 0 (Array.replicate l.toArray.size false) a
    (fun j hj => by rw [hlen] at hj; simp [hj]) (by simpa using hlen)
    ⟨by simp, fun j oj _ hl => (by rw [getD_replicate_false] at hl; cases hl), fun t _ ht => getD_in (by simpa using ht) (getD_replicate_false _ _)⟩
    (by rw [hlen]; exact hB.2) h
  have whole := wpAny_of_head (Q' := Q) (g := l.toArray.size - n) (fun listed a' hL => by
    have t := wpAny_of_seq (md := .any) (Q' := Q) (l.drop n) n listed a' W (fun j => by simp [List.getElem?_drop]) (by rw [hrest]; exact hL.1) hL.2
    rwa [hrest] at t) _ _ _ head
  rwa [hlen, show n + (l.toArray.size - n) = l.toArray.size by omega] at whole
theorem wpIn_round_tail {P : Program} {id : Nat} {Q : Exit → Act → World → Prop} {a : Act} {w : World} {l : List Oper} {lo m : Nat} (n : Nat) (hm : P.follows .mixedOrders = true) (hnd : noDefer l.toArray = true) (hno : ¬ LetsOut Q)
    (hB : Region.lexTailB .any l.toArray n = true)
    (h : wpStill P l.toArray { w with drawn := w.drawn + 1 } (fun a' => wpList P l.toArray Q (l.drop n) a' { w with drawn := w.drawn + 1 }) (l.take n) a) : (Code.region id l.toArray true).wpIn (Fence.wide.inRound lo) m P Q a w :=
  wpIn_region_any hm (wpAnyIn_of_wpAny hnd hno _ _ _ _ (tail_any n hB h))
/-- A fence that lets nobody in: a quiet walk inside it makes no call. -/
def F0 : Fence := { Fence.wide with fn := fun _ => False }
theorem still_of_quiet {n : Nat} {P : Program} {ops : Array Oper} {C : World → Prop} {W : World} {Q : Act → Prop} (hW : C W) : ∀ (l : List Oper) (a : Act), wpQuietIn F0 n P ops C Q l a → wpStill P ops W Q l a
  | [], a, h => h
  | o :: l, a, h => by
    obtain ⟨_, h⟩ := h
    unfold wpStill
    split at h
    · rename_i hw
      rw [if_pos hw]
      obtain ⟨v, hv, hK⟩ := h
      have hv := hv W hW
      have hK := still_of_quiet hW l _ hK
      unfold Oper.quietAtIn at hv
      unfold Oper.still
      generalize (execOp a.eval o).run P W = r at hv ⊢
      cases r with
      | ok x w' =>
        cases x <;> simp only [Oper.quietUponIn, Oper.stillUpon] at hv ⊢
        case value => exact ⟨hv.1, by rw [hv.2]; exact hK⟩
        case skip => exact ⟨hv.1, by rw [← hv.2]; exact hK⟩
        case enter => exact hv.2.2.1.elim
      | halt x w' => simp only [Oper.quietUponIn] at hv
    · rename_i hw
      rw [if_neg hw]
      exact still_of_quiet hW l _ h
theorem wpIn_round_quiet_tail {P : Program} {id : Nat} {Q : Exit → Act → World → Prop} {a : Act} {w : World} {l : List Oper} {lo m : Nat} (n : Nat) (hm : P.follows .mixedOrders = true) (hnd : noDefer l.toArray = true) (hno : ¬ LetsOut Q)
    (hB : Region.lexTailB .any l.toArray n = true)
    (h : wpQuietIn F0 0 P l.toArray (fun w' => ∃ n, w' = w.drewN n) (fun a' => wpList P l.toArray Q (l.drop n) a' w.drew) (l.take n) a) : (Code.region id l.toArray true).wpIn (Fence.wide.inRound lo) m P Q a w :=
  wpIn_round_tail n hm hnd hno hB (still_of_quiet ⟨1, rfl⟩ _ _ h)
end Go.Proofs.Ytnaapecmooljaaa.H
