/- Part 2 of the proof of the law LL. The conditions: none. (Its parts: WApart WFoot WKept WShare WN WMore Lxa Shelf Lxb Lxc Lxd Lxe.) -/
import Derived.Test.YtpgdmghhbbekjaaGreatDoorProg
import Derived.KernelRfl
import Derived.WalkKit
import Derived.Lib.MinMax
import Derived.Shelf.Small.Strs
import Derived.Shelf.Utf8.RuneCount
import Derived.Shelf.Strconv.Itoa0
import Derived.Shelf.Strconv.Itoa1
import Derived.Shelf.LaysM
import Derived.Shelf.Strconv.Itoa2
import Derived.Shelf.Strconv.Itoa3
import Derived.Shelf.Strconv.ParseIntEmpty
import Derived.Shelf.Strconv.Clone
import Derived.Shelf.Strconv.SyntaxError
import Derived.Shelf.LaysC
import Derived.Shelf.Strconv.ToError
import Derived.Shelf.Strconv.Lower
import Derived.Shelf.Strconv.ParseUint10
import Derived.Shelf.Strconv.ParseUint10Empty
import Derived.Shelf.Strconv.ParseUint10Any
import Derived.Shelf.Strconv.ParseInt10
import Derived.Shelf.Strconv.RangeError
import Derived.Shelf.Strconv.ToErrorRange
import Derived.Shelf.Strconv.ParseUintEmpty
import Derived.Shelf.Strconv.ParseUint10b64
import Derived.Shelf.Strconv.ParseUint10b32
import Derived.Shelf.Strconv.ParseUint10b16
import Derived.Shelf.Strconv.ParseUint10b8
import Derived.Shelf.Strconv.ParseUint10At
import Derived.Shelf.Strconv.ParseInt10At64
import Derived.Shelf.Strconv.ParseInt10At32
import Derived.Shelf.Strconv.ParseInt10At16
import Derived.Shelf.Strconv.ParseInt10At8
import Derived.Shelf.Strconv.ParseInt10All
import Derived.Shelf.Strconv.ParseIntPublic10
import Derived.Shelf.Strconv.ErrVarParseInt
import Derived.Shelf.Strings.Search1
import Derived.Shelf.Strings.Search2
import Derived.Shelf.Strings.Search3
import Derived.Shelf.Strings.Count
import Derived.Shelf.Strings.Shaped
import Derived.Shelf.Strings.LastIndex
import Derived.Shelf.Strings.Prefix
import Derived.Shelf.Strings.Split
import Derived.Shelf.Strings.Fields
import Derived.Shelf.Strings.SplitShaped
import Derived.Shelf.Unicode.Latin
import Derived.Shelf.Strings.RuneCount
import Derived.Shelf.Unicode.Is16White
import Derived.Shelf.Unicode.IsSpaceAny
import Derived.Shelf.Unicode.Is16Any
import Derived.Shelf.Unicode.Is32Any
import Derived.Shelf.Unicode.ExclAny
import Derived.Maps.Own
import Derived.Maps.Views
import Derived.Maps.OwnSet
import Derived.StringKeys
import Derived.Lib.AppendIntMem
import Derived.Test.YtpgdmghhbbekjaaGreatDoorKLL01
section
namespace Go.Proofs.YtpgdmghhbbekjaaGreatDoorW.PrintWords
open Go.RowKit
namespace Kd
def tag {α : Type} (f : Nat → Nat) (d : Kd α) : Kd (α × Nat) where
  sz := d.sz
  E := d.E
  K := fun w x cs => d.K w x.1 cs
  M := fun w base ok x cs => d.M w base (fun k => ok k ∧ f k = x.2) x.1 cs
  K_len := fun h => d.K_len h
  K_one := fun h => d.K_one h
  K_below := fun hb h => d.K_below hb h
  K_of_M := fun h => d.K_of_M h
  M_mono := fun hok h => d.M_mono (fun k hk => ⟨hok k hk.1, hk.2⟩) h
  M_bound := fun h => d.M_mono (fun _ hk => ⟨⟨hk.1.1, hk.2⟩, hk.1.2⟩) (d.M_bound h)
  M_move := fun hm h => d.M_move (fun k hk => hm k hk.1) h
  M_lower := fun hb h => d.M_lower hb h
def raw (sz : Nat) : Kd (List Value) where
  sz := sz
  E := []
  K := fun _ x cs => cs = x ∧ cs.length = sz ∧ ∀ u ∈ cs, u.oneCell' = true
  M := fun _ _ _ x cs => cs = x ∧ cs.length = sz ∧ ∀ u ∈ cs, u.oneCell' = true
  K_len := fun h => h.2.1
  K_one := fun h => h.2.2
  K_below := fun _ h => h
  K_of_M := fun h => h
  M_mono := fun _ h => h
  M_bound := fun h => h
  M_move := fun _ h => h
  M_lower := fun _ h => h
def S {α : Type} (d : Kd α) (e : Nat) (w : World) (base : Nat) (ok : Nat → Prop) (v : Value) (xs : List α) : Prop := ∃ f, (tag f d).R e w base ok v xs.zipIdx
def gap {α : Type} (f : Nat → Nat) (d : Kd α) (i : Nat) (c : List Value) : Kd (α × Nat) where
  sz := d.sz
  E := d.E
  K := fun w x cs => (x.2 = i → cs = c ∧ cs.length = d.sz ∧ ∀ u ∈ cs, u.oneCell' = true) ∧ (x.2 ≠ i → d.K w x.1 cs)
  M := fun w base ok x cs => (x.2 = i → cs = c ∧ cs.length = d.sz ∧ ∀ u ∈ cs, u.oneCell' = true) ∧ (x.2 ≠ i → d.M w base (fun k => ok k ∧ f k = x.2) x.1 cs)
  K_len := fun {w x cs} h => by
    by_cases hx : x.2 = i
    · exact (h.1 hx).2.1
    · exact d.K_len (h.2 hx)
  K_one := fun {w x cs} h => by
    by_cases hx : x.2 = i
    · exact (h.1 hx).2.2
    · exact d.K_one (h.2 hx)
  K_below := fun hb h => ⟨h.1, fun hx => d.K_below hb (h.2 hx)⟩
  K_of_M := fun h => ⟨h.1, fun hx => d.K_of_M (h.2 hx)⟩
  M_mono := fun hok h => ⟨h.1, fun hx => d.M_mono (fun k hk => ⟨hok k hk.1, hk.2⟩) (h.2 hx)⟩
  M_bound := fun h => ⟨h.1, fun hx => d.M_mono (fun _ hk => ⟨⟨hk.1.1, hk.2⟩, hk.1.2⟩) (d.M_bound (h.2 hx))⟩
  M_move := fun hm h => ⟨h.1, fun hx => d.M_move (fun k hk => hm k hk.1) (h.2 hx)⟩
  M_lower := fun hb h => ⟨h.1, fun hx => d.M_lower hb (h.2 hx)⟩
def H {α : Type} (d : Kd α) (e : Nat) (w : World) (base : Nat) (ok : Nat → Prop) (v : Value) (xs : List α) (i : Int) (oki : Nat → Prop) (c : List Value) : Prop :=
  (∀ k, oki k → ok k) ∧ ∃ f, (gap f d i.toNat c).R e w base (fun k => ok k ∧ ¬ oki k) v xs.zipIdx
end Kd
end Go.Proofs.YtpgdmghhbbekjaaGreatDoorW.PrintWords
end
section
namespace Go.Proofs.YtpgdmghhbbekjaaGreatDoorW.PrintWords
open Go.RowKit
namespace Kd
structure Heap {α : Type} (d : Kd α) : Prop where
  K : ∀ {w w1 : World} {x : α} {cs : List Value}, (∀ k, k < w.heap.size → w1.heap[k]? = w.heap[k]?) → d.K w x cs → d.K w1 x cs
theorem cell_heap {w w1 : World} (hb : ∀ k, k < w.heap.size → w1.heap[k]? = w.heap[k]?) {a : Addr} {v : Value} (h : w.cell? a = some v) : w1.cell? a = some v := by
  have := hb a.block (World.block_lt_of_cell? w a h)
  simpa [World.cell?, this] using h
theorem Heap.C {α : Type} {d : Kd α} (hd : Heap d) {w w1 : World} {A : Option Addr} {n : Nat} {xs : List α} (hb : ∀ k, k < w.heap.size → w1.heap[k]? = w.heap[k]?) (h : d.C w A n xs) : d.C w1 A n xs :=
  ⟨h.1, h.2.1, fun hn => by
    obtain ⟨ad, e, hc⟩ := h.2.2 hn
    refine ⟨ad, e, fun j p hj => ?_⟩
    obtain ⟨c, hs, hr, hcell⟩ := hc j p hj
    exact ⟨c, hs, hd.K hb hr, fun i u hu => cell_heap hb (hcell i u hu)⟩⟩
end Kd
end Go.Proofs.YtpgdmghhbbekjaaGreatDoorW.PrintWords
end
section
namespace Go.Proofs.YtpgdmghhbbekjaaGreatDoorW.PrintWords
open Go.RowKit
def Kept (w W : World) (S : Nat → Prop) : Prop := w.heap.size ≤ W.heap.size ∧ ∀ i, i < w.heap.size → ¬ S i → W.heap[i]? = w.heap[i]?
section
variable {w W W2 : World} {S S2 S' : Nat → Prop}
theorem Kept.refl (w : World) (S : Nat → Prop) : Kept w w S := ⟨Nat.le_refl _, fun _ _ _ => rfl⟩
theorem Kept.of_below (h : Below w.heap.size w W) (S : Nat → Prop) : Kept w W S := ⟨h.size, fun i hi _ => h.block i hi⟩
theorem Kept.mono (h : Kept w W S) (hs : ∀ k, S k → S' k) : Kept w W S' := ⟨h.1, fun i hi hn => h.2 i hi (fun hk => hn (hs i hk))⟩
theorem Kept.then_ (h : Kept w W S) (k : Kept W W2 S2) (hs : ∀ k, S2 k → S k ∨ w.heap.size ≤ k) : Kept w W2 S :=
  ⟨Nat.le_trans h.1 k.1, fun i hi hn => (k.2 i (Nat.lt_of_lt_of_le hi h.1) (fun h2 => (hs i h2).elim hn (fun h3 => by omega))).trans (h.2 i hi hn)⟩
theorem Kept.below (h : Kept w W S) (hb : Below W.heap.size W W2) : Kept w W2 S := h.then_ (Kept.of_below hb (fun _ => False)) (fun _ hk => hk.elim)
theorem Kept.alloc (h : Kept w W S) (o : Obj) : Kept w (W.alloc o) S := h.below (below_alloc (Below.refl _ _) o)
theorem Kept.drew (h : Kept w W S) : Kept w W.drew S := h
theorem Kept.drewN (h : Kept w W S) (m : Nat) : Kept w (W.drewN m) S := h
theorem Kept.setCell (h : Kept w W S) {p : Addr} (hp : S p.block ∨ w.heap.size ≤ p.block) (u : Value) : Kept w (W.setCell p u) S :=
  h.then_ (S2 := fun k => k = p.block) ⟨by simp [World.setCell], fun i _ hn => Below.heap_setCell W p u i hn⟩ (fun k hk => by rw [hk]; exact hp)
end
end Go.Proofs.YtpgdmghhbbekjaaGreatDoorW.PrintWords
end
section
namespace Go.Proofs.YtpgdmghhbbekjaaGreatDoorW.PrintWords
open Go.RowKit
def Foot (P : World → Prop) (W : World) (ok : Nat → Prop) : Prop := ∀ W' : World, (∀ k, ok k → k < W.heap.size → W'.heap[k]? = W.heap[k]?) → P W'
theorem heap_lt {W W1 : World} {k : Nat} (h : W1.heap[k]? = W.heap[k]?) (hlt : k < W.heap.size) : k < W1.heap.size := by
  rw [Array.getElem?_eq_getElem hlt] at h
  exact (Array.getElem?_eq_some_iff.1 h).1
namespace Foot
variable {P Q : World → Prop} {W W1 : World} {ok ok' : Nat → Prop}
theorem mono (h : Foot P W ok) (hok : ∀ k, ok k → ok' k) : Foot P W ok' := fun W' hW => h W' (fun k hk hlt => hW k (hok k hk) hlt)
theorem step (h : Foot P W ok) (hm : ∀ k, ok k → k < W.heap.size → W1.heap[k]? = W.heap[k]?) : Foot P W1 ok := fun W' hW => h W' (fun k hk hlt => (hW k hk (heap_lt (hm k hk hlt) hlt)).trans (hm k hk hlt))
end Foot
namespace Kd
def F {α : Type} (d : Kd α) (W : World) (ok : Nat → Prop) (A : Option Addr) (n : Nat) (xs : List α) : Prop := Foot (fun W => d.C W A n xs) W ok
def FK {α : Type} (d : Kd α) (W : World) (ok : Nat → Prop) (x : α) (c : List Value) : Prop := Foot (fun W => d.K W x c) W ok
end Kd
end Go.Proofs.YtpgdmghhbbekjaaGreatDoorW.PrintWords
end
section
namespace Go.Proofs.YtpgdmghhbbekjaaGreatDoorW.PrintWords
open Go.RowKit
namespace Kd
section
variable {α : Type} {d : Kd α} {e base n cc g : Nat} {ok ok' okp S : Nat → Prop} {w w1 W W1 : World} {A : Option Addr} {u v v1 : Value} {xs : List α} {x : α} {c : List Value}
def N {α : Type} (d : Kd α) (e : Nat) (w : World) (base : Nat) (ok : Nat → Prop) (v : Value) (xs : List α) : Prop :=
  (∀ k, v.ownBlock = some k → ok k) ∧ ∃ rows : List (List Value), rows.length = xs.length ∧ (raw d.sz).R e w base (fun k => some k = v.ownBlock) v rows ∧ ∀ (j : Nat) (x : α) (c : List Value), xs[j]? = some x → rows[j]? = some c → FK d w (fun k => ok k ∧ some k ≠ v.ownBlock) x c
end
end Kd
end Go.Proofs.YtpgdmghhbbekjaaGreatDoorW.PrintWords
end
section
namespace Go.Proofs.YtpgdmghhbbekjaaGreatDoorW.PrintWords
open Go.RowKit
section
variable {P : Program} {ops : Array Oper} {rest : List Oper} {o : Oper} {a : Act} {Q : Exit → Act → World → Prop} {W : World}
theorem gate_builtin {b : Builtin} {xs : Array Operand} {ts : Array TypeId} (_ho : o.op = .call { callee := .builtin b, args := xs, argTypes := ts }) (h : wpList P ops Q (o :: rest) a W) : wpList P ops Q (o :: rest) a W := h
end
end Go.Proofs.YtpgdmghhbbekjaaGreatDoorW.PrintWords
end
section
set_option linter.unusedVariables false
set_option linter.unusedSimpArgs false
namespace Go.Proofs.YtpgdmghhbbekjaaGreatDoor.L
open Go.RowKit Go.Proofs.YtpgdmghhbbekjaaGreatDoorW.PrintWords Go.Proofs.YtpgdmghhbbekjaaGreatDoorW.PrintLast
def letterB (c : Int) : Bool := decide ((65 ≤ c ∧ c ≤ 90) ∨ (97 ≤ c ∧ c ≤ 122) ∨ c = 95)
def digitB (c : Int) : Bool := decide (48 ≤ c ∧ c ≤ 57)
def namedB (c : Int) : Bool := letterB c || digitB c
def lineB (c : Int) : Bool := c != 10
theorem or32 : ∀ c : Fin 256, (decide (97 ≤ Go.bits .or .u8 (c.val : Int) 32) && decide (Go.bits .or .u8 (c.val : Int) 32 ≤ 122) || (c.val : Int) == 95) = letterB (c.val : Int) := by decide +kernel
theorem or32' {c : Int} (h0 : 0 ≤ c) (h1 : c ≤ 255) : (decide (97 ≤ Go.bits .or .u8 c 32) && decide (Go.bits .or .u8 c 32 ≤ 122) || c == 95) = letterB c := by
  have := or32 ⟨c.toNat, by omega⟩
  simpa [Int.toNat_of_nonneg h0] using this
theorem letter_calls {c : Int} (h0 : 0 ≤ c) (h1 : c ≤ 255) (w : World) : Calls Tryz.prog 25 #[.int .u8 c] w fun e w' => e = .returned (.bool (letterB c)) ∧ w = w' := by
  have H := Aside0.mk (or32' h0 h1)
  obtain ⟨x, hx⟩ : ∃ x, Go.bits .or .u8 c 32 = x := ⟨_, rfl⟩
  rw [hx] at H
  obtain ⟨b, hb⟩ : ∃ b, letterB c = b := ⟨_, rfl⟩
  rw [hb] at H ⊢
  clear hb
  by_cases c1 : 97 ≤ x
  · by_cases c2 : x ≤ 122
    · have d1 : decide (97 ≤ x) = true := decide_eq_true c1
      have d2 : decide (x ≤ 122) = true := decide_eq_true c2
      obtain rfl : true = b := by have := H.out; rw [d1, d2] at this; simpa using this
      go_enter Tryz.func25, Tryz.ntmps25
      go_wp2
      go_ret
      exact ⟨rfl, rfl⟩
    · have d1 : decide (97 ≤ x) = true := decide_eq_true c1
      have d2 : decide (x ≤ 122) = false := decide_eq_false c2
      obtain rfl : (c == 95) = b := by have := H.out; rw [d1, d2] at this; simpa using this
      clear H
      go_enter Tryz.func25, Tryz.ntmps25
      go_wp2
      go_ret
      exact ⟨rfl, rfl⟩
  · have d1 : decide (97 ≤ x) = false := decide_eq_false c1
    obtain rfl : (c == 95) = b := by have := H.out; rw [d1] at this; simpa using this
    clear H
    go_enter Tryz.func25, Tryz.ntmps25
    go_wp2
    go_ret
    exact ⟨rfl, rfl⟩
theorem digit_calls {c : Int} (w : World) : Calls Tryz.prog 30 #[.int .u8 c] w fun e w' => e = .returned (.bool (digitB c)) ∧ w = w' := by
  by_cases c1 : 48 ≤ c
  · have d1 : decide (48 ≤ c) = true := decide_eq_true c1
    have e : digitB c = decide (c ≤ 57) := by simp [digitB, c1]
    rw [e]
    clear e
    go_enter Tryz.func30, Tryz.ntmps30
    go_wp2
    go_ret
    exact ⟨rfl, rfl⟩
  · have d1 : decide (48 ≤ c) = false := decide_eq_false c1
    have e : digitB c = false := by simp [digitB, c1]
    rw [e]
    clear e
    go_enter Tryz.func30, Tryz.ntmps30
    go_wp2
    go_ret
    exact ⟨rfl, rfl⟩
theorem named_calls {c : Int} (h0 : 0 ≤ c) (h1 : c ≤ 255) (w : World) : Calls Tryz.prog 27 #[.int .u8 c] w fun e w' => e = .returned (.bool (namedB c)) ∧ w = w' := by
  have hl := letter_calls h0 h1 w
  unfold namedB
  cases hb : letterB c with
  | true =>
    rw [hb] at hl
    have HL := Aside0.mk hl
    clear hl hb
    go_enter Tryz.func27, Tryz.ntmps27
    go_wp2_with fail
    refine HL.out.mono ?_
    rintro e w' ⟨rfl, rfl⟩
    go_wp2
    go_ret
    exact ⟨rfl, rfl⟩
  | false =>
    rw [hb] at hl
    have HL := Aside0.mk hl
    clear hl hb
    go_enter Tryz.func27, Tryz.ntmps27
    go_wp2_with fail
    refine HL.out.mono ?_
    rintro e w' ⟨rfl, rfl⟩
    go_wp2_with fail
    refine (digit_calls w).mono ?_
    rintro e w' ⟨rfl, rfl⟩
    go_wp2
    go_ret
    exact ⟨rfl, rfl⟩
theorem line_calls {c : Int} (w : World) : Calls Tryz.prog 29 #[.int .u8 c] w fun e w' => e = .returned (.bool (lineB c)) ∧ w = w' := by
  go_enter Tryz.func29, Tryz.ntmps29
  go_wp2
  go_ret
  exact ⟨rfl, rfl⟩
def spn (p : Int → Bool) (s : ByteArray) : Nat → Nat → Nat
  | 0, i => i
  | n + 1, i => if p (bt s (i : Int)) = true then spn p s n (i + 1) else i
theorem spn_le (p : Int → Bool) (s : ByteArray) : ∀ n i, i ≤ spn p s n i ∧ spn p s n i ≤ i + n
  | 0, i => ⟨Nat.le_refl _, Nat.le_refl _⟩
  | n + 1, i => by
    rw [spn]
    have := spn_le p s n (i + 1)
    split <;> omega
set_option maxHeartbeats 4000000 in
theorem span_calls (g : FuncId) (p : Int → Bool) (hp : ∀ (c : Int) (w : World), 0 ≤ c → c ≤ 255 → Calls Tryz.prog g #[.int .u8 c] w fun e w' => e = .returned (.bool (p c)) ∧ w = w')
    (eg : ∀ args w, (callFunc g args).run Tryz.prog w = .ok (.enter g args) w) (s : ByteArray) (hs : s.size ≤ 140737488355328) (w : World) :
    Calls Tryz.prog 26 #[.string s, .func (.func g) #[] #[]] w fun e w' => e = .returned (.int .i64 (spn p s s.size 0 : Nat)) ∧ w = w' := by
  have HP := Aside0.mk hp
  clear hp
  obtain ⟨res, hres⟩ : ∃ r : Nat, spn p s s.size 0 = r := ⟨_, rfl⟩
  rw [hres]
  have HR := Aside0.mk hres
  clear hres
  go_enter Tryz.func26, Tryz.ntmps26
  go_wp2
  go_loopg [8] (s.size) (fun kq v8 wr => ∃ (i : Nat), v8 = .int .i64 (i : Int) ∧ Aside0 (kq + i = s.size) ∧ Aside0 (spn p s kq i = res) ∧ w = wr)
  case atStart => exact ⟨0, rfl, ⟨by omega⟩, HR, rfl⟩
  case round =>
    obtain ⟨i, rfl, HK, HI, rfl⟩ := hrel
    by_cases hi : i < s.size
    · have dl : decide ((i : Int) < (s.size : Int)) = true := decide_eq_true (by omega)
      obtain ⟨go, rfl⟩ : ∃ go, gk = go + 1 := ⟨gk - 1, by have := HK.out; omega⟩
      have hsp := HI.out
      rw [spn] at hsp
      obtain ⟨b0, b1⟩ := bt_range s (i : Int)
      have hcl := HP.out (bt s (i : Int)) w b0 b1
      cases hb : p (bt s (i : Int)) with
      | true =>
        rw [hb] at hsp hcl
        rw [if_pos rfl] at hsp
        have HC := Aside0.mk hcl
        have HS := Aside0.mk hsp
        have q6 : ((i : Int) < (s.size : Int)) = True := eq_true (by omega)
        have p6 : (0 ≤ (i : Int)) = True := eq_true (by omega)
        have hx6 : ((s[i]'hi).toNat : Int) = bt s (i : Int) := by have := bt_at s (i : Int) (by simpa using hi); simpa using this
        clear hsp hcl hb HI b0 b1
        go_wp2_with fail
        refine HC.out.mono ?_
        rintro e w' ⟨rfl, rfl⟩
        clear hx6 HC
        go_wp2
        go_roundg go
        case measure => omega
        case rel => exact ⟨i + 1, by simp, ⟨by have := HK.out; omega⟩, HS, rfl⟩
      | false =>
        rw [hb] at hsp hcl
        rw [if_neg (by decide)] at hsp
        have HC := Aside0.mk hcl
        have HS := Aside0.mk hsp
        have q6 : ((i : Int) < (s.size : Int)) = True := eq_true (by omega)
        have p6 : (0 ≤ (i : Int)) = True := eq_true (by omega)
        have hx6 : ((s[i]'hi).toNat : Int) = bt s (i : Int) := by have := bt_at s (i : Int) (by simpa using hi); simpa using this
        clear hcl hb HR hsp HI b0 b1
        have hs2 := HS.out
        subst hs2
        go_wp2_with fail
        refine HC.out.mono ?_
        rintro e w' ⟨rfl, rfl⟩
        clear hx6 HC
        go_wp2
        go_ret
        exact ⟨rfl, rfl⟩
    · have dl : decide ((i : Int) < (s.size : Int)) = false := decide_eq_false (by omega)
      have dl2 : decide (i < s.size) = false := decide_eq_false (by omega)
      have hk0 : gk = 0 := by have := HK.out; omega
      have hsp := HI.out
      rw [hk0, spn] at hsp
      have HS : Aside0 (s.size = res) := ⟨by have := HK.out; omega⟩
      clear HR hsp HI hi hk0
      have hs2 := HS.out
      subst hs2
      go_wp2
      go_ret
      exact ⟨rfl, rfl⟩
end Go.Proofs.YtpgdmghhbbekjaaGreatDoor.L
end
section
namespace Go.Proofs
open Go.Shelf
def Tryz.lays137_ren : Go.Shelf.Ren := ⟨fun | 137 => 51 | 217 => 64 | 266 => 74 | n => n, fun | 9 => 9 | 5 => 5 | 3 => 3 | n => n, fun | n => n⟩
theorem Tryz.lays137 : Go.Proofs.Lays.n137 Tryz.prog Tryz.lays137_ren := {
  mixed := by kernel_rfl
  f137 := Tryz.func51.trans (congrArg some (by kernel_rfl))
  f217 := Tryz.func64.trans (congrArg some (by kernel_rfl))
  f266 := Tryz.func74.trans (congrArg some (by kernel_rfl))
  t3 := Tryz.underlying3
  a3 := Tryz.isAgg3
  z3 := Tryz.sizeOf3
  v3 := Tryz.zeroValue3
  t5 := Tryz.underlying5
  a5 := Tryz.isAgg5
  z5 := Tryz.sizeOf5
  v5 := Tryz.zeroValue5
  t9 := Tryz.underlying9
  a9 := Tryz.isAgg9
  z9 := Tryz.sizeOf9
  v9 := Tryz.zeroValue9 }
open Go.RowKit in
theorem Tryz.strings_IndexByte (s : ByteArray) (c : Int) (w : World) :
    Calls Tryz.prog 51 #[.string s, .int .u8 c] w fun e w' => e = .returned (.int .i64 (Lib.indexByte s.data.toList c.toNat.toUInt8)) ∧ w' = w := Any.strings_IndexByte Tryz.lays137 s c w
def Tryz.laysC174_ren : Go.Shelf.Ren := ⟨fun | 174 => 31 | 247 => 48 | 245 => 49 | 287 => 59 | 279 => 60 | 280 => 61 | 281 => 62 | 282 => 63 | 321 => 69 | 322 => 70 | 316 => 71 | 171 => 73 | 205 => 72 | 243 => 78 | 246 => 79 | 283 => 80 | 284 => 81 | 285 => 82 | 286 => 83 | 129 => 85 | 317 => 84 | 318 => 86 | 319 => 87 | 320 => 88 | 337 => 89 | 338 => 90 | n => n, fun | 9 => 9 | 3 => 3 | 2 => 2 | 75 => 25 | 85 => 65 | 4 => 4 | 167 => 105 | 5 => 5 | 53 => 96 | 175 => 106 | 46 => 108 | 168 => 109 | 37 => 37 | 0 => 0 | 210 => 122 | 21 => 21 | 127 => 138 | 145 => 141 | 143 => 139 | 171 => 145 | 173 => 148 | 212 => 151 | 51 => 116 | 20 => 20 | 213 => 152 | 232 => 156 | 233 => 157 | 80 => 158 | n => n, fun | 15 => 4 | 16 => 5 | 17 => 6 | 18 => 7 | 19 => 8 | n => n⟩
theorem Tryz.laysC174 : Go.Proofs.LaysC.n174 Tryz.prog Tryz.laysC174_ren := {
  mixed := by kernel_rfl
  f129 := Tryz.func85.trans (congrArg some (by kernel_rfl))
  f171 := Tryz.func73.trans (congrArg some (by kernel_rfl))
  f174 := Tryz.func31.trans (congrArg some (by kernel_rfl))
  f205 := Tryz.func72.trans (congrArg some (by kernel_rfl))
  f243 := Tryz.func78.trans (congrArg some (by kernel_rfl))
  f245 := Tryz.func49.trans (congrArg some (by kernel_rfl))
  f246 := Tryz.func79.trans (congrArg some (by kernel_rfl))
  f247 := Tryz.func48.trans (congrArg some (by kernel_rfl))
  f279 := Tryz.func60.trans (congrArg some (by kernel_rfl))
  f280 := Tryz.func61.trans (congrArg some (by kernel_rfl))
  f281 := Tryz.func62.trans (congrArg some (by kernel_rfl))
  f282 := Tryz.func63.trans (congrArg some (by kernel_rfl))
  f283 := Tryz.func80.trans (congrArg some (by kernel_rfl))
  f284 := Tryz.func81.trans (congrArg some (by kernel_rfl))
  f285 := Tryz.func82.trans (congrArg some (by kernel_rfl))
  f286 := Tryz.func83.trans (congrArg some (by kernel_rfl))
  f287 := Tryz.func59.trans (congrArg some (by kernel_rfl))
  f316 := Tryz.func71.trans (congrArg some (by kernel_rfl))
  f317 := Tryz.func84.trans (congrArg some (by kernel_rfl))
  f318 := Tryz.func86.trans (congrArg some (by kernel_rfl))
  f319 := Tryz.func87.trans (congrArg some (by kernel_rfl))
  f320 := Tryz.func88.trans (congrArg some (by kernel_rfl))
  f321 := Tryz.func69.trans (congrArg some (by kernel_rfl))
  f322 := Tryz.func70.trans (congrArg some (by kernel_rfl))
  f337 := Tryz.func89.trans (congrArg some (by kernel_rfl))
  f338 := Tryz.func90.trans (congrArg some (by kernel_rfl))
  t0 := Tryz.underlying0
  a0 := Tryz.isAgg0
  z0 := Tryz.sizeOf0
  v0 := Tryz.zeroValue0
  t2 := Tryz.underlying2
  a2 := Tryz.isAgg2
  z2 := Tryz.sizeOf2
  v2 := Tryz.zeroValue2
  t3 := Tryz.underlying3
  a3 := Tryz.isAgg3
  z3 := Tryz.sizeOf3
  v3 := Tryz.zeroValue3
  t4 := Tryz.underlying4
  a4 := Tryz.isAgg4
  z4 := Tryz.sizeOf4
  v4 := Tryz.zeroValue4
  t5 := Tryz.underlying5
  a5 := Tryz.isAgg5
  z5 := Tryz.sizeOf5
  v5 := Tryz.zeroValue5
  t9 := Tryz.underlying9
  a9 := Tryz.isAgg9
  z9 := Tryz.sizeOf9
  v9 := Tryz.zeroValue9
  t20 := Tryz.underlying20
  a20 := Tryz.isAgg20
  z20 := Tryz.sizeOf20
  v20 := Tryz.zeroValue20
  t21 := Tryz.underlying21
  a21 := Tryz.isAgg21
  z21 := Tryz.sizeOf21
  v21 := Tryz.zeroValue21
  t37 := Tryz.underlying37
  a37 := Tryz.isAgg37
  z37 := Tryz.sizeOf37
  v37 := Tryz.zeroValue37
  t46 := Tryz.underlying108
  a46 := Tryz.isAgg108
  z46 := Tryz.sizeOf108
  v46 := Tryz.zeroValue108
  t51 := Tryz.underlying116
  a51 := Tryz.isAgg116
  z51 := Tryz.sizeOf116
  v51 := Tryz.zeroValue116
  t53 := Tryz.underlying96
  a53 := Tryz.isAgg96
  z53 := Tryz.sizeOf96
  v53 := Tryz.zeroValue96
  t75 := Tryz.underlying25
  a75 := Tryz.isAgg25
  z75 := Tryz.sizeOf25
  v75 := Tryz.zeroValue25
  t85 := Tryz.underlying65
  a85 := Tryz.isAgg65
  z85 := Tryz.sizeOf65
  v85 := Tryz.zeroValue65
  t127 := Tryz.underlying138
  a127 := Tryz.isAgg138
  z127 := Tryz.sizeOf138
  v127 := Tryz.zeroValue138
  t143 := Tryz.underlying139
  a143 := Tryz.isAgg139
  z143 := Tryz.sizeOf139
  v143 := Tryz.zeroValue139
  t145 := Tryz.underlying141
  a145 := Tryz.isAgg141
  z145 := Tryz.sizeOf141
  v145 := Tryz.zeroValue141
  t167 := Tryz.underlying105
  a167 := Tryz.isAgg105
  z167 := Tryz.sizeOf105
  v167 := Tryz.zeroValue105
  t168 := Tryz.underlying109
  a168 := Tryz.isAgg109
  z168 := Tryz.sizeOf109
  v168 := Tryz.zeroValue109
  t171 := Tryz.underlying145
  a171 := Tryz.isAgg145
  z171 := Tryz.sizeOf145
  v171 := Tryz.zeroValue145
  t173 := Tryz.underlying148
  a173 := Tryz.isAgg148
  z173 := Tryz.sizeOf148
  v173 := Tryz.zeroValue148
  t175 := Tryz.underlying106
  a175 := Tryz.isAgg106
  z175 := Tryz.sizeOf106
  v175 := Tryz.zeroValue106
  t210 := Tryz.underlying122
  a210 := Tryz.isAgg122
  z210 := Tryz.sizeOf122
  v210 := Tryz.zeroValue122
  t212 := Tryz.underlying151
  a212 := Tryz.isAgg151
  z212 := Tryz.sizeOf151
  v212 := Tryz.zeroValue151
  t213 := Tryz.underlying152
  a213 := Tryz.isAgg152
  z213 := Tryz.sizeOf152
  t232 := Tryz.underlying156
  a232 := Tryz.isAgg156
  z232 := Tryz.sizeOf156
  v232 := Tryz.zeroValue156
  t233 := Tryz.underlying157
  a233 := Tryz.isAgg157
  z233 := Tryz.sizeOf157
  v233 := Tryz.zeroValue157
  g15 := by kernel_rfl
  g16 := by kernel_rfl
  g17 := by kernel_rfl
  g18 := by kernel_rfl
  g19 := by kernel_rfl
  t80 := Tryz.underlying158
  a80 := Tryz.isAgg158
  z80 := Tryz.sizeOf158
  v80 := Tryz.zeroValue158
  i0 := by kernel_rfl
  i2 := by kernel_rfl
  i3 := by kernel_rfl
  i4 := by kernel_rfl
  i5 := by kernel_rfl
  i9 := by kernel_rfl
  i20 := by kernel_rfl
  i21 := by kernel_rfl
  i37 := by kernel_rfl
  i46 := by kernel_rfl
  i51 := by kernel_rfl
  i53 := by kernel_rfl
  i75 := by kernel_rfl
  i80 := by kernel_rfl
  i85 := by kernel_rfl
  i127 := by kernel_rfl
  i143 := by kernel_rfl
  i145 := by kernel_rfl
  i167 := by kernel_rfl
  i168 := by kernel_rfl
  i171 := by kernel_rfl
  i173 := by kernel_rfl
  i175 := by kernel_rfl
  i210 := by kernel_rfl
  i212 := by kernel_rfl
  i232 := by kernel_rfl
  i233 := by kernel_rfl
  m15 := by kernel_rfl
  m16 := by kernel_rfl
  m17 := by kernel_rfl
  m18 := by kernel_rfl
  m19 := by kernel_rfl
  c0 := by kernel_rfl
  c2 := by kernel_rfl
  c3 := by kernel_rfl
  c4 := by kernel_rfl
  c5 := by kernel_rfl
  c9 := by kernel_rfl
  c20 := by kernel_rfl
  c21 := by kernel_rfl
  c37 := by kernel_rfl
  c46 := by kernel_rfl
  c51 := by kernel_rfl
  c53 := by kernel_rfl
  c75 := by kernel_rfl
  c80 := by kernel_rfl
  c85 := by kernel_rfl
  c127 := by kernel_rfl
  c143 := by kernel_rfl
  c145 := by kernel_rfl
  c167 := by kernel_rfl
  c168 := by kernel_rfl
  c171 := by kernel_rfl
  c173 := by kernel_rfl
  c175 := by kernel_rfl
  c210 := by kernel_rfl
  c212 := by kernel_rfl
  c213 := by kernel_rfl
  c232 := by kernel_rfl
  c233 := by kernel_rfl }
open Go.RowKit in
theorem Tryz.strconv_ParseInt_10_at64_ok (s : ByteArray) (hmax : s.size ≤ 9223372036854775806) (v : Int) (h : Lib.parseIntB 64 s.data.toList = .ok v) (w : World) :
    Calls Tryz.prog 31 #[.string s, .int .i64 10, .int .i64 64] w fun e w' => e = .returned (.tuple #[.int .i64 v, .nilIface]) ∧ (w' = w ∨ ∃ t, w' = Lib.bytesWorld w 5 t) := Any.strconv_ParseInt_10_at64_ok Tryz.laysC174 s hmax v h w
open Go.RowKit in
theorem Tryz.strconv_ParseInt_10_at64_syntax_var (s : ByteArray) (hlim : s.size ≤ 281474976710656) (h : Lib.parseIntB 64 s.data.toList = Lib.NumEnd.syntax) (tp : TypeId) (p : Value) (w : World) (hvar : w.var? Tryz.prog "strconv.ErrSyntax" = some #[.iface tp p]) :
    Calls Tryz.prog 31 #[.string s, .int .i64 10, .int .i64 64] w fun e w' => ∃ N, e = .returned (.tuple #[.int .i64 (0), .iface 109 (.pointer (some ⟨N, 0, none⟩))]) ∧ w.heap.size ≤ N ∧ w'.heap[N]? = some (.cells #[.string ⟨#[80, 97, 114, 115, 101, 73, 110, 116]⟩, .string s, .iface tp p] 122 (0, 0)) ∧ Below w.heap.size w w' := Any.strconv_ParseInt_10_at64_syntax_var Tryz.laysC174 s hlim h tp p w hvar
open Go.RowKit in
theorem Tryz.strconv_ParseInt_10_at64_range_var (s : ByteArray) (hlim : s.size ≤ 281474976710656) (h : Lib.parseIntB 64 s.data.toList = .range) (tp : TypeId) (p : Value) (w : World) (hvar : w.var? Tryz.prog "strconv.ErrRange" = some #[.iface tp p]) :
    Calls Tryz.prog 31 #[.string s, .int .i64 10, .int .i64 64] w fun e w' => ∃ N, e = .returned (.tuple #[.int .i64 (Lib.intSat 64 s.data.toList), .iface 109 (.pointer (some ⟨N, 0, none⟩))]) ∧ w.heap.size ≤ N ∧ w'.heap[N]? = some (.cells #[.string ⟨#[80, 97, 114, 115, 101, 73, 110, 116]⟩, .string s, .iface tp p] 122 (0, 0)) ∧ Below w.heap.size w w' := Any.strconv_ParseInt_10_at64_range_var Tryz.laysC174 s hlim h tp p w hvar
def Tryz.lays138_ren : Go.Shelf.Ren := ⟨fun | 138 => 20 | 195 => 42 | 218 => 43 | 143 => 44 | 219 => 56 | 217 => 64 | 225 => 65 | 224 => 66 | 267 => 67 | 266 => 74 | 314 => 75 | n => n, fun | 9 => 9 | 3 => 3 | 4 => 4 | 5 => 5 | 0 => 0 | 46 => 108 | 146 => 125 | 51 => 116 | n => n, fun | 1 => 1 | n => n⟩
theorem Tryz.lays138 : Go.Proofs.Lays.n138 Tryz.prog Tryz.lays138_ren := {
  mixed := by kernel_rfl
  f138 := Tryz.func20.trans (congrArg some (by kernel_rfl))
  f143 := Tryz.func44.trans (congrArg some (by kernel_rfl))
  f195 := Tryz.func42.trans (congrArg some (by kernel_rfl))
  f217 := Tryz.func64.trans (congrArg some (by kernel_rfl))
  f218 := Tryz.func43.trans (congrArg some (by kernel_rfl))
  f219 := Tryz.func56.trans (congrArg some (by kernel_rfl))
  f224 := Tryz.func66.trans (congrArg some (by kernel_rfl))
  f225 := Tryz.func65.trans (congrArg some (by kernel_rfl))
  f266 := Tryz.func74.trans (congrArg some (by kernel_rfl))
  f267 := Tryz.func67.trans (congrArg some (by kernel_rfl))
  f314 := Tryz.func75.trans (congrArg some (by kernel_rfl))
  t0 := Tryz.underlying0
  a0 := Tryz.isAgg0
  z0 := Tryz.sizeOf0
  v0 := Tryz.zeroValue0
  t3 := Tryz.underlying3
  a3 := Tryz.isAgg3
  z3 := Tryz.sizeOf3
  v3 := Tryz.zeroValue3
  t4 := Tryz.underlying4
  a4 := Tryz.isAgg4
  z4 := Tryz.sizeOf4
  v4 := Tryz.zeroValue4
  t5 := Tryz.underlying5
  a5 := Tryz.isAgg5
  z5 := Tryz.sizeOf5
  v5 := Tryz.zeroValue5
  t9 := Tryz.underlying9
  a9 := Tryz.isAgg9
  z9 := Tryz.sizeOf9
  v9 := Tryz.zeroValue9
  t46 := Tryz.underlying108
  a46 := Tryz.isAgg108
  z46 := Tryz.sizeOf108
  v46 := Tryz.zeroValue108
  t51 := Tryz.underlying116
  a51 := Tryz.isAgg116
  z51 := Tryz.sizeOf116
  v51 := Tryz.zeroValue116
  t146 := Tryz.underlying125
  a146 := Tryz.isAgg125
  z146 := Tryz.sizeOf125
  v146 := Tryz.zeroValue125
  g1 := by kernel_rfl }
open Go.RowKit Go.Lib in
theorem Tryz.strings_Count_one (s : ByteArray) (c : UInt8) (w : World) :
    Calls Tryz.prog 20 #[.string s, .string ⟨#[c]⟩] w fun e w' => e = .returned (.int .i64 (Lib.countByte s.data.toList c)) ∧ w' = w := Any.strings_Count_one Tryz.lays138 s c w
def Tryz.lays149_ren : Go.Shelf.Ren := ⟨fun | 149 => 21 | 222 => 45 | n => n, fun | 9 => 9 | 5 => 5 | 3 => 3 | 4 => 4 | n => n, fun | n => n⟩
theorem Tryz.lays149 : Go.Proofs.Lays.n149 Tryz.prog Tryz.lays149_ren := {
  mixed := by kernel_rfl
  f149 := Tryz.func21.trans (congrArg some (by kernel_rfl))
  f222 := Tryz.func45.trans (congrArg some (by kernel_rfl))
  t3 := Tryz.underlying3
  a3 := Tryz.isAgg3
  z3 := Tryz.sizeOf3
  v3 := Tryz.zeroValue3
  t4 := Tryz.underlying4
  a4 := Tryz.isAgg4
  z4 := Tryz.sizeOf4
  v4 := Tryz.zeroValue4
  t5 := Tryz.underlying5
  a5 := Tryz.isAgg5
  z5 := Tryz.sizeOf5
  v5 := Tryz.zeroValue5
  t9 := Tryz.underlying9
  a9 := Tryz.isAgg9
  z9 := Tryz.sizeOf9
  v9 := Tryz.zeroValue9 }
open Go.RowKit Go.Lib in
theorem Tryz.strings_LastIndexByte (s : ByteArray) (c : Int) (hs : s.size < 4611686018427387904) (w : World) :
    Calls Tryz.prog 21 #[.string s, .int .u8 c] w fun e w' => e = .returned (.int .i64 (Lib.lastIndexByte s c)) ∧ w' = w := Any.strings_LastIndexByte Tryz.lays149 s c hs w
def Tryz.lays99_ren : Go.Shelf.Ren := ⟨fun | 99 => 28 | 206 => 47 | n => n, fun | 9 => 9 | 4 => 4 | 3 => 3 | n => n, fun | n => n⟩
theorem Tryz.lays99 : Go.Proofs.Lays.n99 Tryz.prog Tryz.lays99_ren := {
  mixed := by kernel_rfl
  f99 := Tryz.func28.trans (congrArg some (by kernel_rfl))
  f206 := Tryz.func47.trans (congrArg some (by kernel_rfl))
  t3 := Tryz.underlying3
  a3 := Tryz.isAgg3
  z3 := Tryz.sizeOf3
  v3 := Tryz.zeroValue3
  t4 := Tryz.underlying4
  a4 := Tryz.isAgg4
  z4 := Tryz.sizeOf4
  v4 := Tryz.zeroValue4
  t9 := Tryz.underlying9
  a9 := Tryz.isAgg9
  z9 := Tryz.sizeOf9
  v9 := Tryz.zeroValue9 }
open Go.RowKit Go.Lib in
theorem Tryz.strings_HasPrefix (s p : ByteArray) (w : World) :
    Calls Tryz.prog 28 #[.string s, .string p] w fun e w' => e = .returned (.bool (Lib.hasPrefix s.data.toList p.data.toList)) ∧ w' = w := Any.strings_HasPrefix Tryz.lays99 s p w
def Tryz.laysM157_ren : Go.Shelf.Ren := ⟨fun | 157 => 46 | 229 => 57 | 199 => 58 | 261 => 68 | 311 => 76 | 312 => 77 | n => n, fun | 9 => 9 | 31 => 70 | 3 => 3 | 5 => 5 | 4 => 4 | 119 => 102 | 0 => 0 | 40 => 104 | 152 => 113 | 21 => 21 | 154 => 115 | 51 => 116 | 141 => 118 | 196 => 130 | 193 => 127 | 198 => 133 | 49 => 131 | 194 => 128 | 201 => 136 | 226 => 142 | 46 => 108 | 227 => 143 | n => n, fun | 0 => 2 | 6 => 3 | n => n⟩
theorem Tryz.laysM157 : Go.Proofs.LaysM.n157 Tryz.prog Tryz.laysM157_ren := {
  mixed := by kernel_rfl
  f157 := Tryz.func46.trans (congrArg some (by kernel_rfl))
  f199 := Tryz.func58.trans (congrArg some (by kernel_rfl))
  f229 := Tryz.func57.trans (congrArg some (by kernel_rfl))
  f261 := Tryz.func68.trans (congrArg some (by kernel_rfl))
  f311 := Tryz.func76.trans (congrArg some (by kernel_rfl))
  f312 := Tryz.func77.trans (congrArg some (by kernel_rfl))
  t0 := Tryz.underlying0
  a0 := Tryz.isAgg0
  z0 := Tryz.sizeOf0
  v0 := Tryz.zeroValue0
  t3 := Tryz.underlying3
  a3 := Tryz.isAgg3
  z3 := Tryz.sizeOf3
  v3 := Tryz.zeroValue3
  t4 := Tryz.underlying4
  a4 := Tryz.isAgg4
  z4 := Tryz.sizeOf4
  v4 := Tryz.zeroValue4
  t5 := Tryz.underlying5
  a5 := Tryz.isAgg5
  z5 := Tryz.sizeOf5
  v5 := Tryz.zeroValue5
  t9 := Tryz.underlying9
  a9 := Tryz.isAgg9
  z9 := Tryz.sizeOf9
  v9 := Tryz.zeroValue9
  t21 := Tryz.underlying21
  a21 := Tryz.isAgg21
  z21 := Tryz.sizeOf21
  v21 := Tryz.zeroValue21
  t31 := Tryz.underlying70
  a31 := Tryz.isAgg70
  z31 := Tryz.sizeOf70
  v31 := Tryz.zeroValue70
  t40 := Tryz.underlying104
  a40 := Tryz.isAgg104
  z40 := Tryz.sizeOf104
  v40 := Tryz.zeroValue104
  t46 := Tryz.underlying108
  a46 := Tryz.isAgg108
  z46 := Tryz.sizeOf108
  v46 := Tryz.zeroValue108
  t49 := Tryz.underlying131
  a49 := Tryz.isAgg131
  z49 := Tryz.sizeOf131
  v49 := Tryz.zeroValue131
  t51 := Tryz.underlying116
  a51 := Tryz.isAgg116
  z51 := Tryz.sizeOf116
  v51 := Tryz.zeroValue116
  t119 := Tryz.underlying102
  a119 := Tryz.isAgg102
  z119 := Tryz.sizeOf102
  t141 := Tryz.underlying118
  a141 := Tryz.isAgg118
  z141 := Tryz.sizeOf118
  v141 := Tryz.zeroValue118
  t152 := Tryz.underlying113
  a152 := Tryz.isAgg113
  z152 := Tryz.sizeOf113
  v152 := Tryz.zeroValue113
  t154 := Tryz.underlying115
  a154 := Tryz.isAgg115
  z154 := Tryz.sizeOf115
  v154 := Tryz.zeroValue115
  t193 := Tryz.underlying127
  a193 := Tryz.isAgg127
  z193 := Tryz.sizeOf127
  v193 := Tryz.zeroValue127
  t194 := Tryz.underlying128
  a194 := Tryz.isAgg128
  z194 := Tryz.sizeOf128
  v194 := Tryz.zeroValue128
  t196 := Tryz.underlying130
  a196 := Tryz.isAgg130
  z196 := Tryz.sizeOf130
  v196 := Tryz.zeroValue130
  t198 := Tryz.underlying133
  a198 := Tryz.isAgg133
  z198 := Tryz.sizeOf133
  v198 := Tryz.zeroValue133
  t201 := Tryz.underlying136
  a201 := Tryz.isAgg136
  z201 := Tryz.sizeOf136
  v201 := Tryz.zeroValue136
  t226 := Tryz.underlying142
  a226 := Tryz.isAgg142
  z226 := Tryz.sizeOf142
  v226 := Tryz.zeroValue142
  t227 := Tryz.underlying143
  a227 := Tryz.isAgg143
  z227 := Tryz.sizeOf143
  v227 := Tryz.zeroValue143
  g0 := by kernel_rfl
  g6 := by kernel_rfl
  i0 := by kernel_rfl
  i3 := by kernel_rfl
  i4 := by kernel_rfl
  i5 := by kernel_rfl
  i9 := by kernel_rfl
  i21 := by kernel_rfl
  i31 := by kernel_rfl
  i40 := by kernel_rfl
  i46 := by kernel_rfl
  i49 := by kernel_rfl
  i51 := by kernel_rfl
  i141 := by kernel_rfl
  i152 := by kernel_rfl
  i154 := by kernel_rfl
  i193 := by kernel_rfl
  i194 := by kernel_rfl
  i196 := by kernel_rfl
  i198 := by kernel_rfl
  i201 := by kernel_rfl
  i226 := by kernel_rfl
  i227 := by kernel_rfl
  m0 := by kernel_rfl
  m6 := by kernel_rfl }
open Go.RowKit Go.Lib in
theorem Tryz.strings_Fields_laid (s : ByteArray) (w : World) (hs : s.size < 4294967281) (hascii : ∀ (j : Nat) b, s.data.toList[j]? = some b → b.toNat < 128) (htab : Lib.TabIs Tryz.prog w "strings.asciiSpace" .u8 Lib.asciiSpaceTab) :
    Calls Tryz.prog 46 #[.string s] w fun e w' =>
      e = .returned (.slice (some ⟨w.heap.size, 0, none⟩) (Lib.fields s.data.toList).length (Lib.fields s.data.toList).length) ∧ w' = w.alloc (.cells ((Lib.fields s.data.toList).map fun l => Value.string ⟨l.toArray⟩).toArray 9) := Any.strings_Fields_laid Tryz.laysM157 s w hs hascii htab
end Go.Proofs
end
section
set_option linter.unusedVariables false
set_option linter.unusedSimpArgs false
namespace Go.Proofs.YtpgdmghhbbekjaaGreatDoor.L
open Go.RowKit Go.Proofs.YtpgdmghhbbekjaaGreatDoorW.PrintWords Go.Proofs.YtpgdmghhbbekjaaGreatDoorW.PrintLast Go.Maps
def wordsL : List (List UInt8) := [[110, 111, 100, 101], [102, 108, 111, 119], [114, 101, 116, 117, 114, 110, 115], [118, 97, 114], [108, 101, 116], [116, 101, 108], [105, 110, 116], [98, 111, 111, 108], [114, 97, 116, 101], [100, 117, 101], [105, 102], [116, 104, 101, 110], [101, 108, 115, 101], [97, 110, 100], [111, 114], [110, 111, 116], [116, 114, 117, 101], [102, 97, 108, 115, 101], [102, 98, 121], [116, 97, 105, 108]]
def Tb (w : World) : Prop := Lib.TabIs Tryz.prog w "strings.asciiSpace" .u8 Lib.asciiSpaceTab
theorem Tb.below {w w' : World} (h : Tb w) (hb : Below w.heap.size w w') : Tb w' := Lib.tabBelow_of_tabIs h w' hb
def boolR : Value → Option (DataW Unit × List MemPlace)
  | .bool x => some (.lit (.bool x), [])
  | _ => none
theorem boolR_inv {v : Value} {x : Bool} {ps : List MemPlace} (h : boolR v = some (.lit (.bool x), ps)) : v = .bool x := by
  unfold boolR at h
  split at h
  · simp at h
    rw [h.1]
  · simp at h
theorem keyS : Keyed Tryz.prog 9 := string_keyed Tryz.underlying9
theorem underM : Tryz.prog.underlying 58 = some (.map 9 4) := by kernel_rfl
theorem zeroB (w : World) : (zeroValue 4).run Tryz.prog w = .ok (.bool false) w := by kernel_rfl
theorem key_of {s : ByteArray} (hs : s.size ≤ maxLen) : keyOf Tryz.prog 9 (.string s) = some (.string s.data.toList) := WideMaps.keyOf_string_mk Tryz.underlying9 hs
def HS (W : World) (M n : Nat) (ks : List (List UInt8)) : Prop := ∃ D : DataW Unit, W.ownsMap Tryz.prog 9 boolR M n D ∧ ∀ k : List UInt8, D.atKey (.string k) (.lit (.bool false)) = .lit (.bool (decide (k ∈ ks)))
theorem HS.made (w : World) : HS (w.alloc (.map #[] 0)) w.heap.size 0 [] := ⟨_, World.ownsMap_made w Tryz.prog 9 boolR, fun k => (by rfl)⟩
theorem HS.lt {W : World} {M n : Nat} {ks : List (List UInt8)} (h : HS W M n ks) : M < W.heap.size := by
  obtain ⟨D, hD, _⟩ := h
  exact hD.lt
theorem HS.below {W W' : World} {M n : Nat} {ks : List (List UInt8)} (h : HS W M n ks) (hb : Below W.heap.size W W') : HS W' M n ks := by
  have hlt := h.lt
  obtain ⟨D, ⟨es, c, hh, r⟩, hD⟩ := h
  exact ⟨D, ⟨es, c, (hb.block M hlt).trans hh, r⟩, hD⟩
theorem HS.look {W : World} {M n : Nat} {ks : List (List UInt8)} (h : HS W M n ks) {s : ByteArray} (hs : s.size ≤ maxLen) : (Instr.lookup 58 (.map (some M)) (.string s) false).run Tryz.prog W = .ok (.bool (decide (s.data.toList ∈ ks))) W := by
  obtain ⟨D, hD, hat⟩ := h
  obtain ⟨v, ps, hrun, hv⟩ := hD.lookup keyS underM (zeroB W) (zd := .lit (.bool false)) (zp := []) rfl (key_of hs)
  rw [hat] at hv
  rw [hrun, boolR_inv hv]
theorem HS.put {W : World} {M n : Nat} {ks : List (List UInt8)} (h : HS W M n ks) (hn : n < 100000) {s : ByteArray} (hs : s.size ≤ maxLen) :
    ∃ W', (Instr.mapUpdate 58 (.map (some M)) (.string s) (.bool true)).run Tryz.prog W = .ok () W' ∧ HS W' M (n + 1) (ks ++ [s.data.toList]) ∧ W.grownBy W' (some M) := by
  obtain ⟨D, hD, hat⟩ := h
  obtain ⟨W', r, hD', hg⟩ := hD.update keyS underM (by unfold maxLen; omega) (key_of hs) (rfl : boolR (.bool true) = some (.lit (.bool true), []))
  refine ⟨W', r, ⟨_, hD', fun j => ?_⟩, hg⟩
  by_cases e : j = s.data.toList
  · subst e
    rw [atKey_put_same hD.isMap (keyS.key (key_of hs))]
    simp
  · rw [atKey_put_other (by simpa using e), hat j]
    simp [e]
theorem grown_below {B M : Nat} {w W W' : World} (hb : Below B w W) (hg : W.grownBy W' (some M)) (hM : B ≤ M) (hB : B ≤ w.heap.size) : Below B w W' :=
  ⟨hg.os.trans hb.os, hg.tape.trans hb.tape, hg.output.trans hb.output, Nat.le_trans hb.size hg.size, fun k hk => (hg.block k (Nat.lt_of_lt_of_le (Nat.lt_of_lt_of_le hk hB) hb.size) (fun e => by injection e with e; omega)).trans (hb.block k hk)⟩
def WordsIs (w : World) (e : Ending) (w' : World) : Prop := ∃ M n, e = .returned (.map (some M)) ∧ HS w' M n wordsL ∧ Below w.heap.size w w'
set_option maxHeartbeats 4000000 in
set_option maxRecDepth 100000 in
theorem words_calls (w : World) (htab : Tb w) : Calls Tryz.prog 24 #[] w (WordsIs w) := by
  have hmm := @run_makeMap Tryz.prog
  have HT := Aside0.mk (htab.below ((Below.refl _ _).alloc (Nat.le_refl _) (.map #[] 0)))
  have HM := Aside0.mk (HS.made w)
  have HB := Aside0.mk ((Below.refl w.heap.size w).alloc (Nat.le_refl _) (.map #[] 0))
  have HZ : Aside0 (w.heap.size < (w.alloc (.map #[] 0)).heap.size) := ⟨by simp⟩
  clear htab
  go_enter Tryz.func24, Tryz.ntmps24
  go_wp2_with fail
  refine (Tryz.strings_Fields_laid _ _ ?_ ?_ HT.out).mono ?_
  · decide +kernel
  · intro j b hj
    exact of_decide_eq_true (List.all_eq_true.1 (show List.all _ (fun b : UInt8 => decide (b.toNat < 128)) = true by decide +kernel) b (List.mem_of_getElem? hj))
  rintro e w' ⟨rfl, rfl⟩
  generalize hF : Lib.fields _ = F
  obtain rfl : wordsL = F := by rw [← hF]; decide +kernel
  clear hF
  have hlen : wordsL.length = 20 := rfl
  rw [hlen]
  have HM1 : Aside0 (HS ((w.alloc (.map #[] 0)).alloc (.cells (wordsL.map fun l => Value.string ⟨l.toArray⟩).toArray 9)) w.heap.size 0 []) := ⟨HM.out.below ((Below.refl _ _).alloc (Nat.le_refl _) _)⟩
  have HB1 : Aside0 (Below w.heap.size w ((w.alloc (.map #[] 0)).alloc (.cells (wordsL.map fun l => Value.string ⟨l.toArray⟩).toArray 9))) := ⟨HB.out.alloc (by simp) _⟩
  have HX : Aside0 (((w.alloc (.map #[] 0)).alloc (.cells (wordsL.map fun l => Value.string ⟨l.toArray⟩).toArray 9)).heap[w.heap.size + 1]? = some (.cells (wordsL.map fun l => Value.string ⟨l.toArray⟩).toArray 9 (0, 0))) := ⟨by
    have := heap_alloc_new (w.alloc (.map #[] 0)) (.cells (wordsL.map fun l => Value.string ⟨l.toArray⟩).toArray 9)
    simpa using this⟩
  clear HM HB HT hmm hlen
  have hbz : (w.alloc (.map #[] 0)).heap.size = w.heap.size + 1 := by simp
  rw [hbz]
  clear hbz
  generalize (w.alloc (.map #[] 0)).alloc (.cells (wordsL.map fun l => Value.string ⟨l.toArray⟩).toArray 9) = W1 at HM1 HB1 HX ⊢
  obtain ⟨post, hpost⟩ : ∃ p, WordsIs w = p := ⟨_, rfl⟩
  have HPO := Aside0.mk hpost
  clear hpost HZ
  obtain ⟨M, hM⟩ : ∃ M, w.heap.size = M := ⟨_, rfl⟩
  have HMM := Aside0.mk hM
  rw [hM] at HM1 HX ⊢
  clear hM
  go_wp2
  go_loopg [7] (20) (fun kq v7 wr => ∃ (i : Nat), v7 = .int .i64 (i : Int) ∧ Aside0 (kq + i = 20) ∧ Aside0 (HS wr M i (wordsL.take i)) ∧ Aside0 (Below w.heap.size w wr) ∧ Aside0 (wr.heap[M + 1]? = some (.cells (wordsL.map fun l => Value.string ⟨l.toArray⟩).toArray 9 (0, 0))))
  case atStart => exact ⟨0, rfl, ⟨rfl⟩, HM1, HB1, HX⟩
  case round =>
    obtain ⟨i, rfl, HK, HI, HBB, HXX⟩ := hrel
    by_cases hi : i < 20
    · have dl : decide ((i : Int) < 20) = true := decide_eq_true (by omega)
      obtain ⟨go, rfl⟩ : ∃ go, gk = go + 1 := ⟨gk - 1, by have := HK.out; omega⟩
      have hiw : i < wordsL.length := hi
      obtain ⟨u, hu⟩ : ∃ u, wordsL[i] = u := ⟨_, rfl⟩
      have hsz : u.length ≤ 100 := by
        have : ∀ v ∈ wordsL, v.length ≤ 100 := by decide
        exact this u (by rw [← hu]; exact List.getElem_mem hiw)
      obtain ⟨W2, hrun, hs2, hg⟩ := HI.out.put (by omega) (s := ⟨u.toArray⟩) (by show u.toArray.size ≤ _; simp [maxLen]; omega)
      have hcell : wr.cell? ⟨M + 1, i, none⟩ = some (.string ⟨u.toArray⟩) := by
        simp [World.cell?, HXX.out, ← hu, hiw]
      have hB2 := grown_below HBB.out hg (by rw [HMM.out]; exact Nat.le_refl _) (Nat.le_refl _)
      have e1 : wordsL.take i ++ [u] = wordsL.take (i + 1) := by rw [List.take_add_one, List.getElem?_eq_getElem hiw, hu]; rfl
      have e2 : (⟨u.toArray⟩ : ByteArray).data.toList = u := by simp
      rw [e2, e1] at hs2
      have HS2 := Aside0.mk hs2
      have HB2 := Aside0.mk hB2
      have HX2 : Aside0 (W2.heap[M + 1]? = some (.cells (wordsL.map fun l => Value.string ⟨l.toArray⟩).toArray 9 (0, 0))) := ⟨(hg.block (M + 1) (Array.getElem?_eq_some_iff.1 HXX.out).1 (by simp)).trans HXX.out⟩
      have hi2 : (i : Int) < 20 := by omega
      clear hs2 hB2 hg e1 e2 hu hsz HI HBB HXX hiw
      go_wp2
      go_roundg go
      case measure => omega
      case rel => exact ⟨i + 1, by simp, ⟨by have := HK.out; omega⟩, HS2, HB2, HX2⟩
    · have dl : decide ((i : Int) < 20) = false := decide_eq_false (by omega)
      have hi2 : i = 20 := by have := HK.out; omega
      have HI2 : Aside0 (HS wr M 20 wordsL) := ⟨by have := HI.out; rw [hi2] at this; exact this⟩
      clear hi2 HI hi
      go_wp2
      go_ret
      exact ⟨M, 20, rfl, HI2.out, HBB.out⟩
def wordB (s : ByteArray) : Bool := decide (s.data.toList ∈ wordsL)
theorem word_calls (s : ByteArray) (hs : s.size ≤ maxLen) (w : World) (htab : Tb w) : Calls Tryz.prog 12 #[.string s] w fun e w' => e = .returned (.bool (wordB s)) ∧ Below w.heap.size w w' := by
  have HT := Aside0.mk htab
  have HS0 := Aside0.mk hs
  clear htab hs
  obtain ⟨b, hb⟩ : ∃ b, wordB s = b := ⟨_, rfl⟩
  have HB := Aside0.mk hb
  rw [hb]
  clear hb
  go_enter Tryz.func12, Tryz.ntmps12
  go_wp2_with fail
  refine (words_calls w HT.out).mono ?_
  rintro e w' ⟨M, n, rfl, hs, hb⟩
  have hl := hs.look HS0.out
  rw [show decide (s.data.toList ∈ wordsL) = b from HB.out] at hl
  have HBB := Aside0.mk hb
  clear hs hb
  go_wp2
  go_ret
  exact ⟨rfl, HBB.out⟩
end Go.Proofs.YtpgdmghhbbekjaaGreatDoor.L
end
section
set_option linter.unusedVariables false
set_option linter.unusedSimpArgs false
namespace Go.Proofs.YtpgdmghhbbekjaaGreatDoor.L
open Go.RowKit Go.Proofs.YtpgdmghhbbekjaaGreatDoorW.PrintWords Go.Proofs.YtpgdmghhbbekjaaGreatDoorW.PrintLast Go.Maps
theorem len_list (s : ByteArray) : s.data.toList.length = s.size := by rw [Array.length_toList]; rfl
theorem bt_list (s : ByteArray) (i : Nat) : bt s (i : Int) = ((s.data.toList.getD i 0).toNat : Int) := by
  unfold bt
  by_cases h : i < s.size
  · have h' : ((i : Int)).toNat < s.size := by simpa using h
    rw [dif_pos h', List.getD_eq_getElem?_getD, List.getElem?_eq_getElem (by rw [len_list]; exact h)]
    rfl
  · have h' : ¬ ((i : Int)).toNat < s.size := by simpa using h
    rw [dif_neg h', List.getD_eq_getElem?_getD, List.getElem?_eq_none (by rw [len_list]; omega)]
    rfl
theorem ext_list (s : ByteArray) (a b : Nat) : (s.extract a b).data.toList = (s.data.toList.take b).drop a := by
  simp [ByteArray.data_extract, Array.toList_extract, List.extract, List.drop_take]
theorem ext_size (s : ByteArray) (a b : Nat) (h : b ≤ s.size) : (s.extract a b).size = b - a := by
  rw [← len_list, ext_list, List.length_drop, List.length_take, len_list]
  omega
theorem bt_ext (s : ByteArray) (a b i : Nat) (h : a + i < b) : bt (s.extract a b) (i : Int) = bt s ((a + i : Nat) : Int) := by
  rw [bt_list, bt_list, ext_list]
  simp only [List.getD_eq_getElem?_getD, List.getElem?_drop, List.getElem?_take]
  rw [if_pos h]
theorem spn_ext (p : Int → Bool) (s : ByteArray) (a b : Nat) : ∀ n i, a + i + n ≤ b → a + spn p (s.extract a b) n i = spn p s n (a + i)
  | 0, i, _ => rfl
  | n + 1, i, h => by
    rw [spn, spn, bt_ext s a b i (by omega)]
    split
    · rw [spn_ext p s a b n (i + 1) (by omega)]; rfl
    · rfl
def dash (s : ByteArray) (i : Nat) : Bool := decide (i + 1 < s.size) && (bt s (i : Int) == 45 && bt s ((i + 1 : Nat) : Int) == 45)
theorem dash_prefix (x : ByteArray) : Lib.hasPrefix x.data.toList [45, 45] = dash x 0 := by
  unfold dash Lib.hasPrefix
  rw [bt_list, bt_list]
  rw [← len_list]
  rcases x.data.toList with _ | ⟨a, _ | ⟨b, r⟩⟩
  · rfl
  · simp [List.isPrefixOf]
  · have key : ∀ c : UInt8, ((45 : UInt8) == c) = (((c.toNat : Nat) : Int) == 45) := by
      intro c
      by_cases e : c = 45
      · subst e; rfl
      · have h1 : ((45 : UInt8) == c) = false := by simpa using fun h => e h.symm
        have h2 : (((c.toNat : Nat) : Int) == 45) = false := by
          have : c.toNat ≠ 45 := fun h => e (by apply UInt8.toNat_inj.1; simpa using h)
          simp; omega
        rw [h1, h2]
    simp [List.isPrefixOf, key]
theorem dash_ext (s : ByteArray) (i : Nat) (hi : i ≤ s.size) : dash (s.extract i s.size) 0 = dash s i := by
  unfold dash
  rw [ext_size s i s.size (Nat.le_refl _)]
  by_cases h : i + 1 < s.size
  · rw [bt_ext s i s.size 0 (by omega), bt_ext s i s.size (0 + 1) (by omega)]
    simp [h]
    omega
  · have h1 : ¬ (0 + 1 < s.size - i) := by omega
    simp [h]
    omega
def blankB (c : Int) : Bool := decide (c = 32 ∨ c = 9 ∨ c = 10 ∨ c = 13)
def skp (s : ByteArray) : Nat → Nat → Nat
  | 0, i => i
  | n + 1, i => if i < s.size then (if bt s (i : Int) = 45 then (if dash s i = true then skp s n (spn lineB s (s.size - i) i) else i) else if blankB (bt s (i : Int)) = true then skp s n (i + 1) else i) else i
theorem spn_dash {s : ByteArray} {i : Nat} (h : dash s i = true) : i + 2 ≤ spn lineB s (s.size - i) i ∧ spn lineB s (s.size - i) i ≤ s.size := by
  unfold dash at h
  simp only [Bool.and_eq_true, decide_eq_true_eq, beq_iff_eq] at h
  obtain ⟨h1, h2, h3⟩ := h
  obtain ⟨k, hk⟩ : ∃ k, s.size - i = k + 2 := ⟨s.size - i - 2, by omega⟩
  rw [hk, spn, if_pos (by rw [h2]; rfl), spn, if_pos (by rw [show ((i + 1 : Nat) : Int) = ((i + 1 : Nat) : Int) from rfl, h3]; rfl)]
  have := spn_le lineB s k (i + 1 + 1)
  omega
theorem skp_le (s : ByteArray) : ∀ n i, i ≤ s.size → i ≤ skp s n i ∧ skp s n i ≤ s.size
  | 0, i, h => ⟨Nat.le_refl _, h⟩
  | n + 1, i, h => by
    rw [skp]
    by_cases h1 : i < s.size
    · rw [if_pos h1]
      by_cases h2 : bt s (i : Int) = 45
      · rw [if_pos h2]
        by_cases h3 : dash s i = true
        · rw [if_pos h3]
          have := spn_dash h3
          have := skp_le s n _ this.2
          omega
        · rw [if_neg h3]; omega
      · rw [if_neg h2]
        split
        · have := skp_le s n (i + 1) (by omega)
          omega
        · omega
    · rw [if_neg h1]; omega
end Go.Proofs.YtpgdmghhbbekjaaGreatDoor.L
end
section
set_option linter.unusedVariables false
set_option linter.unusedSimpArgs false
namespace Go.Proofs.YtpgdmghhbbekjaaGreatDoor.L
open Go.RowKit Go.Proofs.YtpgdmghhbbekjaaGreatDoorW.PrintWords Go.Proofs.YtpgdmghhbbekjaaGreatDoorW.PrintLast Go.Maps
theorem rest_calls (s : ByteArray) (hs : s.size ≤ 140737488355328) (i : Nat) (hi : i ≤ s.size) (w : World) :
    Calls Tryz.prog 26 #[.string (s.extract i s.size), .func (.func 29) #[] #[]] w fun e w' => e = .returned (.int .i64 ((spn lineB s (s.size - i) i : Nat) - (i : Int))) ∧ w = w' := by
  have hz := ext_size s i s.size (Nat.le_refl _)
  refine (span_calls 29 lineB (fun c w _ _ => line_calls w) (enters_of Tryz.func29 (by kernel_rfl) rfl) (s.extract i s.size) (by omega) w).mono ?_
  rintro e w' ⟨rfl, rfl⟩
  have := spn_ext lineB s i s.size (s.size - i) 0 (by omega)
  rw [hz]
  refine ⟨?_, rfl⟩
  congr 2
  rw [Nat.add_zero] at this
  omega
set_option maxHeartbeats 4000000 in
set_option maxRecDepth 100000 in
theorem skip_calls (s : ByteArray) (hs : s.size ≤ 140737488355328) (i0 : Nat) (hi0 : i0 ≤ s.size) (w : World) :
    Calls Tryz.prog 15 #[.string s, .int .i64 (i0 : Int)] w fun e w' => e = .returned (.int .i64 (skp s s.size i0 : Nat)) ∧ w = w' := by
  obtain ⟨res, hres⟩ : ∃ r : Nat, skp s s.size i0 = r := ⟨_, rfl⟩
  rw [hres]
  have HR := Aside0.mk hres
  have HS := Aside0.mk hs
  have H0 := Aside0.mk hi0
  clear hres hs hi0
  go_enter Tryz.func15, Tryz.ntmps15
  go_wp2
  go_loopg [1] (s.size) (fun kq v1 wr => ∃ (i : Nat), v1 = .int .i64 (i : Int) ∧ Aside0 (s.size ≤ kq + i ∧ i ≤ s.size) ∧ Aside0 (skp s kq i = res) ∧ w = wr)
  case atStart => exact ⟨i0, rfl, ⟨by omega, H0.out⟩, HR, rfl⟩
  case round =>
    clear H0 HR
    obtain ⟨i, rfl, HK, HI, rfl⟩ := hrel
    have hsz := HS.out
    by_cases hi : i < s.size
    · have dl : decide (i < s.size) = true := decide_eq_true hi
      have dl2 : decide ((i : Int) < (s.size : Int)) = true := decide_eq_true (by omega)
      obtain ⟨go, rfl⟩ : ∃ go, gk = go + 1 := ⟨gk - 1, by have := HK.out; omega⟩
      have hsp := HI.out
      rw [skp, if_pos hi] at hsp
      obtain ⟨c, hc⟩ : ∃ c, bt s (i : Int) = c := ⟨_, rfl⟩
      have hx6 : ((s[i]'hi).toNat : Int) = c := by have := bt_at s (i : Int) (by simpa using hi); rw [← hc]; simpa using this
      rw [hc] at hsp
      have HC := Aside0.mk hc
      clear hc
      have q6 : ((i : Int) < (s.size : Int)) = True := eq_true (by omega)
      have q7 : ((i : Int) ≤ (s.size : Int)) = True := eq_true (by omega)
      have q8 : i ≤ s.size := by omega
      have p6 : (0 ≤ (i : Int)) = True := eq_true (by omega)
      by_cases h45 : c = 45
      · rw [if_pos h45] at hsp
        have d45 : (c == 45) = true := by simpa using h45
        have HSP := Aside0.mk hsp
        clear hsp h45 HI
        go_wp2_with fail
        refine (Tryz.strings_HasPrefix (s.extract i s.size) ⟨#[45, 45]⟩ w).mono ?_
        rintro e w' ⟨rfl, rfl⟩
        have hd : Lib.hasPrefix (s.extract i s.size).data.toList (⟨#[45, 45]⟩ : ByteArray).data.toList = dash s i := (dash_prefix _).trans (dash_ext s i q8)
        rw [hd]
        clear hd
        cases hb : dash s i with
        | true =>
          have HD := Aside0.mk hb
          have hsp := HSP.out
          rw [if_pos hb] at hsp
          obtain ⟨m, hm⟩ : ∃ m, spn lineB s (s.size - i) i = m := ⟨_, rfl⟩
          have hrc := rest_calls s hsz i q8 w'
          have hmd := spn_dash hb
          rw [hm] at hsp hrc hmd
          have HM := Aside0.mk hmd
          have HSP2 := Aside0.mk hsp
          have HRC := Aside0.mk hrc
          have hmi : (i : Int) ≤ (m : Int) := by omega
          have hmi2 : (m : Int) ≤ 140737488355328 := by omega
          clear hb hsp hm HSP hrc hmd
          go_wp2_with fail
          refine HRC.out.mono ?_
          rintro e w'' ⟨rfl, rfl⟩
          clear hx6 HC HRC
          have hsum : wrap64 ((i : Int) + ((m : Int) - (i : Int))) = (m : Int) := by unfold wrap64; omega
          go_wp2
          go_roundg go
          case measure => omega
          case rel => exact ⟨m, by first | rfl | (congr 1; omega), ⟨by have := HK.out; have := HM.out; omega⟩, HSP2, rfl⟩
        | false =>
          have hsp := HSP.out
          rw [if_neg (by rw [hb]; decide)] at hsp
          subst hsp
          clear hb HSP hx6 HC
          go_wp2
          go_ret
          exact ⟨rfl, rfl⟩
      · rw [if_neg h45] at hsp
        have d45 : (c == 45) = false := by simpa using h45
        cases hb : blankB c with
        | true =>
          rw [hb, if_pos rfl] at hsp
          have HSP := Aside0.mk hsp
          have hb2 : c = 32 ∨ c = 9 ∨ c = 10 ∨ c = 13 := by simpa [blankB] using hb
          clear hsp h45 hb HI HC
          rcases hb2 with rfl | rfl | rfl | rfl
          all_goals
            go_wp2
            go_roundg go
            case measure => omega
            case rel => exact ⟨i + 1, by simp, ⟨by have := HK.out; omega⟩, HSP, rfl⟩
        | false =>
          rw [hb, if_neg (by decide)] at hsp
          have hb2 : ¬ (c = 32 ∨ c = 9 ∨ c = 10 ∨ c = 13) := by simpa [blankB] using hb
          have e1 : (c == 32) = false := by simp; omega
          have e2 : (c == 9) = false := by simp; omega
          have e3 : (c == 10) = false := by simp; omega
          have e4 : (c == 13) = false := by simp; omega
          subst hsp
          clear h45 hb hb2 HI HC
          go_wp2
          go_ret
          exact ⟨rfl, rfl⟩
    · have dl : decide (i < s.size) = false := decide_eq_false hi
      have dl2 : decide ((i : Int) < (s.size : Int)) = false := decide_eq_false (by omega)
      have hsp : i = res := by
        have := HI.out
        cases gk with
        | zero => rw [skp] at this; exact this
        | succ n => rw [skp, if_neg hi] at this; exact this
      subst hsp
      clear HI hi
      go_wp2
      go_ret
      exact ⟨rfl, rfl⟩
end Go.Proofs.YtpgdmghhbbekjaaGreatDoor.L
end
section
set_option linter.unusedVariables false
set_option linter.unusedSimpArgs false
namespace Go.Proofs.YtpgdmghhbbekjaaGreatDoor.L
open Go.RowKit Go.Proofs.YtpgdmghhbbekjaaGreatDoorW.PrintWords Go.Proofs.YtpgdmghhbbekjaaGreatDoorW.PrintLast Go.Maps
def secB (s : ByteArray) (x : UInt8) : Bool := decide (1 < s.size) && (bt s 1 == (x.toNat : Int))
def secN (b : Bool) : Int := if b = true then 2 else 1
theorem idx_one (x : UInt8) (c : Int) (h0 : 0 ≤ c) (h1 : c ≤ 255) : decide (0 ≤ Lib.indexByte (⟨#[x]⟩ : ByteArray).data.toList c.toNat.toUInt8) = (c == (x.toNat : Int)) := by
  have hx : x.toNat < 256 := x.toNat_lt
  by_cases e : c = (x.toNat : Int)
  · subst e
    simp [Lib.indexByte]
  · have h2 : x ≠ c.toNat.toUInt8 := fun h => e (by
      have := congrArg UInt8.toNat h
      simp at this
      omega)
    have h3 : (c == (x.toNat : Int)) = false := by simpa using e
    rw [h3]
    simp [Lib.indexByte, h2, Ne.symm h2]
theorem sec_calls (s : ByteArray) (x : UInt8) (B : Nat) (w : World) (hc : w.cell? ⟨B, 0, none⟩ = some (.string s)) :
    Calls Tryz.prog 50 #[.string ⟨#[x]⟩, .pointer (some ⟨B, 0, none⟩)] w fun e w' => e = .returned (.int .i64 (secN (secB s x))) ∧ w = w' := by
  by_cases h1 : 1 < s.size
  · have d1 : decide (1 < s.size) = true := decide_eq_true h1
    have d2 : decide ((1 : Int) < (s.size : Int)) = true := decide_eq_true (by omega)
    obtain ⟨c, hbc⟩ : ∃ c, bt s 1 = c := ⟨_, rfl⟩
    have hx6 : ((s[1]'h1).toNat : Int) = c := by have := bt_at s 1 (by simpa using h1); rw [← hbc]; simpa using this
    have q6 : ((1 : Int) < (s.size : Int)) = True := eq_true (by omega)
    obtain ⟨b0, b1⟩ := bt_range s 1
    rw [hbc] at b0 b1
    have hix := idx_one x c b0 b1
    have e0 : secB s x = (c == (x.toNat : Int)) := by unfold secB; rw [d1, hbc]; simp
    rw [e0]
    obtain ⟨b, hb⟩ : ∃ b, (c == (x.toNat : Int)) = b := ⟨_, rfl⟩
    rw [hb] at hix ⊢
    obtain ⟨y, hy⟩ : ∃ y, Lib.indexByte (⟨#[x]⟩ : ByteArray).data.toList c.toNat.toUInt8 = y := ⟨_, rfl⟩
    rw [hy] at hix
    have HY := Aside0.mk hy
    clear hy e0 hb b0 b1 hbc
    cases b with
    | true =>
      go_enter Tryz.func50, Tryz.ntmps50
      go_wp2_with fail
      refine (Tryz.strings_IndexByte _ _ _).mono ?_
      rintro e w' ⟨rfl, rfl⟩
      rw [HY.out]
      go_wp2
      go_ret
      exact ⟨rfl, rfl⟩
    | false =>
      go_enter Tryz.func50, Tryz.ntmps50
      go_wp2_with fail
      refine (Tryz.strings_IndexByte _ _ _).mono ?_
      rintro e w' ⟨rfl, rfl⟩
      rw [HY.out]
      go_wp2
      go_ret
      exact ⟨rfl, rfl⟩
  · have d1 : decide (1 < s.size) = false := decide_eq_false h1
    have d2 : decide ((1 : Int) < (s.size : Int)) = false := decide_eq_false (by omega)
    have e0 : secB s x = false := by unfold secB; rw [d1]; rfl
    rw [e0]
    clear h1 e0
    go_enter Tryz.func50, Tryz.ntmps50
    go_wp2
    go_ret
    exact ⟨rfl, rfl⟩
def sgnN (s : ByteArray) : Nat :=
  if bt s 0 = 126 then (if secB s 62 = true then 2 else 0)
  else if bt s 0 = 42 ∨ bt s 0 = 47 then (if secB s 94 = true then 2 else 1)
  else if bt s 0 = 58 then (if secB s 58 = true then 2 else 1)
  else if bt s 0 = 60 then (if secB s 62 = true then 2 else if secB s 61 = true then 2 else 1)
  else if bt s 0 = 62 then (if secB s 61 = true then 2 else 1)
  else if bt s 0 = 40 ∨ bt s 0 = 41 ∨ bt s 0 = 59 ∨ bt s 0 = 44 ∨ bt s 0 = 61 ∨ bt s 0 = 43 ∨ bt s 0 = 45 ∨ bt s 0 = 37 then 1
  else 0
theorem sgn_le (s : ByteArray) (h : 0 < s.size) : sgnN s ≤ s.size := by
  have key : ∀ x, secB s x = true → 2 ≤ s.size := fun x hx => by
    unfold secB at hx
    simp at hx
    omega
  have k62 := key 62
  have k94 := key 94
  have k58 := key 58
  have k61 := key 61
  unfold sgnN
  repeat' split
  all_goals first | omega | (rename_i hh; have := k62 hh; omega) | (rename_i hh; have := k94 hh; omega) | (rename_i hh; have := k58 hh; omega) | (rename_i hh; have := k61 hh; omega)
end Go.Proofs.YtpgdmghhbbekjaaGreatDoor.L
end
