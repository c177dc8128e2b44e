/- Layer 18: what the laws' own small known piece of code answers, and the program's Encode and Decode as plain functions. The conditions: what each lemma names. -/
import Derived.Test.YtnaapecmooljaaaR18
import Derived.Test.YtnaapecmooljaaaHx3
import Derived.Test.YtnaapecmooljaaaScodeDecode
import Derived.Test.YtnaapecmooljaaaScodeEncode
import Derived.KernelRfl
set_option linter.unusedVariables false
set_option linter.unusedSimpArgs false
namespace Go.Proofs.Ytnaapecmooljaaa.H
open Go.RowKit Go.Proofs.YtnaapecmooljaaaW.PrintWords Go.Proofs.YtnaapecmooljaaaW.PrintLast Go.Proofs.YtnaapecmooljaaaW.PrintMore

theorem ev_enc (l : List S26) : Ev (fun _ => code_Encode.f l) (encode l) := ⟨0, fun _ _ => rfl⟩
theorem ev_dec (s : ByteArray) (hs : s.size ≤ 140737488355328) : Ev (fun _ => code_Decode.f s) (decode s) := ⟨0, fun _ _ => if_pos hs⟩
theorem enc_size (l : List S26) : (encode l).1.size ≤ 36864 := by
  unfold encode
  split
  · exact Nat.zero_le _
  · split
    · have := encAll_length l
      rw [strOfNums_size]
      omega
    · exact Nat.zero_le _
theorem decGo_length : ∀ (n : Nat) (l : List Int) (c : Nat), (decGo n l c).1.length ≤ n
  | 0, _, _ => by simp [decGo]
  | n + 1, [], _ => by simp [decGo]
  | n + 1, op :: r, c => by
    have ih := decGo_length n (r.drop (sz op)) (c + 1)
    simp only [decGo]
    repeat' split
    all_goals first | (simp; done) | (simp only [List.length_cons]; omega)
theorem decode_length (s : ByteArray) : (decode s).1.length ≤ s.size + 1 := decGo_length _ _ _
theorem ev_works : Ev (fun k => carillonlaw18_works.f k) true := by
  unfold carillonlaw18_works.f
  have e1 : encode [(⟨1, -1⟩ : S26), ⟨5, 2⟩, ⟨23, 0⟩] = (strOfNums [1, 255, 255, 255, 255, 255, 255, 255, 255, 5, 2, 23], 0) := by kernel_rfl
  have e2 : decode (strOfNums [1, 255, 255, 255, 255, 255, 255, 255, 255, 5, 2, 23]) = ([(⟨1, -1⟩ : S26), ⟨5, 2⟩, ⟨23, 0⟩], 0) := by kernel_rfl
  have e3 : decode (⟨#[2, 1]⟩ : ByteArray) = ([], 8) := by kernel_rfl
  have h1 := ev_enc [(⟨1, -1⟩ : S26), ⟨5, 2⟩, ⟨23, 0⟩]
  rw [e1] at h1
  have h2 := ev_dec (strOfNums [1, 255, 255, 255, 255, 255, 255, 255, 255, 5, 2, 23]) (by rw [strOfNums_size]; simp)
  rw [e2] at h2
  have h3 := ev_dec (⟨#[2, 1]⟩ : ByteArray) (by decide)
  rw [e3] at h3
  refine Ev.bind (Ev.now _) (Ev.bind h1 (Ev.bind h2 (Ev.bind h3 (Ev.if_pos rfl (Ev.if_pos (by rw [strOfNums_size]; rfl) (Ev.if_pos rfl (Ev.bind (ev_same _ (by simp)) (Ev.if_pos rfl (Ev.if_pos rfl (Ev.bind (ev_cycles 10) (Ev.if_pos (by decide) (Ev.if_pos (by simp) ?_))))))))))))
  refine Ev.bind (ev_may 1 (-1)) (Ev.if_pos (by decide) (Ev.bind (ev_may 0 0) ?_))
  exact Ev.now _
end Go.Proofs.Ytnaapecmooljaaa.H
