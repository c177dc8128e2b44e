/-
  No cell of these rows narrows 'for every input' (looked for: loops, veiled, ifaces, maps, wideKeys, modest, calm, conditions, laid).
  DERIVED. THE GIVEN ROWS OF THIS SEAT. 12 by the template 'for every input the law returns true; each argument reads behind the call as it read before'; 0 by the template 'total and deterministic' (their statements: YtnaapecmooljaaaTotals.lean).
  GIVEN WITH THE SEED: the statements are not yours to turn. If you find one false, say at which input.
  Laid BY PROGRAM, IN A SANDBOX (cutbox-rows.mjs): the forced cells as the released guide's own fill.sh prints them over the translation bfeee82d3a5d670c… (all of the seat's roots in one cut). By AI agents, Wed Nov 11 2026. No macro, syntax, notation, axiom, sorry.
-/
import Derived.Test.YtnaapecmooljaaaChecked
import GoSem.Claim
import GoSem.ClaimJoined
import GoSem.ClaimMapViews
import Derived.JoinedTies
import Derived.KernelRfl
namespace Go.Proofs.Ytnaapecmooljaaa
/- THE CELL 'sum', in the pinned program and in every row, IS THE sha256 OF THE DUMP (.gsa) THAT YtnaapecmooljaaaProg.lean LOADS. Nothing in Lean hashes anything: it is a label: what it is worth is what the hold of that sum in a sandbox is worth. -/
noncomputable def Try.pinned : Pinned := { name := "ytnaapecmooljaaa", sum := "bfeee82d3a5d670c6d8cf7df96c8d2994925efcd0c8929b402965908534854f1", checked := Try.checked }
namespace Rows
def none {H : Type} : Left H := { results := [], args := [] }

/-- 'carillonlaw18.CodeCodes': WHATEVER THE INPUT: true; the input reads as it did. -/
def codeCodesSpec : ChangeSpec := { name := "codeCodes", fn := fun _ => fun
  | [d1, d2, d3] => { results := [.lit (.bool true)], args := [d1, d2, d3] }
  | _ => none }
def codeCodesRow : OpenClaim := { program := "ytnaapecmooljaaa", sum := "bfeee82d3a5d670c6d8cf7df96c8d2994925efcd0c8929b402965908534854f1", func := "carillon/carillonlaw18.CodeCodes", spec := "codeCodes", inPlace := ["internal/abi.NoEscape"], apart := false }
def CodeCodesSaid : Prop := codeCodesRow.holds Try.pinned (OpenSpec.ofChange codeCodesSpec)

/-- ITS FALSE NEIGHBOUR: 'it returns false'. Refute it at one input. -/
def codeCodesWrong : ChangeSpec := { name := "codeCodes", fn := fun _ => fun
  | [d1, d2, d3] => { results := [.lit (.bool false)], args := [d1, d2, d3] }
  | _ => none }
def CodeCodesWrongFalsely : Prop := codeCodesRow.holds Try.pinned (OpenSpec.ofChange codeCodesWrong)

/-- 'carillonlaw18.CodeBack': WHATEVER THE INPUT: true; the input reads as it did. -/
def codeBackSpec : ChangeSpec := { name := "codeBack", fn := fun _ => fun
  | [d1, d2] => { results := [.lit (.bool true)], args := [d1, d2] }
  | _ => none }
def codeBackRow : OpenClaim := { program := "ytnaapecmooljaaa", sum := "bfeee82d3a5d670c6d8cf7df96c8d2994925efcd0c8929b402965908534854f1", func := "carillon/carillonlaw18.CodeBack", spec := "codeBack", inPlace := ["internal/abi.NoEscape"], apart := false }
def CodeBackSaid : Prop := codeBackRow.holds Try.pinned (OpenSpec.ofChange codeBackSpec)

/-- ITS FALSE NEIGHBOUR: 'it returns false'. Refute it at one input. -/
def codeBackWrong : ChangeSpec := { name := "codeBack", fn := fun _ => fun
  | [d1, d2] => { results := [.lit (.bool false)], args := [d1, d2] }
  | _ => none }
def CodeBackWrongFalsely : Prop := codeBackRow.holds Try.pinned (OpenSpec.ofChange codeBackWrong)

/-- 'carillonlaw18.CodeFar': WHATEVER THE INPUT: true; the input reads as it did. -/
def codeFarSpec : ChangeSpec := { name := "codeFar", fn := fun _ => fun
  | [d1, d2] => { results := [.lit (.bool true)], args := [d1, d2] }
  | _ => none }
def codeFarRow : OpenClaim := { program := "ytnaapecmooljaaa", sum := "bfeee82d3a5d670c6d8cf7df96c8d2994925efcd0c8929b402965908534854f1", func := "carillon/carillonlaw18.CodeFar", spec := "codeFar", inPlace := ["internal/abi.NoEscape"], apart := false }
def CodeFarSaid : Prop := codeFarRow.holds Try.pinned (OpenSpec.ofChange codeFarSpec)

/-- ITS FALSE NEIGHBOUR: 'it returns false'. Refute it at one input. -/
def codeFarWrong : ChangeSpec := { name := "codeFar", fn := fun _ => fun
  | [d1, d2] => { results := [.lit (.bool false)], args := [d1, d2] }
  | _ => none }
def CodeFarWrongFalsely : Prop := codeFarRow.holds Try.pinned (OpenSpec.ofChange codeFarWrong)

/-- 'carillonlaw18.CodeJoin': WHATEVER THE INPUT: true; the input reads as it did. -/
def codeJoinSpec : ChangeSpec := { name := "codeJoin", fn := fun _ => fun
  | [d1, d2, d3] => { results := [.lit (.bool true)], args := [d1, d2, d3] }
  | _ => none }
def codeJoinRow : OpenClaim := { program := "ytnaapecmooljaaa", sum := "bfeee82d3a5d670c6d8cf7df96c8d2994925efcd0c8929b402965908534854f1", func := "carillon/carillonlaw18.CodeJoin", spec := "codeJoin", inPlace := ["internal/abi.NoEscape"], apart := false }
def CodeJoinSaid : Prop := codeJoinRow.holds Try.pinned (OpenSpec.ofChange codeJoinSpec)

/-- ITS FALSE NEIGHBOUR: 'it returns false'. Refute it at one input. -/
def codeJoinWrong : ChangeSpec := { name := "codeJoin", fn := fun _ => fun
  | [d1, d2, d3] => { results := [.lit (.bool false)], args := [d1, d2, d3] }
  | _ => none }
def CodeJoinWrongFalsely : Prop := codeJoinRow.holds Try.pinned (OpenSpec.ofChange codeJoinWrong)

/-- 'carillonlaw21.CostTells': WHATEVER THE INPUT: true; the input reads as it did. -/
def costTellsSpec : ChangeSpec := { name := "costTells", fn := fun _ => fun
  | [d1, d2] => { results := [.lit (.bool true)], args := [d1, d2] }
  | _ => none }
def costTellsRow : OpenClaim := { program := "ytnaapecmooljaaa", sum := "bfeee82d3a5d670c6d8cf7df96c8d2994925efcd0c8929b402965908534854f1", func := "carillon/carillonlaw21.CostTells", spec := "costTells", unfollowed := true, recurses := true, apart := false }
def CostTellsSaid : Prop := costTellsRow.holds Try.pinned (OpenSpec.ofChange costTellsSpec)

/-- ITS FALSE NEIGHBOUR: 'it returns false'. Refute it at one input. -/
def costTellsWrong : ChangeSpec := { name := "costTells", fn := fun _ => fun
  | [d1, d2] => { results := [.lit (.bool false)], args := [d1, d2] }
  | _ => none }
def CostTellsWrongFalsely : Prop := costTellsRow.holds Try.pinned (OpenSpec.ofChange costTellsWrong)

/-- 'carillonlaw21.CostBetween': WHATEVER THE INPUT: true; the input reads as it did. -/
def costBetweenSpec : ChangeSpec := { name := "costBetween", fn := fun _ => fun
  | [d1, d2] => { results := [.lit (.bool true)], args := [d1, d2] }
  | _ => none }
def costBetweenRow : OpenClaim := { program := "ytnaapecmooljaaa", sum := "bfeee82d3a5d670c6d8cf7df96c8d2994925efcd0c8929b402965908534854f1", func := "carillon/carillonlaw21.CostBetween", spec := "costBetween", unfollowed := true, recurses := true, apart := false }
def CostBetweenSaid : Prop := costBetweenRow.holds Try.pinned (OpenSpec.ofChange costBetweenSpec)

/-- ITS FALSE NEIGHBOUR: 'it returns false'. Refute it at one input. -/
def costBetweenWrong : ChangeSpec := { name := "costBetween", fn := fun _ => fun
  | [d1, d2] => { results := [.lit (.bool false)], args := [d1, d2] }
  | _ => none }
def CostBetweenWrongFalsely : Prop := costBetweenRow.holds Try.pinned (OpenSpec.ofChange costBetweenWrong)

/-- 'carillonlaw21.CostMore': WHATEVER THE INPUT: true; the input reads as it did. -/
def costMoreSpec : ChangeSpec := { name := "costMore", fn := fun _ => fun
  | [d1, d2] => { results := [.lit (.bool true)], args := [d1, d2] }
  | _ => none }
def costMoreRow : OpenClaim := { program := "ytnaapecmooljaaa", sum := "bfeee82d3a5d670c6d8cf7df96c8d2994925efcd0c8929b402965908534854f1", func := "carillon/carillonlaw21.CostMore", spec := "costMore", unfollowed := true, recurses := true, apart := false }
def CostMoreSaid : Prop := costMoreRow.holds Try.pinned (OpenSpec.ofChange costMoreSpec)

/-- ITS FALSE NEIGHBOUR: 'it returns false'. Refute it at one input. -/
def costMoreWrong : ChangeSpec := { name := "costMore", fn := fun _ => fun
  | [d1, d2] => { results := [.lit (.bool false)], args := [d1, d2] }
  | _ => none }
def CostMoreWrongFalsely : Prop := costMoreRow.holds Try.pinned (OpenSpec.ofChange costMoreWrong)

/-- 'carillonlaw19.VerifyTells': WHATEVER THE INPUT: true; the input reads as it did. -/
def verifyTellsSpec : ChangeSpec := { name := "verifyTells", fn := fun _ => fun
  | [d1, d2, d3] => { results := [.lit (.bool true)], args := [d1, d2, d3] }
  | _ => none }
def verifyTellsRow : OpenClaim := { program := "ytnaapecmooljaaa", sum := "bfeee82d3a5d670c6d8cf7df96c8d2994925efcd0c8929b402965908534854f1", func := "carillon/carillonlaw19.VerifyTells", spec := "verifyTells", unfollowed := true, recurses := true, apart := false }
def VerifyTellsSaid : Prop := verifyTellsRow.holds Try.pinned (OpenSpec.ofChange verifyTellsSpec)

/-- ITS FALSE NEIGHBOUR: 'it returns false'. Refute it at one input. -/
def verifyTellsWrong : ChangeSpec := { name := "verifyTells", fn := fun _ => fun
  | [d1, d2, d3] => { results := [.lit (.bool false)], args := [d1, d2, d3] }
  | _ => none }
def VerifyTellsWrongFalsely : Prop := verifyTellsRow.holds Try.pinned (OpenSpec.ofChange verifyTellsWrong)

/-- 'carillonlaw19.VerifySafe': WHATEVER THE INPUT: true; the input reads as it did. -/
def verifySafeSpec : ChangeSpec := { name := "verifySafe", fn := fun _ => fun
  | [d1, d2, d3] => { results := [.lit (.bool true)], args := [d1, d2, d3] }
  | _ => none }
def verifySafeRow : OpenClaim := { program := "ytnaapecmooljaaa", sum := "bfeee82d3a5d670c6d8cf7df96c8d2994925efcd0c8929b402965908534854f1", func := "carillon/carillonlaw19.VerifySafe", spec := "verifySafe", unfollowed := true, recurses := true, apart := false }
def VerifySafeSaid : Prop := verifySafeRow.holds Try.pinned (OpenSpec.ofChange verifySafeSpec)

/-- ITS FALSE NEIGHBOUR: 'it returns false'. Refute it at one input. -/
def verifySafeWrong : ChangeSpec := { name := "verifySafe", fn := fun _ => fun
  | [d1, d2, d3] => { results := [.lit (.bool false)], args := [d1, d2, d3] }
  | _ => none }
def VerifySafeWrongFalsely : Prop := verifySafeRow.holds Try.pinned (OpenSpec.ofChange verifySafeWrong)

/-- 'carillonlaw19.VerifyFits': WHATEVER THE INPUT: true; the input reads as it did. -/
def verifyFitsSpec : ChangeSpec := { name := "verifyFits", fn := fun _ => fun
  | [d1, d2, d3] => { results := [.lit (.bool true)], args := [d1, d2, d3] }
  | _ => none }
def verifyFitsRow : OpenClaim := { program := "ytnaapecmooljaaa", sum := "bfeee82d3a5d670c6d8cf7df96c8d2994925efcd0c8929b402965908534854f1", func := "carillon/carillonlaw19.VerifyFits", spec := "verifyFits", unfollowed := true, recurses := true, apart := false }
def VerifyFitsSaid : Prop := verifyFitsRow.holds Try.pinned (OpenSpec.ofChange verifyFitsSpec)

/-- ITS FALSE NEIGHBOUR: 'it returns false'. Refute it at one input. -/
def verifyFitsWrong : ChangeSpec := { name := "verifyFits", fn := fun _ => fun
  | [d1, d2, d3] => { results := [.lit (.bool false)], args := [d1, d2, d3] }
  | _ => none }
def VerifyFitsWrongFalsely : Prop := verifyFitsRow.holds Try.pinned (OpenSpec.ofChange verifyFitsWrong)

/-- 'carillonlaw19.VerifyAlone': WHATEVER THE INPUT: true; the input reads as it did. -/
def verifyAloneSpec : ChangeSpec := { name := "verifyAlone", fn := fun _ => fun
  | [d1, d2, d3] => { results := [.lit (.bool true)], args := [d1, d2, d3] }
  | _ => none }
def verifyAloneRow : OpenClaim := { program := "ytnaapecmooljaaa", sum := "bfeee82d3a5d670c6d8cf7df96c8d2994925efcd0c8929b402965908534854f1", func := "carillon/carillonlaw19.VerifyAlone", spec := "verifyAlone", unfollowed := true, recurses := true, apart := false }
def VerifyAloneSaid : Prop := verifyAloneRow.holds Try.pinned (OpenSpec.ofChange verifyAloneSpec)

/-- ITS FALSE NEIGHBOUR: 'it returns false'. Refute it at one input. -/
def verifyAloneWrong : ChangeSpec := { name := "verifyAlone", fn := fun _ => fun
  | [d1, d2, d3] => { results := [.lit (.bool false)], args := [d1, d2, d3] }
  | _ => none }
def VerifyAloneWrongFalsely : Prop := verifyAloneRow.holds Try.pinned (OpenSpec.ofChange verifyAloneWrong)

/-- 'carillonlaw21.CostEnds': WHATEVER THE INPUT: true; the input reads as it did. -/
def costEndsSpec : ChangeSpec := { name := "costEnds", fn := fun _ => fun
  | [d1, d2] => { results := [.lit (.bool true)], args := [d1, d2] }
  | _ => none }
def costEndsRow : OpenClaim := { program := "ytnaapecmooljaaa", sum := "bfeee82d3a5d670c6d8cf7df96c8d2994925efcd0c8929b402965908534854f1", func := "carillon/carillonlaw21.CostEnds", spec := "costEnds", unfollowed := true, recurses := true, apart := false }
def CostEndsSaid : Prop := costEndsRow.holds Try.pinned (OpenSpec.ofChange costEndsSpec)

/-- ITS FALSE NEIGHBOUR: 'it returns false'. Refute it at one input. -/
def costEndsWrong : ChangeSpec := { name := "costEnds", fn := fun _ => fun
  | [d1, d2] => { results := [.lit (.bool false)], args := [d1, d2] }
  | _ => none }
def CostEndsWrongFalsely : Prop := costEndsRow.holds Try.pinned (OpenSpec.ofChange costEndsWrong)

/- THE SECOND FORM. 'bulk': how many values and letters a reading holds, each counted each time it is reached (what is shared counts as often as it is met; a slice's spare places count too). A statement '..UptoSaid' is the law's where the arguments, and the package variables that the reading takes, are together of bulk at most 1048576: NARROWER than '..Said'. Prove '..Said' where nothing that the law and all that it calls make is longer than what came in: it says more and counts as full. Else prove '..UptoSaid'. A law counts once. -/
mutual
def uptoBulk {H : Type} : DataW H → Nat
  | .lit (.string bytes) => bytes.length + 1
  | .lit _ => 1
  | .nil => 1
  | .ptr d => uptoBulk d + 1
  | .slice elems spare => uptoBulkAll elems + uptoBulkAll spare + 1
  | .agg parts => uptoBulkAll parts + 1
  | .iface _ d => uptoBulk d + 1
  | .map entries => uptoBulkEntries entries + 1
  | .held _ => 1
def uptoBulkAll {H : Type} : List (DataW H) → Nat
  | [] => 0
  | d :: r => uptoBulk d + uptoBulkAll r
def uptoBulkEntries {H : Type} : List (Lit × DataW H) → Nat
  | [] => 0
  | x :: r => uptoBulkEntry x + uptoBulkEntries r
def uptoBulkEntry {H : Type} : Lit × DataW H → Nat
  | (.string bytes, d) => bytes.length + uptoBulk d + 1
  | (_, d) => uptoBulk d + 1
 end
def uptoSmall : (H : Type) → List (DataW H) → Bool := fun _ ds => decide (uptoBulkAll ds ≤ 1048576)
def OpenSpec.upto (s : _root_.Go.ChangeSpec) : _root_.Go.OpenSpec := { _root_.Go.OpenSpec.ofChange s with cond := some uptoSmall }

/-- 'carillonlaw18.CodeCodes', WHERE WHAT IT READS IS OF BULK AT MOST 1048576: true; the input reads as it did. -/
def codeCodesUptoRow : OpenClaim := { program := "ytnaapecmooljaaa", sum := "bfeee82d3a5d670c6d8cf7df96c8d2994925efcd0c8929b402965908534854f1", func := "carillon/carillonlaw18.CodeCodes", spec := "codeCodes", inPlace := ["internal/abi.NoEscape"], apart := false, narrowed := true }
def CodeCodesUptoSaid : Prop := codeCodesUptoRow.holds Try.pinned (OpenSpec.upto codeCodesSpec)

/-- 'carillonlaw18.CodeBack', WHERE WHAT IT READS IS OF BULK AT MOST 1048576: true; the input reads as it did. -/
def codeBackUptoRow : OpenClaim := { program := "ytnaapecmooljaaa", sum := "bfeee82d3a5d670c6d8cf7df96c8d2994925efcd0c8929b402965908534854f1", func := "carillon/carillonlaw18.CodeBack", spec := "codeBack", inPlace := ["internal/abi.NoEscape"], apart := false, narrowed := true }
def CodeBackUptoSaid : Prop := codeBackUptoRow.holds Try.pinned (OpenSpec.upto codeBackSpec)

/-- 'carillonlaw18.CodeFar', WHERE WHAT IT READS IS OF BULK AT MOST 1048576: true; the input reads as it did. -/
def codeFarUptoRow : OpenClaim := { program := "ytnaapecmooljaaa", sum := "bfeee82d3a5d670c6d8cf7df96c8d2994925efcd0c8929b402965908534854f1", func := "carillon/carillonlaw18.CodeFar", spec := "codeFar", inPlace := ["internal/abi.NoEscape"], apart := false, narrowed := true }
def CodeFarUptoSaid : Prop := codeFarUptoRow.holds Try.pinned (OpenSpec.upto codeFarSpec)

/-- 'carillonlaw18.CodeJoin', WHERE WHAT IT READS IS OF BULK AT MOST 1048576: true; the input reads as it did. -/
def codeJoinUptoRow : OpenClaim := { program := "ytnaapecmooljaaa", sum := "bfeee82d3a5d670c6d8cf7df96c8d2994925efcd0c8929b402965908534854f1", func := "carillon/carillonlaw18.CodeJoin", spec := "codeJoin", inPlace := ["internal/abi.NoEscape"], apart := false, narrowed := true }
def CodeJoinUptoSaid : Prop := codeJoinUptoRow.holds Try.pinned (OpenSpec.upto codeJoinSpec)

/-- 'carillonlaw21.CostTells', WHERE WHAT IT READS IS OF BULK AT MOST 1048576: true; the input reads as it did. -/
def costTellsUptoRow : OpenClaim := { program := "ytnaapecmooljaaa", sum := "bfeee82d3a5d670c6d8cf7df96c8d2994925efcd0c8929b402965908534854f1", func := "carillon/carillonlaw21.CostTells", spec := "costTells", unfollowed := true, recurses := true, apart := false, narrowed := true }
def CostTellsUptoSaid : Prop := costTellsUptoRow.holds Try.pinned (OpenSpec.upto costTellsSpec)

/-- 'carillonlaw21.CostBetween', WHERE WHAT IT READS IS OF BULK AT MOST 1048576: true; the input reads as it did. -/
def costBetweenUptoRow : OpenClaim := { program := "ytnaapecmooljaaa", sum := "bfeee82d3a5d670c6d8cf7df96c8d2994925efcd0c8929b402965908534854f1", func := "carillon/carillonlaw21.CostBetween", spec := "costBetween", unfollowed := true, recurses := true, apart := false, narrowed := true }
def CostBetweenUptoSaid : Prop := costBetweenUptoRow.holds Try.pinned (OpenSpec.upto costBetweenSpec)

/-- 'carillonlaw21.CostMore', WHERE WHAT IT READS IS OF BULK AT MOST 1048576: true; the input reads as it did. -/
def costMoreUptoRow : OpenClaim := { program := "ytnaapecmooljaaa", sum := "bfeee82d3a5d670c6d8cf7df96c8d2994925efcd0c8929b402965908534854f1", func := "carillon/carillonlaw21.CostMore", spec := "costMore", unfollowed := true, recurses := true, apart := false, narrowed := true }
def CostMoreUptoSaid : Prop := costMoreUptoRow.holds Try.pinned (OpenSpec.upto costMoreSpec)

/-- 'carillonlaw19.VerifyTells', WHERE WHAT IT READS IS OF BULK AT MOST 1048576: true; the input reads as it did. -/
def verifyTellsUptoRow : OpenClaim := { program := "ytnaapecmooljaaa", sum := "bfeee82d3a5d670c6d8cf7df96c8d2994925efcd0c8929b402965908534854f1", func := "carillon/carillonlaw19.VerifyTells", spec := "verifyTells", unfollowed := true, recurses := true, apart := false, narrowed := true }
def VerifyTellsUptoSaid : Prop := verifyTellsUptoRow.holds Try.pinned (OpenSpec.upto verifyTellsSpec)

/-- 'carillonlaw19.VerifySafe', WHERE WHAT IT READS IS OF BULK AT MOST 1048576: true; the input reads as it did. -/
def verifySafeUptoRow : OpenClaim := { program := "ytnaapecmooljaaa", sum := "bfeee82d3a5d670c6d8cf7df96c8d2994925efcd0c8929b402965908534854f1", func := "carillon/carillonlaw19.VerifySafe", spec := "verifySafe", unfollowed := true, recurses := true, apart := false, narrowed := true }
def VerifySafeUptoSaid : Prop := verifySafeUptoRow.holds Try.pinned (OpenSpec.upto verifySafeSpec)

/-- 'carillonlaw19.VerifyFits', WHERE WHAT IT READS IS OF BULK AT MOST 1048576: true; the input reads as it did. -/
def verifyFitsUptoRow : OpenClaim := { program := "ytnaapecmooljaaa", sum := "bfeee82d3a5d670c6d8cf7df96c8d2994925efcd0c8929b402965908534854f1", func := "carillon/carillonlaw19.VerifyFits", spec := "verifyFits", unfollowed := true, recurses := true, apart := false, narrowed := true }
def VerifyFitsUptoSaid : Prop := verifyFitsUptoRow.holds Try.pinned (OpenSpec.upto verifyFitsSpec)

/-- 'carillonlaw19.VerifyAlone', WHERE WHAT IT READS IS OF BULK AT MOST 1048576: true; the input reads as it did. -/
def verifyAloneUptoRow : OpenClaim := { program := "ytnaapecmooljaaa", sum := "bfeee82d3a5d670c6d8cf7df96c8d2994925efcd0c8929b402965908534854f1", func := "carillon/carillonlaw19.VerifyAlone", spec := "verifyAlone", unfollowed := true, recurses := true, apart := false, narrowed := true }
def VerifyAloneUptoSaid : Prop := verifyAloneUptoRow.holds Try.pinned (OpenSpec.upto verifyAloneSpec)

/-- 'carillonlaw21.CostEnds', WHERE WHAT IT READS IS OF BULK AT MOST 1048576: true; the input reads as it did. -/
def costEndsUptoRow : OpenClaim := { program := "ytnaapecmooljaaa", sum := "bfeee82d3a5d670c6d8cf7df96c8d2994925efcd0c8929b402965908534854f1", func := "carillon/carillonlaw21.CostEnds", spec := "costEnds", unfollowed := true, recurses := true, apart := false, narrowed := true }
def CostEndsUptoSaid : Prop := costEndsUptoRow.holds Try.pinned (OpenSpec.upto costEndsSpec)

end Rows
end Go.Proofs.Ytnaapecmooljaaa
