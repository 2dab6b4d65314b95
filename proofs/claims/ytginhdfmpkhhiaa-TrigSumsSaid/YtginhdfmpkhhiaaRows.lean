/-
  No cell of these rows narrows 'for every input' (looked for: loops, veiled, ifaces, maps, wideKeys, modest, calm, conditions, laid).
  DERIVED. THE GIVEN ROWS OF THIS SEAT. 6 by the template 'for every input the law returns true; each argument reads behind the call as it read before'; 0 by the template 'total and deterministic' (their statements: YtginhdfmpkhhiaaTotals.lean).
  GIVEN WITH THE SEED: the statements are not yours to turn. If you find one false, say at which input.
  Laid BY PROGRAM, IN A SANDBOX (cutbox-rows.mjs): the forced cells as the released guide's own fill.sh prints them over the translation 1982117aad8d0cc5… (all of the seat's roots in one cut). By AI agents, Wed Nov 11 2026. No macro, syntax, notation, axiom, sorry.
-/
import Derived.Test.YtginhdfmpkhhiaaChecked
import GoSem.Claim
import GoSem.ClaimJoined
import GoSem.ClaimMapViews
import Derived.JoinedTies
import Derived.KernelRfl
namespace Go.Proofs.Ytginhdfmpkhhiaa
/- THE CELL 'sum', in the pinned program and in every row, IS THE sha256 OF THE DUMP (.gsa) THAT YtginhdfmpkhhiaaProg.lean LOADS. Nothing in Lean hashes anything: it is a label: what it is worth is what the hold of that sum in a sandbox is worth. -/
noncomputable def Try.pinned : Pinned := { name := "ytginhdfmpkhhiaa", sum := "1982117aad8d0cc58762684af66802c636870ac00cc8fbf4a5eff9c05c2e26da", checked := Try.checked }
namespace Rows
def none {H : Type} : Left H := { results := [], args := [] }

/-- 'reedpipelaw04.TrigNames': WHATEVER THE INPUT: true; the input reads as it did. -/
def trigNamesSpec : ChangeSpec := { name := "trigNames", fn := fun _ => fun
  | [] => { results := [.lit (.bool true)], args := [] }
  | _ => none }
def trigNamesRow : OpenClaim := { program := "ytginhdfmpkhhiaa", sum := "1982117aad8d0cc58762684af66802c636870ac00cc8fbf4a5eff9c05c2e26da", func := "reedpipe/reedpipelaw04.TrigNames", spec := "trigNames", apart := false }
def TrigNamesSaid : Prop := trigNamesRow.holds Try.pinned (OpenSpec.ofChange trigNamesSpec)

/-- ITS FALSE NEIGHBOUR: 'it returns false'. Refute it at one input. -/
def trigNamesWrong : ChangeSpec := { name := "trigNames", fn := fun _ => fun
  | [] => { results := [.lit (.bool false)], args := [] }
  | _ => none }
def TrigNamesWrongFalsely : Prop := trigNamesRow.holds Try.pinned (OpenSpec.ofChange trigNamesWrong)

/-- 'reedpipelaw04.TrigDoes': WHATEVER THE INPUT: true; the input reads as it did. -/
def trigDoesSpec : ChangeSpec := { name := "trigDoes", fn := fun _ => fun
  | [d] => { results := [.lit (.bool true)], args := [d] }
  | _ => none }
def trigDoesRow : OpenClaim := { program := "ytginhdfmpkhhiaa", sum := "1982117aad8d0cc58762684af66802c636870ac00cc8fbf4a5eff9c05c2e26da", func := "reedpipe/reedpipelaw04.TrigDoes", spec := "trigDoes", recurses := true, apart := false }
def TrigDoesSaid : Prop := trigDoesRow.holds Try.pinned (OpenSpec.ofChange trigDoesSpec)

/-- ITS FALSE NEIGHBOUR: 'it returns false'. Refute it at one input. -/
def trigDoesWrong : ChangeSpec := { name := "trigDoes", fn := fun _ => fun
  | [d] => { results := [.lit (.bool false)], args := [d] }
  | _ => none }
def TrigDoesWrongFalsely : Prop := trigDoesRow.holds Try.pinned (OpenSpec.ofChange trigDoesWrong)

/-- 'reedpipelaw04.TrigAll': WHATEVER THE INPUT: true; the input reads as it did. -/
def trigAllSpec : ChangeSpec := { name := "trigAll", fn := fun _ => fun
  | [] => { results := [.lit (.bool true)], args := [] }
  | _ => none }
def trigAllRow : OpenClaim := { program := "ytginhdfmpkhhiaa", sum := "1982117aad8d0cc58762684af66802c636870ac00cc8fbf4a5eff9c05c2e26da", func := "reedpipe/reedpipelaw04.TrigAll", spec := "trigAll", recurses := true, apart := false }
def TrigAllSaid : Prop := trigAllRow.holds Try.pinned (OpenSpec.ofChange trigAllSpec)

/-- ITS FALSE NEIGHBOUR: 'it returns false'. Refute it at one input. -/
def trigAllWrong : ChangeSpec := { name := "trigAll", fn := fun _ => fun
  | [] => { results := [.lit (.bool false)], args := [] }
  | _ => none }
def TrigAllWrongFalsely : Prop := trigAllRow.holds Try.pinned (OpenSpec.ofChange trigAllWrong)

/-- 'reedpipelaw04.TrigTurns': WHATEVER THE INPUT: true; the input reads as it did. -/
def trigTurnsSpec : ChangeSpec := { name := "trigTurns", fn := fun _ => fun
  | [d1, d2] => { results := [.lit (.bool true)], args := [d1, d2] }
  | _ => none }
def trigTurnsRow : OpenClaim := { program := "ytginhdfmpkhhiaa", sum := "1982117aad8d0cc58762684af66802c636870ac00cc8fbf4a5eff9c05c2e26da", func := "reedpipe/reedpipelaw04.TrigTurns", spec := "trigTurns", apart := false }
def TrigTurnsSaid : Prop := trigTurnsRow.holds Try.pinned (OpenSpec.ofChange trigTurnsSpec)

/-- ITS FALSE NEIGHBOUR: 'it returns false'. Refute it at one input. -/
def trigTurnsWrong : ChangeSpec := { name := "trigTurns", fn := fun _ => fun
  | [d1, d2] => { results := [.lit (.bool false)], args := [d1, d2] }
  | _ => none }
def TrigTurnsWrongFalsely : Prop := trigTurnsRow.holds Try.pinned (OpenSpec.ofChange trigTurnsWrong)

/-- 'reedpipelaw04.TrigCircle': WHATEVER THE INPUT: true; the input reads as it did. -/
def trigCircleSpec : ChangeSpec := { name := "trigCircle", fn := fun _ => fun
  | [] => { results := [.lit (.bool true)], args := [] }
  | _ => none }
def trigCircleRow : OpenClaim := { program := "ytginhdfmpkhhiaa", sum := "1982117aad8d0cc58762684af66802c636870ac00cc8fbf4a5eff9c05c2e26da", func := "reedpipe/reedpipelaw04.TrigCircle", spec := "trigCircle", apart := false }
def TrigCircleSaid : Prop := trigCircleRow.holds Try.pinned (OpenSpec.ofChange trigCircleSpec)

/-- ITS FALSE NEIGHBOUR: 'it returns false'. Refute it at one input. -/
def trigCircleWrong : ChangeSpec := { name := "trigCircle", fn := fun _ => fun
  | [] => { results := [.lit (.bool false)], args := [] }
  | _ => none }
def TrigCircleWrongFalsely : Prop := trigCircleRow.holds Try.pinned (OpenSpec.ofChange trigCircleWrong)

/-- 'reedpipelaw04.TrigSums': WHATEVER THE INPUT: true; the input reads as it did. -/
def trigSumsSpec : ChangeSpec := { name := "trigSums", fn := fun _ => fun
  | [d1, d2] => { results := [.lit (.bool true)], args := [d1, d2] }
  | _ => none }
def trigSumsRow : OpenClaim := { program := "ytginhdfmpkhhiaa", sum := "1982117aad8d0cc58762684af66802c636870ac00cc8fbf4a5eff9c05c2e26da", func := "reedpipe/reedpipelaw04.TrigSums", spec := "trigSums", apart := false }
def TrigSumsSaid : Prop := trigSumsRow.holds Try.pinned (OpenSpec.ofChange trigSumsSpec)

/-- ITS FALSE NEIGHBOUR: 'it returns false'. Refute it at one input. -/
def trigSumsWrong : ChangeSpec := { name := "trigSums", fn := fun _ => fun
  | [d1, d2] => { results := [.lit (.bool false)], args := [d1, d2] }
  | _ => none }
def TrigSumsWrongFalsely : Prop := trigSumsRow.holds Try.pinned (OpenSpec.ofChange trigSumsWrong)

/- THE SECOND FORM. 'bulk': how many values and letters a reading holds, each counted each time it is reached (what is shared counts as often as it is met; a slice's spare places count too). A statement '..UptoSaid' is the law's where the arguments, and the package variables that the reading takes, are together of bulk at most 1048576: NARROWER than '..Said'. Prove '..Said' where nothing that the law and all that it calls make is longer than what came in: it says more and counts as full. Else prove '..UptoSaid'. A law counts once. -/
mutual
def uptoBulk {H : Type} : DataW H → Nat
  | .lit (.string bytes) => bytes.length + 1
  | .lit _ => 1
  | .nil => 1
  | .ptr d => uptoBulk d + 1
  | .slice elems spare => uptoBulkAll elems + uptoBulkAll spare + 1
  | .agg parts => uptoBulkAll parts + 1
  | .iface _ d => uptoBulk d + 1
  | .map entries => uptoBulkEntries entries + 1
  | .held _ => 1
def uptoBulkAll {H : Type} : List (DataW H) → Nat
  | [] => 0
  | d :: r => uptoBulk d + uptoBulkAll r
def uptoBulkEntries {H : Type} : List (Lit × DataW H) → Nat
  | [] => 0
  | x :: r => uptoBulkEntry x + uptoBulkEntries r
def uptoBulkEntry {H : Type} : Lit × DataW H → Nat
  | (.string bytes, d) => bytes.length + uptoBulk d + 1
  | (_, d) => uptoBulk d + 1
 end
def uptoSmall : (H : Type) → List (DataW H) → Bool := fun _ ds => decide (uptoBulkAll ds ≤ 1048576)
def OpenSpec.upto (s : _root_.Go.ChangeSpec) : _root_.Go.OpenSpec := { _root_.Go.OpenSpec.ofChange s with cond := some uptoSmall }

/-- 'reedpipelaw04.TrigNames', WHERE WHAT IT READS IS OF BULK AT MOST 1048576: true; the input reads as it did. -/
def trigNamesUptoRow : OpenClaim := { program := "ytginhdfmpkhhiaa", sum := "1982117aad8d0cc58762684af66802c636870ac00cc8fbf4a5eff9c05c2e26da", func := "reedpipe/reedpipelaw04.TrigNames", spec := "trigNames", apart := false, narrowed := true }
def TrigNamesUptoSaid : Prop := trigNamesUptoRow.holds Try.pinned (OpenSpec.upto trigNamesSpec)

/-- 'reedpipelaw04.TrigDoes', WHERE WHAT IT READS IS OF BULK AT MOST 1048576: true; the input reads as it did. -/
def trigDoesUptoRow : OpenClaim := { program := "ytginhdfmpkhhiaa", sum := "1982117aad8d0cc58762684af66802c636870ac00cc8fbf4a5eff9c05c2e26da", func := "reedpipe/reedpipelaw04.TrigDoes", spec := "trigDoes", recurses := true, apart := false, narrowed := true }
def TrigDoesUptoSaid : Prop := trigDoesUptoRow.holds Try.pinned (OpenSpec.upto trigDoesSpec)

/-- 'reedpipelaw04.TrigAll', WHERE WHAT IT READS IS OF BULK AT MOST 1048576: true; the input reads as it did. -/
def trigAllUptoRow : OpenClaim := { program := "ytginhdfmpkhhiaa", sum := "1982117aad8d0cc58762684af66802c636870ac00cc8fbf4a5eff9c05c2e26da", func := "reedpipe/reedpipelaw04.TrigAll", spec := "trigAll", recurses := true, apart := false, narrowed := true }
def TrigAllUptoSaid : Prop := trigAllUptoRow.holds Try.pinned (OpenSpec.upto trigAllSpec)

/-- 'reedpipelaw04.TrigTurns', WHERE WHAT IT READS IS OF BULK AT MOST 1048576: true; the input reads as it did. -/
def trigTurnsUptoRow : OpenClaim := { program := "ytginhdfmpkhhiaa", sum := "1982117aad8d0cc58762684af66802c636870ac00cc8fbf4a5eff9c05c2e26da", func := "reedpipe/reedpipelaw04.TrigTurns", spec := "trigTurns", apart := false, narrowed := true }
def TrigTurnsUptoSaid : Prop := trigTurnsUptoRow.holds Try.pinned (OpenSpec.upto trigTurnsSpec)

/-- 'reedpipelaw04.TrigCircle', WHERE WHAT IT READS IS OF BULK AT MOST 1048576: true; the input reads as it did. -/
def trigCircleUptoRow : OpenClaim := { program := "ytginhdfmpkhhiaa", sum := "1982117aad8d0cc58762684af66802c636870ac00cc8fbf4a5eff9c05c2e26da", func := "reedpipe/reedpipelaw04.TrigCircle", spec := "trigCircle", apart := false, narrowed := true }
def TrigCircleUptoSaid : Prop := trigCircleUptoRow.holds Try.pinned (OpenSpec.upto trigCircleSpec)

/-- 'reedpipelaw04.TrigSums', WHERE WHAT IT READS IS OF BULK AT MOST 1048576: true; the input reads as it did. -/
def trigSumsUptoRow : OpenClaim := { program := "ytginhdfmpkhhiaa", sum := "1982117aad8d0cc58762684af66802c636870ac00cc8fbf4a5eff9c05c2e26da", func := "reedpipe/reedpipelaw04.TrigSums", spec := "trigSums", apart := false, narrowed := true }
def TrigSumsUptoSaid : Prop := trigSumsUptoRow.holds Try.pinned (OpenSpec.upto trigSumsSpec)

end Rows
end Go.Proofs.Ytginhdfmpkhhiaa
