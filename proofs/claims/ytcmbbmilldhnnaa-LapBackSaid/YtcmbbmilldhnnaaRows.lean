/-
  No cell of these rows narrows 'for every input' (looked for: loops, veiled, ifaces, maps, wideKeys, modest, calm, conditions, laid).
  DERIVED. THE GIVEN ROWS OF THIS SEAT. 5 by the template 'for every input the law returns true; each argument reads behind the call as it read before'; 0 by the template 'total and deterministic' (their statements: YtcmbbmilldhnnaaTotals.lean).
  GIVEN WITH THE SEED: the statements are not yours to turn. If you find one false, say at which input.
  Laid BY PROGRAM, IN A SANDBOX (cutbox-rows.mjs): the forced cells as the released guide's own fill.sh prints them over the translation b9b902cc6e0ea927… (all of the seat's roots in one cut). By AI agents, Wed Nov 11 2026. No macro, syntax, notation, axiom, sorry.
-/
import Derived.Test.YtcmbbmilldhnnaaChecked
import GoSem.Claim
import GoSem.ClaimJoined
import GoSem.ClaimMapViews
import Derived.JoinedTies
import Derived.KernelRfl
namespace Go.Proofs.Ytcmbbmilldhnnaa
/- THE CELL 'sum', in the pinned program and in every row, IS THE sha256 OF THE DUMP (.gsa) THAT YtcmbbmilldhnnaaProg.lean LOADS. Nothing in Lean hashes anything: it is a label: what it is worth is what the hold of that sum in a sandbox is worth. -/
noncomputable def Try.pinned : Pinned := { name := "ytcmbbmilldhnnaa", sum := "b9b902cc6e0ea9274c03105b2e31d71e0c7fe0f042870e89231136b86cfc530d", checked := Try.checked }
namespace Rows
def none {H : Type} : Left H := { results := [], args := [] }

/-- 'reedpipelaw13.LapQuiet': WHATEVER THE INPUT: true; the input reads as it did. -/
def lapQuietSpec : ChangeSpec := { name := "lapQuiet", fn := fun _ => fun
  | [d1, d2, d3, d4] => { results := [.lit (.bool true)], args := [d1, d2, d3, d4] }
  | _ => none }
def lapQuietRow : OpenClaim := { program := "ytcmbbmilldhnnaa", sum := "b9b902cc6e0ea9274c03105b2e31d71e0c7fe0f042870e89231136b86cfc530d", func := "reedpipe/reedpipelaw13.LapQuiet", spec := "lapQuiet", unfollowed := true, recurses := true, apart := false }
def LapQuietSaid : Prop := lapQuietRow.holds Try.pinned (OpenSpec.ofChange lapQuietSpec)

/-- ITS FALSE NEIGHBOUR: 'it returns false'. Refute it at one input. -/
def lapQuietWrong : ChangeSpec := { name := "lapQuiet", fn := fun _ => fun
  | [d1, d2, d3, d4] => { results := [.lit (.bool false)], args := [d1, d2, d3, d4] }
  | _ => none }
def LapQuietWrongFalsely : Prop := lapQuietRow.holds Try.pinned (OpenSpec.ofChange lapQuietWrong)

/-- 'reedpipelaw13.LapBack': WHATEVER THE INPUT: true; the input reads as it did. -/
def lapBackSpec : ChangeSpec := { name := "lapBack", fn := fun _ => fun
  | [d1, d2] => { results := [.lit (.bool true)], args := [d1, d2] }
  | _ => none }
def lapBackRow : OpenClaim := { program := "ytcmbbmilldhnnaa", sum := "b9b902cc6e0ea9274c03105b2e31d71e0c7fe0f042870e89231136b86cfc530d", func := "reedpipe/reedpipelaw13.LapBack", spec := "lapBack", unfollowed := true, recurses := true, apart := false }
def LapBackSaid : Prop := lapBackRow.holds Try.pinned (OpenSpec.ofChange lapBackSpec)

/-- ITS FALSE NEIGHBOUR: 'it returns false'. Refute it at one input. -/
def lapBackWrong : ChangeSpec := { name := "lapBack", fn := fun _ => fun
  | [d1, d2] => { results := [.lit (.bool false)], args := [d1, d2] }
  | _ => none }
def LapBackWrongFalsely : Prop := lapBackRow.holds Try.pinned (OpenSpec.ofChange lapBackWrong)

/-- 'reedpipelaw13.LapNames': WHATEVER THE INPUT: true; the input reads as it did. -/
def lapNamesSpec : ChangeSpec := { name := "lapNames", fn := fun _ => fun
  | [] => { results := [.lit (.bool true)], args := [] }
  | _ => none }
def lapNamesRow : OpenClaim := { program := "ytcmbbmilldhnnaa", sum := "b9b902cc6e0ea9274c03105b2e31d71e0c7fe0f042870e89231136b86cfc530d", func := "reedpipe/reedpipelaw13.LapNames", spec := "lapNames", unfollowed := true, recurses := true, apart := false }
def LapNamesSaid : Prop := lapNamesRow.holds Try.pinned (OpenSpec.ofChange lapNamesSpec)

/-- ITS FALSE NEIGHBOUR: 'it returns false'. Refute it at one input. -/
def lapNamesWrong : ChangeSpec := { name := "lapNames", fn := fun _ => fun
  | [] => { results := [.lit (.bool false)], args := [] }
  | _ => none }
def LapNamesWrongFalsely : Prop := lapNamesRow.holds Try.pinned (OpenSpec.ofChange lapNamesWrong)

/-- 'reedpipelaw13.LapDoes': WHATEVER THE INPUT: true; the input reads as it did. -/
def lapDoesSpec : ChangeSpec := { name := "lapDoes", fn := fun _ => fun
  | [d1, d2, d3, d4] => { results := [.lit (.bool true)], args := [d1, d2, d3, d4] }
  | _ => none }
def lapDoesRow : OpenClaim := { program := "ytcmbbmilldhnnaa", sum := "b9b902cc6e0ea9274c03105b2e31d71e0c7fe0f042870e89231136b86cfc530d", func := "reedpipe/reedpipelaw13.LapDoes", spec := "lapDoes", unfollowed := true, recurses := true, apart := false }
def LapDoesSaid : Prop := lapDoesRow.holds Try.pinned (OpenSpec.ofChange lapDoesSpec)

/-- ITS FALSE NEIGHBOUR: 'it returns false'. Refute it at one input. -/
def lapDoesWrong : ChangeSpec := { name := "lapDoes", fn := fun _ => fun
  | [d1, d2, d3, d4] => { results := [.lit (.bool false)], args := [d1, d2, d3, d4] }
  | _ => none }
def LapDoesWrongFalsely : Prop := lapDoesRow.holds Try.pinned (OpenSpec.ofChange lapDoesWrong)

/-- 'reedpipelaw13.LapForgets': WHATEVER THE INPUT: true; the input reads as it did. -/
def lapForgetsSpec : ChangeSpec := { name := "lapForgets", fn := fun _ => fun
  | [d1, d2, d3, d4, d5, d6] => { results := [.lit (.bool true)], args := [d1, d2, d3, d4, d5, d6] }
  | _ => none }
def lapForgetsRow : OpenClaim := { program := "ytcmbbmilldhnnaa", sum := "b9b902cc6e0ea9274c03105b2e31d71e0c7fe0f042870e89231136b86cfc530d", func := "reedpipe/reedpipelaw13.LapForgets", spec := "lapForgets", unfollowed := true, recurses := true, apart := false }
def LapForgetsSaid : Prop := lapForgetsRow.holds Try.pinned (OpenSpec.ofChange lapForgetsSpec)

/-- ITS FALSE NEIGHBOUR: 'it returns false'. Refute it at one input. -/
def lapForgetsWrong : ChangeSpec := { name := "lapForgets", fn := fun _ => fun
  | [d1, d2, d3, d4, d5, d6] => { results := [.lit (.bool false)], args := [d1, d2, d3, d4, d5, d6] }
  | _ => none }
def LapForgetsWrongFalsely : Prop := lapForgetsRow.holds Try.pinned (OpenSpec.ofChange lapForgetsWrong)

/- THE SECOND FORM. 'bulk': how many values and letters a reading holds, each counted each time it is reached (what is shared counts as often as it is met; a slice's spare places count too). A statement '..UptoSaid' is the law's where the arguments, and the package variables that the reading takes, are together of bulk at most 1048576: NARROWER than '..Said'. Prove '..Said' where nothing that the law and all that it calls make is longer than what came in: it says more and counts as full. Else prove '..UptoSaid'. A law counts once. -/
mutual
def uptoBulk {H : Type} : DataW H → Nat
  | .lit (.string bytes) => bytes.length + 1
  | .lit _ => 1
  | .nil => 1
  | .ptr d => uptoBulk d + 1
  | .slice elems spare => uptoBulkAll elems + uptoBulkAll spare + 1
  | .agg parts => uptoBulkAll parts + 1
  | .iface _ d => uptoBulk d + 1
  | .map entries => uptoBulkEntries entries + 1
  | .held _ => 1
def uptoBulkAll {H : Type} : List (DataW H) → Nat
  | [] => 0
  | d :: r => uptoBulk d + uptoBulkAll r
def uptoBulkEntries {H : Type} : List (Lit × DataW H) → Nat
  | [] => 0
  | x :: r => uptoBulkEntry x + uptoBulkEntries r
def uptoBulkEntry {H : Type} : Lit × DataW H → Nat
  | (.string bytes, d) => bytes.length + uptoBulk d + 1
  | (_, d) => uptoBulk d + 1
 end
def uptoSmall : (H : Type) → List (DataW H) → Bool := fun _ ds => decide (uptoBulkAll ds ≤ 1048576)
def OpenSpec.upto (s : _root_.Go.ChangeSpec) : _root_.Go.OpenSpec := { _root_.Go.OpenSpec.ofChange s with cond := some uptoSmall }

/-- 'reedpipelaw13.LapQuiet', WHERE WHAT IT READS IS OF BULK AT MOST 1048576: true; the input reads as it did. -/
def lapQuietUptoRow : OpenClaim := { program := "ytcmbbmilldhnnaa", sum := "b9b902cc6e0ea9274c03105b2e31d71e0c7fe0f042870e89231136b86cfc530d", func := "reedpipe/reedpipelaw13.LapQuiet", spec := "lapQuiet", unfollowed := true, recurses := true, apart := false, narrowed := true }
def LapQuietUptoSaid : Prop := lapQuietUptoRow.holds Try.pinned (OpenSpec.upto lapQuietSpec)

/-- 'reedpipelaw13.LapBack', WHERE WHAT IT READS IS OF BULK AT MOST 1048576: true; the input reads as it did. -/
def lapBackUptoRow : OpenClaim := { program := "ytcmbbmilldhnnaa", sum := "b9b902cc6e0ea9274c03105b2e31d71e0c7fe0f042870e89231136b86cfc530d", func := "reedpipe/reedpipelaw13.LapBack", spec := "lapBack", unfollowed := true, recurses := true, apart := false, narrowed := true }
def LapBackUptoSaid : Prop := lapBackUptoRow.holds Try.pinned (OpenSpec.upto lapBackSpec)

/-- 'reedpipelaw13.LapNames', WHERE WHAT IT READS IS OF BULK AT MOST 1048576: true; the input reads as it did. -/
def lapNamesUptoRow : OpenClaim := { program := "ytcmbbmilldhnnaa", sum := "b9b902cc6e0ea9274c03105b2e31d71e0c7fe0f042870e89231136b86cfc530d", func := "reedpipe/reedpipelaw13.LapNames", spec := "lapNames", unfollowed := true, recurses := true, apart := false, narrowed := true }
def LapNamesUptoSaid : Prop := lapNamesUptoRow.holds Try.pinned (OpenSpec.upto lapNamesSpec)

/-- 'reedpipelaw13.LapDoes', WHERE WHAT IT READS IS OF BULK AT MOST 1048576: true; the input reads as it did. -/
def lapDoesUptoRow : OpenClaim := { program := "ytcmbbmilldhnnaa", sum := "b9b902cc6e0ea9274c03105b2e31d71e0c7fe0f042870e89231136b86cfc530d", func := "reedpipe/reedpipelaw13.LapDoes", spec := "lapDoes", unfollowed := true, recurses := true, apart := false, narrowed := true }
def LapDoesUptoSaid : Prop := lapDoesUptoRow.holds Try.pinned (OpenSpec.upto lapDoesSpec)

/-- 'reedpipelaw13.LapForgets', WHERE WHAT IT READS IS OF BULK AT MOST 1048576: true; the input reads as it did. -/
def lapForgetsUptoRow : OpenClaim := { program := "ytcmbbmilldhnnaa", sum := "b9b902cc6e0ea9274c03105b2e31d71e0c7fe0f042870e89231136b86cfc530d", func := "reedpipe/reedpipelaw13.LapForgets", spec := "lapForgets", unfollowed := true, recurses := true, apart := false, narrowed := true }
def LapForgetsUptoSaid : Prop := lapForgetsUptoRow.holds Try.pinned (OpenSpec.upto lapForgetsSpec)

end Rows
end Go.Proofs.Ytcmbbmilldhnnaa
