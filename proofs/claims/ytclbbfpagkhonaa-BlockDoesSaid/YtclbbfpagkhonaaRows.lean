/-
  No cell of these rows narrows 'for every input' (looked for: loops, veiled, ifaces, maps, wideKeys, modest, calm, conditions, laid).
  DERIVED. THE GIVEN ROWS OF THIS SEAT. 5 by the template 'for every input the law returns true; each argument reads behind the call as it read before'; 0 by the template 'total and deterministic' (their statements: YtclbbfpagkhonaaTotals.lean).
  GIVEN WITH THE SEED: the statements are not yours to turn. If you find one false, say at which input.
  Laid BY PROGRAM, IN A SANDBOX (cutbox-rows.mjs): the forced cells as the released guide's own fill.sh prints them over the translation 50e0b36316fc2612… (all of the seat's roots in one cut). By AI agents, Wed Nov 11 2026. No macro, syntax, notation, axiom, sorry.
-/
import Derived.Test.YtclbbfpagkhonaaChecked
import GoSem.Claim
import GoSem.ClaimJoined
import GoSem.ClaimMapViews
import Derived.JoinedTies
import Derived.KernelRfl
namespace Go.Proofs.Ytclbbfpagkhonaa
/- THE CELL 'sum', in the pinned program and in every row, IS THE sha256 OF THE DUMP (.gsa) THAT YtclbbfpagkhonaaProg.lean LOADS. Nothing in Lean hashes anything: it is a label: what it is worth is what the hold of that sum in a sandbox is worth. -/
noncomputable def Try.pinned : Pinned := { name := "ytclbbfpagkhonaa", sum := "50e0b36316fc26125232b8540ada87cc755f9c4a650ad2b470434b6f13a6ba9d", checked := Try.checked }
namespace Rows
def none {H : Type} : Left H := { results := [], args := [] }

/-- 'reedpipelaw12.BlockPower': WHATEVER THE INPUT: true; the input reads as it did. -/
def blockPowerSpec : ChangeSpec := { name := "blockPower", fn := fun _ => fun
  | [] => { results := [.lit (.bool true)], args := [] }
  | _ => none }
def blockPowerRow : OpenClaim := { program := "ytclbbfpagkhonaa", sum := "50e0b36316fc26125232b8540ada87cc755f9c4a650ad2b470434b6f13a6ba9d", func := "reedpipe/reedpipelaw12.BlockPower", spec := "blockPower", unfollowed := true, recurses := true, apart := false }
def BlockPowerSaid : Prop := blockPowerRow.holds Try.pinned (OpenSpec.ofChange blockPowerSpec)

/-- ITS FALSE NEIGHBOUR: 'it returns false'. Refute it at one input. -/
def blockPowerWrong : ChangeSpec := { name := "blockPower", fn := fun _ => fun
  | [] => { results := [.lit (.bool false)], args := [] }
  | _ => none }
def BlockPowerWrongFalsely : Prop := blockPowerRow.holds Try.pinned (OpenSpec.ofChange blockPowerWrong)

/-- 'reedpipelaw12.BlockNames': WHATEVER THE INPUT: true; the input reads as it did. -/
def blockNamesSpec : ChangeSpec := { name := "blockNames", fn := fun _ => fun
  | [] => { results := [.lit (.bool true)], args := [] }
  | _ => none }
def blockNamesRow : OpenClaim := { program := "ytclbbfpagkhonaa", sum := "50e0b36316fc26125232b8540ada87cc755f9c4a650ad2b470434b6f13a6ba9d", func := "reedpipe/reedpipelaw12.BlockNames", spec := "blockNames", unfollowed := true, recurses := true, apart := false }
def BlockNamesSaid : Prop := blockNamesRow.holds Try.pinned (OpenSpec.ofChange blockNamesSpec)

/-- ITS FALSE NEIGHBOUR: 'it returns false'. Refute it at one input. -/
def blockNamesWrong : ChangeSpec := { name := "blockNames", fn := fun _ => fun
  | [] => { results := [.lit (.bool false)], args := [] }
  | _ => none }
def BlockNamesWrongFalsely : Prop := blockNamesRow.holds Try.pinned (OpenSpec.ofChange blockNamesWrong)

/-- 'reedpipelaw12.BlockDoes': WHATEVER THE INPUT: true; the input reads as it did. -/
def blockDoesSpec : ChangeSpec := { name := "blockDoes", fn := fun _ => fun
  | [d1, d2, d3, d4, d5] => { results := [.lit (.bool true)], args := [d1, d2, d3, d4, d5] }
  | _ => none }
def blockDoesRow : OpenClaim := { program := "ytclbbfpagkhonaa", sum := "50e0b36316fc26125232b8540ada87cc755f9c4a650ad2b470434b6f13a6ba9d", func := "reedpipe/reedpipelaw12.BlockDoes", spec := "blockDoes", unfollowed := true, recurses := true, apart := false }
def BlockDoesSaid : Prop := blockDoesRow.holds Try.pinned (OpenSpec.ofChange blockDoesSpec)

/-- ITS FALSE NEIGHBOUR: 'it returns false'. Refute it at one input. -/
def blockDoesWrong : ChangeSpec := { name := "blockDoes", fn := fun _ => fun
  | [d1, d2, d3, d4, d5] => { results := [.lit (.bool false)], args := [d1, d2, d3, d4, d5] }
  | _ => none }
def BlockDoesWrongFalsely : Prop := blockDoesRow.holds Try.pinned (OpenSpec.ofChange blockDoesWrong)

/-- 'reedpipelaw12.BlockUnder': WHATEVER THE INPUT: true; the input reads as it did. -/
def blockUnderSpec : ChangeSpec := { name := "blockUnder", fn := fun _ => fun
  | [d1, d2, d3, d4, d5, d6] => { results := [.lit (.bool true)], args := [d1, d2, d3, d4, d5, d6] }
  | _ => none }
def blockUnderRow : OpenClaim := { program := "ytclbbfpagkhonaa", sum := "50e0b36316fc26125232b8540ada87cc755f9c4a650ad2b470434b6f13a6ba9d", func := "reedpipe/reedpipelaw12.BlockUnder", spec := "blockUnder", unfollowed := true, recurses := true, apart := false }
def BlockUnderSaid : Prop := blockUnderRow.holds Try.pinned (OpenSpec.ofChange blockUnderSpec)

/-- ITS FALSE NEIGHBOUR: 'it returns false'. Refute it at one input. -/
def blockUnderWrong : ChangeSpec := { name := "blockUnder", fn := fun _ => fun
  | [d1, d2, d3, d4, d5, d6] => { results := [.lit (.bool false)], args := [d1, d2, d3, d4, d5, d6] }
  | _ => none }
def BlockUnderWrongFalsely : Prop := blockUnderRow.holds Try.pinned (OpenSpec.ofChange blockUnderWrong)

/-- 'reedpipelaw12.BlockShorts': WHATEVER THE INPUT: true; the input reads as it did. -/
def blockShortsSpec : ChangeSpec := { name := "blockShorts", fn := fun _ => fun
  | [d1, d2, d3, d4, d5] => { results := [.lit (.bool true)], args := [d1, d2, d3, d4, d5] }
  | _ => none }
def blockShortsRow : OpenClaim := { program := "ytclbbfpagkhonaa", sum := "50e0b36316fc26125232b8540ada87cc755f9c4a650ad2b470434b6f13a6ba9d", func := "reedpipe/reedpipelaw12.BlockShorts", spec := "blockShorts", unfollowed := true, recurses := true, apart := false }
def BlockShortsSaid : Prop := blockShortsRow.holds Try.pinned (OpenSpec.ofChange blockShortsSpec)

/-- ITS FALSE NEIGHBOUR: 'it returns false'. Refute it at one input. -/
def blockShortsWrong : ChangeSpec := { name := "blockShorts", fn := fun _ => fun
  | [d1, d2, d3, d4, d5] => { results := [.lit (.bool false)], args := [d1, d2, d3, d4, d5] }
  | _ => none }
def BlockShortsWrongFalsely : Prop := blockShortsRow.holds Try.pinned (OpenSpec.ofChange blockShortsWrong)

/- THE SECOND FORM. 'bulk': how many values and letters a reading holds, each counted each time it is reached (what is shared counts as often as it is met; a slice's spare places count too). A statement '..UptoSaid' is the law's where the arguments, and the package variables that the reading takes, are together of bulk at most 1048576: NARROWER than '..Said'. Prove '..Said' where nothing that the law and all that it calls make is longer than what came in: it says more and counts as full. Else prove '..UptoSaid'. A law counts once. -/
mutual
def uptoBulk {H : Type} : DataW H → Nat
  | .lit (.string bytes) => bytes.length + 1
  | .lit _ => 1
  | .nil => 1
  | .ptr d => uptoBulk d + 1
  | .slice elems spare => uptoBulkAll elems + uptoBulkAll spare + 1
  | .agg parts => uptoBulkAll parts + 1
  | .iface _ d => uptoBulk d + 1
  | .map entries => uptoBulkEntries entries + 1
  | .held _ => 1
def uptoBulkAll {H : Type} : List (DataW H) → Nat
  | [] => 0
  | d :: r => uptoBulk d + uptoBulkAll r
def uptoBulkEntries {H : Type} : List (Lit × DataW H) → Nat
  | [] => 0
  | x :: r => uptoBulkEntry x + uptoBulkEntries r
def uptoBulkEntry {H : Type} : Lit × DataW H → Nat
  | (.string bytes, d) => bytes.length + uptoBulk d + 1
  | (_, d) => uptoBulk d + 1
 end
def uptoSmall : (H : Type) → List (DataW H) → Bool := fun _ ds => decide (uptoBulkAll ds ≤ 1048576)
def OpenSpec.upto (s : _root_.Go.ChangeSpec) : _root_.Go.OpenSpec := { _root_.Go.OpenSpec.ofChange s with cond := some uptoSmall }

/-- 'reedpipelaw12.BlockPower', WHERE WHAT IT READS IS OF BULK AT MOST 1048576: true; the input reads as it did. -/
def blockPowerUptoRow : OpenClaim := { program := "ytclbbfpagkhonaa", sum := "50e0b36316fc26125232b8540ada87cc755f9c4a650ad2b470434b6f13a6ba9d", func := "reedpipe/reedpipelaw12.BlockPower", spec := "blockPower", unfollowed := true, recurses := true, apart := false, narrowed := true }
def BlockPowerUptoSaid : Prop := blockPowerUptoRow.holds Try.pinned (OpenSpec.upto blockPowerSpec)

/-- 'reedpipelaw12.BlockNames', WHERE WHAT IT READS IS OF BULK AT MOST 1048576: true; the input reads as it did. -/
def blockNamesUptoRow : OpenClaim := { program := "ytclbbfpagkhonaa", sum := "50e0b36316fc26125232b8540ada87cc755f9c4a650ad2b470434b6f13a6ba9d", func := "reedpipe/reedpipelaw12.BlockNames", spec := "blockNames", unfollowed := true, recurses := true, apart := false, narrowed := true }
def BlockNamesUptoSaid : Prop := blockNamesUptoRow.holds Try.pinned (OpenSpec.upto blockNamesSpec)

/-- 'reedpipelaw12.BlockDoes', WHERE WHAT IT READS IS OF BULK AT MOST 1048576: true; the input reads as it did. -/
def blockDoesUptoRow : OpenClaim := { program := "ytclbbfpagkhonaa", sum := "50e0b36316fc26125232b8540ada87cc755f9c4a650ad2b470434b6f13a6ba9d", func := "reedpipe/reedpipelaw12.BlockDoes", spec := "blockDoes", unfollowed := true, recurses := true, apart := false, narrowed := true }
def BlockDoesUptoSaid : Prop := blockDoesUptoRow.holds Try.pinned (OpenSpec.upto blockDoesSpec)

/-- 'reedpipelaw12.BlockUnder', WHERE WHAT IT READS IS OF BULK AT MOST 1048576: true; the input reads as it did. -/
def blockUnderUptoRow : OpenClaim := { program := "ytclbbfpagkhonaa", sum := "50e0b36316fc26125232b8540ada87cc755f9c4a650ad2b470434b6f13a6ba9d", func := "reedpipe/reedpipelaw12.BlockUnder", spec := "blockUnder", unfollowed := true, recurses := true, apart := false, narrowed := true }
def BlockUnderUptoSaid : Prop := blockUnderUptoRow.holds Try.pinned (OpenSpec.upto blockUnderSpec)

/-- 'reedpipelaw12.BlockShorts', WHERE WHAT IT READS IS OF BULK AT MOST 1048576: true; the input reads as it did. -/
def blockShortsUptoRow : OpenClaim := { program := "ytclbbfpagkhonaa", sum := "50e0b36316fc26125232b8540ada87cc755f9c4a650ad2b470434b6f13a6ba9d", func := "reedpipe/reedpipelaw12.BlockShorts", spec := "blockShorts", unfollowed := true, recurses := true, apart := false, narrowed := true }
def BlockShortsUptoSaid : Prop := blockShortsUptoRow.holds Try.pinned (OpenSpec.upto blockShortsSpec)

end Rows
end Go.Proofs.Ytclbbfpagkhonaa
