/-
  No cell of these rows narrows 'for every input' (looked for: loops, veiled, ifaces, maps, wideKeys, modest, calm, conditions, laid).
  DERIVED. THE GIVEN ROWS OF THIS SEAT. 5 by the template 'for every input the law returns true; each argument reads behind the call as it read before'; 0 by the template 'total and deterministic' (their statements: YtpbjifohgfpeoaaTotals.lean).
  GIVEN WITH THE SEED: the statements are not yours to turn. If you find one false, say at which input.
  Laid BY PROGRAM, IN A SANDBOX (cutbox-rows.mjs): the forced cells as the released guide's own fill.sh prints them over the translation 0e7afff5250860de… (all of the seat's roots in one cut). By AI agents, Wed Nov 11 2026. No macro, syntax, notation, axiom, sorry.
-/
import Derived.Test.YtpbjifohgfpeoaaChecked
import GoSem.Claim
import GoSem.ClaimJoined
import GoSem.ClaimMapViews
import Derived.JoinedTies
import Derived.KernelRfl
namespace Go.Proofs.Ytpbjifohgfpeoaa
/- THE CELL 'sum', in the pinned program and in every row, IS THE sha256 OF THE DUMP (.gsa) THAT YtpbjifohgfpeoaaProg.lean LOADS. Nothing in Lean hashes anything: it is a label: what it is worth is what the hold of that sum in a sandbox is worth. -/
noncomputable def Try.pinned : Pinned := { name := "ytpbjifohgfpeoaa", sum := "0e7afff5250860deee91807b46fe4ebb7567f2a1ee5d3cdb849526d419915fbb", checked := Try.checked }
namespace Rows
def none {H : Type} : Left H := { results := [], args := [] }

/-- 'reedpipelaw16.NoiseLoud': WHATEVER THE INPUT: true; the input reads as it did. -/
def noiseLoudSpec : ChangeSpec := { name := "noiseLoud", fn := fun _ => fun
  | [d1, d2, d3] => { results := [.lit (.bool true)], args := [d1, d2, d3] }
  | _ => none }
def noiseLoudRow : OpenClaim := { program := "ytpbjifohgfpeoaa", sum := "0e7afff5250860deee91807b46fe4ebb7567f2a1ee5d3cdb849526d419915fbb", func := "reedpipe/reedpipelaw16.NoiseLoud", spec := "noiseLoud", unfollowed := true, recurses := true, apart := false }
def NoiseLoudSaid : Prop := noiseLoudRow.holds Try.pinned (OpenSpec.ofChange noiseLoudSpec)

/-- ITS FALSE NEIGHBOUR: 'it returns false'. Refute it at one input. -/
def noiseLoudWrong : ChangeSpec := { name := "noiseLoud", fn := fun _ => fun
  | [d1, d2, d3] => { results := [.lit (.bool false)], args := [d1, d2, d3] }
  | _ => none }
def NoiseLoudWrongFalsely : Prop := noiseLoudRow.holds Try.pinned (OpenSpec.ofChange noiseLoudWrong)

/-- 'reedpipelaw16.NoiseDoubles': WHATEVER THE INPUT: true; the input reads as it did. -/
def noiseDoublesSpec : ChangeSpec := { name := "noiseDoubles", fn := fun _ => fun
  | [d1, d2, d3] => { results := [.lit (.bool true)], args := [d1, d2, d3] }
  | _ => none }
def noiseDoublesRow : OpenClaim := { program := "ytpbjifohgfpeoaa", sum := "0e7afff5250860deee91807b46fe4ebb7567f2a1ee5d3cdb849526d419915fbb", func := "reedpipe/reedpipelaw16.NoiseDoubles", spec := "noiseDoubles", unfollowed := true, recurses := true, apart := false }
def NoiseDoublesSaid : Prop := noiseDoublesRow.holds Try.pinned (OpenSpec.ofChange noiseDoublesSpec)

/-- ITS FALSE NEIGHBOUR: 'it returns false'. Refute it at one input. -/
def noiseDoublesWrong : ChangeSpec := { name := "noiseDoubles", fn := fun _ => fun
  | [d1, d2, d3] => { results := [.lit (.bool false)], args := [d1, d2, d3] }
  | _ => none }
def NoiseDoublesWrongFalsely : Prop := noiseDoublesRow.holds Try.pinned (OpenSpec.ofChange noiseDoublesWrong)

/-- 'reedpipelaw16.NoiseNames': WHATEVER THE INPUT: true; the input reads as it did. -/
def noiseNamesSpec : ChangeSpec := { name := "noiseNames", fn := fun _ => fun
  | [] => { results := [.lit (.bool true)], args := [] }
  | _ => none }
def noiseNamesRow : OpenClaim := { program := "ytpbjifohgfpeoaa", sum := "0e7afff5250860deee91807b46fe4ebb7567f2a1ee5d3cdb849526d419915fbb", func := "reedpipe/reedpipelaw16.NoiseNames", spec := "noiseNames", unfollowed := true, recurses := true, apart := false }
def NoiseNamesSaid : Prop := noiseNamesRow.holds Try.pinned (OpenSpec.ofChange noiseNamesSpec)

/-- ITS FALSE NEIGHBOUR: 'it returns false'. Refute it at one input. -/
def noiseNamesWrong : ChangeSpec := { name := "noiseNames", fn := fun _ => fun
  | [] => { results := [.lit (.bool false)], args := [] }
  | _ => none }
def NoiseNamesWrongFalsely : Prop := noiseNamesRow.holds Try.pinned (OpenSpec.ofChange noiseNamesWrong)

/-- 'reedpipelaw16.NoiseDoes': WHATEVER THE INPUT: true; the input reads as it did. -/
def noiseDoesSpec : ChangeSpec := { name := "noiseDoes", fn := fun _ => fun
  | [d1, d2, d3, d4, d5, d6] => { results := [.lit (.bool true)], args := [d1, d2, d3, d4, d5, d6] }
  | _ => none }
def noiseDoesRow : OpenClaim := { program := "ytpbjifohgfpeoaa", sum := "0e7afff5250860deee91807b46fe4ebb7567f2a1ee5d3cdb849526d419915fbb", func := "reedpipe/reedpipelaw16.NoiseDoes", spec := "noiseDoes", unfollowed := true, recurses := true, apart := false }
def NoiseDoesSaid : Prop := noiseDoesRow.holds Try.pinned (OpenSpec.ofChange noiseDoesSpec)

/-- ITS FALSE NEIGHBOUR: 'it returns false'. Refute it at one input. -/
def noiseDoesWrong : ChangeSpec := { name := "noiseDoes", fn := fun _ => fun
  | [d1, d2, d3, d4, d5, d6] => { results := [.lit (.bool false)], args := [d1, d2, d3, d4, d5, d6] }
  | _ => none }
def NoiseDoesWrongFalsely : Prop := noiseDoesRow.holds Try.pinned (OpenSpec.ofChange noiseDoesWrong)

/-- 'reedpipelaw16.NoiseSame': WHATEVER THE INPUT: true; the input reads as it did. -/
def noiseSameSpec : ChangeSpec := { name := "noiseSame", fn := fun _ => fun
  | [d1, d2, d3, d4, d5, d6, d7] => { results := [.lit (.bool true)], args := [d1, d2, d3, d4, d5, d6, d7] }
  | _ => none }
def noiseSameRow : OpenClaim := { program := "ytpbjifohgfpeoaa", sum := "0e7afff5250860deee91807b46fe4ebb7567f2a1ee5d3cdb849526d419915fbb", func := "reedpipe/reedpipelaw16.NoiseSame", spec := "noiseSame", unfollowed := true, recurses := true, apart := false }
def NoiseSameSaid : Prop := noiseSameRow.holds Try.pinned (OpenSpec.ofChange noiseSameSpec)

/-- ITS FALSE NEIGHBOUR: 'it returns false'. Refute it at one input. -/
def noiseSameWrong : ChangeSpec := { name := "noiseSame", fn := fun _ => fun
  | [d1, d2, d3, d4, d5, d6, d7] => { results := [.lit (.bool false)], args := [d1, d2, d3, d4, d5, d6, d7] }
  | _ => none }
def NoiseSameWrongFalsely : Prop := noiseSameRow.holds Try.pinned (OpenSpec.ofChange noiseSameWrong)

/- THE SECOND FORM. 'bulk': how many values and letters a reading holds, each counted each time it is reached (what is shared counts as often as it is met; a slice's spare places count too). A statement '..UptoSaid' is the law's where the arguments, and the package variables that the reading takes, are together of bulk at most 1048576: NARROWER than '..Said'. Prove '..Said' where nothing that the law and all that it calls make is longer than what came in: it says more and counts as full. Else prove '..UptoSaid'. A law counts once. -/
mutual
def uptoBulk {H : Type} : DataW H → Nat
  | .lit (.string bytes) => bytes.length + 1
  | .lit _ => 1
  | .nil => 1
  | .ptr d => uptoBulk d + 1
  | .slice elems spare => uptoBulkAll elems + uptoBulkAll spare + 1
  | .agg parts => uptoBulkAll parts + 1
  | .iface _ d => uptoBulk d + 1
  | .map entries => uptoBulkEntries entries + 1
  | .held _ => 1
def uptoBulkAll {H : Type} : List (DataW H) → Nat
  | [] => 0
  | d :: r => uptoBulk d + uptoBulkAll r
def uptoBulkEntries {H : Type} : List (Lit × DataW H) → Nat
  | [] => 0
  | x :: r => uptoBulkEntry x + uptoBulkEntries r
def uptoBulkEntry {H : Type} : Lit × DataW H → Nat
  | (.string bytes, d) => bytes.length + uptoBulk d + 1
  | (_, d) => uptoBulk d + 1
 end
def uptoSmall : (H : Type) → List (DataW H) → Bool := fun _ ds => decide (uptoBulkAll ds ≤ 1048576)
def OpenSpec.upto (s : _root_.Go.ChangeSpec) : _root_.Go.OpenSpec := { _root_.Go.OpenSpec.ofChange s with cond := some uptoSmall }

/-- 'reedpipelaw16.NoiseLoud', WHERE WHAT IT READS IS OF BULK AT MOST 1048576: true; the input reads as it did. -/
def noiseLoudUptoRow : OpenClaim := { program := "ytpbjifohgfpeoaa", sum := "0e7afff5250860deee91807b46fe4ebb7567f2a1ee5d3cdb849526d419915fbb", func := "reedpipe/reedpipelaw16.NoiseLoud", spec := "noiseLoud", unfollowed := true, recurses := true, apart := false, narrowed := true }
def NoiseLoudUptoSaid : Prop := noiseLoudUptoRow.holds Try.pinned (OpenSpec.upto noiseLoudSpec)

/-- 'reedpipelaw16.NoiseDoubles', WHERE WHAT IT READS IS OF BULK AT MOST 1048576: true; the input reads as it did. -/
def noiseDoublesUptoRow : OpenClaim := { program := "ytpbjifohgfpeoaa", sum := "0e7afff5250860deee91807b46fe4ebb7567f2a1ee5d3cdb849526d419915fbb", func := "reedpipe/reedpipelaw16.NoiseDoubles", spec := "noiseDoubles", unfollowed := true, recurses := true, apart := false, narrowed := true }
def NoiseDoublesUptoSaid : Prop := noiseDoublesUptoRow.holds Try.pinned (OpenSpec.upto noiseDoublesSpec)

/-- 'reedpipelaw16.NoiseNames', WHERE WHAT IT READS IS OF BULK AT MOST 1048576: true; the input reads as it did. -/
def noiseNamesUptoRow : OpenClaim := { program := "ytpbjifohgfpeoaa", sum := "0e7afff5250860deee91807b46fe4ebb7567f2a1ee5d3cdb849526d419915fbb", func := "reedpipe/reedpipelaw16.NoiseNames", spec := "noiseNames", unfollowed := true, recurses := true, apart := false, narrowed := true }
def NoiseNamesUptoSaid : Prop := noiseNamesUptoRow.holds Try.pinned (OpenSpec.upto noiseNamesSpec)

/-- 'reedpipelaw16.NoiseDoes', WHERE WHAT IT READS IS OF BULK AT MOST 1048576: true; the input reads as it did. -/
def noiseDoesUptoRow : OpenClaim := { program := "ytpbjifohgfpeoaa", sum := "0e7afff5250860deee91807b46fe4ebb7567f2a1ee5d3cdb849526d419915fbb", func := "reedpipe/reedpipelaw16.NoiseDoes", spec := "noiseDoes", unfollowed := true, recurses := true, apart := false, narrowed := true }
def NoiseDoesUptoSaid : Prop := noiseDoesUptoRow.holds Try.pinned (OpenSpec.upto noiseDoesSpec)

/-- 'reedpipelaw16.NoiseSame', WHERE WHAT IT READS IS OF BULK AT MOST 1048576: true; the input reads as it did. -/
def noiseSameUptoRow : OpenClaim := { program := "ytpbjifohgfpeoaa", sum := "0e7afff5250860deee91807b46fe4ebb7567f2a1ee5d3cdb849526d419915fbb", func := "reedpipe/reedpipelaw16.NoiseSame", spec := "noiseSame", unfollowed := true, recurses := true, apart := false, narrowed := true }
def NoiseSameUptoSaid : Prop := noiseSameUptoRow.holds Try.pinned (OpenSpec.upto noiseSameSpec)

end Rows
end Go.Proofs.Ytpbjifohgfpeoaa
