/-
  No cell of these rows narrows 'for every input' (looked for: loops, veiled, ifaces, maps, wideKeys, modest, calm, conditions, laid).
  DERIVED. THE GIVEN ROWS OF THIS SEAT. 5 by the template 'for every input the law returns true; each argument reads behind the call as it read before'; 0 by the template 'total and deterministic' (their statements: YtahoeggjldhneaaTotals.lean).
  GIVEN WITH THE SEED: the statements are not yours to turn. If you find one false, say at which input.
  Laid BY PROGRAM, IN A SANDBOX (cutbox-rows.mjs): the forced cells as the released guide's own fill.sh prints them over the translation 8b7cb4b73ddc10a8… (all of the seat's roots in one cut). By AI agents, Wed Nov 11 2026. No macro, syntax, notation, axiom, sorry.
-/
import Derived.Test.YtahoeggjldhneaaChecked
import GoSem.Claim
import GoSem.ClaimJoined
import GoSem.ClaimMapViews
import Derived.JoinedTies
import Derived.KernelRfl
namespace Go.Proofs.Ytahoeggjldhneaa
/- THE CELL 'sum', in the pinned program and in every row, IS THE sha256 OF THE DUMP (.gsa) THAT YtahoeggjldhneaaProg.lean LOADS. Nothing in Lean hashes anything: it is a label: what it is worth is what the hold of that sum in a sandbox is worth. -/
noncomputable def Try.pinned : Pinned := { name := "ytahoeggjldhneaa", sum := "8b7cb4b73ddc10a8e81a6da60446d32c2d1533635c343ef81b4dce7e618fe325", checked := Try.checked }
namespace Rows
def none {H : Type} : Left H := { results := [], args := [] }

/-- 'reedpipelaw06.BandRises': WHATEVER THE INPUT: true; the input reads as it did. -/
def bandRisesSpec : ChangeSpec := { name := "bandRises", fn := fun _ => fun
  | [d1, d2] => { results := [.lit (.bool true)], args := [d1, d2] }
  | _ => none }
def bandRisesRow : OpenClaim := { program := "ytahoeggjldhneaa", sum := "8b7cb4b73ddc10a8e81a6da60446d32c2d1533635c343ef81b4dce7e618fe325", func := "reedpipe/reedpipelaw06.BandRises", spec := "bandRises", apart := false }
def BandRisesSaid : Prop := bandRisesRow.holds Try.pinned (OpenSpec.ofChange bandRisesSpec)

/-- ITS FALSE NEIGHBOUR: 'it returns false'. Refute it at one input. -/
def bandRisesWrong : ChangeSpec := { name := "bandRises", fn := fun _ => fun
  | [d1, d2] => { results := [.lit (.bool false)], args := [d1, d2] }
  | _ => none }
def BandRisesWrongFalsely : Prop := bandRisesRow.holds Try.pinned (OpenSpec.ofChange bandRisesWrong)

/-- 'reedpipelaw06.BandRates': WHATEVER THE INPUT: true; the input reads as it did. -/
def bandRatesSpec : ChangeSpec := { name := "bandRates", fn := fun _ => fun
  | [d1, d2, d3] => { results := [.lit (.bool true)], args := [d1, d2, d3] }
  | _ => none }
def bandRatesRow : OpenClaim := { program := "ytahoeggjldhneaa", sum := "8b7cb4b73ddc10a8e81a6da60446d32c2d1533635c343ef81b4dce7e618fe325", func := "reedpipe/reedpipelaw06.BandRates", spec := "bandRates", apart := false }
def BandRatesSaid : Prop := bandRatesRow.holds Try.pinned (OpenSpec.ofChange bandRatesSpec)

/-- ITS FALSE NEIGHBOUR: 'it returns false'. Refute it at one input. -/
def bandRatesWrong : ChangeSpec := { name := "bandRates", fn := fun _ => fun
  | [d1, d2, d3] => { results := [.lit (.bool false)], args := [d1, d2, d3] }
  | _ => none }
def BandRatesWrongFalsely : Prop := bandRatesRow.holds Try.pinned (OpenSpec.ofChange bandRatesWrong)

/-- 'reedpipelaw06.BandLines': WHATEVER THE INPUT: true; the input reads as it did. -/
def bandLinesSpec : ChangeSpec := { name := "bandLines", fn := fun _ => fun
  | [d1, d2, d3] => { results := [.lit (.bool true)], args := [d1, d2, d3] }
  | _ => none }
def bandLinesRow : OpenClaim := { program := "ytahoeggjldhneaa", sum := "8b7cb4b73ddc10a8e81a6da60446d32c2d1533635c343ef81b4dce7e618fe325", func := "reedpipe/reedpipelaw06.BandLines", spec := "bandLines", apart := false }
def BandLinesSaid : Prop := bandLinesRow.holds Try.pinned (OpenSpec.ofChange bandLinesSpec)

/-- ITS FALSE NEIGHBOUR: 'it returns false'. Refute it at one input. -/
def bandLinesWrong : ChangeSpec := { name := "bandLines", fn := fun _ => fun
  | [d1, d2, d3] => { results := [.lit (.bool false)], args := [d1, d2, d3] }
  | _ => none }
def BandLinesWrongFalsely : Prop := bandLinesRow.holds Try.pinned (OpenSpec.ofChange bandLinesWrong)

/-- 'reedpipelaw06.BandNames': WHATEVER THE INPUT: true; the input reads as it did. -/
def bandNamesSpec : ChangeSpec := { name := "bandNames", fn := fun _ => fun
  | [] => { results := [.lit (.bool true)], args := [] }
  | _ => none }
def bandNamesRow : OpenClaim := { program := "ytahoeggjldhneaa", sum := "8b7cb4b73ddc10a8e81a6da60446d32c2d1533635c343ef81b4dce7e618fe325", func := "reedpipe/reedpipelaw06.BandNames", spec := "bandNames", apart := false }
def BandNamesSaid : Prop := bandNamesRow.holds Try.pinned (OpenSpec.ofChange bandNamesSpec)

/-- ITS FALSE NEIGHBOUR: 'it returns false'. Refute it at one input. -/
def bandNamesWrong : ChangeSpec := { name := "bandNames", fn := fun _ => fun
  | [] => { results := [.lit (.bool false)], args := [] }
  | _ => none }
def BandNamesWrongFalsely : Prop := bandNamesRow.holds Try.pinned (OpenSpec.ofChange bandNamesWrong)

/-- 'reedpipelaw06.BandTells': WHATEVER THE INPUT: true; the input reads as it did. -/
def bandTellsSpec : ChangeSpec := { name := "bandTells", fn := fun _ => fun
  | [d1, d2, d3] => { results := [.lit (.bool true)], args := [d1, d2, d3] }
  | _ => none }
def bandTellsRow : OpenClaim := { program := "ytahoeggjldhneaa", sum := "8b7cb4b73ddc10a8e81a6da60446d32c2d1533635c343ef81b4dce7e618fe325", func := "reedpipe/reedpipelaw06.BandTells", spec := "bandTells", apart := false }
def BandTellsSaid : Prop := bandTellsRow.holds Try.pinned (OpenSpec.ofChange bandTellsSpec)

/-- ITS FALSE NEIGHBOUR: 'it returns false'. Refute it at one input. -/
def bandTellsWrong : ChangeSpec := { name := "bandTells", fn := fun _ => fun
  | [d1, d2, d3] => { results := [.lit (.bool false)], args := [d1, d2, d3] }
  | _ => none }
def BandTellsWrongFalsely : Prop := bandTellsRow.holds Try.pinned (OpenSpec.ofChange bandTellsWrong)

/- THE SECOND FORM. 'bulk': how many values and letters a reading holds, each counted each time it is reached (what is shared counts as often as it is met; a slice's spare places count too). A statement '..UptoSaid' is the law's where the arguments, and the package variables that the reading takes, are together of bulk at most 1048576: NARROWER than '..Said'. Prove '..Said' where nothing that the law and all that it calls make is longer than what came in: it says more and counts as full. Else prove '..UptoSaid'. A law counts once. -/
mutual
def uptoBulk {H : Type} : DataW H → Nat
  | .lit (.string bytes) => bytes.length + 1
  | .lit _ => 1
  | .nil => 1
  | .ptr d => uptoBulk d + 1
  | .slice elems spare => uptoBulkAll elems + uptoBulkAll spare + 1
  | .agg parts => uptoBulkAll parts + 1
  | .iface _ d => uptoBulk d + 1
  | .map entries => uptoBulkEntries entries + 1
  | .held _ => 1
def uptoBulkAll {H : Type} : List (DataW H) → Nat
  | [] => 0
  | d :: r => uptoBulk d + uptoBulkAll r
def uptoBulkEntries {H : Type} : List (Lit × DataW H) → Nat
  | [] => 0
  | x :: r => uptoBulkEntry x + uptoBulkEntries r
def uptoBulkEntry {H : Type} : Lit × DataW H → Nat
  | (.string bytes, d) => bytes.length + uptoBulk d + 1
  | (_, d) => uptoBulk d + 1
 end
def uptoSmall : (H : Type) → List (DataW H) → Bool := fun _ ds => decide (uptoBulkAll ds ≤ 1048576)
def OpenSpec.upto (s : _root_.Go.ChangeSpec) : _root_.Go.OpenSpec := { _root_.Go.OpenSpec.ofChange s with cond := some uptoSmall }

/-- 'reedpipelaw06.BandRises', WHERE WHAT IT READS IS OF BULK AT MOST 1048576: true; the input reads as it did. -/
def bandRisesUptoRow : OpenClaim := { program := "ytahoeggjldhneaa", sum := "8b7cb4b73ddc10a8e81a6da60446d32c2d1533635c343ef81b4dce7e618fe325", func := "reedpipe/reedpipelaw06.BandRises", spec := "bandRises", apart := false, narrowed := true }
def BandRisesUptoSaid : Prop := bandRisesUptoRow.holds Try.pinned (OpenSpec.upto bandRisesSpec)

/-- 'reedpipelaw06.BandRates', WHERE WHAT IT READS IS OF BULK AT MOST 1048576: true; the input reads as it did. -/
def bandRatesUptoRow : OpenClaim := { program := "ytahoeggjldhneaa", sum := "8b7cb4b73ddc10a8e81a6da60446d32c2d1533635c343ef81b4dce7e618fe325", func := "reedpipe/reedpipelaw06.BandRates", spec := "bandRates", apart := false, narrowed := true }
def BandRatesUptoSaid : Prop := bandRatesUptoRow.holds Try.pinned (OpenSpec.upto bandRatesSpec)

/-- 'reedpipelaw06.BandLines', WHERE WHAT IT READS IS OF BULK AT MOST 1048576: true; the input reads as it did. -/
def bandLinesUptoRow : OpenClaim := { program := "ytahoeggjldhneaa", sum := "8b7cb4b73ddc10a8e81a6da60446d32c2d1533635c343ef81b4dce7e618fe325", func := "reedpipe/reedpipelaw06.BandLines", spec := "bandLines", apart := false, narrowed := true }
def BandLinesUptoSaid : Prop := bandLinesUptoRow.holds Try.pinned (OpenSpec.upto bandLinesSpec)

/-- 'reedpipelaw06.BandNames', WHERE WHAT IT READS IS OF BULK AT MOST 1048576: true; the input reads as it did. -/
def bandNamesUptoRow : OpenClaim := { program := "ytahoeggjldhneaa", sum := "8b7cb4b73ddc10a8e81a6da60446d32c2d1533635c343ef81b4dce7e618fe325", func := "reedpipe/reedpipelaw06.BandNames", spec := "bandNames", apart := false, narrowed := true }
def BandNamesUptoSaid : Prop := bandNamesUptoRow.holds Try.pinned (OpenSpec.upto bandNamesSpec)

/-- 'reedpipelaw06.BandTells', WHERE WHAT IT READS IS OF BULK AT MOST 1048576: true; the input reads as it did. -/
def bandTellsUptoRow : OpenClaim := { program := "ytahoeggjldhneaa", sum := "8b7cb4b73ddc10a8e81a6da60446d32c2d1533635c343ef81b4dce7e618fe325", func := "reedpipe/reedpipelaw06.BandTells", spec := "bandTells", apart := false, narrowed := true }
def BandTellsUptoSaid : Prop := bandTellsUptoRow.holds Try.pinned (OpenSpec.upto bandTellsSpec)

end Rows
end Go.Proofs.Ytahoeggjldhneaa
