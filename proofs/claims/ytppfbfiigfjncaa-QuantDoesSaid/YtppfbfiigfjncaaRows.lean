/-
  No cell of these rows narrows 'for every input' (looked for: loops, veiled, ifaces, maps, wideKeys, modest, calm, conditions, laid).
  DERIVED. THE GIVEN ROWS OF THIS SEAT. 5 by the template 'for every input the law returns true; each argument reads behind the call as it read before'; 0 by the template 'total and deterministic' (their statements: YtppfbfiigfjncaaTotals.lean).
  GIVEN WITH THE SEED: the statements are not yours to turn. If you find one false, say at which input.
  Laid BY PROGRAM, IN A SANDBOX (cutbox-rows.mjs): the forced cells as the released guide's own fill.sh prints them over the translation d3f8ed1c7af65584… (all of the seat's roots in one cut). By AI agents, Wed Nov 11 2026. No macro, syntax, notation, axiom, sorry.
-/
import Derived.Test.YtppfbfiigfjncaaChecked
import GoSem.Claim
import GoSem.ClaimJoined
import GoSem.ClaimMapViews
import Derived.JoinedTies
import Derived.KernelRfl
namespace Go.Proofs.Ytppfbfiigfjncaa
/- THE CELL 'sum', in the pinned program and in every row, IS THE sha256 OF THE DUMP (.gsa) THAT YtppfbfiigfjncaaProg.lean LOADS. Nothing in Lean hashes anything: it is a label: what it is worth is what the hold of that sum in a sandbox is worth. -/
noncomputable def Try.pinned : Pinned := { name := "ytppfbfiigfjncaa", sum := "d3f8ed1c7af65584f45e411f6b9803cbd18a0798c7bbe26ecb97e0ee5fefc2a7", checked := Try.checked }
namespace Rows
def none {H : Type} : Left H := { results := [], args := [] }

/-- 'reedpipelaw14.QuantNames': WHATEVER THE INPUT: true; the input reads as it did. -/
def quantNamesSpec : ChangeSpec := { name := "quantNames", fn := fun _ => fun
  | [] => { results := [.lit (.bool true)], args := [] }
  | _ => none }
def quantNamesRow : OpenClaim := { program := "ytppfbfiigfjncaa", sum := "d3f8ed1c7af65584f45e411f6b9803cbd18a0798c7bbe26ecb97e0ee5fefc2a7", func := "reedpipe/reedpipelaw14.QuantNames", spec := "quantNames", unfollowed := true, recurses := true, apart := false }
def QuantNamesSaid : Prop := quantNamesRow.holds Try.pinned (OpenSpec.ofChange quantNamesSpec)

/-- ITS FALSE NEIGHBOUR: 'it returns false'. Refute it at one input. -/
def quantNamesWrong : ChangeSpec := { name := "quantNames", fn := fun _ => fun
  | [] => { results := [.lit (.bool false)], args := [] }
  | _ => none }
def QuantNamesWrongFalsely : Prop := quantNamesRow.holds Try.pinned (OpenSpec.ofChange quantNamesWrong)

/-- 'reedpipelaw14.QuantDoes': WHATEVER THE INPUT: true; the input reads as it did. -/
def quantDoesSpec : ChangeSpec := { name := "quantDoes", fn := fun _ => fun
  | [d1, d2, d3, d4, d5] => { results := [.lit (.bool true)], args := [d1, d2, d3, d4, d5] }
  | _ => none }
def quantDoesRow : OpenClaim := { program := "ytppfbfiigfjncaa", sum := "d3f8ed1c7af65584f45e411f6b9803cbd18a0798c7bbe26ecb97e0ee5fefc2a7", func := "reedpipe/reedpipelaw14.QuantDoes", spec := "quantDoes", unfollowed := true, recurses := true, apart := false }
def QuantDoesSaid : Prop := quantDoesRow.holds Try.pinned (OpenSpec.ofChange quantDoesSpec)

/-- ITS FALSE NEIGHBOUR: 'it returns false'. Refute it at one input. -/
def quantDoesWrong : ChangeSpec := { name := "quantDoes", fn := fun _ => fun
  | [d1, d2, d3, d4, d5] => { results := [.lit (.bool false)], args := [d1, d2, d3, d4, d5] }
  | _ => none }
def QuantDoesWrongFalsely : Prop := quantDoesRow.holds Try.pinned (OpenSpec.ofChange quantDoesWrong)

/-- 'reedpipelaw14.QuantBack': WHATEVER THE INPUT: true; the input reads as it did. -/
def quantBackSpec : ChangeSpec := { name := "quantBack", fn := fun _ => fun
  | [d1, d2, d3, d4, d5, d6] => { results := [.lit (.bool true)], args := [d1, d2, d3, d4, d5, d6] }
  | _ => none }
def quantBackRow : OpenClaim := { program := "ytppfbfiigfjncaa", sum := "d3f8ed1c7af65584f45e411f6b9803cbd18a0798c7bbe26ecb97e0ee5fefc2a7", func := "reedpipe/reedpipelaw14.QuantBack", spec := "quantBack", unfollowed := true, recurses := true, apart := false }
def QuantBackSaid : Prop := quantBackRow.holds Try.pinned (OpenSpec.ofChange quantBackSpec)

/-- ITS FALSE NEIGHBOUR: 'it returns false'. Refute it at one input. -/
def quantBackWrong : ChangeSpec := { name := "quantBack", fn := fun _ => fun
  | [d1, d2, d3, d4, d5, d6] => { results := [.lit (.bool false)], args := [d1, d2, d3, d4, d5, d6] }
  | _ => none }
def QuantBackWrongFalsely : Prop := quantBackRow.holds Try.pinned (OpenSpec.ofChange quantBackWrong)

/-- 'reedpipelaw14.QuantCoarser': WHATEVER THE INPUT: true; the input reads as it did. -/
def quantCoarserSpec : ChangeSpec := { name := "quantCoarser", fn := fun _ => fun
  | [d1, d2, d3, d4, d5, d6] => { results := [.lit (.bool true)], args := [d1, d2, d3, d4, d5, d6] }
  | _ => none }
def quantCoarserRow : OpenClaim := { program := "ytppfbfiigfjncaa", sum := "d3f8ed1c7af65584f45e411f6b9803cbd18a0798c7bbe26ecb97e0ee5fefc2a7", func := "reedpipe/reedpipelaw14.QuantCoarser", spec := "quantCoarser", unfollowed := true, recurses := true, apart := false }
def QuantCoarserSaid : Prop := quantCoarserRow.holds Try.pinned (OpenSpec.ofChange quantCoarserSpec)

/-- ITS FALSE NEIGHBOUR: 'it returns false'. Refute it at one input. -/
def quantCoarserWrong : ChangeSpec := { name := "quantCoarser", fn := fun _ => fun
  | [d1, d2, d3, d4, d5, d6] => { results := [.lit (.bool false)], args := [d1, d2, d3, d4, d5, d6] }
  | _ => none }
def QuantCoarserWrongFalsely : Prop := quantCoarserRow.holds Try.pinned (OpenSpec.ofChange quantCoarserWrong)

/-- 'reedpipelaw14.QuantOwn': WHATEVER THE INPUT: true; the input reads as it did. -/
def quantOwnSpec : ChangeSpec := { name := "quantOwn", fn := fun _ => fun
  | [d1, d2, d3, d4, d5, d6, d7] => { results := [.lit (.bool true)], args := [d1, d2, d3, d4, d5, d6, d7] }
  | _ => none }
def quantOwnRow : OpenClaim := { program := "ytppfbfiigfjncaa", sum := "d3f8ed1c7af65584f45e411f6b9803cbd18a0798c7bbe26ecb97e0ee5fefc2a7", func := "reedpipe/reedpipelaw14.QuantOwn", spec := "quantOwn", unfollowed := true, recurses := true, apart := false }
def QuantOwnSaid : Prop := quantOwnRow.holds Try.pinned (OpenSpec.ofChange quantOwnSpec)

/-- ITS FALSE NEIGHBOUR: 'it returns false'. Refute it at one input. -/
def quantOwnWrong : ChangeSpec := { name := "quantOwn", fn := fun _ => fun
  | [d1, d2, d3, d4, d5, d6, d7] => { results := [.lit (.bool false)], args := [d1, d2, d3, d4, d5, d6, d7] }
  | _ => none }
def QuantOwnWrongFalsely : Prop := quantOwnRow.holds Try.pinned (OpenSpec.ofChange quantOwnWrong)

/- THE SECOND FORM. 'bulk': how many values and letters a reading holds, each counted each time it is reached (what is shared counts as often as it is met; a slice's spare places count too). A statement '..UptoSaid' is the law's where the arguments, and the package variables that the reading takes, are together of bulk at most 1048576: NARROWER than '..Said'. Prove '..Said' where nothing that the law and all that it calls make is longer than what came in: it says more and counts as full. Else prove '..UptoSaid'. A law counts once. -/
mutual
def uptoBulk {H : Type} : DataW H → Nat
  | .lit (.string bytes) => bytes.length + 1
  | .lit _ => 1
  | .nil => 1
  | .ptr d => uptoBulk d + 1
  | .slice elems spare => uptoBulkAll elems + uptoBulkAll spare + 1
  | .agg parts => uptoBulkAll parts + 1
  | .iface _ d => uptoBulk d + 1
  | .map entries => uptoBulkEntries entries + 1
  | .held _ => 1
def uptoBulkAll {H : Type} : List (DataW H) → Nat
  | [] => 0
  | d :: r => uptoBulk d + uptoBulkAll r
def uptoBulkEntries {H : Type} : List (Lit × DataW H) → Nat
  | [] => 0
  | x :: r => uptoBulkEntry x + uptoBulkEntries r
def uptoBulkEntry {H : Type} : Lit × DataW H → Nat
  | (.string bytes, d) => bytes.length + uptoBulk d + 1
  | (_, d) => uptoBulk d + 1
 end
def uptoSmall : (H : Type) → List (DataW H) → Bool := fun _ ds => decide (uptoBulkAll ds ≤ 1048576)
def OpenSpec.upto (s : _root_.Go.ChangeSpec) : _root_.Go.OpenSpec := { _root_.Go.OpenSpec.ofChange s with cond := some uptoSmall }

/-- 'reedpipelaw14.QuantNames', WHERE WHAT IT READS IS OF BULK AT MOST 1048576: true; the input reads as it did. -/
def quantNamesUptoRow : OpenClaim := { program := "ytppfbfiigfjncaa", sum := "d3f8ed1c7af65584f45e411f6b9803cbd18a0798c7bbe26ecb97e0ee5fefc2a7", func := "reedpipe/reedpipelaw14.QuantNames", spec := "quantNames", unfollowed := true, recurses := true, apart := false, narrowed := true }
def QuantNamesUptoSaid : Prop := quantNamesUptoRow.holds Try.pinned (OpenSpec.upto quantNamesSpec)

/-- 'reedpipelaw14.QuantDoes', WHERE WHAT IT READS IS OF BULK AT MOST 1048576: true; the input reads as it did. -/
def quantDoesUptoRow : OpenClaim := { program := "ytppfbfiigfjncaa", sum := "d3f8ed1c7af65584f45e411f6b9803cbd18a0798c7bbe26ecb97e0ee5fefc2a7", func := "reedpipe/reedpipelaw14.QuantDoes", spec := "quantDoes", unfollowed := true, recurses := true, apart := false, narrowed := true }
def QuantDoesUptoSaid : Prop := quantDoesUptoRow.holds Try.pinned (OpenSpec.upto quantDoesSpec)

/-- 'reedpipelaw14.QuantBack', WHERE WHAT IT READS IS OF BULK AT MOST 1048576: true; the input reads as it did. -/
def quantBackUptoRow : OpenClaim := { program := "ytppfbfiigfjncaa", sum := "d3f8ed1c7af65584f45e411f6b9803cbd18a0798c7bbe26ecb97e0ee5fefc2a7", func := "reedpipe/reedpipelaw14.QuantBack", spec := "quantBack", unfollowed := true, recurses := true, apart := false, narrowed := true }
def QuantBackUptoSaid : Prop := quantBackUptoRow.holds Try.pinned (OpenSpec.upto quantBackSpec)

/-- 'reedpipelaw14.QuantCoarser', WHERE WHAT IT READS IS OF BULK AT MOST 1048576: true; the input reads as it did. -/
def quantCoarserUptoRow : OpenClaim := { program := "ytppfbfiigfjncaa", sum := "d3f8ed1c7af65584f45e411f6b9803cbd18a0798c7bbe26ecb97e0ee5fefc2a7", func := "reedpipe/reedpipelaw14.QuantCoarser", spec := "quantCoarser", unfollowed := true, recurses := true, apart := false, narrowed := true }
def QuantCoarserUptoSaid : Prop := quantCoarserUptoRow.holds Try.pinned (OpenSpec.upto quantCoarserSpec)

/-- 'reedpipelaw14.QuantOwn', WHERE WHAT IT READS IS OF BULK AT MOST 1048576: true; the input reads as it did. -/
def quantOwnUptoRow : OpenClaim := { program := "ytppfbfiigfjncaa", sum := "d3f8ed1c7af65584f45e411f6b9803cbd18a0798c7bbe26ecb97e0ee5fefc2a7", func := "reedpipe/reedpipelaw14.QuantOwn", spec := "quantOwn", unfollowed := true, recurses := true, apart := false, narrowed := true }
def QuantOwnUptoSaid : Prop := quantOwnUptoRow.holds Try.pinned (OpenSpec.upto quantOwnSpec)

end Rows
end Go.Proofs.Ytppfbfiigfjncaa
