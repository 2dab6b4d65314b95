/- Arguments that are structs, opened; a slice's room. -/
import Derived.Test.YteijlbblmdclaaaArgsK
import Derived.Lib.SmallJoins
set_option linter.unusedVariables false
set_option linter.unusedSimpArgs false
namespace Go.Proofs.Yteijlbblmdclaaa
open Go.ChangeShapes Go.WideShapes Go.ChangeAt Go.RowKit
theorem came_le {H : Type} {enc : TypeId × Value → H} {P : Program} {W : World} {t e : TypeId} {k : IntKind} {a : Option Addr} {len cap : Nat} {d : DataW H} {ps : List MemPlace} (ht : P.underlying t = some (.slice e)) (he : P.underlying e = some (.int k)) (hc : P.cellsOf e = 1)
    (h : DataW.Trod enc P W 0 (fun _ => true) true t (.slice a len cap) d ps) : len ≤ cap := by
  rcases came_any ht he hc h with ⟨_, rfl, rfl, _⟩ | ⟨zs, x, _, h, _⟩
  · exact Nat.le_refl _
  · exact h
theorem u8_range {a : Int} (h : (Lit.int .u8 a).wf = true) : 0 ≤ a ∧ a ≤ 255 := bounds_u8 h
end Go.Proofs.Yteijlbblmdclaaa
