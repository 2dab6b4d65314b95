/- A Lap that came in, opened. -/
import Derived.Test.YtcmbbmilldhnnaaG1
set_option linter.unusedVariables false
set_option linter.unusedSimpArgs false
namespace Go.Proofs.Ytcmbbmilldhnnaa
open Go.ChangeShapes Go.WideShapes Go.ChangeAt Go.RowKit Go.Joins Go.Deep
theorem open_lap {H : Type} {enc : TypeId × Value → H} {P : Program} {W : World} {r : Reach} {b0 : Nat} {t e : TypeId} {f0 f1 f2 : Field} {v : Value} {d : DataW H} {ps : List MemPlace}
    (hs : P.underlying t = some (.struct #[f0, f1, f2])) (hone : oneCellFields P #[f0, f1, f2] = true) (hC : P.cellsOf t = 3) (h0 : P.underlying f0.type = some (.slice e)) (he : P.underlying e = some (.int .i64)) (hc : P.cellsOf e = 1)
    (h1 : P.underlying f1.type = some (.int .u8)) (h2 : P.underlying f2.type = some (.int .u8)) (hv : Value.okWide P W r b0 t v) (h : DataW.Trod enc P W 0 (fun _ => true) true t v d ps) :
    ∃ (p : Option Addr) (len c : Nat) (s1 s2 : Int) (l : List Int), v = .agg #[.slice p len c, .int .u8 s1, .int .u8 s2] ∧ l.length = len ∧ IsArg W p c l ∧ len ≤ c ∧ (0 ≤ s1 ∧ s1 ≤ 255) ∧ (0 ≤ s2 ∧ s2 ≤ 255) := by
  obtain ⟨v0, v1, v2, y0, y1, y2, n, rfl, _, _, t0, t1, t2⟩ := open_agg3 hs hone hC hv h
  obtain ⟨a1, e1, _, w1⟩ := DataW.trod_int h1 t1
  obtain ⟨a2, e2, _, w2⟩ := DataW.trod_int h2 t2
  have hsl : ∃ p len c, v0 = .slice p len c := by
    rcases DataW.trod_slice h0 t0 with ⟨e0, _⟩ | ⟨a, len, cap, _, _, _, _, e0, _⟩
    · exact ⟨none, 0, 0, by simpa using e0⟩
    · exact ⟨some a, len, cap, by simpa using e0⟩
  obtain ⟨p, len, c, rfl⟩ := hsl
  obtain rfl : v1 = .int .u8 a1 := by simpa using e1
  obtain rfl : v2 = .int .u8 a2 := by simpa using e2
  have hT : DataW.Trod enc P W 0 (fun _ => true) true f0.type (.slice p len c) y0.1 y0.2 := ⟨n, by simpa [Value.cells] using t0⟩
  obtain ⟨l, hl, hA⟩ := came_i64 h0 he hc hT
  exact ⟨p, len, c, a1, a2, l, rfl, hl, hA, came_le h0 he hc hT, bounds_u8 w1, bounds_u8 w2⟩
end Go.Proofs.Ytcmbbmilldhnnaa
