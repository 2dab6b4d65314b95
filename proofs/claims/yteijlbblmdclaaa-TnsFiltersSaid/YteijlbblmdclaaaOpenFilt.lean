/- A Filter that came in, opened. -/
import Derived.Test.YteijlbblmdclaaaOpen
set_option linter.unusedVariables false
set_option linter.unusedSimpArgs false
namespace Go.Proofs.Yteijlbblmdclaaa
open Go.ChangeShapes Go.WideShapes Go.ChangeAt Go.RowKit Go.Joins Go.Deep
theorem array5' {α : Type} {cs : Array α} (h : cs.size = 5) : ∃ c0 c1 c2 c3 c4, cs = #[c0, c1, c2, c3, c4] := by
  obtain ⟨l⟩ := cs
  match l, h with
  | [c0, c1, c2, c3, c4], _ => exact ⟨c0, c1, c2, c3, c4, rfl⟩
theorem open_agg5' {H : Type} {enc : TypeId × Value → H} {P : Program} {w : World} {base : Nat} {spare : Nat → Bool} {held : Bool} {r : Reach} {b0 : Nat} {t : TypeId} {f0 f1 f2 f3 f4 : Field} {v : Value} {d : DataW H} {p : List MemPlace} (hs : P.underlying t = some (.struct #[f0, f1, f2, f3, f4])) (hone : oneCellFields P #[f0, f1, f2, f3, f4] = true) (hC : P.cellsOf t = 5)
    (hv : Value.okWide P w r b0 t v) (h : DataW.Trod enc P w base spare held t v d p) :
    ∃ (v0 v1 v2 v3 v4 : Value) (y0 y1 y2 y3 y4 : DataW H × List MemPlace) (n : Nat), v = .agg #[v0, v1, v2, v3, v4] ∧
      DataW.trod enc P w base spare held n f0.type [v0] = some y0 ∧ DataW.trod enc P w base spare held n f1.type [v1] = some y1 ∧ DataW.trod enc P w base spare held n f2.type [v2] = some y2 ∧ DataW.trod enc P w base spare held n f3.type [v3] = some y3 ∧ DataW.trod enc P w base spare held n f4.type [v4] = some y4 := by
  obtain ⟨cs, rfl, hsz⟩ := okWide_struct hs hv
  obtain ⟨c0, c1, c2, c3, c4, rfl⟩ := array5' (hsz.trans hC)
  obtain ⟨fuel, hf⟩ := h
  obtain ⟨xs, n, _, _, _, hlen, hx⟩ := DataW.trod_struct hs hf
  match xs, hlen with
  | [y0, y1, y2, y3, y4], _ =>
    obtain ⟨o0, k0⟩ := hone_of hone 0 f0 rfl
    obtain ⟨o1, k1⟩ := hone_of hone 1 f1 rfl
    obtain ⟨o2, k2⟩ := hone_of hone 2 f2 rfl
    obtain ⟨o3, k3⟩ := hone_of hone 3 f3 rfl
    obtain ⟨o4, k4⟩ := hone_of hone 4 f4 rfl
    have h0 := hx 0 f0 rfl
    have h1 := hx 1 f1 rfl
    have h2 := hx 2 f2 rfl
    have h3 := hx 3 f3 rfl
    have h4 := hx 4 f4 rfl
    exact ⟨c0, c1, c2, c3, c4, y0, y1, y2, y3, y4, n, rfl, by simpa [Value.cells, o0, k0] using h0, by simpa [Value.cells, o1, k1] using h1, by simpa [Value.cells, o2, k2] using h2, by simpa [Value.cells, o3, k3] using h3, by simpa [Value.cells, o4, k4] using h4⟩
theorem open_filt {H : Type} {enc : TypeId × Value → H} {P : Program} {W : World} {r : Reach} {b0 : Nat} {t e : TypeId} {f0 f1 f2 f3 f4 : Field} {v : Value} {d : DataW H} {ps : List MemPlace}
    (hs : P.underlying t = some (.struct #[f0, f1, f2, f3, f4])) (hone : oneCellFields P #[f0, f1, f2, f3, f4] = true) (hC : P.cellsOf t = 5) (h0 : P.underlying f0.type = some (.int .i64)) (h1 : P.underlying f1.type = some (.int .i64)) (h2 : P.underlying f2.type = some .bool) (h3 : P.underlying f3.type = some .bool)
    (h4 : P.underlying f4.type = some (.slice e)) (he : P.underlying e = some (.int .i64)) (hc : P.cellsOf e = 1) (hv : Value.okWide P W r b0 t v) (h : DataW.Trod enc P W 0 (fun _ => true) true t v d ps) :
    ∃ (p : Option Addr) (len c : Nat) (s1 s2 : Int) (b1 b2 : Bool) (l : List Int), v = .agg #[.int .i64 s1, .int .i64 s2, .bool b1, .bool b2, .slice p len c] ∧ l.length = len ∧ IsArg W p c l ∧ len ≤ c ∧ (-9223372036854775808 ≤ s1 ∧ s1 ≤ 9223372036854775807) ∧ (-9223372036854775808 ≤ s2 ∧ s2 ≤ 9223372036854775807) := by
  obtain ⟨v0, v1, v2, v3, v4, y0, y1, y2, y3, y4, n, rfl, t0, t1, t2, t3, t4⟩ := open_agg5' hs hone hC hv h
  obtain ⟨a0, e0, _, w0⟩ := DataW.trod_int h0 t0
  obtain ⟨a1, e1, _, w1⟩ := DataW.trod_int h1 t1
  obtain ⟨b2, e2, _⟩ := DataW.trod_bool h2 t2
  obtain ⟨b3, e3, _⟩ := DataW.trod_bool h3 t3
  have hsl : ∃ p len c, v4 = .slice p len c := by
    rcases DataW.trod_slice h4 t4 with ⟨e0, _⟩ | ⟨a, len, cap, _, _, _, _, e0, _⟩
    · exact ⟨none, 0, 0, by simpa using e0⟩
    · exact ⟨some a, len, cap, by simpa using e0⟩
  obtain ⟨p, len, c, rfl⟩ := hsl
  obtain rfl : v0 = .int .i64 a0 := by simpa using e0
  obtain rfl : v1 = .int .i64 a1 := by simpa using e1
  obtain rfl : v2 = .bool b2 := by simpa using e2
  obtain rfl : v3 = .bool b3 := by simpa using e3
  have hT : DataW.Trod enc P W 0 (fun _ => true) true f4.type (.slice p len c) y4.1 y4.2 := ⟨n, by simpa [Value.cells] using t4⟩
  obtain ⟨l, hl, hA⟩ := came_i64 h4 he hc hT
  exact ⟨p, len, c, a0, a1, b2, b3, l, rfl, hl, hA, came_le h4 he hc hT, bounds_i64 w0, bounds_i64 w1⟩
end Go.Proofs.Yteijlbblmdclaaa
