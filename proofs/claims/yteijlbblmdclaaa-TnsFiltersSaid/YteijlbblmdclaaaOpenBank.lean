/- Windows' filters that came in, opened; a channel's windows. -/
import Derived.Test.YteijlbblmdclaaaOpenFilt
import Derived.Test.YteijlbblmdclaaaTnsBank
import Derived.Deep.Slices
import Derived.Deep.Fields
import Derived.ChangeSame
set_option linter.unusedVariables false
set_option linter.unusedSimpArgs false
namespace Go.Proofs.Yteijlbblmdclaaa
open Go.ChangeShapes Go.WideShapes Go.ChangeAt Go.RowKit Go.Joins Go.Deep
/-- A list of what there is for each number below one. -/
theorem list_of {α : Type} [Inhabited α] (len : Nat) (P : Nat → α → Prop) (h : ∀ i, i < len → ∃ x, P i x) : ∃ L : List α, L.length = len ∧ ∀ j, j < len → P j (L.getD j default) := by
  have hex : ∃ f : Nat → α, ∀ i, i < len → P i (f i) := by
    refine ⟨fun i => if h' : i < len then (h i h').choose else default, fun i hi => ?_⟩
    simp only [dif_pos hi]
    exact (h i hi).choose_spec
  obtain ⟨f, hf⟩ := hex
  refine ⟨(List.range len).map f, by simp, fun j hj => ?_⟩
  rw [List.getD_eq_getElem?_getD, List.getElem?_map, List.getElem?_range hj]
  exact hf j hj
theorem open_rows' {H : Type} {enc : TypeId × Value → H} {P : Program} {w : World} {base : Nat} {spare : Nat → Bool} {held : Bool} {t e : TypeId} {fs : Array Field} {fuel : Nat} {cs : List Value} {x : DataW H × List MemPlace} (ht : P.underlying t = some (.slice e)) (he : P.underlying e = some (.struct fs))
    (hone : oneCellFields P fs = true) (hC : P.cellsOf e = fs.size) (h : DataW.trod enc P w base spare held fuel t cs = some x) :
    cs = [.slice none 0 0] ∨ ∃ (a : Addr) (len cap m : Nat), cs = [.slice (some a) len cap] ∧ len ≤ cap ∧ cap ≤ maxLen ∧ m = (if spare a.block then cap else len) ∧
      ∀ i, i < m → ∃ n : Nat, ∀ (j : Nat) (f : Field), fs[j]? = some f → ∃ (v : Value) (y : DataW H × List MemPlace), w.cell? (a.add (i * fs.size + j)) = some v ∧ DataW.trod enc P w base spare held n f.type [v] = some y := by
  rcases open_slice ht h with h0 | ⟨a, len, cap, m, n, D, Pl, hcs, hb, hl, hm, hmm, hx, hi⟩
  · exact .inl h0.1
  · refine .inr ⟨a, len, cap, m, hcs, hl, hm, hmm, fun i him => ?_⟩
    obtain ⟨cs', hc, ht'⟩ := hi i him
    rw [hC] at hc
    obtain ⟨ys, n', hn', hy, hlen, hyl, hf⟩ := DataW.trod_struct he ht'
    obtain ⟨_, hcl, hat⟩ := World.cells?_some hc
    refine ⟨n', fun j f hj => ?_⟩
    obtain ⟨ho, hk⟩ := hone_of hone j f hj
    have hjl : j < fs.size := (Array.getElem?_eq_some_iff.1 hj).1
    have hcell := hat j hjl
    have hv : cs'[j]? = some (cs'[j]'(by omega)) := List.getElem?_eq_getElem (by omega)
    have h1 := hf j f hj
    rw [ho, hk] at h1
    have hone' : (cs'.drop j).take 1 = [cs'[j]'(by omega)] := by
      rw [List.drop_eq_getElem_cons (by omega)]
      rfl
    rw [hone'] at h1
    have hys : ys[j]? = some (ys[j]'(by omega)) := List.getElem?_eq_getElem (by omega)
    refine ⟨_, _, ?_, h1.trans hys⟩
    rw [← Go.Deep.add_add, hcell, hv]
theorem open_rows1 {H : Type} {enc : TypeId × Value → H} {P : Program} {w : World} {base : Nat} {spare : Nat → Bool} {held : Bool} {t e : TypeId} {fuel : Nat} {cs : List Value} {x : DataW H × List MemPlace} (ht : P.underlying t = some (.slice e)) (hC : P.cellsOf e = 1) (h : DataW.trod enc P w base spare held fuel t cs = some x) :
    cs = [.slice none 0 0] ∨ ∃ (a : Addr) (len cap m : Nat), cs = [.slice (some a) len cap] ∧ len ≤ cap ∧ cap ≤ maxLen ∧ m = (if spare a.block then cap else len) ∧
      ∀ i, i < m → ∃ (n : Nat) (v : Value) (y : DataW H × List MemPlace), w.cell? (a.add i) = some v ∧ DataW.trod enc P w base spare held n e [v] = some y := by
  rcases open_slice ht h with h0 | ⟨a, len, cap, m, n, D, Pl, hcs, hb, hl, hm, hmm, hx, hi⟩
  · exact .inl h0.1
  · refine .inr ⟨a, len, cap, m, hcs, hl, hm, hmm, fun i him => ?_⟩
    obtain ⟨cs', hc, ht'⟩ := hi i him
    rw [hC] at hc
    obtain ⟨_, hcl, hat⟩ := World.cells?_some hc
    match cs', hcl with
    | [v], _ =>
      have := hat 0 (by omega)
      refine ⟨_, v, _, ?_, ht'⟩
      rw [Nat.mul_one] at this
      simpa [Addr.add] using this
theorem open_filts {H : Type} {enc : TypeId × Value → H} {P : Program} {W : World} {t e k : TypeId} {f0 f1 f2 f3 f4 : Field} {fuel : Nat} {v : Value} {y : DataW H × List MemPlace} (ht : P.underlying t = some (.slice e)) (he : P.underlying e = some (.struct #[f0, f1, f2, f3, f4]))
    (hone : oneCellFields P #[f0, f1, f2, f3, f4] = true) (hC : P.cellsOf e = 5) (h0 : P.underlying f0.type = some (.int .i64)) (h1 : P.underlying f1.type = some (.int .i64)) (h2 : P.underlying f2.type = some .bool) (h3 : P.underlying f3.type = some .bool)
    (h4 : P.underlying f4.type = some (.slice k)) (hk : P.underlying k = some (.int .i64)) (hck : P.cellsOf k = 1) (h : DataW.trod enc P W 0 (fun _ => true) true fuel t [v] = some y) :
    ∃ (q : Option Addr) (c : Nat) (L : List FV), v = .slice q L.length c ∧ IsFilts W q L ∧ FsOk W L ∧ (q = none → L = [] ∧ c = 0) ∧ L.length ≤ maxLen := by
  rcases open_rows' ht he hone hC h with hcs | ⟨x, l, c, m, hcs, hl, hm, hmm, hi⟩
  · obtain rfl : v = .slice none 0 0 := by simpa using hcs
    exact ⟨none, 0, [], rfl, .inl rfl, fun j hj => by simp at hj, fun _ => ⟨rfl, rfl⟩, Nat.zero_le _⟩
  · obtain rfl : v = .slice (some x) l c := by simpa using hcs
    simp at hmm
    have hmc : l ≤ m := by omega
    have key : ∀ i, i < l → ∃ f : FV, (∀ j, j < 5 → W.cell? (x.add (i * 5 + j)) = f.cells[j]?) ∧ IsInts W f.p f.cs ∧ f.cs.length ≤ 9223372036854775807 := by
      intro i hil
      obtain ⟨n, hh⟩ := hi i (by omega)
      obtain ⟨v0, y0, c0, t0⟩ := hh 0 f0 rfl
      obtain ⟨v1, y1, c1, t1⟩ := hh 1 f1 rfl
      obtain ⟨v2, y2, c2, t2⟩ := hh 2 f2 rfl
      obtain ⟨v3, y3, c3, t3⟩ := hh 3 f3 rfl
      obtain ⟨v4, y4, c4, t4⟩ := hh 4 f4 rfl
      obtain ⟨a0, e0, _, w0⟩ := DataW.trod_int h0 t0
      obtain ⟨a1, e1, _, w1⟩ := DataW.trod_int h1 t1
      obtain ⟨b2, e2, _⟩ := DataW.trod_bool h2 t2
      obtain ⟨b3, e3, _⟩ := DataW.trod_bool h3 t3
      have hsl : ∃ p len c, v4 = .slice p len c := by
        rcases DataW.trod_slice h4 t4 with ⟨e0, _⟩ | ⟨a, len, cap, _, _, _, _, e0, _⟩
        · exact ⟨none, 0, 0, by simpa using e0⟩
        · exact ⟨some a, len, cap, by simpa using e0⟩
      obtain ⟨p, len, cc, rfl⟩ := hsl
      obtain rfl : v0 = .int .i64 a0 := by simpa using e0
      obtain rfl : v1 = .int .i64 a1 := by simpa using e1
      obtain rfl : v2 = .bool b2 := by simpa using e2
      obtain rfl : v3 = .bool b3 := by simpa using e3
      have hT : DataW.Trod enc P W 0 (fun _ => true) true f4.type (.slice p len cc) y4.1 y4.2 := ⟨n, by simpa [Value.cells] using t4⟩
      obtain ⟨cs, hcl, hA⟩ := came_i64 h4 hk hck hT
      refine ⟨⟨a0, a1, b2, b3, cs, p, cc⟩, fun j hj => ?_, hA.1, by have := hA.2.2.1; unfold maxLen at this; show cs.length ≤ _; omega⟩
      match j, hj with
      | 0, _ => exact c0
      | 1, _ => exact c1
      | 2, _ => exact c2
      | 3, _ => exact c3
      | 4, _ => rw [← hcl] at c4; exact c4
    obtain ⟨L, hL, hx⟩ := list_of l _ key
    refine ⟨some x, c, L, by rw [hL], ?_, fun j hj => (hx j (by omega)).2, fun h => by simp at h, by omega⟩
    rcases Nat.eq_zero_or_pos l with hz | hz
    · exact .inl (List.eq_nil_of_length_eq_zero (by omega))
    · have g0 := (hx 0 hz).1 0 (by omega)
      have g0' : W.cell? (x.add (0 * 5 + 0)) = some (.int .i64 (L.getD 0 default).len) := g0
      have hs := World.cell?_spot g0'
      obtain ⟨b, off, spot⟩ := x
      have hspot : spot = none := by simpa [Addr.add] using hs
      subst hspot
      have hb := block_lt g0'
      refine .inr ⟨b, off, rfl, by simpa [Addr.add] using hb, fun j hj k' hk' => ?_⟩
      have g := (hx j (by omega)).1 k' hk'
      rw [Addr.add_lit] at g
      rw [Nat.add_assoc]
      exact g
theorem open_bank {H : Type} {enc : TypeId × Value → H} {P : Program} {W : World} {t0 t e k : TypeId} {f0 f1 f2 f3 f4 : Field} {a : Option Addr} {len cap : Nat} {d : DataW H} {ps : List MemPlace} (ht0 : P.underlying t0 = some (.slice t)) (hc0 : P.cellsOf t = 1) (ht : P.underlying t = some (.slice e)) (he : P.underlying e = some (.struct #[f0, f1, f2, f3, f4]))
    (hone : oneCellFields P #[f0, f1, f2, f3, f4] = true) (hC : P.cellsOf e = 5) (h0 : P.underlying f0.type = some (.int .i64)) (h1 : P.underlying f1.type = some (.int .i64)) (h2 : P.underlying f2.type = some .bool) (h3 : P.underlying f3.type = some .bool)
    (h4 : P.underlying f4.type = some (.slice k)) (hk : P.underlying k = some (.int .i64)) (hck : P.cellsOf k = 1) (h : DataW.Trod enc P W 0 (fun _ => true) true t0 (.slice a len cap) d ps) :
    ∃ B : List BV, B.length = len ∧ IsBank W a B ∧ (∀ j, j < B.length → (B.getD j default).q = none → (B.getD j default).fs = [] ∧ (B.getD j default).c = 0) ∧ B.length ≤ maxLen := by
  obtain ⟨fuel, hf⟩ := h
  rcases open_rows1 ht0 hc0 hf with hcs | ⟨x, l, c, m, hcs, hl, hm, hmm, hi⟩
  · simp [Value.cells] at hcs
    obtain ⟨rfl, rfl, rfl⟩ := hcs
    exact ⟨[], rfl, ⟨.inl rfl, fun j hj => by simp at hj⟩, fun j hj => by simp at hj, Nat.zero_le _⟩
  · simp [Value.cells] at hcs
    obtain ⟨rfl, rfl, rfl⟩ := hcs
    simp at hmm
    have hmc : len ≤ m := by omega
    have key : ∀ i, i < len → ∃ b : BV, W.cell? (x.add i) = some (.slice b.q b.fs.length b.c) ∧ IsFilts W b.q b.fs ∧ FsOk W b.fs ∧ (b.q = none → b.fs = [] ∧ b.c = 0) := by
      intro i hil
      obtain ⟨n, v, y, hv, hy⟩ := hi i (by omega)
      obtain ⟨q, c, L, rfl, o1, o2, o3, _⟩ := open_filts ht he hone hC h0 h1 h2 h3 h4 hk hck hy
      exact ⟨⟨q, c, L⟩, hv, o1, o2, o3⟩
    obtain ⟨B, hB, hx⟩ := list_of len _ key
    refine ⟨B, hB, ⟨?_, fun j hj => ⟨(hx j (by omega)).2.1, (hx j (by omega)).2.2.1⟩⟩, fun j hj => (hx j (by omega)).2.2.2, by omega⟩
    rcases Nat.eq_zero_or_pos len with hz | hz
    · exact .inl (List.eq_nil_of_length_eq_zero (by omega))
    · have g0 := (hx 0 hz).1
      have hs := World.cell?_spot g0
      obtain ⟨b, off, spot⟩ := x
      have hspot : spot = none := by simpa [Addr.add] using hs
      subst hspot
      have hb := block_lt g0
      refine .inr ⟨b, off, rfl, by simpa [Addr.add] using hb, fun j hj => ?_⟩
      have g := (hx j (by omega)).1
      rw [Addr.add_lit] at g
      exact g
theorem array4' {α : Type} {cs : Array α} (h : cs.size = 4) : ∃ c0 c1 c2 c3, cs = #[c0, c1, c2, c3] := by
  obtain ⟨l⟩ := cs
  match l, h with
  | [c0, c1, c2, c3], _ => exact ⟨c0, c1, c2, c3, rfl⟩
theorem open_info {H : Type} {enc : TypeId × Value → H} {P : Program} {w : World} {r : Reach} {b0 : Nat} {t e : TypeId} {f0 f1 f2 f3 : Field} {v : Value} {d : DataW H} {p : List MemPlace} (hs : P.underlying t = some (.struct #[f0, f1, f2, f3])) (hone : oneCellFields P #[f0, f1, f2, f3] = true) (hC : P.cellsOf t = 4)
    (h0 : P.underlying f0.type = some (.int .u8)) (h1 : P.underlying f1.type = some (.int .u8)) (h2 : P.underlying f2.type = some (.int .i64)) (h3 : P.underlying f3.type = some (.slice e)) (he : P.underlying e = some (.int .i64)) (hc : P.cellsOf e = 1)
    (hv : Value.okWide P w r b0 t v) (h : DataW.Trod enc P w 0 (fun _ => true) true t v d p) :
    ∃ (s u m : Int) (q : Option Addr) (len c : Nat) (l : List Int), v = .agg #[.int .u8 s, .int .u8 u, .int .i64 m, .slice q len c] ∧ l.length = len ∧ IsArg w q c l ∧ len ≤ c ∧ (0 ≤ s ∧ s ≤ 255) ∧ (0 ≤ u ∧ u ≤ 255) ∧ (-9223372036854775808 ≤ m ∧ m ≤ 9223372036854775807) := by
  obtain ⟨cs, rfl, hsz⟩ := okWide_struct hs hv
  obtain ⟨c0, c1, c2, c3, rfl⟩ := array4' (hsz.trans hC)
  obtain ⟨fuel, hf⟩ := h
  obtain ⟨xs, n, _, _, _, hlen, hx⟩ := DataW.trod_struct hs hf
  match xs, hlen with
  | [y0, y1, y2, y3], _ =>
    obtain ⟨o0, k0⟩ := hone_of hone 0 f0 rfl
    obtain ⟨o1, k1⟩ := hone_of hone 1 f1 rfl
    obtain ⟨o2, k2⟩ := hone_of hone 2 f2 rfl
    obtain ⟨o3, k3⟩ := hone_of hone 3 f3 rfl
    have g0 := hx 0 f0 rfl
    have g1 := hx 1 f1 rfl
    have g2 := hx 2 f2 rfl
    have g3 := hx 3 f3 rfl
    have t0 : DataW.trod enc P w 0 (fun _ => true) true n f0.type [c0] = some y0 := by simpa [Value.cells, o0, k0] using g0
    have t1 : DataW.trod enc P w 0 (fun _ => true) true n f1.type [c1] = some y1 := by simpa [Value.cells, o1, k1] using g1
    have t2 : DataW.trod enc P w 0 (fun _ => true) true n f2.type [c2] = some y2 := by simpa [Value.cells, o2, k2] using g2
    have t3 : DataW.trod enc P w 0 (fun _ => true) true n f3.type [c3] = some y3 := by simpa [Value.cells, o3, k3] using g3
    obtain ⟨s, e0, _, w0⟩ := DataW.trod_int h0 t0
    obtain ⟨u, e1, _, w1⟩ := DataW.trod_int h1 t1
    obtain ⟨m, e2, _, w2⟩ := DataW.trod_int h2 t2
    have hsl : ∃ p len c, c3 = .slice p len c := by
      rcases DataW.trod_slice h3 t3 with ⟨e0, _⟩ | ⟨a, len, cap, _, _, _, _, e0, _⟩
      · exact ⟨none, 0, 0, by simpa using e0⟩
      · exact ⟨some a, len, cap, by simpa using e0⟩
    obtain ⟨q, len, c, rfl⟩ := hsl
    obtain rfl : c0 = .int .u8 s := by simpa using e0
    obtain rfl : c1 = .int .u8 u := by simpa using e1
    obtain rfl : c2 = .int .i64 m := by simpa using e2
    have hT : DataW.Trod enc P w 0 (fun _ => true) true f3.type (.slice q len c) y3.1 y3.2 := ⟨n, by simpa [Value.cells] using t3⟩
    obtain ⟨l, hl, hA⟩ := came_i64 h3 he hc hT
    exact ⟨s, u, m, q, len, c, l, rfl, hl, hA, came_le h3 he hc hT, bounds_u8 w0, bounds_u8 w1, bounds_i64 w2⟩
end Go.Proofs.Yteijlbblmdclaaa
