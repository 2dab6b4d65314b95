/- A slice of structs that came in, opened: a path of frames. -/
import Derived.Test.YtcmbbmilldhnnaaG1
import Derived.Deep.Slices
import Derived.Deep.Fields
import Derived.ChangeSame
set_option linter.unusedVariables false
set_option linter.unusedSimpArgs false
namespace Go.Proofs.Ytcmbbmilldhnnaa
open Go.ChangeShapes Go.WideShapes Go.ChangeAt Go.RowKit Go.Joins Go.Deep
/-- Each element's fields, by their cells. -/
theorem open_rows {H : Type} {enc : TypeId × Value → H} {P : Program} {w : World} {base : Nat} {spare : Nat → Bool} {held : Bool} {t e : TypeId} {fs : Array Field} {fuel : Nat} {cs : List Value} {x : DataW H × List MemPlace} (ht : P.underlying t = some (.slice e)) (he : P.underlying e = some (.struct fs))
    (hone : oneCellFields P fs = true) (hC : P.cellsOf e = fs.size) (h : DataW.trod enc P w base spare held fuel t cs = some x) :
    cs = [.slice none 0 0] ∨ ∃ (a : Addr) (len cap m : Nat), cs = [.slice (some a) len cap] ∧ len ≤ cap ∧ cap ≤ maxLen ∧ m = (if spare a.block then cap else len) ∧
      ∀ i, i < m → ∃ n : Nat, ∀ (j : Nat) (f : Field), fs[j]? = some f → ∃ (v : Value) (y : DataW H × List MemPlace), w.cell? (a.add (i * fs.size + j)) = some v ∧ DataW.trod enc P w base spare held n f.type [v] = some y := by
  rcases open_slice ht h with h0 | ⟨a, len, cap, m, n, D, Pl, hcs, hb, hl, hm, hmm, hx, hi⟩
  · exact .inl h0.1
  · refine .inr ⟨a, len, cap, m, hcs, hl, hm, hmm, fun i him => ?_⟩
    obtain ⟨cs', hc, ht'⟩ := hi i him
    rw [hC] at hc
    obtain ⟨ys, n', hn', hy, hlen, hyl, hf⟩ := DataW.trod_struct he ht'
    obtain ⟨_, hcl, hat⟩ := World.cells?_some hc
    refine ⟨n', fun j f hj => ?_⟩
    obtain ⟨ho, hk⟩ := hone_of hone j f hj
    have hjl : j < fs.size := (Array.getElem?_eq_some_iff.1 hj).1
    have hcell := hat j hjl
    have hv : cs'[j]? = some (cs'[j]'(by omega)) := List.getElem?_eq_getElem (by omega)
    have h1 := hf j f hj
    rw [ho, hk] at h1
    have hone' : (cs'.drop j).take 1 = [cs'[j]'(by omega)] := by
      rw [List.drop_eq_getElem_cons (by omega)]
      rfl
    rw [hone'] at h1
    have hys : ys[j]? = some (ys[j]'(by omega)) := List.getElem?_eq_getElem (by omega)
    refine ⟨_, _, ?_, h1.trans hys⟩
    rw [← Go.Deep.add_add, hcell, hv]
/-- A path that came in: frames' sequences and shapes. -/
def IsPath (W : World) (p : Option Addr) (L : List (Int × Int)) : Prop :=
  (L = [] ∨ ∃ b off, p = some ⟨b, off, none⟩ ∧ b < W.heap.size ∧ ∀ j, j < L.length → W.cell? ⟨b, off + j * 2, none⟩ = some (.int .u8 (L.getD j (0, 0)).1) ∧ W.cell? ⟨b, off + j * 2 + 1, none⟩ = some (.int .u8 (L.getD j (0, 0)).2)) ∧ ∀ j, j < L.length → (0 ≤ (L.getD j (0, 0)).1 ∧ (L.getD j (0, 0)).1 ≤ 255) ∧ 0 ≤ (L.getD j (0, 0)).2 ∧ (L.getD j (0, 0)).2 ≤ 255
theorem IsPath.keep {W W' : World} {p : Option Addr} {L : List (Int × Int)} (h : IsPath W p L) (hb : Below W.heap.size W W') : IsPath W' p L := by
  refine ⟨?_, h.2⟩
  rcases h.1 with h | ⟨b, off, hp, hlt, hc⟩
  · exact .inl h
  · exact .inr ⟨b, off, hp, Nat.lt_of_lt_of_le hlt hb.size, fun j hj => ⟨(hb.cell (p := ⟨b, _, none⟩) hlt).trans (hc j hj).1, (hb.cell (p := ⟨b, _, none⟩) hlt).trans (hc j hj).2⟩⟩
theorem IsPath.at {W : World} {p : Option Addr} {L : List (Int × Int)} (h : IsPath W p L) {j : Nat} (hj : j < L.length) : ∃ b off, p = some ⟨b, off, none⟩ ∧ b < W.heap.size ∧ ∀ j, j < L.length → W.cell? ⟨b, off + j * 2, none⟩ = some (.int .u8 (L.getD j (0, 0)).1) ∧ W.cell? ⟨b, off + j * 2 + 1, none⟩ = some (.int .u8 (L.getD j (0, 0)).2) := by
  rcases h.1 with h | h
  · simp [h] at hj
  · exact h
theorem open_path {H : Type} {enc : TypeId × Value → H} {P : Program} {W : World} {t e : TypeId} {f0 f1 : Field} {a : Option Addr} {len cap : Nat} {d : DataW H} {ps : List MemPlace} (ht : P.underlying t = some (.slice e)) (he : P.underlying e = some (.struct #[f0, f1]))
    (hone : oneCellFields P #[f0, f1] = true) (hC : P.cellsOf e = 2) (h0 : P.underlying f0.type = some (.int .u8)) (h1 : P.underlying f1.type = some (.int .u8)) (h : DataW.Trod enc P W 0 (fun _ => true) true t (.slice a len cap) d ps) :
    ∃ L : List (Int × Int), L.length = len ∧ IsPath W a L ∧ L.length ≤ maxLen := by
  obtain ⟨fuel, hf⟩ := h
  rcases open_rows ht he hone hC hf with hcs | ⟨x, l, c, m, hcs, hl, hm, hmm, hi⟩
  · simp [Value.cells] at hcs
    obtain ⟨rfl, rfl, rfl⟩ := hcs
    exact ⟨[], rfl, ⟨.inl rfl, fun j hj => by simp at hj⟩, Nat.zero_le _⟩
  · simp [Value.cells] at hcs
    obtain ⟨rfl, rfl, rfl⟩ := hcs
    simp at hmm
    subst hmm
    have key : ∀ i, i < len → ∃ s u : Int, W.cell? (x.add (i * 2)) = some (.int .u8 s) ∧ W.cell? (x.add (i * 2 + 1)) = some (.int .u8 u) ∧ (0 ≤ s ∧ s ≤ 255) ∧ 0 ≤ u ∧ u ≤ 255 := by
      intro i hil
      obtain ⟨n, hh⟩ := hi i (by omega)
      obtain ⟨v, y, c0, t0⟩ := hh 0 f0 rfl
      obtain ⟨v', y', c1, t1⟩ := hh 1 f1 rfl
      obtain ⟨s, e0, _, w0⟩ := DataW.trod_int h0 t0
      obtain ⟨u, e1, _, w1⟩ := DataW.trod_int h1 t1
      obtain rfl : v = .int .u8 s := by simpa using e0
      obtain rfl : v' = .int .u8 u := by simpa using e1
      exact ⟨s, u, c0, c1, bounds_u8 w0, bounds_u8 w1⟩
    have hex : ∃ f : Nat → Int × Int, ∀ i, i < len → W.cell? (x.add (i * 2)) = some (.int .u8 (f i).1) ∧ W.cell? (x.add (i * 2 + 1)) = some (.int .u8 (f i).2) ∧ (0 ≤ (f i).1 ∧ (f i).1 ≤ 255) ∧ 0 ≤ (f i).2 ∧ (f i).2 ≤ 255 := by
      refine ⟨fun i => if h : i < len then ((key i h).choose, (key i h).choose_spec.choose) else (0, 0), fun i hil => ?_⟩
      simp only [dif_pos hil]
      exact (key i hil).choose_spec.choose_spec
    obtain ⟨f, hfx⟩ := hex
    have hget : ∀ j, j < len → ((List.range len).map f).getD j (0, 0) = f j := fun j hj => by
      rw [List.getD_eq_getElem?_getD, List.getElem?_map, List.getElem?_range hj]; rfl
    refine ⟨(List.range len).map f, by simp, ⟨?_, fun j hj => ?_⟩, by simp; omega⟩
    · rcases Nat.eq_zero_or_pos len with hz | hz
      · exact .inl (by simp [hz])
      · have g0 := (hfx 0 hz).1
        have hs := World.cell?_spot g0
        obtain ⟨b, off, spot⟩ := x
        have hspot : spot = none := by simpa [Addr.add] using hs
        subst hspot
        have hb := block_lt g0
        refine .inr ⟨b, off, rfl, by simpa [Addr.add] using hb, fun j hj => ?_⟩
        have hj' : j < len := by simpa using hj
        have g := hfx j hj'
        rw [Addr.add_lit, Addr.add_lit] at g
        rw [hget j hj']
        exact ⟨g.1, by rw [Nat.add_assoc]; exact g.2.1⟩
    · have hj' : j < len := by simpa using hj
      rw [hget j hj']
      exact (hfx j hj').2.2
end Go.Proofs.Ytcmbbmilldhnnaa
