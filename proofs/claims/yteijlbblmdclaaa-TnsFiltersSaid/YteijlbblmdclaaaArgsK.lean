/- Slices of integers of any kind that came in. -/
import Derived.Test.YteijlbblmdclaaaArgs
set_option linter.unusedVariables false
set_option linter.unusedSimpArgs false
namespace Go.Proofs.Yteijlbblmdclaaa
open Go.ChangeShapes Go.WideShapes Go.ChangeAt Go.RowKit

def IsArgK (k : IntKind) (w : World) (p : Option Addr) (c : Nat) (l : List Int) : Prop :=
  (l = [] ∨ ∃ b off, p = some ⟨b, off, none⟩ ∧ b < w.heap.size ∧ ∀ j, j < l.length → w.cell? ⟨b, off + j, none⟩ = some (.int k (l.getD j 0))) ∧ (p = none → c = 0 ∧ l = []) ∧ l.length ≤ maxLen ∧ ∀ n ∈ l, (Lit.int k n).wf = true
theorem IsArgK.keep {k : IntKind} {w w' : World} {p : Option Addr} {c : Nat} {l : List Int} (h : IsArgK k w p c l) (hb : Below w.heap.size w w') : IsArgK k w' p c l := by
  obtain ⟨h1, h2⟩ := h
  refine ⟨?_, h2⟩
  rcases h1 with h | ⟨b, off, hp, hlt, hc⟩
  · exact .inl h
  · exact .inr ⟨b, off, hp, Nat.lt_of_lt_of_le hlt hb.size, fun j hj => (hb.cell (p := ⟨b, off + j, none⟩) hlt).trans (hc j hj)⟩
theorem IsArgK.at {k : IntKind} {w : World} {p : Option Addr} {c : Nat} {l : List Int} (h : IsArgK k w p c l) {j : Nat} (hj : j < l.length) :
    ∃ b off, p = some ⟨b, off, none⟩ ∧ b < w.heap.size ∧ w.cell? ⟨b, off + j, none⟩ = some (.int k (l.getD j 0)) := by
  rcases h.1 with h | ⟨b, off, hp, hlt, hc⟩
  · simp [h] at hj
  · exact ⟨b, off, hp, hlt, hc j hj⟩
theorem argK_of {k : IntKind} {w : World} {a : Option Addr} {len cap : Nat} {zs : List Int}
    (h : (a = none ∧ len = 0 ∧ cap = 0 ∧ zs = []) ∨ ∃ x, a = some x ∧ len ≤ cap ∧ cap ≤ maxLen ∧ zs.length = cap ∧ (∀ i, i < zs.length → w.cell? (x.add i) = some (.int k (zs.getD i 0))) ∧ ∀ n ∈ zs, (Lit.int k n).wf = true) :
    ∃ l : List Int, l.length = len ∧ IsArgK k w a cap l := by
  rcases h with ⟨rfl, rfl, rfl, rfl⟩ | ⟨x, rfl, hl, hm, hz, hcell, hwz⟩
  · exact ⟨[], rfl, .inl rfl, (fun _ => ⟨rfl, rfl⟩), (by simp), (fun _ h => by cases h)⟩
  · have hlen : (zs.take len).length = len := by simp; omega
    refine ⟨zs.take len, hlen, ?_, (fun h => by cases h), (by rw [hlen]; omega), (fun n hn => hwz n (List.mem_of_mem_take hn))⟩
    rcases Nat.eq_zero_or_pos len with h0 | h0
    · exact .inl (by simp [h0])
    · have h1 := hcell 0 (by omega)
      have hs := World.cell?_spot h1
      obtain ⟨b, off, spot⟩ := x
      have hspot : spot = none := by simpa [Addr.add] using hs
      subst hspot
      have hb := block_lt h1
      refine .inr ⟨b, off, rfl, by simpa [Addr.add] using hb, fun j hj => ?_⟩
      have h2 := hcell j (by rw [hlen] at hj; omega)
      rw [Addr.add_lit] at h2
      rw [h2]
      simp [List.getD_eq_getElem?_getD, show j < len by rw [hlen] at hj; exact hj]
theorem came_any {H : Type} {enc : TypeId × Value → H} {P : Program} {W : World} {t e : TypeId} {k : IntKind} {a : Option Addr} {len cap : Nat} {d : DataW H} {ps : List MemPlace} (ht : P.underlying t = some (.slice e)) (he : P.underlying e = some (.int k)) (hc : P.cellsOf e = 1)
    (h : DataW.Trod enc P W 0 (fun _ => true) true t (.slice a len cap) d ps) : (a = none ∧ len = 0 ∧ cap = 0 ∧ ([] : List Int) = []) ∨ ∃ zs : List Int, ∃ x, a = some x ∧ len ≤ cap ∧ cap ≤ maxLen ∧ zs.length = cap ∧ (∀ i, i < zs.length → W.cell? (x.add i) = some (.int k (zs.getD i 0))) ∧ ∀ n ∈ zs, (Lit.int k n).wf = true := by
  obtain ⟨fuel, hf⟩ := h
  rcases open_ints ht he hc hf with ⟨hcs, _⟩ | ⟨x, l, c, zs, hcs, _, hl, hm, hz, _, hcell, hwz⟩
  · simp [Value.cells] at hcs
    obtain ⟨rfl, rfl, rfl⟩ := hcs
    exact .inl ⟨rfl, rfl, rfl, rfl⟩
  · simp [Value.cells] at hcs
    obtain ⟨rfl, rfl, rfl⟩ := hcs
    exact .inr ⟨zs, x, rfl, hl, hm, by simpa using hz, hcell, hwz⟩
theorem came_k {H : Type} {enc : TypeId × Value → H} {P : Program} {W : World} {t e : TypeId} {k : IntKind} {a : Option Addr} {len cap : Nat} {d : DataW H} {ps : List MemPlace} (ht : P.underlying t = some (.slice e)) (he : P.underlying e = some (.int k)) (hc : P.cellsOf e = 1)
    (h : DataW.Trod enc P W 0 (fun _ => true) true t (.slice a len cap) d ps) : ∃ l : List Int, l.length = len ∧ IsArgK k W a cap l := by
  rcases came_any ht he hc h with h | ⟨zs, h⟩
  · exact argK_of (.inl h)
  · exact argK_of (.inr h)
theorem came_i64 {H : Type} {enc : TypeId × Value → H} {P : Program} {W : World} {t e : TypeId} {a : Option Addr} {len cap : Nat} {d : DataW H} {ps : List MemPlace} (ht : P.underlying t = some (.slice e)) (he : P.underlying e = some (.int .i64)) (hc : P.cellsOf e = 1)
    (h : DataW.Trod enc P W 0 (fun _ => true) true t (.slice a len cap) d ps) : ∃ l : List Int, l.length = len ∧ IsArg W a cap l := by
  rcases came_any ht he hc h with h | ⟨zs, h⟩
  · exact arg_of (.inl h)
  · exact arg_of (.inr h)
end Go.Proofs.Yteijlbblmdclaaa
