/- Rows of integers that came in: a slice of slices. -/
import Derived.Test.YtppfbfiigfjncaaKeep
set_option linter.unusedVariables false
namespace Go.Proofs.Ytppfbfiigfjncaa
open Go.ChangeShapes Go.WideShapes Go.ChangeAt Go.RowKit

/-- A row: where it lies. -/
structure RV where
  q : Option Addr
  c : Nat
  l : List Int
instance : Inhabited RV := ⟨⟨none, 0, []⟩⟩
def rowsOf (R : List RV) : List (List Int) := R.map (fun r => r.l)
theorem rowsOf_get (R : List RV) (g : Nat) : (rowsOf R).getD g [] = (R.getD g default).l := by
  unfold rowsOf
  rw [List.getD_eq_getElem?_getD, List.getElem?_map, List.getD_eq_getElem?_getD]
  cases R[g]? <;> rfl
theorem rowsOf_len (R : List RV) : (rowsOf R).length = R.length := by unfold rowsOf; rw [List.length_map]
def IsRows (W : World) (q : Option Addr) (R : List RV) : Prop :=
  (R = [] ∨ ∃ b off, q = some ⟨b, off, none⟩ ∧ b < W.heap.size ∧ ∀ j, j < R.length → W.cell? ⟨b, off + j, none⟩ = some (.slice (R.getD j default).q (R.getD j default).l.length (R.getD j default).c)) ∧
    ∀ j, j < R.length → IsInts W (R.getD j default).q (R.getD j default).l
theorem IsRows.keep {W W' : World} {q : Option Addr} {R : List RV} (h : IsRows W q R) (hb : Below W.heap.size W W') : IsRows W' q R := by
  refine ⟨?_, fun j hj => (h.2 j hj).keep hb⟩
  rcases h.1 with h | ⟨b, off, hq, hlt, hc⟩
  · exact .inl h
  · exact .inr ⟨b, off, hq, Nat.lt_of_lt_of_le hlt hb.size, fun j hj => (hb.cell (p := ⟨b, _, none⟩) hlt).trans (hc j hj)⟩
theorem IsRows.at {W : World} {q : Option Addr} {R : List RV} (h : IsRows W q R) {j : Nat} (hj : j < R.length) : ∃ b off, q = some ⟨b, off, none⟩ ∧ b < W.heap.size ∧ W.cell? ⟨b, off + j, none⟩ = some (.slice (R.getD j default).q (R.getD j default).l.length (R.getD j default).c) ∧ IsInts W (R.getD j default).q (R.getD j default).l := by
  rcases h.1 with h' | ⟨b, off, hq, hlt, hc⟩
  · simp [h'] at hj
  · exact ⟨b, off, hq, hlt, hc j hj, h.2 j hj⟩
end Go.Proofs.Ytppfbfiigfjncaa
