/- Rows of the call's own, kept while other memory is made or written. -/
import Derived.Test.YtppfbfiigfjncaaBase
set_option linter.unusedVariables false
namespace Go.Proofs.Ytppfbfiigfjncaa
open Go.ChangeShapes Go.WideShapes Go.ChangeAt Go.RowKit

theorem owns_keep {w w' : World} {base : Nat} {e : TypeId} {size : Nat} {v : Value} {n : Nat} {xs : List Value} (h : w.ownsRow base e size v n xs) (hb : Below w.heap.size w w') : w'.ownsRow base e size v n xs := by
  refine ⟨h.1, ?_⟩
  rcases h.2 with hn | ⟨g, cap, cur, rfl, hg, hgg, rest⟩
  · exact .inl hn
  · refine .inr ⟨g, cap, cur, rfl, hg, ?_, rest⟩
    rw [hb.block g (Array.getElem?_eq_some_iff.1 hgg).1]
    exact hgg
theorem owns_shape {w : World} {base : Nat} {e : TypeId} {size : Nat} {v : Value} {n : Nat} {xs : List Value} (h : w.ownsRow base e size v n xs) (hn : 0 < n) : ∃ g cap, v = .slice (some ⟨g, 0, none⟩) n cap ∧ base ≤ g ∧ g < w.heap.size := by
  have hlt := h.lt
  rcases h.2 with h2 | ⟨g, cap, cur, rfl, hg, hgg, rest⟩
  · omega
  · exact ⟨g, cap, rfl, hg, (hlt g rfl).2⟩
theorem IsInts.setCell {w : World} {g off' : Nat} {l : List Int} (h : IsInts w (some ⟨g, off', none⟩) l) (a : Addr) (u : Value) (hne : g ≠ a.block) : IsInts (w.setCell a u) (some ⟨g, off', none⟩) l := by
  rcases h with h | ⟨b, off, hp, hlt, hc⟩
  · exact .inl h
  · obtain ⟨rfl, rfl⟩ : g = b ∧ off' = off := by simpa using hp
    refine .inr ⟨g, off', rfl, by simpa [World.setCell] using hlt, fun j hj => ?_⟩
    rw [← hc j hj]
    exact World.cell?_of_block (Below.heap_setCell _ _ _ _ hne)
end Go.Proofs.Ytppfbfiigfjncaa
