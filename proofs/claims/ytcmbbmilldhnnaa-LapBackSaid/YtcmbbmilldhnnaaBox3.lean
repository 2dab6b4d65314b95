/- A variable of three cells. -/
import Derived.Test.YtcmbbmilldhnnaaG5
set_option linter.unusedVariables false
namespace Go.Proofs.Ytcmbbmilldhnnaa
open Go.ChangeShapes Go.WideShapes Go.ChangeAt Go.RowKit
def Box3 (W : World) (g : Nat) (t : TypeId) (a b c : Value) : Prop := W.heap[g]? = some (.cells #[a, b, c] t (0, 0))
section
variable {W : World} {g : Nat} {t : TypeId} {a b c : Value}
theorem Box3.lt (h : Box3 W g t a b c) : g < W.heap.size := (Array.getElem?_eq_some_iff.1 h).1
theorem Box3.cell0 (h : Box3 W g t a b c) : W.cell? ⟨g, 0, none⟩ = some a := by simp [World.cell?, show W.heap[g]? = _ from h]
theorem Box3.cell1 (h : Box3 W g t a b c) : W.cell? ⟨g, 1, none⟩ = some b := by simp [World.cell?, show W.heap[g]? = _ from h]
theorem Box3.cell2 (h : Box3 W g t a b c) : W.cell? ⟨g, 2, none⟩ = some c := by simp [World.cell?, show W.heap[g]? = _ from h]
theorem Box3.frozen (h : Box3 W g t a b c) (i : Nat) : W.frozen? ⟨g, i, none⟩ = false := by simp [World.frozen?, show W.heap[g]? = _ from h]
theorem Box3.new (W : World) (t : TypeId) (a b c : Value) {g : Nat} (hg : W.heap.size = g) : Box3 (W.alloc (.cells #[a, b, c] t)) g t a b c := by subst hg; exact World.alloc_heap_new W _
theorem Box3.keep {W' : World} {B : Nat} (h : Box3 W g t a b c) (hb : Below B W W') (hB : g < B) : Box3 W' g t a b c := (hb.block g hB).trans h
theorem Box3.alloc (h : Box3 W g t a b c) (o : Obj) : Box3 (W.alloc o) g t a b c := (Below.heap_alloc W o g h.lt).trans h
theorem Box3.other (h : Box3 W g t a b c) (p : Addr) (hp : g ≠ p.block) (u : Value) : Box3 (W.setCell p u) g t a b c := (Below.heap_setCell W p u g hp).trans h
theorem Box3.set0 (h : Box3 W g t a b c) (a' : Value) : Box3 (W.setCell ⟨g, 0, none⟩ a') g t a' b c := by
  obtain ⟨hlt, hk⟩ := Array.getElem?_eq_some_iff.1 h
  show (W.heap.modify g _)[g]? = _
  rw [Array.getElem?_eq_getElem (by rw [Array.size_modify]; exact hlt), Array.getElem_modify_self, hk]
  rfl
theorem Box3.set1 (h : Box3 W g t a b c) (b' : Value) : Box3 (W.setCell ⟨g, 1, none⟩ b') g t a b' c := by
  obtain ⟨hlt, hk⟩ := Array.getElem?_eq_some_iff.1 h
  show (W.heap.modify g _)[g]? = _
  rw [Array.getElem?_eq_getElem (by rw [Array.size_modify]; exact hlt), Array.getElem_modify_self, hk]
  rfl
theorem Box3.set2 (h : Box3 W g t a b c) (c' : Value) : Box3 (W.setCell ⟨g, 2, none⟩ c') g t a b c' := by
  obtain ⟨hlt, hk⟩ := Array.getElem?_eq_some_iff.1 h
  show (W.heap.modify g _)[g]? = _
  rw [Array.getElem?_eq_getElem (by rw [Array.size_modify]; exact hlt), Array.getElem_modify_self, hk]
  rfl
theorem Box3.all (h : Box3 W g t a b c) (a' b' c' : Value) : Box3 (((W.setCell ⟨g, 0, none⟩ a').setCell ⟨g, 1, none⟩ b').setCell ⟨g, 2, none⟩ c') g t a' b' c' := ((h.set0 a').set1 b').set2 c'
end
theorem Apart.box3 {L b : Nat} {w w' : World} {t : TypeId} {x y z : Value} (h : Apart L w w') (hb : Box3 w b t x y z) (h1 : b < L) : Box3 w' b t x y z := (h.block b hb.lt (by omega) (by omega)).trans hb
end Go.Proofs.Ytcmbbmilldhnnaa
