/- Lemmas that every proof of this seat uses: a slice that reads as a list of integers. -/
import Derived.Test.YtppfbfiigfjncaaRows
import Derived.WalkKit
import Derived.ProofKit
import Derived.OpenShut
import Derived.BigQuiet
import Derived.Lib.Hide
import Derived.Maps.AppendAt
import Derived.Deep.QuietTactic
namespace Go.Proofs.Ytppfbfiigfjncaa
open Go.ChangeShapes Go.WideShapes Go.ChangeAt Go.RowKit

/-- The slice's elements, by its address: the integers l. -/
def IsInts (w : World) (p : Option Addr) (l : List Int) : Prop :=
  l = [] ∨ ∃ b off, p = some ⟨b, off, none⟩ ∧ b < w.heap.size ∧ ∀ j, j < l.length → w.cell? ⟨b, off + j, none⟩ = some (.int .i64 (l.getD j 0))

theorem IsInts.nil (w : World) (p : Option Addr) : IsInts w p [] := .inl rfl

theorem IsInts.keep {w w' : World} {p : Option Addr} {l : List Int} (h : IsInts w p l) (hb : Below w.heap.size w w') : IsInts w' p l := by
  rcases h with h | ⟨b, off, hp, hlt, hc⟩
  · exact .inl h
  · exact .inr ⟨b, off, hp, Nat.lt_of_lt_of_le hlt hb.size, fun j hj => (hb.cell (p := ⟨b, off + j, none⟩) hlt).trans (hc j hj)⟩

theorem IsInts.at {w : World} {p : Option Addr} {l : List Int} (h : IsInts w p l) {j : Nat} (hj : j < l.length) :
    ∃ b off, p = some ⟨b, off, none⟩ ∧ b < w.heap.size ∧ ∀ j, j < l.length → w.cell? ⟨b, off + j, none⟩ = some (.int .i64 (l.getD j 0)) := by
  rcases h with h | h
  · simp [h] at hj
  · exact h

/-- A row of the call's own, of integers. -/
theorem owns_at {w : World} {base : Nat} {v : Value} {l : List Int} (h : w.ownsRow base 3 1 v l.length (l.map (Value.int .i64))) (hne : l ≠ []) :
    ∃ g cap, v = .slice (some ⟨g, 0, none⟩) l.length cap ∧ base ≤ g ∧ g < w.heap.size ∧ ∀ j, j < l.length → w.cell? ⟨g, j, none⟩ = some (.int .i64 (l.getD j 0)) := by
  have hlt := h.lt
  have h' := h
  obtain ⟨h1, h2 | ⟨g, cap, cur, rfl, hg, hh, r⟩⟩ := h
  · simp at h2; exact absurd h2.2 hne
  · have := hlt g rfl
    refine ⟨g, cap, rfl, hg, this.2, fun j hj => ?_⟩
    rw [h'.cellAt j (by omega)]
    simp [List.getD_eq_getElem?_getD, hj]

/-- A new block of integers: a literal's. -/
theorem isInts_new (w : World) (l : List Int) (t : TypeId) {n : Nat} (hn : w.heap.size = n) : IsInts (w.alloc (.cells (l.map (Value.int .i64)).toArray t)) (some ⟨n, 0, none⟩) l := by
  subst hn
  refine .inr ⟨_, 0, rfl, by simp, fun j hj => ?_⟩
  rw [World.cell?_alloc_at _ _ _ _ rfl]
  simp [List.getD_eq_getElem?_getD, hj]

theorem isInts_of {w : World} {g : Nat} {l : List Int} (hlt : g < w.heap.size) (h : ∀ j, j < l.length → w.cell? ⟨g, j, none⟩ = some (.int .i64 (l.getD j 0))) : IsInts w (some ⟨g, 0, none⟩) l :=
  .inr ⟨g, 0, rfl, hlt, fun j hj => by simpa using h j hj⟩

theorem IsInts.alloc {w : World} {p : Option Addr} {l : List Int} (h : IsInts w p l) (o : Obj) : IsInts (w.alloc o) p l := h.keep ((Below.refl _ _).alloc (Nat.le_refl _) _)
theorem IsInts.drewN {w : World} {p : Option Addr} {l : List Int} (h : IsInts w p l) (n : Nat) : IsInts (w.drewN n) p l := h

theorem below_drewN {B : Nat} {a w : World} (h : Below B a w) (n : Nat) : Below B a (w.drewN n) := h.trans ⟨rfl, rfl, rfl, Nat.le_refl _, fun _ _ => rfl⟩

theorem ret_bool {a b : Bool} (h : a = b) : Ending.returned (.bool a) = .returned (.bool b) := by rw [h]
theorem ret_int {k : IntKind} {a b : Int} (h : a = b) : Ending.returned (.int k a) = .returned (.int k b) := by rw [h]
theorem ret_ints {k k' : IntKind} {a b a' b' : Int} (h : a = b) (h' : a' = b') : Ending.returned (.tuple #[.int k a, .int k' a']) = .returned (.tuple #[.int k b, .int k' b']) := by rw [h, h']

theorem one_int (n : Int) : ∀ u ∈ [Value.int .i64 n], u.oneCell' = true := by simp [Value.oneCell']
theorem Try.infoInt : (Try.prog.info? 3).map (fun i => (i.zero, i.size, i.bytes)) = some (some (.int .i64 0), 1, 8) := by kernel_rfl

end Go.Proofs.Ytppfbfiigfjncaa
