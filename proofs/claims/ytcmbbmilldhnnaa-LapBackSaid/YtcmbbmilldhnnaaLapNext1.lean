/- lap.New; slices.Clone. -/
import Derived.Test.YtcmbbmilldhnnaaLap1
import Derived.Test.YtcmbbmilldhnnaaBox3
import Derived.Shelf.Slices.Clone
import Derived.Test.YtcmbbmilldhnnaaShelf
import Derived.Ground.Names2Prog
set_option linter.unusedVariables false
namespace Go.Proofs.Ytcmbbmilldhnnaa
open Go.ChangeShapes Go.WideShapes Go.ChangeAt Go.RowKit Go.Shelf
set_option maxHeartbeats 1000000 in
theorem new_ok (w : World) : Calls Try.prog 10 #[] w fun e w' => ∃ g, e = .returned (.agg #[.slice (some ⟨g, 0, none⟩) 256 256, .int .u8 0, .int .u8 0]) ∧ w'.ownsRow w.heap.size 3 1 (.slice (some ⟨g, 0, none⟩) 256 256) 256 ((zeroL 256).map (Value.int .i64)) ∧ w.heap.size ≤ g ∧ g < w'.heap.size ∧ Below w.heap.size w w' := by
  rw [zero_map]
  have B0 := Box3.new w 24 (.slice none 0 0) (.int .u8 0) (.int .u8 0) rfl
  go_enter Try.func10, Try.ntmps10
  go_wp2_with (at_make; refine make_row rfl _ _ rfl 256 (by omega) rfl rfl ?_; intro w2 hlt2 hO2 hB2; have B2 := B0.keep hB2 (by simp); have k0 := B2.cell0; have k1 := B2.cell1; have k2 := B2.cell2; have f0 := B2.frozen 0; have f1 := B2.frozen 1; have f2 := B2.frozen 2)
  have hb2 : Below w.heap.size w w2 := ((Below.refl _ w).alloc (Nat.le_refl _) _).trans (hB2.mono (by simp))
  simp only [World.size_alloc] at hO2 hlt2
  have B3 := B2.all (.slice (some ⟨w.heap.size + 1, 0, none⟩) 256 256) (.int .u8 0) (.int .u8 0)
  have j0 := B3.cell0
  have j1 := B3.cell1
  have j2 := B3.cell2
  refine bodyPost_ret (v := .agg #[.slice (some ⟨w.heap.size + 1, 0, none⟩) 256 256, .int .u8 0, .int .u8 0]) ?_ rfl ?_
  · simp [results, Try.f10, go_sem, j0, j1, j2]
  · refine ⟨_, rfl, ?_, by omega, by simpa [World.setCell] using hlt2, ((hb2.setCell (p := ⟨w.heap.size, 0, none⟩) (Nat.le_refl _) _).setCell (p := ⟨w.heap.size, 1, none⟩) (Nat.le_refl _) _).setCell (p := ⟨w.heap.size, 2, none⟩) (Nat.le_refl _) _⟩
    have hk : ∀ {W : World} (i : Nat) (u : Value), W.ownsRow w.heap.size 3 1 (.slice (some ⟨w.heap.size + 1, 0, none⟩) 256 256) 256 (List.replicate 256 (.int .i64 0)) → (W.setCell ⟨w.heap.size, i, none⟩ u).ownsRow w.heap.size 3 1 (.slice (some ⟨w.heap.size + 1, 0, none⟩) 256 256) 256 (List.replicate 256 (.int .i64 0)) := by
      intro W i u h
      refine ⟨h.1, ?_⟩
      rcases h.2 with hn | ⟨g', cap, cur, e', hg, hgg, rest⟩
      · exact .inl hn
      · obtain ⟨rfl, rfl⟩ : w.heap.size + 1 = g' ∧ 256 = cap := by simpa using e'
        exact .inr ⟨_, _, cur, rfl, hg, (Below.heap_setCell _ _ _ _ (by show w.heap.size + 1 ≠ w.heap.size; omega)).trans hgg, rest⟩
    exact hk 2 _ (hk 1 _ (hk 0 _ (owns_lower hO2 (by omega))))
theorem clone_ok {w : World} {g off n c : Nat} {l : List Int} (h : IsInts w (some ⟨g, off, none⟩) l) (hn : l.length = n) (hp : 0 < n) (hb : n ≤ 4096) :
    Calls Try.prog 23 #[.slice (some ⟨g, off, none⟩) n c] w fun e w' => ∃ g' c', e = .returned (.slice (some ⟨g', 0, none⟩) n c') ∧ w'.ownsRow w.heap.size 3 1 (.slice (some ⟨g', 0, none⟩) n c') n (l.map (Value.int .i64)) ∧ w.heap.size ≤ g' ∧ g' < w'.heap.size ∧ Below w.heap.size w w' := by
  obtain ⟨b, o, e, _, hc⟩ := h.at (j := 0) (by omega)
  obtain ⟨rfl, rfl⟩ : g = b ∧ off = o := by simpa using e
  have := Any.slices_Clone_int Try.laysClone g off n c l w (by omega) (by omega) hc
  rw [List.take_of_length_le (by omega)] at this
  refine Calls.mono this ?_
  rintro e w' ⟨v', rfl, hO, _, hB⟩
  obtain ⟨g', c', rfl, h1, h2⟩ := owns_shape hO hp
  exact ⟨g', c', rfl, hO, h1, h2, hB⟩
end Go.Proofs.Ytcmbbmilldhnnaa
