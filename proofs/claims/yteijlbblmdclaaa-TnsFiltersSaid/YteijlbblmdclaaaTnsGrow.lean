/- slices.Grow, slices.Concat of filters: what a call does. -/
import Derived.Test.YteijlbblmdclaaaTnsBank
import Derived.Lib.Walk
import Derived.Lib.SliceRun
import Derived.Lib.AppendZerosOnto
set_option linter.unusedVariables false
set_option linter.unusedSimpArgs false
namespace Go.Proofs.Yteijlbblmdclaaa
open Go.ChangeShapes Go.WideShapes Go.ChangeAt Go.RowKit

theorem bx0' (w : World) : Below w.heap.size w w.drew := below_drewN (Below.refl _ w) 1
abbrev zeroF : Value := .agg #[.int .i64 0, .int .i64 0, .bool false, .bool false, .slice none 0 0]
theorem Try.infoFilt : (Try.prog.info? 24).map (fun i => (i.zero, i.size, i.bytes)) = some (some zeroF, 5, 48) := by kernel_rfl
set_option maxRecDepth 100000 in
set_option maxHeartbeats 4000000 in
theorem tns_grow (n : Nat) (hn : n ≤ 24) (w : World) :
    Calls Try.prog 68 #[.slice none 0 0, .int .i64 n] w fun e w' => ∃ v, e = .returned v ∧ w'.ownsRow w.heap.size 24 5 v 0 [] ∧ Below w.heap.size w w' := by
  obtain ⟨i0, hi, hz0, hz1, hz2⟩ := info_parts Try.infoFilt
  rcases Nat.eq_zero_or_pos n with rfl | hpos
  · go_enter Try.func68, Try.ntmps68
    go_wp2
    go_ret
    exact ⟨_, rfl, World.ownsRow_nil _ _ _ _, Below.refl _ _⟩
  · have hrz : ∀ ty, (Builtin.append_ #[39, 3] ty #[.slice none 0 0, .int .i64 (n : Int)]).run Try.prog w =
      .ok (.slice (some ⟨w.heap.size, 0, none⟩) n (grownCap w n 0 24)) (w.drew.alloc (.cells ((#[] : Array Value) ++ Builtin.zeroCells zeroF.cells n ++ Builtin.zeroCells zeroF.cells (grownCap w n 0 24 - n)) 24)) := fun ty => by
      have h := Lib.run_append_grow_zeros w 39 3 ty 24 i0 zeroF .i64 .i64 Try.underlying39 Try.underlying3 hi hz0 none 0 0 [] (run_firstCells_none w.drew i0.size 0 0 0) n (by omega) (by omega) (by omega) (by omega) (by rw [hz2]; omega) (growslice_fits (by omega) (by rw [hz2]; omega))
      simpa using h
    have hG := grownCap_ge w n 0 24
    have hG2 := grownCap_le_maxLen w n 0 24 (by unfold maxLen; omega)
    have q1 : (0 : Int) < n := by omega
    obtain ⟨G, hGe⟩ : ∃ G, grownCap w n 0 24 = G := ⟨_, rfl⟩
    rw [hGe] at hrz hG hG2
    unfold maxLen at hG2
    clear hGe
    go_enter Try.func68, Try.ntmps68
    go_wp2_with (at_builtin; refine Lib.wpList_append_run _ rfl _ _ _ _ rfl _ _ rfl rfl _ _ (hrz _) ?_)
    all_goals go_ret
    exact ⟨_, rfl, World.ownsRow_made w.drew _ G (Nat.le_refl _) (by unfold maxLen; omega) (by simp [Builtin.zeroCells, size_zeroCells]; omega), (bx0' w).alloc (Nat.le_refl _) _⟩
end Go.Proofs.Yteijlbblmdclaaa
