/- A row that is made in a region that draws its order. -/
import Derived.Test.YtcmbbmilldhnnaaG1
set_option linter.unusedVariables false
namespace Go.Proofs.Ytcmbbmilldhnnaa
open Go.ChangeShapes Go.WideShapes Go.ChangeAt Go.RowKit
theorem make_run (n : Nat) (l : Int) (hl : l = (n : Int)) (hn : n ≤ 4096) : ∃ zz : Array Value, zz.toList = List.replicate n (.int .i64 0) ∧ ∀ W : World, (Instr.makeSlice 22 (.int .i64 l) (.int .i64 l)).run Try.prog W = .ok (.slice (some ⟨W.heap.size, 0, none⟩) n n) (W.alloc (.cells zz 3)) := by
  obtain ⟨i0, hi, hz0, hz1, hz2⟩ := info_parts Try.infoInt
  refine ⟨madeCells (Value.int .i64 0).cells n, toList_madeCells_one (.int .i64 0) n, fun W => ?_⟩
  have h := run_make (P := Try.prog) (w := W) 22 3 i0 (.int .i64 0) Try.underlying22 hi hz0 .i64 .i64 l l (by omega) (Int.le_refl _) (by rw [hz2]; omega) (by omega)
  rw [hz1, Nat.mul_one] at h
  rw [h]
  subst hl
  rfl
theorem new_row {W : World} {zz : Array Value} {n : Nat} {l : List Int} (hz : zz.toList = l.map (Value.int .i64)) (hl : l.length = n) : IsInts (W.alloc (.cells zz 3)) (some ⟨W.heap.size, 0, none⟩) l := by
  refine .inr ⟨_, 0, rfl, by simp, fun j hj => ?_⟩
  rw [World.cell?_alloc_at _ _ _ _ rfl]
  have : zz[0 + j]? = zz.toList[0 + j]? := by simp
  show zz[0 + j]? = _
  rw [this, hz, Nat.zero_add, row_get l j (Nat.zero_le _) hj]
end Go.Proofs.Ytcmbbmilldhnnaa
