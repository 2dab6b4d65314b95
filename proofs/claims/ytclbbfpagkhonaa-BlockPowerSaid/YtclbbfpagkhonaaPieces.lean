/- block.pieces: what each call answers. -/
import Derived.Test.YtclbbfpagkhonaaRepeat
import Derived.Test.YtclbbfpagkhonaaArgs
set_option linter.unusedVariables false
namespace Go.Proofs.Ytclbbfpagkhonaa
open Go.ChangeShapes Go.WideShapes Go.ChangeAt Go.RowKit

def piecesL (seq : Int) : List Int := if seq = 0 then [0, 4] else if seq = 1 then [0, 2, 3, 5] else [5, 1, 2, 4]
def RPieces (l : List Int) (w : World) (e : Ending) (w' : World) : Prop :=
  ∃ g : Nat, e = .returned (.slice (some ⟨g, 0, none⟩) l.length l.length) ∧ w.heap.size ≤ g ∧ g < w'.heap.size ∧ (∀ j, j < l.length → w'.cell? ⟨g, j, none⟩ = some (.int .i64 (l.getD j 0))) ∧ Below w.heap.size w w'
set_option maxRecDepth 100000 in
set_option maxHeartbeats 1000000 in
theorem pieces0_ok (w : World) : Calls Try.prog 18 #[.int .u8 0] w (RPieces (piecesL 0) w) := by
  have e : piecesL 0 = [0, 4] := rfl
  rw [e]
  unfold RPieces
  have hx : ∀ (a b c d : Value) (W : World), (Instr.index 50 (.agg #[a, b, c, d]) (.int .u8 0)).run Try.prog W = .ok a W := fun _ _ _ _ _ => by kernel_rfl
  go_enter Try.func18, Try.ntmps18
  go_wp2
  go_ret
  have hb : Below w.heap.size w (((w.alloc (.cells #[.int .i64 0, .int .i64 4] 3)).alloc (.cells #[.int .i64 0, .int .i64 2, .int .i64 3, .int .i64 5] 3)).alloc (.cells #[.int .i64 5, .int .i64 1, .int .i64 2, .int .i64 4] 3)) := (((Below.refl _ w).alloc (Nat.le_refl _) _).alloc (by simp; try omega) _).alloc (by simp; try omega) _
  have hs0 : (w).heap.size = w.heap.size := by simp
  have hO := full_owns (base := 0) (n := 2) (e := 3) (g := (w).heap.size) (xs := ([0, 4] : List Int).map (Value.int .i64)) (heap_alloc_new (w) (.cells #[.int .i64 0, .int .i64 4] 3)) rfl (Nat.zero_le _) (by decide)
  rw [hs0] at hO
  have hO2 := (hO.alloc (.cells #[.int .i64 0, .int .i64 2, .int .i64 3, .int .i64 5] 3)).alloc (.cells #[.int .i64 5, .int .i64 1, .int .i64 2, .int .i64 4] 3)
  refine ⟨_, rfl, by omega, by simp; try omega, ?_, hb⟩
  intro j hj
  have hc := hO2.cellAt j hj
  exact hc.trans (row_get [0, 4] j (Nat.zero_le _) hj)
set_option maxRecDepth 100000 in
set_option maxHeartbeats 1000000 in
theorem pieces1_ok (w : World) : Calls Try.prog 18 #[.int .u8 1] w (RPieces (piecesL 1) w) := by
  have e : piecesL 1 = [0, 2, 3, 5] := rfl
  rw [e]
  unfold RPieces
  have hx : ∀ (a b c d : Value) (W : World), (Instr.index 50 (.agg #[a, b, c, d]) (.int .u8 1)).run Try.prog W = .ok b W := fun _ _ _ _ _ => by kernel_rfl
  go_enter Try.func18, Try.ntmps18
  go_wp2
  go_ret
  have hb : Below w.heap.size w (((w.alloc (.cells #[.int .i64 0, .int .i64 4] 3)).alloc (.cells #[.int .i64 0, .int .i64 2, .int .i64 3, .int .i64 5] 3)).alloc (.cells #[.int .i64 5, .int .i64 1, .int .i64 2, .int .i64 4] 3)) := (((Below.refl _ w).alloc (Nat.le_refl _) _).alloc (by simp; try omega) _).alloc (by simp; try omega) _
  have hs0 : (w.alloc (.cells #[.int .i64 0, .int .i64 4] 3)).heap.size = w.heap.size + 1 := by simp
  have hO := full_owns (base := 0) (n := 4) (e := 3) (g := (w.alloc (.cells #[.int .i64 0, .int .i64 4] 3)).heap.size) (xs := ([0, 2, 3, 5] : List Int).map (Value.int .i64)) (heap_alloc_new (w.alloc (.cells #[.int .i64 0, .int .i64 4] 3)) (.cells #[.int .i64 0, .int .i64 2, .int .i64 3, .int .i64 5] 3)) rfl (Nat.zero_le _) (by decide)
  rw [hs0] at hO
  have hO2 := hO.alloc (.cells #[.int .i64 5, .int .i64 1, .int .i64 2, .int .i64 4] 3)
  refine ⟨_, rfl, by omega, by simp; try omega, ?_, hb⟩
  intro j hj
  have hc := hO2.cellAt j hj
  exact hc.trans (row_get [0, 2, 3, 5] j (Nat.zero_le _) hj)
set_option maxRecDepth 100000 in
set_option maxHeartbeats 1000000 in
theorem pieces3_ok (w : World) : Calls Try.prog 18 #[.int .u8 3] w (RPieces (piecesL 3) w) := by
  have e : piecesL 3 = [5, 1, 2, 4] := rfl
  rw [e]
  unfold RPieces
  have hx : ∀ (a b c d : Value) (W : World), (Instr.index 50 (.agg #[a, b, c, d]) (.int .u8 3)).run Try.prog W = .ok d W := fun _ _ _ _ _ => by kernel_rfl
  go_enter Try.func18, Try.ntmps18
  go_wp2
  go_ret
  have hb : Below w.heap.size w (((w.alloc (.cells #[.int .i64 0, .int .i64 4] 3)).alloc (.cells #[.int .i64 0, .int .i64 2, .int .i64 3, .int .i64 5] 3)).alloc (.cells #[.int .i64 5, .int .i64 1, .int .i64 2, .int .i64 4] 3)) := (((Below.refl _ w).alloc (Nat.le_refl _) _).alloc (by simp; try omega) _).alloc (by simp; try omega) _
  have hs0 : ((w.alloc (.cells #[.int .i64 0, .int .i64 4] 3)).alloc (.cells #[.int .i64 0, .int .i64 2, .int .i64 3, .int .i64 5] 3)).heap.size = w.heap.size + 1 + 1 := by simp
  have hO := full_owns (base := 0) (n := 4) (e := 3) (g := ((w.alloc (.cells #[.int .i64 0, .int .i64 4] 3)).alloc (.cells #[.int .i64 0, .int .i64 2, .int .i64 3, .int .i64 5] 3)).heap.size) (xs := ([5, 1, 2, 4] : List Int).map (Value.int .i64)) (heap_alloc_new ((w.alloc (.cells #[.int .i64 0, .int .i64 4] 3)).alloc (.cells #[.int .i64 0, .int .i64 2, .int .i64 3, .int .i64 5] 3)) (.cells #[.int .i64 5, .int .i64 1, .int .i64 2, .int .i64 4] 3)) rfl (Nat.zero_le _) (by decide)
  rw [hs0] at hO
  have hO2 := hO
  refine ⟨_, rfl, by omega, by simp; try omega, ?_, hb⟩
  intro j hj
  have hc := hO2.cellAt j hj
  exact hc.trans (row_get [5, 1, 2, 4] j (Nat.zero_le _) hj)
end Go.Proofs.Ytclbbfpagkhonaa
