/- block.Window at arguments that may not be. -/
import Derived.Test.YtclbbfpagkhonaaWindow
set_option linter.unusedVariables false
namespace Go.Proofs.Ytclbbfpagkhonaa
open Go.ChangeShapes Go.WideShapes Go.ChangeAt Go.RowKit
set_option maxHeartbeats 1000000 in
theorem win_bad1 (seq was shape : Int) (h : (decide (was ≤ 1) && decide (shape ≤ 1)) = false) (w : World) : Calls Try.prog 9 #[.int .u8 seq, .int .u8 was, .int .u8 shape] w (fun e w' => e = .returned (.tuple #[.slice none 0 0, .int .i64 2]) ∧ w = w') := by
  have HSH := Lib.hid (fun W => shaped_ok was shape W)
  rw [h] at HSH
  clear h
  go_enter Try.func9, Try.ntmps9
  go_wp2_with fail
  refine (HSH.out _).mono ?_
  rintro e w1 ⟨rfl, hw⟩
  rw [← hw]
  clear hw w1
  go_wp2
  go_ret2
  exact ⟨rfl, rfl⟩
set_option maxHeartbeats 1000000 in
theorem win_bad2 (seq was shape : Int) (h : (decide (was ≤ 1) && decide (shape ≤ 1)) = true) (hs : 3 < seq) (w : World) : Calls Try.prog 9 #[.int .u8 seq, .int .u8 was, .int .u8 shape] w (fun e w' => e = .returned (.tuple #[.slice none 0 0, .int .i64 2]) ∧ w = w') := by
  have HSH := Lib.hid (fun W => shaped_ok was shape W)
  rw [h] at HSH
  have d1 : decide (3 < seq) = true := decide_eq_true hs
  clear h hs
  go_enter Try.func9, Try.ntmps9
  go_wp2_with fail
  refine (HSH.out _).mono ?_
  rintro e w1 ⟨rfl, hw⟩
  rw [← hw]
  clear hw w1
  go_wp2
  go_ret2
  exact ⟨rfl, rfl⟩
set_option maxHeartbeats 1000000 in
theorem win_bad3 (was shape : Int) (h : (decide (was ≤ 1) && decide (shape ≤ 1)) = true) (w : World) : Calls Try.prog 9 #[.int .u8 2, .int .u8 was, .int .u8 shape] w (fun e w' => e = .returned (.tuple #[.slice none 0 0, .int .i64 2]) ∧ w = w') := by
  have HSH := Lib.hid (fun W => shaped_ok was shape W)
  rw [h] at HSH
  clear h
  go_enter Try.func9, Try.ntmps9
  go_wp2_with fail
  refine (HSH.out _).mono ?_
  rintro e w1 ⟨rfl, hw⟩
  rw [← hw]
  clear hw w1
  go_wp2
  go_ret2
  exact ⟨rfl, rfl⟩
end Go.Proofs.Ytclbbfpagkhonaa
