/- trig.Sin: what each call answers. -/
import Derived.Test.YteijlbblmdclaaaTrig2
set_option linter.unusedVariables false
namespace Go.Proofs.Yteijlbblmdclaaa
open Go.ChangeShapes Go.WideShapes Go.ChangeAt Go.RowKit

theorem sin_ok (n : Int) (w : World) : Calls Try.prog 62 #[.int .i64 n] w (RInt (sinL n) w) := by
  have hm := mask2047 n
  have r0 := Int.emod_nonneg n (b := 2048) (by decide)
  have r1 := Int.emod_lt_of_pos n (b := 2048) (by decide)
  unfold sinL
  generalize n % 2048 = r at *
  go_enter Try.func62, Try.ntmps62
  go_wp2_with (go_at_call 70; refine (cos_ok _ _).mono ?_; rintro e w1 ⟨rfl, hb⟩)
  go_ret
  exact ⟨rfl, hb⟩
end Go.Proofs.Yteijlbblmdclaaa
