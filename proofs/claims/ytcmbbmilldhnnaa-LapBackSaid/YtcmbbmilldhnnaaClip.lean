/- fix.Clip: what each call answers. -/
import Derived.Test.YtcmbbmilldhnnaaG2
set_option linter.unusedVariables false
namespace Go.Proofs.Ytcmbbmilldhnnaa
open Go.ChangeShapes Go.WideShapes Go.ChangeAt Go.RowKit

/-- Kept in so many bits. -/
def clp (n : Int) (b : Nat) : Int := min (max n (-2 ^ (b - 1))) (2 ^ (b - 1) - 1)
theorem clip_bad (n b : Int) (h : b < 1 ∨ 62 < b) (w : World) :
    Calls Try.prog 22 #[.int .i64 n, .int .i64 b] w fun e w' => e = .returned (.tuple #[.int .i64 0, .int .i64 2]) ∧ w = w' := by
  go_enter Try.func22, Try.ntmps22
  go_wp2
  all_goals go_ret2
  all_goals exact ⟨rfl, rfl⟩
theorem clip_ok (n : Int) (b : Nat) (h1 : 1 ≤ b) (h2 : b ≤ 62) (hn1 : -9223372036854775808 ≤ n) (hn2 : n ≤ 9223372036854775807) (w : World) :
    Calls Try.prog 22 #[.int .i64 n, .int .i64 b] w fun e w' => e = .returned (.tuple #[.int .i64 (clp n b), .int .i64 0]) ∧ w = w' := by
  have p1 := pow_pos' (b - 1)
  have p2 : (2 : Int) ^ (b - 1) ≤ 2 ^ 61 := pow_le_pow' (by omega)
  go_enter Try.func22, Try.ntmps22
  go_wp2
  all_goals go_ret2
  all_goals exact ⟨ret_ints (by unfold clp; omega) rfl, rfl⟩


end Go.Proofs.Ytcmbbmilldhnnaa
