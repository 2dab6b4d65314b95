/- fix.Round: what each call answers. -/
import Derived.Test.YtppfbfiigfjncaaFixPlain
set_option linter.unusedVariables false
namespace Go.Proofs.Ytppfbfiigfjncaa
open Go.ChangeShapes Go.WideShapes Go.ChangeAt Go.RowKit

theorem round_bad (n b : Int) (h : n < -4611686018427387904 ∨ 4611686018427387904 < n ∨ b < 0 ∨ 62 < b) (w : World) :
    Calls Try.prog 53 #[.int .i64 n, .int .i64 b] w fun e w' => e = .returned (.tuple #[.int .i64 0, .int .i64 2]) ∧ w = w' := by
  go_enter Try.func53, Try.ntmps53
  go_wp2
  all_goals go_ret2
  all_goals exact ⟨rfl, rfl⟩

theorem round_wrap (n : Int) (b : Nat) (hb : 1 ≤ b) (h1 : -4611686018427387904 ≤ n) (h2 : n ≤ 4611686018427387904) : wrap64 (n / 2 ^ b + bits .and .i64 (n / 2 ^ (b - 1)) 1) = rnd n b := by
  rw [i64_and_one, rnd_shift n b hb]
  have := rnd_bound b (B := 4611686018427387904) (by decide) h1 h2
  exact IntWalk.wrap64_in _ ⟨by omega, by omega⟩

def RRound (n : Int) (b : Nat) (w : World) (e : Ending) (w' : World) : Prop := e = .returned (.tuple #[.int .i64 (rnd n b), .int .i64 0]) ∧ ∃ k, w' = w.drewN k
theorem round_ok (n : Int) (b : Nat) (h1 : -4611686018427387904 ≤ n) (h2 : n ≤ 4611686018427387904) (hb : b ≤ 62) (w : World) :
    Calls Try.prog 53 #[.int .i64 n, .int .i64 b] w (RRound n b w) := by
  by_cases h0 : b = 0
  · subst h0
    go_enter Try.func53, Try.ntmps53
    go_wp2
    go_ret2
    exact ⟨rfl, 0, rfl⟩
  · have hb1 : 1 ≤ b := by omega
    have hz : ((b : Int) == 0) = false := by simp; omega
    have hw := Lib.hid (round_wrap n b hb1 h1 h2)
    go_enter Try.func53, Try.ntmps53
    go_wp2
    go_quiet (fail)
    go_wp2
    go_ret2
    exact ⟨ret_ints hw.out rfl, _, rfl⟩
theorem round_lit (n B : Int) (b : Nat) (hB : B = b) (h1 : -4611686018427387904 ≤ n) (h2 : n ≤ 4611686018427387904) (hb : b ≤ 62) (w : World) :
    Calls Try.prog 53 #[.int .i64 n, .int .i64 B] w (RRound n b w) := by
  subst hB; exact round_ok n b h1 h2 hb w


end Go.Proofs.Ytppfbfiigfjncaa
