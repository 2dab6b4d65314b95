/- fix, all four, whatever the arguments; alive. -/
import Derived.Test.YtfjckgdmicgkmaaRef03
import Derived.Test.YtfjckgdmicgkmaaRound
import Derived.Test.YtfjckgdmicgkmaaSqrt
import Derived.Test.YtfjckgdmicgkmaaCbrt
set_option linter.unusedVariables false
namespace Go.Proofs.Ytfjckgdmicgkmaa
open Go.ChangeShapes Go.WideShapes Go.ChangeAt Go.RowKit

theorem round_any (n b : Int) (w : World) : Calls Try.prog 10 #[.int .i64 n, .int .i64 b] w (R2 (rndV n b) w) := by
  by_cases h : n < -4611686018427387904 ∨ 4611686018427387904 < n ∨ b < 0 ∨ 62 < b
  · rw [rndV, if_pos h]
    exact (round_bad n b h w).mono fun e w' ⟨he, hw⟩ => ⟨he, hw ▸ Below.refl _ _⟩
  · rw [rndV, if_neg h]
    obtain ⟨B, rfl⟩ : ∃ B : Nat, b = B := ⟨b.toNat, by omega⟩
    exact (round_ok n B (by omega) (by omega) (by omega) w).mono fun e w' ⟨he, n, hw⟩ => ⟨he, hw ▸ below_drewN (Below.refl _ _) _⟩
theorem clip_any (n b : Int) (h1 : -9223372036854775808 ≤ n) (h2 : n ≤ 9223372036854775807) (w : World) : Calls Try.prog 13 #[.int .i64 n, .int .i64 b] w (R2 (clpV n b) w) := by
  by_cases h : b < 1 ∨ 62 < b
  · rw [clpV, if_pos h]
    exact (clip_bad n b h w).mono fun e w' ⟨he, hw⟩ => ⟨he, hw ▸ Below.refl _ _⟩
  · rw [clpV, if_neg h]
    obtain ⟨B, rfl⟩ : ∃ B : Nat, b = B := ⟨b.toNat, by omega⟩
    exact (clip_ok n B (by omega) (by omega) h1 h2 w).mono fun e w' ⟨he, hw⟩ => ⟨he, hw ▸ Below.refl _ _⟩
theorem sqrt_any (n : Int) (w : World) : Calls Try.prog 11 #[.int .i64 n] w (R2 (sqV n) w) := by
  by_cases h : n < 0 ∨ 4611686018427387904 < n
  · rw [sqV, if_pos h]
    exact (sqrt_bad n h w).mono fun e w' ⟨he, hw⟩ => ⟨he, hw⟩
  · rw [sqV, if_neg h]
    obtain ⟨B, rfl⟩ : ∃ B : Nat, n = B := ⟨n.toNat, by omega⟩
    exact (sqrt_ok B (by omega) w).mono fun e w' ⟨he, hw⟩ => ⟨he, hw⟩
theorem cbrt_any (n : Int) (w : World) : Calls Try.prog 12 #[.int .i64 n] w (R2 (cbV n) w) := by
  by_cases h : n < 0 ∨ 4611686018427387904 < n
  · rw [cbV, if_pos h]
    exact (cbrt_bad n h w).mono fun e w' ⟨he, hw⟩ => ⟨he, hw⟩
  · rw [cbV, if_neg h]
    obtain ⟨B, rfl⟩ : ∃ B : Nat, n = B := ⟨n.toNat, by omega⟩
    exact (cbrt_ok B (by omega) w).mono fun e w' ⟨he, hw⟩ => ⟨he, hw⟩

theorem alive03 (w : World) : Calls Try.prog 9 #[] w fun e w' => e = .returned (.bool true) ∧ Below w.heap.size w w' := by
  have v1 : rndV 5 1 = (3, 0) := by decide +kernel
  have v2 : sqV 99 = (9, 0) := by decide +kernel
  go_enter Try.func9, Try.ntmps9
  go_wp2_with fail
  refine (round_any 5 1 _).mono ?_
  rw [v1]
  rintro e w1 ⟨rfl, hb1⟩
  go_wp2_with fail
  refine (sqrt_any 99 _).mono ?_
  rw [v2]
  rintro e w2 ⟨rfl, hb2⟩
  clear v1 v2
  go_wp2
  go_ret
  exact ⟨rfl, hb1.trans (hb2.mono hb1.size)⟩
end Go.Proofs.Ytfjckgdmicgkmaa
