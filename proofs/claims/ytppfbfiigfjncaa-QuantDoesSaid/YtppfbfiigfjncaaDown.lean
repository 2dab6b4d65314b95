/- reedpiperef03.Down: what each call answers. -/
import Derived.Test.YtppfbfiigfjncaaFixPlain
set_option linter.unusedVariables false
namespace Go.Proofs.Ytppfbfiigfjncaa
open Go.ChangeShapes Go.WideShapes Go.ChangeAt Go.RowKit

theorem down_parts (n : Int) (b : Nat) (hb : 1 ≤ b) (hb2 : b ≤ 62) (h1 : -4611686018427387904 ≤ n) (h2 : n ≤ 4611686018427387904) :
    0 < (2 : Int) ^ (b - 1) ∧ (2 : Int) ^ (b - 1) ≤ 2305843009213693952 ∧ n / 2 ^ b * 2 ^ b ≤ n ∧ n - 4611686018427387904 ≤ n / 2 ^ b * 2 ^ b ∧ -4611686018427387904 ≤ n / 2 ^ b ∧ n / 2 ^ b ≤ 4611686018427387904 := by
  have p1 := pow_pos' (b - 1)
  have p2 : (2 : Int) ^ (b - 1) ≤ 2 ^ 61 := pow_le_pow' (by omega)
  have p3 : (2 : Int) ^ b ≤ 2 ^ 62 := pow_le_pow' (by omega)
  have h3 := Int.emod_nonneg n (b := 2 ^ b) (Int.ne_of_gt (pow_pos' b))
  have h4 := Int.emod_lt_of_pos n (pow_pos' b)
  have h5 := Int.mul_ediv_add_emod n (2 ^ b)
  rw [Int.mul_comm] at h5
  have h6 : -4611686018427387904 ≤ n / 2 ^ b := by
    rw [Int.le_ediv_iff_mul_le (pow_pos' b)]
    have : (-4611686018427387904 : Int) * 2 ^ b ≤ (-4611686018427387904) * 1 := Int.mul_le_mul_of_nonpos_left (by decide) (by have := pow_pos' b; omega)
    omega
  have h7 : n / 2 ^ b ≤ 4611686018427387904 := by
    have : n / 2 ^ b < 4611686018427387905 := by
      rw [Int.ediv_lt_iff_lt_mul (pow_pos' b)]
      have : (4611686018427387905 : Int) * 1 ≤ 4611686018427387905 * 2 ^ b := Int.mul_le_mul_of_nonneg_left (by have := pow_pos' b; omega) (by decide)
      omega
    omega
  generalize n / 2 ^ b * 2 ^ b = q at *
  omega

theorem down_up (n : Int) (b : Nat) (hb : 1 ≤ b) (h : 2 ^ (b - 1) ≤ n - n / 2 ^ b * 2 ^ b) : n / 2 ^ b + 1 = rnd n b := by
  symm
  have h4 := Int.emod_lt_of_pos n (pow_pos' b)
  have h5 := Int.mul_ediv_add_emod n (2 ^ b)
  have h6 := pow_pred b hb
  rw [Int.mul_comm] at h5
  refine rnd_eq n _ b hb ?_ ?_
  all_goals
    rw [Int.add_mul, Int.one_mul]
    generalize n / 2 ^ b * 2 ^ b = q at *
    omega
theorem down_stay (n : Int) (b : Nat) (hb : 1 ≤ b) (h : ¬ 2 ^ (b - 1) ≤ n - n / 2 ^ b * 2 ^ b) : n / 2 ^ b = rnd n b := by
  symm
  have h3 := Int.emod_nonneg n (b := 2 ^ b) (Int.ne_of_gt (pow_pos' b))
  have h5 := Int.mul_ediv_add_emod n (2 ^ b)
  have h6 := pow_pos' (b - 1)
  rw [Int.mul_comm] at h5
  refine rnd_eq n _ b hb ?_ ?_
  all_goals
    generalize n / 2 ^ b * 2 ^ b = q at *
    omega

theorem down_ok (n : Int) (b : Nat) (h1 : -4611686018427387904 ≤ n) (h2 : n ≤ 4611686018427387904) (hb : b ≤ 62) (w : World) :
    Calls Try.prog 48 #[.int .i64 n, .int .i64 b] w fun e w' => e = .returned (.int .i64 (rnd n b)) ∧ w = w' := by
  by_cases h0 : b = 0
  · subst h0
    go_enter Try.func48, Try.ntmps48
    go_wp2
    go_ret
    exact ⟨rfl, rfl⟩
  · have hz : ((b : Int) == 0) = false := by simp; omega
    obtain ⟨d1, d2, d3, d4, d5, d6⟩ := down_parts n b (by omega) hb h1 h2
    by_cases hge : 2 ^ (b - 1) ≤ n - n / 2 ^ b * 2 ^ b
    · have hf := Lib.hid (down_up n b (by omega) hge)
      have hd : decide (2 ^ (b - 1) ≤ n - n / 2 ^ b * 2 ^ b) = true := decide_eq_true hge
      clear hge
      go_enter Try.func48, Try.ntmps48
      go_wp2
      go_ret
      exact ⟨ret_int hf.out, rfl⟩
    · have hf := Lib.hid (down_stay n b (by omega) hge)
      have hd : decide (2 ^ (b - 1) ≤ n - n / 2 ^ b * 2 ^ b) = false := decide_eq_false hge
      clear hge
      go_enter Try.func48, Try.ntmps48
      go_wp2
      go_ret
      exact ⟨ret_int hf.out, rfl⟩
theorem down_lit (n B : Int) (b : Nat) (hB : B = b) (h1 : -4611686018427387904 ≤ n) (h2 : n ≤ 4611686018427387904) (hb : b ≤ 62) (w : World) :
    Calls Try.prog 48 #[.int .i64 n, .int .i64 B] w fun e w' => e = .returned (.int .i64 (rnd n b)) ∧ w = w' := by
  subst hB; exact down_ok n b h1 h2 hb w
end Go.Proofs.Ytppfbfiigfjncaa
