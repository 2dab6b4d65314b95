/- noise.Band: what each call answers. -/
import Derived.Test.YtpbjifohgfpeoaaFilled
import Derived.Test.YtpbjifohgfpeoaaSqrt
set_option linter.unusedVariables false
namespace Go.Proofs.Ytpbjifohgfpeoaa
open Go.ChangeShapes Go.WideShapes Go.ChangeAt Go.RowKit

def sumT (s : Int) : Nat → Int
  | 0 => 0
  | k + 1 => sumT s k + drawV (seedAt s k) * drawV (seedAt s k)
theorem draw_sq (s : Int) : 0 ≤ drawV s * drawV s ∧ drawV s * drawV s ≤ 1073741824 := by
  obtain ⟨a, b⟩ := draw_range s
  constructor
  · rcases Int.le_total 0 (drawV s) with h | h
    · exact Int.mul_nonneg h h
    · exact Int.mul_nonneg_of_nonpos_of_nonpos h h
  · rcases Int.le_total 0 (drawV s) with h | h
    · have := Int.mul_le_mul (show drawV s ≤ 32768 by omega) (show drawV s ≤ 32768 by omega) h (by decide); omega
    · have := Int.mul_le_mul (show -drawV s ≤ 32768 by omega) (show -drawV s ≤ 32768 by omega) (by omega) (by decide)
      rw [Int.neg_mul_neg] at this; omega
theorem sumT_range (s : Int) : ∀ k, 0 ≤ sumT s k ∧ sumT s k ≤ 1073741824 * k
  | 0 => ⟨Int.le_refl _, by show (0 : Int) ≤ _; decide⟩
  | k + 1 => by
    obtain ⟨a, b⟩ := sumT_range s k
    obtain ⟨c, d⟩ := draw_sq (seedAt s k)
    rw [sumT]
    omega
def rootV (s : Int) (n : Nat) : Int := sqN (sumT s n * 65536).toNat
def oneV (step : Int) : Int := lineL 1 (min step 255).toNat
def noiseV (s step : Int) (n k : Nat) : Int := if 0 < rootV s n then perV (drawV (seedAt s k) * oneV step * 256) (rootV s n) else 0
def noiseL (s step : Int) (n : Nat) : List Int := (List.range n).map (noiseV s step n)
theorem one_range (step : Int) : 0 ≤ oneV step ∧ oneV step ≤ 268435455 := lineN_range 1 _ (by decide)
theorem root_range (s : Int) (n : Nat) (h : n ≤ 256) : 0 ≤ rootV s n ∧ rootV s n ≤ 4294967296 := by
  obtain ⟨a, b⟩ := sumT_range s n
  obtain ⟨c, d⟩ := sqN_spec (sumT s n * 65536).toNat (by omega)
  refine ⟨by unfold rootV; omega, ?_⟩
  unfold rootV
  rcases Nat.lt_or_ge 4294967296 (sqN (sumT s n * 65536).toNat) with h | h
  · have := Nat.mul_le_mul (Nat.le_of_lt h) (Nat.le_of_lt h); omega
  · omega
theorem arg_range (s step : Int) : -8796093022208 ≤ drawV s * oneV step ∧ drawV s * oneV step ≤ 8796093022208 := by
  obtain ⟨a, b⟩ := draw_range s
  obtain ⟨c, d⟩ := one_range step
  constructor
  · have h1 := Int.mul_le_mul_of_nonneg_right a c
    omega
  · have h1 := Int.mul_le_mul_of_nonneg_right b c
    omega
end Go.Proofs.Ytpbjifohgfpeoaa
