/- Sums of rows of numbers; Cauchy, Minkowski. -/
import Derived.Test.YteijlbblmdclaaaBase
set_option linter.unusedVariables false
set_option linter.unusedSimpArgs false
set_option linter.unusedSectionVars false
namespace Go.Proofs.Yteijlbblmdclaaa
/-- Sums of the first n numbers of a row. -/
def sumF (f : Nat → Int) : Nat → Int
  | 0 => 0
  | n + 1 => sumF f n + f n
theorem sumF_congr {f g : Nat → Int} : ∀ n, (∀ i, i < n → f i = g i) → sumF f n = sumF g n
  | 0, _ => rfl
  | n + 1, h => by rw [sumF, sumF, sumF_congr n (fun i hi => h i (by omega)), h n (by omega)]
theorem sumF_mono {f g : Nat → Int} : ∀ n, (∀ i, i < n → f i ≤ g i) → sumF f n ≤ sumF g n
  | 0, _ => Int.le_refl _
  | n + 1, h => by have := sumF_mono n (fun i hi => h i (by omega)); have := h n (by omega); rw [sumF, sumF]; omega
theorem sumF_nonneg {f : Nat → Int} : ∀ n, (∀ i, i < n → 0 ≤ f i) → 0 ≤ sumF f n
  | 0, _ => Int.le_refl _
  | n + 1, h => by have := sumF_nonneg n (fun i hi => h i (by omega)); have := h n (by omega); rw [sumF]; omega
theorem sumF_add (f g : Nat → Int) : ∀ n, sumF (fun i => f i + g i) n = sumF f n + sumF g n
  | 0 => rfl
  | n + 1 => by rw [sumF, sumF, sumF, sumF_add f g n]; omega
theorem sumF_smul (c : Int) (f : Nat → Int) : ∀ n, sumF (fun i => c * f i) n = c * sumF f n
  | 0 => by simp [sumF]
  | n + 1 => by rw [sumF, sumF, sumF_smul c f n]; grind
theorem sumF_const (c : Int) : ∀ n, sumF (fun _ => c) n = c * n
  | 0 => by simp [sumF]
  | n + 1 => by rw [sumF, sumF_const c n]; grind
theorem sq_lt_sq {b c : Int} (hb : 0 ≤ b) (h : b < c) : b * b < c * c := by
  have h1 := Int.mul_le_mul_of_nonneg_left (Int.le_of_lt h) hb
  have h2 := Int.mul_lt_mul_of_pos_right h (show 0 < c by omega)
  omega
theorem abs_le_of_sq {a b : Int} (hb : 0 ≤ b) (h : a * a ≤ b * b) : -b ≤ a ∧ a ≤ b := by
  constructor
  · rcases Int.lt_or_le a (-b) with h' | h'
    · have := sq_lt_sq (c := -a) hb (by omega)
      rw [Int.neg_mul_neg] at this; omega
    · exact h'
  · rcases Int.lt_or_le b a with h' | h'
    · have := sq_lt_sq hb h'
      omega
    · exact h'
theorem sq_nonneg' (a : Int) : 0 ≤ a * a := by
  rcases Int.le_total 0 a with h | h
  · exact Int.mul_nonneg h h
  · exact Int.mul_nonneg_of_nonpos_of_nonpos h h
/-- A square of two combined rows. -/
theorem cross (f g : Nat → Int) (x y : Int) : ∀ n, 0 ≤ sumF (fun i => f i * f i) n * (y * y) - 2 * (sumF (fun i => f i * g i) n * (x * y)) + sumF (fun i => g i * g i) n * (x * x)
  | 0 => by simp [sumF]
  | n + 1 => by
    have h := cross f g x y n
    have h2 := sq_nonneg' (f n * y - g n * x)
    simp only [sumF]
    grind
theorem cauchy (f g : Nat → Int) : ∀ n, sumF (fun i => f i * g i) n * sumF (fun i => f i * g i) n ≤ sumF (fun i => f i * f i) n * sumF (fun i => g i * g i) n
  | 0 => by simp [sumF]
  | n + 1 => by
    have h := cauchy f g n
    have h2 := cross f g (f n) (g n) n
    simp only [sumF]
    grind
theorem minkowski (f g : Nat → Int) (n : Nat) (P Q : Int) (hP : 0 ≤ P) (hQ : 0 ≤ Q) (h1 : sumF (fun i => f i * f i) n ≤ P * P) (h2 : sumF (fun i => g i * g i) n ≤ Q * Q) :
    sumF (fun i => (f i + g i) * (f i + g i)) n ≤ (P + Q) * (P + Q) := by
  have h3 := cauchy f g n
  have n1 : 0 ≤ sumF (fun i => f i * f i) n := sumF_nonneg _ (fun i _ => sq_nonneg' _)
  have n2 : 0 ≤ sumF (fun i => g i * g i) n := sumF_nonneg _ (fun i _ => sq_nonneg' _)
  have h4 : sumF (fun i => f i * f i) n * sumF (fun i => g i * g i) n ≤ (P * P) * (Q * Q) := Int.mul_le_mul h1 h2 n2 (sq_nonneg' P)
  have h5 := (abs_le_of_sq (a := sumF (fun i => f i * g i) n) (b := P * Q) (Int.mul_nonneg hP hQ) (by grind)).2
  have e : sumF (fun i => (f i + g i) * (f i + g i)) n = sumF (fun i => f i * f i) n + 2 * sumF (fun i => f i * g i) n + sumF (fun i => g i * g i) n := by
    rw [← sumF_smul, ← sumF_add, ← sumF_add]
    exact sumF_congr n (fun i _ => by grind)
  rw [e]; grind

end Go.Proofs.Yteijlbblmdclaaa
