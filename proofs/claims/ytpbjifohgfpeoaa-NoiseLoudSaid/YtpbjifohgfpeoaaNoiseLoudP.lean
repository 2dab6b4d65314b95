/- NoiseLoud. -/
import Derived.Test.YtpbjifohgfpeoaaNoiseDbl
set_option linter.unusedVariables false
namespace Go.Proofs.Ytpbjifohgfpeoaa
open Go.ChangeShapes Go.WideShapes Go.ChangeAt Go.RowKit

def sumQ (f : Nat → Int) (n : Nat) : Int := sumF (fun i => f i * f i / 256) n
theorem sumQ_succ (f : Nat → Int) (n : Nat) : sumQ f (n + 1) = sumQ f n + f n * f n / 256 := rfl
def anyN (f : Nat → Int) : Nat → Bool
  | 0 => false
  | n + 1 => anyN f n || !(f n == 0)
theorem sumT_F (s : Int) : ∀ n, sumT s n = sumF (fun i => drawV (seedAt s i) * drawV (seedAt s i)) n
  | 0 => rfl
  | n + 1 => by rw [sumT, sumF, sumT_F s n]
theorem any_zero {f : Nat → Int} : ∀ n, (∀ i, i < n → f i = 0) → anyN f n = false
  | 0, _ => rfl
  | n + 1, h => by rw [anyN, any_zero n (fun i hi => h i (by omega)), h n (by omega)]; rfl
theorem sumQ_zero {f : Nat → Int} (n : Nat) (h : ∀ i, i < n → f i = 0) : sumQ f n = 0 := by
  unfold sumQ
  rw [sumF_congr (g := fun _ => (0 : Int)) n (fun i hi => by rw [h i hi]; rfl), sumF_const]
  omega
theorem mul_sq (x : Int) (h0 : -268435455 ≤ x) (h1 : x ≤ 268435455) : x * x ≤ 72057594037927936 := by
  rcases Int.le_total 0 x with h | h
  · have := Int.mul_le_mul h1 h1 h (by omega); omega
  · have := Int.mul_le_mul (show -x ≤ 268435455 by omega) (show -x ≤ 268435455 by omega) (by omega) (by omega)
    rw [Int.neg_mul_neg] at this; omega
theorem sumQ_range {f : Nat → Int} {A : Int} (hA : A ≤ 268435455) (n : Nat) (h : ∀ i, i < n → -A ≤ f i ∧ f i ≤ A) : ∀ k, k ≤ n → 0 ≤ sumQ f k ∧ sumQ f k ≤ 281474976710656 * k
  | 0, _ => ⟨Int.le_refl _, by show (0 : Int) ≤ _; decide⟩
  | k + 1, hk => by
    obtain ⟨a, b⟩ := sumQ_range hA n h k (by omega)
    obtain ⟨c, d⟩ := h k (by omega)
    have e := sq_nonneg' (f k)
    have e2 := mul_sq (f k) (by omega) (by omega)
    rw [sumQ_succ]
    omega
theorem loud_final (s step : Int) (n r : Nat) (hn : n ≤ 256) (hr : n ≤ r * r) :
    sumQ (noiseV s step n) n ≤ (oneV step / 16 + oneV step / 1600 + r + 2) * (oneV step / 16 + oneV step / 1600 + r + 2) ∧
    (anyN (noiseV s step n) n = true → oneV step / 16 - oneV step / 1600 - r - 2 < 0 ∨ (oneV step / 16 - oneV step / 1600 - r - 2) * (oneV step / 16 - oneV step / 1600 - r - 2) ≤ sumQ (noiseV s step n) n + n) := by
  have o := one_range step
  by_cases hd : 0 < rootV s n
  · obtain ⟨t0, t1⟩ := sumT_range s n
    obtain ⟨q1, q2⟩ := sqN_spec (sumT s n * 65536).toNat (by omega)
    have e : ((sumT s n * 65536).toNat : Int) = sumT s n * 65536 := Int.toNat_of_nonneg (by omega)
    have k1 : 65536 * sumT s n ≤ (rootV s n + 1) * (rootV s n + 1) := by
      have h := Int.ofNat_lt.2 q2
      rw [Int.natCast_mul, Int.natCast_add, e] at h
      unfold rootV
      rw [Int.mul_comm 65536]
      exact Int.le_of_lt h
    have k2 : rootV s n * rootV s n ≤ 65536 * sumT s n := by
      have h := Int.ofNat_le.2 q1
      rw [Int.natCast_mul, e] at h
      unfold rootV
      rw [Int.mul_comm 65536]
      exact h
    have k3 : 256 ≤ rootV s n := by
      rcases Int.lt_or_le (sumT s n) 1 with h | h
      · exfalso
        have : sumT s n = 0 := by omega
        have : rootV s n * rootV s n ≤ 0 := by omega
        have := Int.mul_le_mul (show 1 ≤ rootV s n by omega) (show 1 ≤ rootV s n by omega) (by omega) (by omega)
        omega
      · rcases Int.lt_or_le (rootV s n) 256 with h2 | h2
        · exfalso
          have := Int.mul_le_mul (show rootV s n + 1 ≤ 256 by omega) (show rootV s n + 1 ≤ 256 by omega) (by omega) (by omega)
          have hs : sumT s n = 1 := by omega
          rw [hs] at k1 k2
          have hr1 : rootV s n = 255 := by
            rcases Int.lt_or_le (rootV s n) 255 with h3 | h3
            · exfalso
              have := Int.mul_le_mul (show rootV s n + 1 ≤ 255 by omega) (show rootV s n + 1 ≤ 255 by omega) (by omega) (by omega)
              omega
            · omega
          have hx : sqN 65536 = 256 := sqN_unique (by decide) (by decide) (by decide)
          have : rootV s n = 256 := by
            unfold rootV; rw [hs]; exact congrArg Int.ofNat hx
          omega
        · exact h2
    have key := loud_core (fun i => drawV (seedAt s i)) (noiseV s step n) n (oneV step) (rootV s n) r (sumT s n) o.1 k3 (by omega) (by rw [← Int.natCast_mul]; omega) (sumT_F s n) k1 k2 (fun i hi => by
      unfold noiseV
      rw [if_pos hd]
      obtain ⟨a, b⟩ := per_spec (drawV (seedAt s i) * oneV step * 256) (rootV s n) hd
      omega)
    exact ⟨key.1, fun _ => key.2⟩
  · have hz : ∀ i, i < n → noiseV s step n i = 0 := fun i _ => by unfold noiseV; rw [if_neg hd]
    rw [sumQ_zero n hz, any_zero n hz]
    exact ⟨sq_nonneg' _, fun h => by simp at h⟩
end Go.Proofs.Ytpbjifohgfpeoaa
