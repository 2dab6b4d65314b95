/- What is so of all cosines, by computation. -/
import Derived.Test.YtcmbbmilldhnnaaG2
namespace Go.Proofs.Ytcmbbmilldhnnaa

theorem cos_even_all : (List.range 2048).all (fun n => decide (cosL (-n) = cosL n)) = true := by decide +kernel
theorem cos_even (n : Int) : cosL (-n) = cosL n := by
  have := all_parts (fun n => decide (cosL (-n) = cosL n)) cos_even_all n
  have h := of_decide_eq_true this
  rw [cos_mod] at h
  rw [← h]
  exact cosL_congr (by omega)
theorem cos_half_all : (List.range 2048).all (fun n => decide (cosL (n + 1024) = -cosL n)) = true := by decide +kernel
theorem cos_half (n : Int) : cosL (n + 1024) = -cosL n := by
  have h := of_decide_eq_true (all_parts (fun n => decide (cosL (n + 1024) = -cosL n)) cos_half_all n)
  rw [cos_mod] at h
  rw [← h]
  exact cosL_congr (by omega)
theorem cos_period (n k : Int) : cosL (n + 2048 * k) = cosL n := cosL_congr (by omega)
theorem sin_cos (n : Int) : sinL n = cosL (n - 512) := cosL_congr (by omega)
theorem sin_quarter (n : Int) : sinL (n + 512) = cosL n := by rw [sin_cos]; exact cosL_congr (by omega)
theorem sin_odd (n : Int) : sinL (-n) = -sinL n := by
  rw [sin_cos, sin_cos, ← cos_half, ← cos_even]
  exact cosL_congr (by omega)
/-- Squares together are one, but for little; cosines fall. -/
def circleAt (n : Nat) : Bool :=
  decide (cosL n * cosL n + sinL n * sinL n - 4503599627370496 ≤ 268435456) && decide (-268435456 ≤ cosL n * cosL n + sinL n * sinL n - 4503599627370496) && (decide (1024 ≤ n) || decide (cosL (n + 1) < cosL n))
theorem circle_all : (List.range 2048).all circleAt = true := by decide +kernel
theorem circle (n : Nat) (h : n < 2048) : circleAt n = true := List.all_eq_true.1 circle_all n (by simpa using h)
theorem cos_0 : cosL 0 = 67108864 := by decide +kernel
theorem cos_512 : cosL 512 = 0 := by decide +kernel
theorem cos_1024 : cosL 1024 = -67108864 := by decide +kernel
theorem cos_2048 : cosL 2048 = 67108864 := by decide +kernel
theorem sin_0 : sinL 0 = 0 := by decide +kernel
theorem sin_512 : sinL 512 = 67108864 := by decide +kernel
end Go.Proofs.Ytcmbbmilldhnnaa
