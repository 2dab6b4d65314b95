/- window.kbd's numbers. -/
import Derived.Test.YtclbbfpagkhonaaWinPlain
namespace Go.Proofs.Ytclbbfpagkhonaa

/-- The sum of the first so many terms. -/
def psum (m b : Nat) : Nat → Int
  | 0 => 0
  | j + 1 => psum m b j + bessL (uL m b j)
theorem uL_long {j : Nat} (h : j ≤ 256) : uL 256 4 j = 678231308304 * (j : Int) * (256 - (j : Int)) / 4294967296 := by
  have e : ((256 - j : Nat) : Int) = 256 - (j : Int) := by omega
  unfold uL
  rw [Int.natCast_mul, e, Int.natCast_mul]
  rfl
theorem uL_short {j : Nat} (h : j ≤ 32) : uL 32 6 j = 1526020443684 * (j : Int) * (32 - (j : Int)) / 67108864 := by
  have e : ((32 - j : Nat) : Int) = 32 - (j : Int) := by omega
  unfold uL
  rw [Int.natCast_mul, e, Int.natCast_mul]
  rfl
theorem fit_long {j : Nat} (h : j ≤ 256) : 0 ≤ uL 256 4 j ∧ besOk (uL 256 4 j) 63 1 16384 16384 = true := by
  have := List.all_eq_true.1 bes_ok_long j (List.mem_range.2 (by omega))
  simp only [Bool.and_eq_true, decide_eq_true_eq] at this
  exact this
theorem fit_short {j : Nat} (h : j ≤ 32) : 0 ≤ uL 32 6 j ∧ besOk (uL 32 6 j) 63 1 16384 16384 = true := by
  have := List.all_eq_true.1 bes_ok_short j (List.mem_range.2 (by omega))
  simp only [Bool.and_eq_true, decide_eq_true_eq] at this
  exact this
theorem besOk_end {u : Int} : ∀ {n k : Nat} {t s : Int}, besOk u n k t s = true → 0 ≤ besL u n k t s ∧ besL u n k t s ≤ 1000000000000000
  | 0, _, _, _, h => by obtain ⟨_, b, c⟩ := besOk_bounds h; exact ⟨b, c⟩
  | n + 1, k, t, s, h => by
    rw [besL]
    simp only [besOk, Bool.and_eq_true, decide_eq_true_eq] at h
    exact besOk_end h.2
theorem bessL_fit {u : Int} (h : besOk u 63 1 16384 16384 = true) : 0 ≤ bessL u ∧ bessL u ≤ 1000000000000000 := besOk_end h
/-- Sums rise, and none is too great. -/
theorem psum_fit {m b : Nat} (h : ∀ j, j ≤ m → besOk (uL m b j) 63 1 16384 16384 = true) : ∀ j, j ≤ m + 1 → 0 ≤ psum m b j ∧ psum m b j ≤ 1000000000000000 * j
  | 0, _ => ⟨Int.le_refl _, by show (0 : Int) ≤ _; decide⟩
  | j + 1, hj => by
    obtain ⟨a0, a1⟩ := psum_fit h j (by omega)
    obtain ⟨b0, b1⟩ := bessL_fit (h j (by omega))
    rw [psum]
    omega
theorem psum_le {m b : Nat} (h : ∀ j, j ≤ m → besOk (uL m b j) 63 1 16384 16384 = true) (i : Nat) : ∀ d, i + d ≤ m + 1 → psum m b i ≤ psum m b (i + d)
  | 0, _ => Int.le_refl _
  | d + 1, hj => by
    have a := psum_le h i d (by omega)
    obtain ⟨b0, b1⟩ := bessL_fit (h (i + d) (by omega))
    rw [← Nat.add_assoc, psum]
    omega
theorem overL_fit (b : Int) : ∀ (i : Nat) (n q : Int), 0 ≤ q → 0 ≤ overL b i n q ∧ overL b i n q + 1 ≤ (q + 1) * 2 ^ i
  | 0, _, q, h => by rw [overL]; omega
  | i + 1, n, q, h => by
    have hp : (2 : Int) ^ (i + 1) = 2 * 2 ^ i := by rw [Int.pow_succ]; omega
    have h0 : 0 ≤ (2 : Int) ^ i := Int.pow_nonneg (by decide)
    rw [overL, hp, ← Int.mul_assoc]
    split
    · obtain ⟨a, c⟩ := overL_fit b i (2 * n) (2 * q) (by omega)
      exact ⟨a, Int.le_trans c (Int.mul_le_mul_of_nonneg_right (by omega) h0)⟩
    · obtain ⟨a, c⟩ := overL_fit b i (2 * n - b) (2 * q + 1) (by omega)
      exact ⟨a, Int.le_trans c (Int.mul_le_mul_of_nonneg_right (by omega) h0)⟩
/-- The n-th value. -/
def kbdV (m b n : Nat) : Int := sqN (overL (psum m b (m + 1)) 44 (psum m b (n + 1)) 0).toNat
theorem over_nat (b n : Int) : ((overL b 44 n 0).toNat : Int) = overL b 44 n 0 ∧ (overL b 44 n 0).toNat ≤ 17592186044416 := by
  obtain ⟨a, c⟩ := overL_fit b 44 n 0 (by decide)
  have : (0 + 1 : Int) * 2 ^ 44 = 17592186044416 := by decide
  omega
end Go.Proofs.Ytclbbfpagkhonaa
