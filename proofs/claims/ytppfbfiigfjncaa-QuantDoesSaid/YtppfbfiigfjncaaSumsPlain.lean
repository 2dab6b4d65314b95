/- Sums of numbers that are rounded off; one that is rounded off twice. -/
import Derived.Test.YtppfbfiigfjncaaFixPlain
namespace Go.Proofs.Ytppfbfiigfjncaa

theorem small_of {t p : Int} (hp : 0 < p) (h1 : -(2 * p) < p * t) (h2 : p * t < 2 * p) : -1 ≤ t ∧ t ≤ 1 := by
  constructor
  · rcases Int.lt_or_le t (-1) with h | h
    · have : p * t ≤ p * (-2) := Int.mul_le_mul_of_nonneg_left (by omega) (by omega); omega
    · exact h
  · rcases Int.lt_or_le 1 t with h | h
    · have : p * 2 ≤ p * t := Int.mul_le_mul_of_nonneg_left (by omega) (by omega); omega
    · exact h

theorem rnd_add (n m : Int) (k : Nat) : -1 ≤ rnd n k + rnd m k - rnd (n + m) k ∧ rnd n k + rnd m k - rnd (n + m) k ≤ 1 := by
  by_cases hk : k = 0
  · subst hk; simp only [rnd_zero]; omega
  · obtain ⟨a1, a2⟩ := rnd_spec n k (by omega)
    obtain ⟨b1, b2⟩ := rnd_spec m k (by omega)
    obtain ⟨c1, c2⟩ := rnd_spec (n + m) k (by omega)
    have h4 := pow_pred k (by omega)
    have hp := pow_pos' (k - 1)
    generalize rnd n k = a at *
    generalize rnd m k = b at *
    generalize rnd (n + m) k = c at *
    rw [h4] at a1 a2 b1 b2 c1 c2
    generalize (2 : Int) ^ (k - 1) = p at *
    have e : p * 2 * (a + b - c) = a * (p * 2) + b * (p * 2) - c * (p * 2) := by rw [Int.mul_sub, Int.mul_add, Int.mul_comm _ a, Int.mul_comm _ b, Int.mul_comm _ c]
    exact small_of (p := p * 2) (by omega) (by omega) (by omega)

theorem rnd_turn (n : Int) (k : Nat) : 0 ≤ rnd n k + rnd (-n) k ∧ rnd n k + rnd (-n) k ≤ 1 := by
  by_cases hk : k = 0
  · subst hk; simp only [rnd_zero]; omega
  · obtain ⟨a1, a2⟩ := rnd_spec n k (by omega)
    obtain ⟨b1, b2⟩ := rnd_spec (-n) k (by omega)
    have h4 := pow_pred k (by omega)
    have hp := pow_pos' (k - 1)
    generalize rnd n k = a at *
    generalize rnd (-n) k = b at *
    rw [h4] at a1 a2 b1 b2
    generalize (2 : Int) ^ (k - 1) = p at *
    have e : p * 2 * (a + b) = a * (p * 2) + b * (p * 2) := by rw [Int.mul_add, Int.mul_comm _ a, Int.mul_comm _ b]
    have h1 := small_of (t := a + b) (p := p * 2) (by omega) (by omega) (by omega)
    refine ⟨?_, h1.2⟩
    rcases Int.lt_or_le (a + b) 0 with h | h
    · exfalso
      have : a + b = -1 := by omega
      rw [this] at e
      omega
    · exact h

theorem rnd_twice (n : Int) (k l : Nat) : rnd (rnd n k) l = rnd n (k + l) ∨ rnd (rnd n k) l = rnd n (k + l) + 1 := by
  by_cases hk : k = 0
  · subst hk; left; simp [rnd_zero]
  by_cases hl : l = 0
  · subst hl; left; simp [rnd_zero]
  have e1 : rnd (rnd n k) l = (n + 2 ^ (k - 1) + 2 ^ (k + l - 1)) / 2 ^ (k + l) := by
    rw [rnd, if_neg hl, rnd, if_neg hk]
    have hkp := pow_pos' k
    have h1 : (n + 2 ^ (k - 1)) / 2 ^ k + 2 ^ (l - 1) = (n + 2 ^ (k - 1) + 2 ^ k * 2 ^ (l - 1)) / 2 ^ k := by
      rw [Int.add_mul_ediv_left _ _ (by omega)]
    rw [h1, Int.ediv_ediv_of_nonneg (by omega), ← Int.pow_add, ← Int.pow_add, show k + (l - 1) = k + l - 1 by omega]
  have e2 : rnd n (k + l) = (n + 2 ^ (k + l - 1)) / 2 ^ (k + l) := by rw [rnd, if_neg (by omega)]
  rw [e1, e2]
  have hp := pow_pos' (k - 1)
  have hq : (2 : Int) ^ (k - 1) ≤ 2 ^ (k + l) := pow_le_pow' (by omega)
  have hs := pow_pos' (k + l)
  have g1 : (n + 2 ^ (k + l - 1)) / 2 ^ (k + l) ≤ (n + 2 ^ (k - 1) + 2 ^ (k + l - 1)) / 2 ^ (k + l) := Int.ediv_le_ediv hs (by omega)
  have g2 : (n + 2 ^ (k - 1) + 2 ^ (k + l - 1)) / 2 ^ (k + l) ≤ (n + 2 ^ (k + l - 1) + 2 ^ (k + l) * 1) / 2 ^ (k + l) := Int.ediv_le_ediv hs (by omega)
  rw [Int.add_mul_ediv_left _ _ (by omega)] at g2
  omega
end Go.Proofs.Ytppfbfiigfjncaa
