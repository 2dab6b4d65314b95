/- Windows' halves in plain numbers. -/
import Derived.Test.YtclbbfpagkhonaaTrigPlain
namespace Go.Proofs.Ytclbbfpagkhonaa

/-- A sum of terms, so many to come, the k-th next. -/
def besL (u : Int) : Nat → Nat → Int → Int → Int
  | 0, _, _, s => s
  | n + 1, k, t, s => besL u n (k + 1) (t * u / ((k * k * 65536 : Nat) : Int)) (s + t * u / ((k * k * 65536 : Nat) : Int))
def bessL (u : Int) : Int := besL u 63 1 16384 16384
/-- No number on the way is too great. -/
def besOk (u : Int) : Nat → Nat → Int → Int → Bool
  | 0, _, t, s => decide (0 ≤ t) && decide (0 ≤ s) && decide (s ≤ 1000000000000000)
  | n + 1, k, t, s => decide (0 ≤ t) && decide (t * u ≤ 4611686018427387904) && decide (0 ≤ s) && decide (s ≤ 1000000000000000) && besOk u n (k + 1) (t * u / ((k * k * 65536 : Nat) : Int)) (s + t * u / ((k * k * 65536 : Nat) : Int))
theorem besL_zero (u : Int) : ∀ n k s, besL u n k 0 s = s
  | 0, _, _ => rfl
  | n + 1, k, s => by rw [besL]; simp only [Int.zero_mul, Int.zero_ediv, Int.add_zero]; exact besL_zero u n _ _

theorem besOk_bounds {u : Int} {n k : Nat} {t s : Int} (h : besOk u n k t s = true) : 0 ≤ t ∧ 0 ≤ s ∧ s ≤ 1000000000000000 := by
  cases n with
  | zero => simp only [besOk, Bool.and_eq_true, decide_eq_true_eq] at h; exact ⟨h.1.1, h.1.2, h.2⟩
  | succ n => simp only [besOk, Bool.and_eq_true, decide_eq_true_eq] at h; exact ⟨h.1.1.1.1, h.1.1.2, h.1.2⟩

/-- How often a divisor goes into a number times 2^i, bit by bit. -/
def overL (by' : Int) : Nat → Int → Int → Int
  | 0, _, q => q
  | i + 1, n, q => if 2 * n < by' then overL by' i (2 * n) (2 * q) else overL by' i (2 * n - by') (2 * q + 1)
/-- What the j-th value is a sum's term of. -/
def uL (m by' j : Nat) : Int := ((42389456769 * by' * by' * j * (m - j) : Nat) : Int) / ((m * m * 65536 : Nat) : Int)
def sumL (m by' : Nat) : Nat → Int
  | 0 => bessL (uL m by' 0)
  | j + 1 => sumL m by' j + bessL (uL m by' (j + 1))
def kbdL (m by' : Nat) : List Int := (List.range m).map fun n => ((sqN (overL (sumL m by' m) 44 (sumL m by' n) 0).toNat : Nat) : Int)
def sineHalf (m step : Nat) : List Int := (List.range m).map fun n : Nat => rnd (sinL (((2 * n + 1) * step : Nat) : Int)) 4
def halfL (shape : Int) (short : Bool) : List Int :=
  if shape = 0 then (if short then sineHalf 32 8 else sineHalf 256 1) else (if short then kbdL 32 6 else kbdL 256 4)

theorem bes_ok_long : (List.range 257).all (fun j => decide (0 ≤ uL 256 4 j) && besOk (uL 256 4 j) 63 1 16384 16384) = true := by decide +kernel
theorem bes_ok_short : (List.range 33).all (fun j => decide (0 ≤ uL 32 6 j) && besOk (uL 32 6 j) 63 1 16384 16384) = true := by decide +kernel
end Go.Proofs.Ytclbbfpagkhonaa
