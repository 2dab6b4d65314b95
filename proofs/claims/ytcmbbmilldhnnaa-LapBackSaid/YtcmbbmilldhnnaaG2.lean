/- Texts bundled: FixPlain VecPlain Round Sqrt TrigPlain Trig Trig2 TrigSin MdctPlain Made SumsWalk. -/
import Derived.Test.YtcmbbmilldhnnaaG1
/- Plain numbers: rounding off, roots. No program in sight. -/
namespace Go.Proofs.Ytcmbbmilldhnnaa

/-- Halved so often, rounded: halves go up. -/
def rnd (n : Int) (b : Nat) : Int := if b = 0 then n else (n + 2 ^ (b - 1)) / 2 ^ b

theorem pow_pred (b : Nat) (hb : 1 ≤ b) : (2 : Int) ^ b = 2 ^ (b - 1) * 2 := by
  obtain ⟨c, rfl⟩ : ∃ c, b = c + 1 := ⟨b - 1, by omega⟩
  rw [Nat.add_sub_cancel, Int.pow_succ]

theorem pow_pos' (b : Nat) : (0 : Int) < 2 ^ b := Int.pow_pos (by decide)

theorem pow_le_pow' {a b : Nat} (h : a ≤ b) : (2 : Int) ^ a ≤ 2 ^ b := by
  have : (2 : Nat) ^ a ≤ 2 ^ b := Nat.pow_le_pow_right (by decide) h
  exact_mod_cast this

/-- As the code does it: a shift, and the highest bit shifted out. -/
theorem rnd_shift (n : Int) (b : Nat) (hb : 1 ≤ b) : n / 2 ^ b + n / 2 ^ (b - 1) % 2 = rnd n b := by
  unfold rnd
  rw [if_neg (by omega), pow_pred b hb, ← Int.ediv_ediv_of_nonneg (Int.le_of_lt (pow_pos' _)), ← Int.ediv_ediv_of_nonneg (Int.le_of_lt (pow_pos' _))]
  have h := pow_pos' (b - 1)
  rw [Int.add_ediv_of_dvd_right (Int.dvd_refl _), Int.ediv_self (by omega)]
  omega

theorem rnd_zero (n : Int) : rnd n 0 = n := rfl

theorem rnd_spec (n : Int) (b : Nat) (hb : 1 ≤ b) : - 2 ^ (b - 1) ≤ n - rnd n b * 2 ^ b ∧ n - rnd n b * 2 ^ b < 2 ^ (b - 1) := by
  unfold rnd
  rw [if_neg (by omega)]
  have h1 := Int.emod_nonneg (n + 2 ^ (b - 1)) (b := 2 ^ b) (Int.ne_of_gt (pow_pos' b))
  have h2 := Int.emod_lt_of_pos (n + 2 ^ (b - 1)) (pow_pos' b)
  have h3 := Int.mul_ediv_add_emod (n + 2 ^ (b - 1)) (2 ^ b)
  have h4 := pow_pred b hb
  rw [Int.mul_comm] at h3
  generalize (n + 2 ^ (b - 1)) / 2 ^ b * 2 ^ b = x at *
  omega

theorem rnd_mono {n m : Int} (b : Nat) (h : n ≤ m) : rnd n b ≤ rnd m b := by
  unfold rnd
  split
  · exact h
  · exact Int.ediv_le_ediv (pow_pos' b) (by omega)

/-- A rounded number, from between. -/
theorem rnd_eq (n r : Int) (b : Nat) (hb : 1 ≤ b) (h1 : - 2 ^ (b - 1) ≤ n - r * 2 ^ b) (h2 : n - r * 2 ^ b < 2 ^ (b - 1)) : rnd n b = r := by
  unfold rnd
  rw [if_neg (by omega)]
  have h4 := pow_pred b hb
  refine (Int.ediv_emod_unique (a := n + 2 ^ (b - 1)) (b := 2 ^ b) (q := r) (r := n - r * 2 ^ b + 2 ^ (b - 1)) (pow_pos' b)).2 ⟨?_, by omega, by omega⟩ |>.1
  rw [Int.mul_comm (2 ^ b) r]; omega

theorem rnd_bound {n : Int} {B : Int} (b : Nat) (hB : 0 ≤ B) (h1 : -B ≤ n) (h2 : n ≤ B) : -B ≤ rnd n b ∧ rnd n b ≤ B := by
  by_cases hb : b = 0
  · subst hb; exact ⟨h1, h2⟩
  · obtain ⟨s1, s2⟩ := rnd_spec n b (by omega)
    have hp := pow_pos' (b - 1)
    have h4 := pow_pred b (by omega)
    generalize rnd n b = r at *
    rw [h4] at s1 s2
    generalize (2 : Int) ^ (b - 1) = p at *
    constructor
    · rcases Int.lt_or_le r (-B) with h | h
      · exfalso
        have : (r + B) * (p * 2) ≤ (-1) * (p * 2) := Int.mul_le_mul_of_nonneg_right (by omega) (by omega)
        have hB2 : B * 2 ≤ B * (p * 2) := Int.mul_le_mul_of_nonneg_left (by omega) hB
        rw [Int.add_mul] at this
        omega
      · exact h
    · rcases Int.lt_or_le B r with h | h
      · exfalso
        have : 1 * (p * 2) ≤ (r - B) * (p * 2) := Int.mul_le_mul_of_nonneg_right (by omega) (by omega)
        have hB2 : B * 2 ≤ B * (p * 2) := Int.mul_le_mul_of_nonneg_left (by omega) hB
        rw [Int.sub_mul] at this
        omega
      · exact h

/-- The greatest number of so many bits that is not too great. -/
def rootN (great : Nat → Bool) : Nat → Nat → Nat
  | 0, r => r
  | i + 1, r => rootN great i (if great (r + 2 ^ i) then r else r + 2 ^ i)

theorem rootN_eq (great : Nat → Bool) (R : Nat) (hg : ∀ x, great x = decide (R < x)) : ∀ i r, r % 2 ^ i = 0 → r ≤ R → R < r + 2 ^ i → rootN great i r = R
  | 0, r, _, h1, h2 => by simp [rootN]; omega
  | i + 1, r, hm, h1, h2 => by
    have hp : 0 < 2 ^ i := Nat.pow_pos (by decide)
    have hm' : r % 2 ^ i = 0 := by
      have : 2 ^ i ∣ r := Nat.dvd_trans ⟨2, by rw [Nat.pow_succ]⟩ (Nat.dvd_of_mod_eq_zero hm)
      exact Nat.mod_eq_zero_of_dvd this
    rw [rootN, hg]
    rw [Nat.pow_succ] at h2
    by_cases h : R < r + 2 ^ i
    · simp only [h, decide_true, if_true]
      exact rootN_eq great R hg i r hm' h1 h
    · simp only [h, decide_false, Bool.false_eq_true, if_false]
      exact rootN_eq great R hg i _ (by simp [hm']) (by omega) (by omega)

/-- The root, rounded down; the third root. -/
def sqN (n : Nat) : Nat := rootN (fun r => decide (n < r * r)) 32 0
def cbN (n : Nat) : Nat := rootN (fun r => decide (n < r * r * r)) 21 0

theorem exists_root (f : Nat → Nat) (hf : ∀ a b, a < b → f a < f b) (h0 : f 0 = 0) (n : Nat) : ∃ R, f R ≤ n ∧ n < f (R + 1) := by
  have hge : ∀ k, k ≤ f k := by
    intro k
    induction k with
    | zero => omega
    | succ k ih => have := hf k (k + 1) (by omega); omega
  have : ∀ k, n < f k → ∃ R, f R ≤ n ∧ n < f (R + 1) := by
    intro k
    induction k with
    | zero => intro h; omega
    | succ k ih =>
      intro h
      by_cases hk : n < f k
      · exact ih hk
      · exact ⟨k, by omega, h⟩
  exact this (n + 1) (by have := hge (n + 1); omega)

theorem sq_lt {a b : Nat} (h : a < b) : a * a < b * b := Nat.mul_lt_mul_of_lt_of_lt h h
theorem sq_le {a b : Nat} (h : a ≤ b) : a * a ≤ b * b := Nat.mul_le_mul h h
theorem cb_lt {a b : Nat} (h : a < b) : a * a * a < b * b * b := Nat.mul_lt_mul_of_lt_of_lt (sq_lt h) h
theorem cb_le {a b : Nat} (h : a ≤ b) : a * a * a ≤ b * b * b := Nat.mul_le_mul (sq_le h) h

theorem sqN_spec (n : Nat) (hn : n ≤ 4611686018427387904) : sqN n * sqN n ≤ n ∧ n < (sqN n + 1) * (sqN n + 1) := by
  obtain ⟨R, h1, h2⟩ := exists_root (fun r => r * r) (fun _ _ h => sq_lt h) rfl n
  have hR : R < 2 ^ 32 := by
    rcases Nat.lt_or_ge R (2 ^ 32) with h | h
    · exact h
    · have := sq_le h; simp at this h1; omega
  have : sqN n = R := rootN_eq _ R (fun x => by
    simp only [decide_eq_decide]
    constructor
    · intro h; rcases Nat.lt_or_ge R x with h' | h'
      · exact h'
      · have := sq_le h'; have h1' : R * R ≤ n := h1; omega
    · intro h; have := sq_le (show R + 1 ≤ x by omega); have h2' : n < (R + 1) * (R + 1) := h2; omega) 32 0 rfl (Nat.zero_le _) (by omega)
  rw [this]; exact ⟨h1, h2⟩

theorem sqN_unique {n r : Nat} (hn : n ≤ 4611686018427387904) (h1 : r * r ≤ n) (h2 : n < (r + 1) * (r + 1)) : sqN n = r := by
  obtain ⟨s1, s2⟩ := sqN_spec n hn
  rcases Nat.lt_trichotomy (sqN n) r with h | h | h
  · have := sq_le (show sqN n + 1 ≤ r by omega); omega
  · exact h
  · have := sq_le (show r + 1 ≤ sqN n by omega); omega

theorem cbN_spec (n : Nat) (hn : n ≤ 4611686018427387904) : cbN n * cbN n * cbN n ≤ n ∧ n < (cbN n + 1) * (cbN n + 1) * (cbN n + 1) := by
  obtain ⟨R, h1, h2⟩ := exists_root (fun r => r * r * r) (fun _ _ h => cb_lt h) rfl n
  have hR : R < 2 ^ 21 := by
    rcases Nat.lt_or_ge R (2 ^ 21) with h | h
    · exact h
    · have := cb_le h; simp at this h1; omega
  have : cbN n = R := rootN_eq _ R (fun x => by
    simp only [decide_eq_decide]
    constructor
    · intro h; rcases Nat.lt_or_ge R x with h' | h'
      · exact h'
      · have := cb_le h'; have h1' : R * R * R ≤ n := h1; omega
    · intro h; have := cb_le (show R + 1 ≤ x by omega); have h2' : n < (R + 1) * (R + 1) * (R + 1) := h2; omega) 21 0 rfl (Nat.zero_le _) (by omega)
  rw [this]; exact ⟨h1, h2⟩

theorem cbN_unique {n r : Nat} (hn : n ≤ 4611686018427387904) (h1 : r * r * r ≤ n) (h2 : n < (r + 1) * (r + 1) * (r + 1)) : cbN n = r := by
  obtain ⟨s1, s2⟩ := cbN_spec n hn
  rcases Nat.lt_trichotomy (cbN n) r with h | h | h
  · have := cb_le (show cbN n + 1 ≤ r by omega); omega
  · exact h
  · have := cb_le (show r + 1 ≤ cbN n by omega); omega

theorem sqN_le (n : Nat) (hn : n ≤ 4611686018427387904) : sqN n ≤ 2147483648 := by
  obtain ⟨s1, _⟩ := sqN_spec n hn
  rcases Nat.lt_or_ge 2147483648 (sqN n) with h | h
  · have := sq_le (show 2147483649 ≤ sqN n by omega); omega
  · exact h
theorem cbN_le (n : Nat) (hn : n ≤ 4611686018427387904) : cbN n ≤ 1664510 := by
  obtain ⟨s1, _⟩ := cbN_spec n hn
  rcases Nat.lt_or_ge 1664510 (cbN n) with h | h
  · have := cb_le (show 1664511 ≤ cbN n by omega); omega
  · exact h
theorem sqN_mono {n m : Nat} (h : n ≤ m) (hm : m ≤ 4611686018427387904) : sqN n ≤ sqN m := by
  obtain ⟨s1, s2⟩ := sqN_spec n (by omega)
  obtain ⟨t1, t2⟩ := sqN_spec m hm
  rcases Nat.lt_or_ge (sqN m) (sqN n) with h' | h'
  · have := sq_le (show sqN m + 1 ≤ sqN n by omega); omega
  · exact h'
theorem cbN_mono {n m : Nat} (h : n ≤ m) (hm : m ≤ 4611686018427387904) : cbN n ≤ cbN m := by
  obtain ⟨s1, s2⟩ := cbN_spec n (by omega)
  obtain ⟨t1, t2⟩ := cbN_spec m hm
  rcases Nat.lt_or_ge (cbN m) (cbN n) with h' | h'
  · have := cb_le (show cbN m + 1 ≤ cbN n by omega); omega
  · exact h'

theorem ofInt_nat (a : Nat) (ha : a < 9223372036854775808) : (BitVec.ofInt 64 (a : Int)).toNat = a := by
  rw [BitVec.ofInt_natCast, BitVec.toNat_ofNat]; exact Nat.mod_eq_of_lt (by omega)
theorem i64_or_nat (a b : Nat) (ha : a < 9223372036854775808) (hb : b < 9223372036854775808) : bits .or .i64 (a : Int) (b : Int) = ((a ||| b : Nat) : Int) := by
  have h : a ||| b < 2 ^ 63 := Nat.or_lt_two_pow (by omega) (by omega)
  show IntKind.i64.wrap ((BitVec.ofInt 64 (a : Int) ||| BitVec.ofInt 64 (b : Int)).toNat : Int) = _
  rw [BitVec.toNat_or, ofInt_nat a ha, ofInt_nat b hb]
  exact IntWalk.i64_in _ (by omega)
theorem i64_and_nat (a b : Nat) (ha : a < 9223372036854775808) (hb : b < 9223372036854775808) : bits .and .i64 (a : Int) (b : Int) = ((a &&& b : Nat) : Int) := by
  have h : a &&& b < 2 ^ 63 := Nat.and_lt_two_pow _ (by omega)
  show IntKind.i64.wrap ((BitVec.ofInt 64 (a : Int) &&& BitVec.ofInt 64 (b : Int)).toNat : Int) = _
  rw [BitVec.toNat_and, ofInt_nat a ha, ofInt_nat b hb]
  exact IntWalk.i64_in _ (by omega)
/-- The lowest bits of any number. -/
theorem i64_mask (n : Int) (k : Nat) (hk : k ≤ 62) : bits .and .i64 n ((2 ^ k - 1 : Nat) : Int) = n % 2 ^ k := by
  have hp : (2 : Nat) ^ k ≤ 2 ^ 62 := Nat.pow_le_pow_right (by decide) hk
  have hp0 : 0 < (2 : Nat) ^ k := Nat.pow_pos (by decide)
  show IntKind.i64.wrap ((BitVec.ofInt 64 n &&& BitVec.ofInt 64 ((2 ^ k - 1 : Nat) : Int)).toNat : Int) = _
  rw [BitVec.toNat_and, ofInt_nat (2 ^ k - 1) (by omega), Nat.and_two_pow_sub_one_eq_mod, BitVec.toNat_ofInt]
  have h : (((n % ((2 ^ 64 : Nat) : Int)).toNat % 2 ^ k : Nat) : Int) = n % 2 ^ k := by
    have h0 : 0 ≤ n % ((2 ^ 64 : Nat) : Int) := Int.emod_nonneg _ (by decide)
    rw [Int.natCast_emod, Int.toNat_of_nonneg h0]
    rw [show ((2 ^ k : Nat) : Int) = (2 : Int) ^ k from Int.natCast_pow 2 k]
    exact Int.emod_emod_of_dvd n ⟨2 ^ (64 - k), by rw [← Int.pow_add, show k + (64 - k) = 64 by omega]; rfl⟩
  rw [h]
  have h1 := Int.emod_nonneg n (b := 2 ^ k) (Int.ne_of_gt (pow_pos' k))
  have h2 := Int.emod_lt_of_pos n (pow_pos' k)
  have h3 : (2 : Int) ^ k ≤ 2 ^ 62 := pow_le_pow' hk
  exact IntWalk.i64_in _ (by omega)
theorem i64_and_one (n : Int) : bits .and .i64 n 1 = n % 2 := i64_mask n 1 (by decide)

theorem or_bit (r j : Nat) (hr : r % 2 ^ (j + 1) = 0) (hb : r < 4294967296) (hj : j < 32) : bits .or .i64 (r : Int) (2 ^ j) = ((r + 2 ^ j : Nat) : Int) := by
  have h1 : (2 : Nat) ^ j < 2 ^ 32 := Nat.pow_lt_pow_right (by decide) hj
  have h2 : r ||| 2 ^ j = r + 2 ^ j := nat_join (j + 1) r (2 ^ j) hr (Nat.pow_lt_pow_right (by decide) (by omega))
  have h3 : ((2 ^ j : Nat) : Int) = (2 : Int) ^ j := Int.natCast_pow 2 j
  rw [← h3, i64_or_nat _ _ (by omega) (by omega), h2]

theorem root_wf (r j bits : Nat) (h : r + 2 ^ (j + 1) ≤ 2 ^ bits) (hb : bits ≤ 32) : r + 2 ^ j < 4294967296 ∧ r + 2 ^ j + 2 ^ j ≤ 2 ^ bits := by
  have h1 : (2 : Nat) ^ bits ≤ 2 ^ 32 := Nat.pow_le_pow_right (by decide) hb
  have h2 : 0 < (2 : Nat) ^ j := Nat.pow_pos (by decide)
  rw [Nat.pow_succ] at h
  omega

theorem root_wf21 (r j bits : Nat) (h : r + 2 ^ (j + 1) ≤ 2 ^ bits) (hb : bits ≤ 21) : r + 2 ^ j < 2097152 ∧ r + 2 ^ j + 2 ^ j ≤ 2 ^ bits ∧ 1 ≤ r + 2 ^ j := by
  have h1 : (2 : Nat) ^ bits ≤ 2 ^ 21 := Nat.pow_le_pow_right (by decide) hb
  have h2 : 0 < (2 : Nat) ^ j := Nat.pow_pos (by decide)
  rw [Nat.pow_succ] at h
  omega
theorem pow_small (j : Nat) (hj : j < 32) : (0 : Int) ≤ 2 ^ j ∧ (2 : Int) ^ j ≤ 4294967296 := ⟨Int.le_of_lt (pow_pos' j), Int.le_trans (pow_le_pow' (show j ≤ 32 by omega)) (by decide)⟩

end Go.Proofs.Ytcmbbmilldhnnaa
/- Sums of rows of numbers; Cauchy, Minkowski. -/
set_option linter.unusedVariables false
set_option linter.unusedSimpArgs false
set_option linter.unusedSectionVars false
namespace Go.Proofs.Ytcmbbmilldhnnaa
/-- Sums of the first n numbers of a row. -/
def sumF (f : Nat → Int) : Nat → Int
  | 0 => 0
  | n + 1 => sumF f n + f n
theorem sumF_congr {f g : Nat → Int} : ∀ n, (∀ i, i < n → f i = g i) → sumF f n = sumF g n
  | 0, _ => rfl
  | n + 1, h => by rw [sumF, sumF, sumF_congr n (fun i hi => h i (by omega)), h n (by omega)]
theorem sumF_mono {f g : Nat → Int} : ∀ n, (∀ i, i < n → f i ≤ g i) → sumF f n ≤ sumF g n
  | 0, _ => Int.le_refl _
  | n + 1, h => by have := sumF_mono n (fun i hi => h i (by omega)); have := h n (by omega); rw [sumF, sumF]; omega
theorem sumF_nonneg {f : Nat → Int} : ∀ n, (∀ i, i < n → 0 ≤ f i) → 0 ≤ sumF f n
  | 0, _ => Int.le_refl _
  | n + 1, h => by have := sumF_nonneg n (fun i hi => h i (by omega)); have := h n (by omega); rw [sumF]; omega
theorem sumF_add (f g : Nat → Int) : ∀ n, sumF (fun i => f i + g i) n = sumF f n + sumF g n
  | 0 => rfl
  | n + 1 => by rw [sumF, sumF, sumF, sumF_add f g n]; omega
theorem sumF_smul (c : Int) (f : Nat → Int) : ∀ n, sumF (fun i => c * f i) n = c * sumF f n
  | 0 => by simp [sumF]
  | n + 1 => by rw [sumF, sumF, sumF_smul c f n]; grind
theorem sumF_const (c : Int) : ∀ n, sumF (fun _ => c) n = c * n
  | 0 => by simp [sumF]
  | n + 1 => by rw [sumF, sumF_const c n]; grind
theorem sq_lt_sq {b c : Int} (hb : 0 ≤ b) (h : b < c) : b * b < c * c := by
  have h1 := Int.mul_le_mul_of_nonneg_left (Int.le_of_lt h) hb
  have h2 := Int.mul_lt_mul_of_pos_right h (show 0 < c by omega)
  omega
theorem abs_le_of_sq {a b : Int} (hb : 0 ≤ b) (h : a * a ≤ b * b) : -b ≤ a ∧ a ≤ b := by
  constructor
  · rcases Int.lt_or_le a (-b) with h' | h'
    · have := sq_lt_sq (c := -a) hb (by omega)
      rw [Int.neg_mul_neg] at this; omega
    · exact h'
  · rcases Int.lt_or_le b a with h' | h'
    · have := sq_lt_sq hb h'
      omega
    · exact h'
theorem sq_nonneg' (a : Int) : 0 ≤ a * a := by
  rcases Int.le_total 0 a with h | h
  · exact Int.mul_nonneg h h
  · exact Int.mul_nonneg_of_nonpos_of_nonpos h h
/-- A square of two combined rows. -/
theorem cross (f g : Nat → Int) (x y : Int) : ∀ n, 0 ≤ sumF (fun i => f i * f i) n * (y * y) - 2 * (sumF (fun i => f i * g i) n * (x * y)) + sumF (fun i => g i * g i) n * (x * x)
  | 0 => by simp [sumF]
  | n + 1 => by
    have h := cross f g x y n
    have h2 := sq_nonneg' (f n * y - g n * x)
    simp only [sumF]
    grind
theorem cauchy (f g : Nat → Int) : ∀ n, sumF (fun i => f i * g i) n * sumF (fun i => f i * g i) n ≤ sumF (fun i => f i * f i) n * sumF (fun i => g i * g i) n
  | 0 => by simp [sumF]
  | n + 1 => by
    have h := cauchy f g n
    have h2 := cross f g (f n) (g n) n
    simp only [sumF]
    grind
theorem minkowski (f g : Nat → Int) (n : Nat) (P Q : Int) (hP : 0 ≤ P) (hQ : 0 ≤ Q) (h1 : sumF (fun i => f i * f i) n ≤ P * P) (h2 : sumF (fun i => g i * g i) n ≤ Q * Q) :
    sumF (fun i => (f i + g i) * (f i + g i)) n ≤ (P + Q) * (P + Q) := by
  have h3 := cauchy f g n
  have n1 : 0 ≤ sumF (fun i => f i * f i) n := sumF_nonneg _ (fun i _ => sq_nonneg' _)
  have n2 : 0 ≤ sumF (fun i => g i * g i) n := sumF_nonneg _ (fun i _ => sq_nonneg' _)
  have h4 : sumF (fun i => f i * f i) n * sumF (fun i => g i * g i) n ≤ (P * P) * (Q * Q) := Int.mul_le_mul h1 h2 n2 (sq_nonneg' P)
  have h5 := (abs_le_of_sq (a := sumF (fun i => f i * g i) n) (b := P * Q) (Int.mul_nonneg hP hQ) (by grind)).2
  have e : sumF (fun i => (f i + g i) * (f i + g i)) n = sumF (fun i => f i * f i) n + 2 * sumF (fun i => f i * g i) n + sumF (fun i => g i * g i) n := by
    rw [← sumF_smul, ← sumF_add, ← sumF_add]
    exact sumF_congr n (fun i _ => by grind)
  rw [e]; grind

end Go.Proofs.Ytcmbbmilldhnnaa
/- fix.Round: what each call answers. -/
set_option linter.unusedVariables false
namespace Go.Proofs.Ytcmbbmilldhnnaa
open Go.ChangeShapes Go.WideShapes Go.ChangeAt Go.RowKit

theorem round_bad (n b : Int) (h : n < -4611686018427387904 ∨ 4611686018427387904 < n ∨ b < 0 ∨ 62 < b) (w : World) :
    Calls Try.prog 21 #[.int .i64 n, .int .i64 b] w fun e w' => e = .returned (.tuple #[.int .i64 0, .int .i64 2]) ∧ w = w' := by
  go_enter Try.func21, Try.ntmps21
  go_wp2
  all_goals go_ret2
  all_goals exact ⟨rfl, rfl⟩

theorem round_wrap (n : Int) (b : Nat) (hb : 1 ≤ b) (h1 : -4611686018427387904 ≤ n) (h2 : n ≤ 4611686018427387904) : wrap64 (n / 2 ^ b + bits .and .i64 (n / 2 ^ (b - 1)) 1) = rnd n b := by
  rw [i64_and_one, rnd_shift n b hb]
  have := rnd_bound b (B := 4611686018427387904) (by decide) h1 h2
  exact IntWalk.wrap64_in _ ⟨by omega, by omega⟩

def RRound (n : Int) (b : Nat) (w : World) (e : Ending) (w' : World) : Prop := e = .returned (.tuple #[.int .i64 (rnd n b), .int .i64 0]) ∧ ∃ k, w' = w.drewN k
theorem round_ok (n : Int) (b : Nat) (h1 : -4611686018427387904 ≤ n) (h2 : n ≤ 4611686018427387904) (hb : b ≤ 62) (w : World) :
    Calls Try.prog 21 #[.int .i64 n, .int .i64 b] w (RRound n b w) := by
  by_cases h0 : b = 0
  · subst h0
    go_enter Try.func21, Try.ntmps21
    go_wp2
    go_ret2
    exact ⟨rfl, 0, rfl⟩
  · have hb1 : 1 ≤ b := by omega
    have hz : ((b : Int) == 0) = false := by simp; omega
    have hw := Lib.hid (round_wrap n b hb1 h1 h2)
    go_enter Try.func21, Try.ntmps21
    go_wp2
    go_quiet (fail)
    go_wp2
    go_ret2
    exact ⟨ret_ints hw.out rfl, _, rfl⟩
theorem round_lit (n B : Int) (b : Nat) (hB : B = b) (h1 : -4611686018427387904 ≤ n) (h2 : n ≤ 4611686018427387904) (hb : b ≤ 62) (w : World) :
    Calls Try.prog 21 #[.int .i64 n, .int .i64 B] w (RRound n b w) := by
  subst hB; exact round_ok n b h1 h2 hb w


end Go.Proofs.Ytcmbbmilldhnnaa
/- fix.Sqrt: what each call answers. -/
set_option linter.unusedVariables false
namespace Go.Proofs.Ytcmbbmilldhnnaa
open Go.ChangeShapes Go.WideShapes Go.ChangeAt Go.RowKit

/-- The closure: whether a number is greater than the root. -/
theorem sqrt1_any (r n : Nat) (hr : r < 4294967296) (hn : n ≤ 4611686018427387904) (a : Addr) (w : World) (hc : w.cell? a = some (.int .i64 n)) :
    Calls Try.prog 81 #[.int .i64 r, .pointer (some a)] w fun e w' => e = .returned (.bool (decide (n < r * r))) ∧ w = w' := by
  by_cases hr2 : r ≤ 2147483648
  · have hm : r * r ≤ 2147483648 * 2147483648 := sq_le hr2
    have hq : Hid (((r : Int) * r) = ((r * r : Nat) : Int)) := by simp [Hid]
    have hm' : (0 : Int) ≤ (r : Int) * r ∧ (r : Int) * r ≤ 4611686018427387904 := by rw [hq.out]; omega
    obtain ⟨m1, m2⟩ := hm'
    by_cases hb : n < r * r
    · have hd : decide ((n : Int) < (r : Int) * r) = true := by rw [hq.out]; exact decide_eq_true (Int.ofNat_lt.2 hb)
      have hf := Lib.hid (decide_eq_true hb)
      clear hb hm
      go_enter Try.func81, Try.ntmps81
      go_wp2
      go_ret
      exact ⟨ret_bool hf.out.symm, rfl⟩
    · have hd : decide ((n : Int) < (r : Int) * r) = false := by rw [hq.out]; exact decide_eq_false (fun h => hb (Int.ofNat_lt.1 h))
      have hf := Lib.hid (decide_eq_false hb)
      clear hb hm
      have hd2 : decide ((2147483649 : Int) ≤ r) = false := by simp; omega
      go_enter Try.func81, Try.ntmps81
      go_wp2
      go_ret
      exact ⟨ret_bool hf.out.symm, rfl⟩
  · have hb : n < r * r := by have := sq_le (show 2147483649 ≤ r by omega); omega
    have hf := Lib.hid (decide_eq_true hb)
    have hd2 : decide ((2147483649 : Int) ≤ r) = true := by simp; omega
    clear hb
    obtain ⟨z, hz⟩ : ∃ z, IntKind.i64.wrap ((r : Int) * r) = z := ⟨_, rfl⟩
    go_enter Try.func81, Try.ntmps81
    go_wp2
    all_goals go_ret
    all_goals exact ⟨ret_bool (by simpa using hf.out.symm), rfl⟩

def RRootSqrt (great : Nat → Bool) (bits : Nat) (W w : World) (e : Ending) (w' : World) : Prop := e = .returned (.int .i64 (rootN great bits 0)) ∧ w = w'

theorem root_sqrt (a : Addr) (great : Nat → Bool) (nb : Nat) (h0 : 1 ≤ nb) (hb : nb ≤ 32) (w : World)
    (hcall : ∀ r : Nat, r < 4294967296 → Calls Try.prog 81 #[.int .i64 r, .pointer (some a)] w fun e w' => e = .returned (.bool (great r)) ∧ w = w') :
    Calls Try.prog 80 #[.int .i64 nb, .func (.func 81) #[] #[.pointer (some a)]] w (RRootSqrt great nb w w) := by
  have HC := Lib.hid hcall
  clear hcall
  go_enter Try.func80, Try.ntmps80
  go_wp2
  go_loop [4, 5] (fun r i => ∃ (rn k : Nat) (z : Int), r = .int .i64 rn ∧ i = .int .i64 z ∧ z = (k : Int) - 1 ∧ k ≤ nb ∧ rn % 2 ^ k = 0 ∧ rn + 2 ^ k ≤ 2 ^ nb ∧ Hid (rootN great k rn = rootN great nb 0)) (fun _ i => (intOf i + 1).toNat)
  case atStart => exact ⟨0, nb, _, rfl, rfl, rfl, Nat.le_refl _, by simp, by simp, Lib.hid rfl⟩
  case round =>
    obtain ⟨rn, k, z, rfl, rfl, hz, hk, hm, hs, hroot⟩ := hrel
    by_cases hk0 : k = 0
    · subst hk0
      have hz1 : z < 0 := by omega
      clear hz hm hs
      go_wp2
      go_ret
      exact ⟨ret_int (by have := hroot.out; simp only [rootN] at this; omega), rfl⟩
    · obtain ⟨j, rfl⟩ : ∃ j, k = j + 1 := ⟨k - 1, by omega⟩
      obtain rfl : z = (j : Int) := by omega
      have hor := or_bit rn j hm (by have := (root_wf rn j nb hs hb).1; omega) (by omega)
      obtain ⟨b1, b2⟩ := root_wf rn j nb hs hb
      have hm' : rn % 2 ^ j = 0 := Nat.mod_eq_zero_of_dvd (Nat.dvd_trans ⟨2, by rw [Nat.pow_succ]⟩ (Nat.dvd_of_mod_eq_zero hm))
      obtain ⟨p1, p2⟩ := pow_small j (by omega)
      have HM := Lib.hid hm'
      have B2 := Lib.hid b2
      have HS : Hid (rn + 2 ^ j ≤ 2 ^ nb) := by show _ ≤ _; omega
      have HN := Lib.hid (show j ≤ nb by omega)
      clear hz hk0 hm hm' hs b2
      go_wp2_with fail
      refine (HC.out (rn + 2 ^ j) b1).mono ?_
      rintro e w' ⟨rfl, rfl⟩
      cases hg : great (rn + 2 ^ j)
      · have HR : Hid (rootN great j (rn + 2 ^ j) = rootN great nb 0) := by
          have := hroot.out; rw [rootN, hg] at this; exact this
        clear hroot
        go_wp2
        go_round
        case rel => exact ⟨rn + 2 ^ j, j, _, rfl, rfl, rfl, HN.out, by simp [HM.out], B2.out, HR⟩
        case measure => simp [intOf]
      · have HR : Hid (rootN great j rn = rootN great nb 0) := by
          have := hroot.out; rw [rootN, hg] at this; exact this
        clear hroot
        go_wp2
        go_round
        case rel => exact ⟨rn, j, _, rfl, rfl, rfl, HN.out, HM.out, HS.out, HR⟩
        case measure => simp [intOf]


def RSqrt (n : Nat) (w : World) (e : Ending) (w' : World) : Prop := e = .returned (.tuple #[.int .i64 (sqN n), .int .i64 0]) ∧ Below w.heap.size w w'
theorem sqrt_ok (n : Nat) (hn : n ≤ 4611686018427387904) (w : World) :
    Calls Try.prog 74 #[.int .i64 n] w (RSqrt n w) := by
  have hc : (w.alloc (.cells #[.int .i64 n] 3)).cell? ⟨w.heap.size, 0, none⟩ = some (.int .i64 n) := by rw [World.cell?_alloc_at _ _ _ _ rfl]; rfl
  have hmf : ∀ (fn : Fn) (first cap : Array Value) (w : World), (Instr.makeFunc fn first cap).run Try.prog w = .ok (.func fn first cap) w := fun _ _ _ _ => rfl
  go_enter Try.func74, Try.ntmps74
  go_wp2_with fail
  refine (root_sqrt ⟨w.heap.size, 0, none⟩ (fun r => decide (n < r * r)) 32 (by decide) (by decide) _ (fun r hr => sqrt1_any r n hr hn _ _ hc)).mono ?_
  rintro e w' ⟨rfl, rfl⟩
  go_wp2
  go_ret2
  exact ⟨rfl, (Below.refl _ _).alloc (Nat.le_refl _) _⟩
theorem sqrt_bad (n : Int) (h : n < 0 ∨ 4611686018427387904 < n) (w : World) :
    Calls Try.prog 74 #[.int .i64 n] w fun e w' => e = .returned (.tuple #[.int .i64 0, .int .i64 2]) ∧ Below w.heap.size w w' := by
  go_enter Try.func74, Try.ntmps74
  go_wp2
  all_goals go_ret2
  all_goals exact ⟨rfl, (Below.refl _ _).alloc (Nat.le_refl _) _⟩

end Go.Proofs.Ytcmbbmilldhnnaa
/- Cosines in plain numbers. -/
namespace Go.Proofs.Ytcmbbmilldhnnaa

/-- A sum of terms of turning signs. -/
def serL : List Int → Bool → Int → Int → Int → Int
  | [], _, _, _, s => s
  | d :: l, e, f, q, s => serL l (!e) (rnd (f * q) 30 / d) q (if e then s - rnd (f * q) 30 / d else s + rnd (f * q) 30 / d)

def arcL (m : Int) : Int := rnd (m * 3454217652358) 20
def sqL (m : Int) : Int := rnd (arcL m * arcL m) 30
def cosineL (m : Int) : Int := serL [2, 12, 30, 56, 90, 132, 182] true 1073741824 (sqL m) 1073741824
def sineL (m : Int) : Int := serL [6, 20, 42, 72, 110, 156, 210] true (arcL m) (sqL m) (arcL m)
/-- That of at most 512 parts. -/
def quartL (n : Int) : Int := if 256 < n then rnd (sineL (512 - n)) 4 else rnd (cosineL n) 4
/-- The cosine of parts of a circle. -/
def cosL (n : Int) : Int :=
  let m := if 1024 < n % 2048 then 2048 - n % 2048 else n % 2048
  if 512 < m then -quartL (1024 - m) else quartL m
def sinL (n : Int) : Int := cosL (n % 2048 - 512)

theorem cosL_congr {n m : Int} (h : n % 2048 = m % 2048) : cosL n = cosL m := by unfold cosL; rw [h]

theorem arc_range (m : Int) (h0 : 0 ≤ m) (h1 : m ≤ 256) : 0 ≤ arcL m ∧ arcL m ≤ 1073741824 := by
  unfold arcL
  have a := rnd_mono 20 (show 0 ≤ m * 3454217652358 by omega)
  have b := rnd_mono 20 (show m * 3454217652358 ≤ 1125899906842624 by omega)
  have e1 : rnd 0 20 = 0 := by decide +kernel
  have e2 : rnd 1125899906842624 20 = 1073741824 := by decide +kernel
  omega
theorem mul_range {a b : Int} (A B : Int) (h0 : 0 ≤ a) (h1 : a ≤ A) (k0 : 0 ≤ b) (k1 : b ≤ B) : 0 ≤ a * b ∧ a * b ≤ A * B :=
  ⟨Int.mul_nonneg h0 k0, Int.mul_le_mul h1 k1 k0 (Int.le_trans h0 h1)⟩
theorem rnd30_range (x : Int) (h0 : 0 ≤ x) (h1 : x ≤ 1152921504606846976) : 0 ≤ rnd x 30 ∧ rnd x 30 ≤ 1073741824 := by
  have a := rnd_mono 30 h0
  have b := rnd_mono 30 h1
  have e1 : rnd 0 30 = 0 := by decide +kernel
  have e2 : rnd 1152921504606846976 30 = 1073741824 := by decide +kernel
  omega
theorem sq_range (m : Int) (h0 : 0 ≤ m) (h1 : m ≤ 256) : 0 ≤ sqL m ∧ sqL m ≤ 1073741824 := by
  obtain ⟨a, b⟩ := arc_range m h0 h1
  obtain ⟨c, d⟩ := mul_range 1073741824 1073741824 a b a b
  exact rnd30_range _ c (by omega)
theorem term_range (f q d : Int) (h0 : 0 ≤ f) (h1 : f ≤ 1073741824) (k0 : 0 ≤ q) (k1 : q ≤ 1073741824) (hd : 1 ≤ d) : 0 ≤ rnd (f * q) 30 / d ∧ rnd (f * q) 30 / d ≤ 1073741824 := by
  obtain ⟨c, e⟩ := mul_range 1073741824 1073741824 h0 h1 k0 k1
  obtain ⟨r0, r1⟩ := rnd30_range _ c (by omega)
  exact ⟨Int.ediv_nonneg r0 (by omega), Int.le_trans (Int.ediv_le_self _ r0) r1⟩

theorem ser_bound (l : List Int) : ∀ (e : Bool) (f q s : Int), (∀ d ∈ l, 1 ≤ d) → 0 ≤ f → f ≤ 1073741824 → 0 ≤ q → q ≤ 1073741824 →
    s - 1073741824 * l.length ≤ serL l e f q s ∧ serL l e f q s ≤ s + 1073741824 * l.length := by
  induction l with
  | nil => intro e f q s _ _ _ _ _; simp [serL]
  | cons d l ih =>
    intro e f q s hd h0 h1 k0 k1
    obtain ⟨t0, t1⟩ := term_range f q d h0 h1 k0 k1 (hd d (by simp))
    have := ih (!e) (rnd (f * q) 30 / d) q (if e then s - rnd (f * q) 30 / d else s + rnd (f * q) 30 / d) (fun x hx => hd x (by simp [hx])) t0 t1 k0 k1
    rw [serL]
    simp only [List.length_cons]
    generalize rnd (f * q) 30 / d = t at *
    generalize serL l (!e) t q (if e = true then s - t else s + t) = z at *
    cases e <;> simp at this <;> omega

theorem cosine_range (m : Int) (h0 : 0 ≤ m) (h1 : m ≤ 256) : -8589934592 ≤ cosineL m ∧ cosineL m ≤ 8589934592 := by
  obtain ⟨a, b⟩ := sq_range m h0 h1
  have := ser_bound [2, 12, 30, 56, 90, 132, 182] true 1073741824 (sqL m) 1073741824 (by decide) (by decide) (by decide) a b
  unfold cosineL; simp at this; omega
theorem sine_range (m : Int) (h0 : 0 ≤ m) (h1 : m ≤ 256) : -8589934592 ≤ sineL m ∧ sineL m ≤ 8589934592 := by
  obtain ⟨a, b⟩ := sq_range m h0 h1
  obtain ⟨c, d⟩ := arc_range m h0 h1
  have := ser_bound [6, 20, 42, 72, 110, 156, 210] true (arcL m) (sqL m) (arcL m) (by decide) c d a b
  unfold sineL; simp at this; omega

/-- What is so of every part of a circle, by computation. -/
theorem all_parts (p : Int → Bool) (h : (List.range 2048).all (fun n => p n) = true) (n : Int) : p (n % 2048) = true := by
  have hn := Int.emod_nonneg n (b := 2048) (by decide)
  have hl := Int.emod_lt_of_pos n (b := 2048) (by decide)
  have := List.all_eq_true.1 h (n % 2048).toNat (by simp; omega)
  rwa [Int.toNat_of_nonneg hn] at this
theorem cos_mod (n : Int) : cosL (n % 2048) = cosL n := cosL_congr (by omega)

theorem cos_range_all : (List.range 2048).all (fun n => decide (-67108864 ≤ cosL n) && decide (cosL n ≤ 67108864)) = true := by decide +kernel
theorem cos_range (n : Int) : -67108864 ≤ cosL n ∧ cosL n ≤ 67108864 := by
  have := all_parts (fun n => decide (-67108864 ≤ cosL n) && decide (cosL n ≤ 67108864)) cos_range_all n
  simpa [cos_mod] using this
theorem sin_range (n : Int) : -67108864 ≤ sinL n ∧ sinL n ≤ 67108864 := cos_range _
end Go.Proofs.Ytcmbbmilldhnnaa
/- trig: what each call answers. -/
set_option linter.unusedVariables false
namespace Go.Proofs.Ytcmbbmilldhnnaa
open Go.ChangeShapes Go.WideShapes Go.ChangeAt Go.RowKit

theorem rounded_ok (n : Int) (b : Nat) (h1 : -4611686018427387904 ≤ n) (h2 : n ≤ 4611686018427387904) (hb1 : 1 ≤ b) (hb : b ≤ 61) (w : World) :
    Calls Try.prog 83 #[.int .i64 n, .int .i64 b] w fun e w' => e = .returned (.int .i64 (rnd n b)) ∧ w = w' := by
  have p1 := pow_pos' (b - 1)
  have p2 : (2 : Int) ^ (b - 1) ≤ 1152921504606846976 := pow_le_pow' (show b - 1 ≤ 60 by omega)
  have hr : Hid ((n + 2 ^ (b - 1)) / 2 ^ b = rnd n b) := by show _ = _; rw [rnd, if_neg (by omega)]
  go_enter Try.func83, Try.ntmps83
  go_wp2
  go_ret
  exact ⟨ret_int hr.out, rfl⟩
theorem rounded_lit (n B : Int) (b : Nat) (hB : B = b) (h1 : -4611686018427387904 ≤ n) (h2 : n ≤ 4611686018427387904) (hb1 : 1 ≤ b) (hb : b ≤ 61) (w : World) :
    Calls Try.prog 83 #[.int .i64 n, .int .i64 B] w fun e w' => e = .returned (.int .i64 (rnd n b)) ∧ w = w' := by
  subst hB; exact rounded_ok n b h1 h2 hb1 hb w

theorem ser_step (ds : List Int) (k : Nat) (hk : k < ds.length) (e : Bool) (f q s : Int) :
    serL (ds.drop k) e f q s = serL (ds.drop (k + 1)) (!e) (rnd (f * q) 30 / ds.getD k 0) q (if e then s - rnd (f * q) 30 / ds.getD k 0 else s + rnd (f * q) 30 / ds.getD k 0) := by
  rw [List.drop_eq_getElem_cons hk, serL]
  simp [List.getD_eq_getElem?_getD, hk]
def even (k : Nat) : Bool := k % 2 == 0
theorem even_succ (k : Nat) : even (k + 1) = !even k := by unfold even; rcases Nat.mod_two_eq_zero_or_one k with h | h <;> simp [Nat.add_mod, h]

def RSer (ds : List Int) (f q : Int) (w : World) (e : Ending) (w' : World) : Prop := e = .returned (.int .i64 (serL ds true f q f)) ∧ w = w'
set_option maxRecDepth 100000 in
set_option maxHeartbeats 1000000 in
theorem series_ok (ds : List Int) (p : Option Addr) (c : Nat) (f q : Int) (hl : ds.length ≤ 100) (hd : ∀ k, k < ds.length → 2 ≤ ds.getD k 0 ∧ ds.getD k 0 ≤ 1000) (h0 : 0 ≤ f) (h1 : f ≤ 1073741824) (k0 : 0 ≤ q) (k1 : q ≤ 1073741824) (w : World) (hi : IsInts w p ds) :
    Calls Try.prog 84 #[.int .i64 f, .int .i64 q, .slice p ds.length c] w (RSer ds f q w) := by
  have HI := Lib.hid hi
  have HD := Lib.hid hd
  clear hi hd
  go_enter Try.func84, Try.ntmps84
  go_wp2
  go_loop [0, 7, 13] (fun F S I => ∃ (k : Nat) (x s : Int), F = .int .i64 x ∧ S = .int .i64 s ∧ I = .int .i64 k ∧ k ≤ ds.length ∧ 0 ≤ x ∧ x ≤ 1073741824 ∧ -1073741824 * ((k : Int) + 1) ≤ s ∧ s ≤ 1073741824 * ((k : Int) + 1) ∧ Hid (serL (ds.drop k) (even k) x q s = serL ds true f q f)) (fun _ _ i => ds.length - (intOf i).toNat)
  case atStart => exact ⟨0, f, f, rfl, rfl, rfl, Nat.zero_le _, h0, h1, by omega, by omega, Lib.hid rfl⟩
  case round =>
    obtain ⟨k, x, s, rfl, rfl, rfl, hk, hx0, hx1, hs0, hs1, hser⟩ := hrel
    by_cases hlt : k < ds.length
    · obtain ⟨b, off, rfl, _, hc⟩ := HI.out.at hlt
      have c1 := hc k hlt
      obtain ⟨d0, d1⟩ := HD.out k hlt
      obtain ⟨t0, t1⟩ := term_range x q (ds.getD k 0) hx0 hx1 k0 k1 (by omega)
      obtain ⟨m0, m1⟩ := mul_range 1073741824 1073741824 hx0 hx1 k0 k1
      obtain ⟨r0, r1⟩ := rnd30_range _ m0 (by omega)
      have hs := hser.out
      rw [ser_step ds k hlt] at hs
      have HS := Lib.hid hs
      clear hs hser hc
      generalize ds.getD k 0 = d at *
      by_cases hp : k % 2 = 0
      · have he : even k = true := by simp [even, hp]
        have HE := Lib.hid he
        have hp' : ((k : Int) % 2 == 0) = true := by simp; omega
        clear he
        go_wp2_with (go_at_call 83; refine (rounded_lit _ 30 30 rfl (by omega) (by omega) (by decide) (by decide) _).mono ?_; rintro e w' ⟨rfl, rfl⟩)
        go_round
        case rel => exact ⟨k + 1, rnd (x * q) 30 / d, s - rnd (x * q) 30 / d, rfl, rfl, by go_num, hlt, t0, t1, by omega, by omega, by have h := HS.out; rw [HE.out] at h; rw [even_succ, HE.out]; exact h⟩
        case measure => simp [intOf]; omega
      · have he : even k = false := by simp [even, hp]
        have HE := Lib.hid he
        have hp' : ((k : Int) % 2 == 0) = false := by simp; omega
        clear he
        go_wp2_with (go_at_call 83; refine (rounded_lit _ 30 30 rfl (by omega) (by omega) (by decide) (by decide) _).mono ?_; rintro e w' ⟨rfl, rfl⟩)
        go_round
        case rel => exact ⟨k + 1, rnd (x * q) 30 / d, s + rnd (x * q) 30 / d, rfl, rfl, by go_num, hlt, t0, t1, by omega, by omega, by have h := HS.out; rw [HE.out] at h; rw [even_succ, HE.out]; exact h⟩
        case measure => simp [intOf]; omega
    · have hf := hser.out
      have hk' : k = ds.length := by omega
      rw [hk', List.drop_length, serL] at hf
      have HF := Lib.hid hf
      clear hf hser hk'
      go_wp2
      go_ret
      exact ⟨ret_int HF.out, rfl⟩
end Go.Proofs.Ytcmbbmilldhnnaa
/- trig: quarter, Cos, Sin. -/
set_option linter.unusedVariables false
namespace Go.Proofs.Ytcmbbmilldhnnaa
open Go.ChangeShapes Go.WideShapes Go.ChangeAt Go.RowKit

theorem sine_list : ∀ k, k < ([6, 20, 42, 72, 110, 156, 210] : List Int).length → 2 ≤ ([6, 20, 42, 72, 110, 156, 210] : List Int).getD k 0 ∧ ([6, 20, 42, 72, 110, 156, 210] : List Int).getD k 0 ≤ 1000 := by decide
theorem cosine_list : ∀ k, k < ([2, 12, 30, 56, 90, 132, 182] : List Int).length → 2 ≤ ([2, 12, 30, 56, 90, 132, 182] : List Int).getD k 0 ∧ ([2, 12, 30, 56, 90, 132, 182] : List Int).getD k 0 ≤ 1000 := by decide

def RInt (v : Int) (w : World) (e : Ending) (w' : World) : Prop := e = .returned (.int .i64 v) ∧ Below w.heap.size w w'

set_option maxRecDepth 100000 in
set_option maxHeartbeats 1000000 in
theorem quarter_sine (n : Int) (h0 : 256 < n) (h1 : n ≤ 512) (w : World) :
    Calls Try.prog 76 #[.int .i64 n] w (RInt (quartL n) w) := by
  have hq : quartL n = rnd (sineL (512 - n)) 4 := if_pos h0
  rw [hq]
  clear hq
  obtain ⟨m, rfl⟩ : ∃ m, n = 512 - m := ⟨512 - n, by omega⟩
  have hm : 512 - (512 - m) = m := by omega
  rw [hm]
  obtain ⟨a0, a1⟩ := arc_range m (by omega) (by omega)
  obtain ⟨q0, q1⟩ := sq_range m (by omega) (by omega)
  obtain ⟨s0, s1⟩ := sine_range m (by omega) (by omega)
  obtain ⟨m0, m1⟩ := mul_range 1073741824 1073741824 a0 a1 a0 a1
  have ea : Hid (rnd (m * 3454217652358) 20 = arcL m) := rfl
  have eq : Hid (rnd (arcL m * arcL m) 30 = sqL m) := rfl
  have es : Hid (serL [6, 20, 42, 72, 110, 156, 210] true (arcL m) (sqL m) (arcL m) = sineL m) := rfl
  generalize sineL m = S at *
  generalize sqL m = Q at *
  generalize arcL m = A at *
  go_enter Try.func76, Try.ntmps76
  go_wp2_with fail
  refine (rounded_lit _ 20 20 rfl (by omega) (by omega) (by decide) (by decide) _).mono ?_
  rintro e w' ⟨he, rfl⟩
  rw [ea.out] at he
  subst he
  go_wp2_with fail
  refine (rounded_lit _ 30 30 rfl (by omega) (by omega) (by decide) (by decide) _).mono ?_
  rintro e w' ⟨he, rfl⟩
  rw [eq.out] at he
  subst he
  go_wp2_with fail
  refine (series_ok [6, 20, 42, 72, 110, 156, 210] _ _ A Q (by decide) sine_list a0 a1 q0 q1 _ (isInts_new w [6, 20, 42, 72, 110, 156, 210] 3 rfl)).mono ?_
  rintro e w' ⟨he, rfl⟩
  rw [es.out] at he
  subst he
  go_wp2_with fail
  refine (rounded_lit _ 4 4 rfl (by omega) (by omega) (by decide) (by decide) _).mono ?_
  rintro e w' ⟨rfl, rfl⟩
  go_wp2
  go_ret
  exact ⟨rfl, (Below.refl _ _).alloc (Nat.le_refl _) _⟩

set_option maxRecDepth 100000 in
set_option maxHeartbeats 1000000 in
theorem quarter_cosine (n : Int) (h0 : 0 ≤ n) (h1 : n ≤ 256) (w : World) :
    Calls Try.prog 76 #[.int .i64 n] w (RInt (quartL n) w) := by
  have hq : quartL n = rnd (cosineL n) 4 := if_neg (by omega)
  rw [hq]
  clear hq
  obtain ⟨a0, a1⟩ := arc_range n h0 h1
  obtain ⟨q0, q1⟩ := sq_range n h0 h1
  obtain ⟨s0, s1⟩ := cosine_range n h0 h1
  obtain ⟨m0, m1⟩ := mul_range 1073741824 1073741824 a0 a1 a0 a1
  have ea : Hid (rnd (n * 3454217652358) 20 = arcL n) := rfl
  have eq : Hid (rnd (arcL n * arcL n) 30 = sqL n) := rfl
  have es : Hid (serL [2, 12, 30, 56, 90, 132, 182] true 1073741824 (sqL n) 1073741824 = cosineL n) := rfl
  generalize cosineL n = S at *
  generalize sqL n = Q at *
  generalize arcL n = A at *
  go_enter Try.func76, Try.ntmps76
  go_wp2_with fail
  refine (rounded_lit _ 20 20 rfl (by omega) (by omega) (by decide) (by decide) _).mono ?_
  rintro e w' ⟨he, rfl⟩
  rw [ea.out] at he
  subst he
  go_wp2_with fail
  refine (rounded_lit _ 30 30 rfl (by omega) (by omega) (by decide) (by decide) _).mono ?_
  rintro e w' ⟨he, rfl⟩
  rw [eq.out] at he
  subst he
  go_wp2_with fail
  refine (series_ok [2, 12, 30, 56, 90, 132, 182] _ _ 1073741824 Q (by decide) cosine_list (by decide) (by decide) q0 q1 _ (isInts_new w [2, 12, 30, 56, 90, 132, 182] 3 rfl)).mono ?_
  rintro e w' ⟨he, rfl⟩
  rw [es.out] at he
  subst he
  go_wp2_with fail
  refine (rounded_lit _ 4 4 rfl (by omega) (by omega) (by decide) (by decide) _).mono ?_
  rintro e w' ⟨rfl, rfl⟩
  go_wp2
  go_ret
  exact ⟨rfl, (Below.refl _ _).alloc (Nat.le_refl _) _⟩

theorem quarter_ok (n : Int) (h0 : 0 ≤ n) (h1 : n ≤ 512) (w : World) :
    Calls Try.prog 76 #[.int .i64 n] w (RInt (quartL n) w) := by
  by_cases h : 256 < n
  · exact quarter_sine n h h1 w
  · exact quarter_cosine n h0 (by omega) w

theorem quart_range (n : Int) (h0 : 0 ≤ n) (h1 : n ≤ 512) : -67108864 ≤ quartL n ∧ quartL n ≤ 67108864 := by
  have := cos_range n
  have h2 : n % 2048 = n := Int.emod_eq_of_lt h0 (by omega)
  unfold cosL at this
  rw [h2] at this
  simp only [if_neg (show ¬ 1024 < n by omega), if_neg (show ¬ 512 < n by omega)] at this
  exact this

theorem mask2047 (n : Int) : bits .and .i64 n 2047 = n % 2048 := i64_mask n 11 (by decide)

set_option maxRecDepth 100000 in
set_option maxHeartbeats 1000000 in
theorem cos_ok (n : Int) (w : World) : Calls Try.prog 65 #[.int .i64 n] w (RInt (cosL n) w) := by
  have hm := mask2047 n
  have r0 := Int.emod_nonneg n (b := 2048) (by decide)
  have r1 := Int.emod_lt_of_pos n (b := 2048) (by decide)
  have hc : cosL n = if 512 < (if 1024 < n % 2048 then 2048 - n % 2048 else n % 2048) then -quartL (1024 - (if 1024 < n % 2048 then 2048 - n % 2048 else n % 2048)) else quartL (if 1024 < n % 2048 then 2048 - n % 2048 else n % 2048) := rfl
  rw [hc]
  clear hc
  by_cases h1 : 1024 < n % 2048
  · rw [if_pos h1]
    by_cases h2 : 512 < 2048 - n % 2048
    · rw [if_pos h2]
      generalize n % 2048 = r at *
      obtain ⟨b0, b1⟩ := quart_range (1024 - (2048 - r)) (by omega) (by omega)
      go_enter Try.func65, Try.ntmps65
      go_wp2_with (go_at_call 76; refine (quarter_ok _ (by omega) (by omega) _).mono ?_; rintro e w1 ⟨rfl, hb⟩)
      go_ret
      exact ⟨rfl, hb⟩
    · rw [if_neg h2]
      generalize n % 2048 = r at *
      go_enter Try.func65, Try.ntmps65
      go_wp2_with (go_at_call 76; refine (quarter_ok _ (by omega) (by omega) _).mono ?_; rintro e w1 ⟨rfl, hb⟩)
      go_ret
      exact ⟨rfl, hb⟩
  · rw [if_neg h1]
    by_cases h2 : 512 < n % 2048
    · rw [if_pos h2]
      generalize n % 2048 = r at *
      obtain ⟨b0, b1⟩ := quart_range (1024 - r) (by omega) (by omega)
      go_enter Try.func65, Try.ntmps65
      go_wp2_with (go_at_call 76; refine (quarter_ok _ (by omega) (by omega) _).mono ?_; rintro e w1 ⟨rfl, hb⟩)
      go_ret
      exact ⟨rfl, hb⟩
    · rw [if_neg h2]
      generalize n % 2048 = r at *
      go_enter Try.func65, Try.ntmps65
      go_wp2_with (go_at_call 76; refine (quarter_ok _ (by omega) (by omega) _).mono ?_; rintro e w1 ⟨rfl, hb⟩)
      go_ret
      exact ⟨rfl, hb⟩

end Go.Proofs.Ytcmbbmilldhnnaa
/- trig.Sin: what each call answers. -/
set_option linter.unusedVariables false
namespace Go.Proofs.Ytcmbbmilldhnnaa
open Go.ChangeShapes Go.WideShapes Go.ChangeAt Go.RowKit

theorem sin_ok (n : Int) (w : World) : Calls Try.prog 63 #[.int .i64 n] w (RInt (sinL n) w) := by
  have hm := mask2047 n
  have r0 := Int.emod_nonneg n (b := 2048) (by decide)
  have r1 := Int.emod_lt_of_pos n (b := 2048) (by decide)
  unfold sinL
  generalize n % 2048 = r at *
  go_enter Try.func63, Try.ntmps63
  go_wp2_with (go_at_call 65; refine (cos_ok _ _).mono ?_; rintro e w1 ⟨rfl, hb⟩)
  go_ret
  exact ⟨rfl, hb⟩
end Go.Proofs.Ytcmbbmilldhnnaa
/- Sums over a circle; a transform and its way back, in plain numbers. -/
set_option linter.unusedVariables false
set_option linter.unusedSimpArgs false
set_option linter.unusedSectionVars false
namespace Go.Proofs.Ytcmbbmilldhnnaa
/-- What is asked of a circle's cosines, with 26 bits. -/
structure Circle (c : Int → Int) : Prop where
  even : ∀ n, c (-n) = c n
  half : ∀ n, c (n + 1024) = -c n
  zero : c 0 = 67108864
  range : ∀ n, -67108864 ≤ c n ∧ c n ≤ 67108864
  prod : ∀ a b, -201326592 ≤ 2 * (c a * c b) - 67108864 * (c (a + b) + c (a - b)) ∧ 2 * (c a * c b) - 67108864 * (c (a + b) + c (a - b)) ≤ 201326592
namespace Circle
variable {c : Int → Int} (C : Circle c)
include C
theorem turn (n : Int) : c (n + 2048) = c n := by
  rw [show n + 2048 = n + 1024 + 1024 by omega, C.half, C.half]; omega
theorem turns_nat (n : Int) : ∀ k : Nat, c (n + 2048 * k) = c n
  | 0 => by simp
  | k + 1 => by rw [show n + 2048 * ((k + 1 : Nat) : Int) = n + 2048 * k + 2048 by omega, C.turn, turns_nat n k]
theorem turns (n k : Int) : c (n + 2048 * k) = c n := by
  rcases Int.le_total 0 k with h | h
  · obtain ⟨m, rfl⟩ := Int.eq_ofNat_of_zero_le h; exact C.turns_nat n m
  · obtain ⟨m, hm⟩ := Int.eq_ofNat_of_zero_le (show 0 ≤ -k by omega)
    have := C.turns_nat (n + 2048 * k) m
    rw [← this]; congr 1; omega
theorem congr {n m : Int} (h : n % 2048 = m % 2048) : c n = c m := by
  have : n = m + 2048 * (n / 2048 - m / 2048) := by omega
  rw [this, C.turns]
theorem odd_half {n k : Int} (hk : k % 2 = 1) : c (n + 1024 * k) = -c n := by
  rw [show n + 1024 * k = n + 1024 + 2048 * (k / 2) by omega, C.turns, C.half]
end Circle
/-- A sum over a circle. -/
def sumC (c : Int → Int) (t : Int) (n : Nat) : Int := sumF (fun k => c (t * (2 * (k : Int) + 1))) n
theorem sumF_split (f : Nat → Int) (m : Nat) : ∀ n, sumF f (m + n) = sumF f m + sumF (fun k => f (m + k)) n
  | 0 => by simp [sumF]
  | n + 1 => by rw [← Nat.add_assoc, sumF, sumF, sumF_split f m n]; omega
theorem sumF_neg (f : Nat → Int) (n : Nat) : sumF (fun i => -f i) n = -sumF f n := by
  have := sumF_smul (-1) f n
  rw [sumF_congr (g := fun i => -f i) n (fun i _ => by omega)] at this; omega
theorem sumF_rev (f : Nat → Int) : ∀ n, sumF (fun k => f (n - 1 - k)) n = sumF f n
  | 0 => rfl
  | n + 1 => by
    have h := sumF_split (fun k => f (n + 1 - 1 - k)) 1 n
    rw [Nat.add_comm 1 n] at h
    rw [h, sumF, sumF_congr (g := fun k => f (n - 1 - k)) n (fun i hi => by congr 1; omega), sumF_rev f n]
    simp [sumF]; omega
namespace Circle
variable {c : Int → Int} (C : Circle c)
include C
/-- A circle's sums: all of one sign, or nothing. -/
theorem sum_pow : ∀ (r : Nat) (t : Int), t * 2 ^ r % 1024 = 0 →
    sumC c t (2 ^ r) = if t % 2048 = 0 then 67108864 * 2 ^ r else if t % 2048 = 1024 then -(67108864 * 2 ^ r) else 0
  | 0, t, h => by
    have e : sumC c t (2 ^ 0) = c t := by simp [sumC, sumF]
    rw [e]
    simp at h
    rcases (show t % 2048 = 0 ∨ t % 2048 = 1024 by omega) with h0 | h0
    · rw [if_pos h0, C.congr (m := 0) (by omega), C.zero]; rfl
    · rw [if_neg (by omega), if_pos h0, C.congr (m := 0 + 1024) (by omega), C.half, C.zero]; rfl
  | r + 1, t, h => by
    have e1 : (2 : Nat) ^ (r + 1) = 2 ^ r + 2 ^ r := by rw [Nat.pow_succ]; omega
    have e2 : t * 2 ^ (r + 1) = 2 * (t * 2 ^ r) := by rw [Int.pow_succ]; grind
    have hs : sumC c t (2 ^ (r + 1)) = sumC c t (2 ^ r) + sumF (fun k => c (t * (2 * (k : Int) + 1) + 2 * (t * 2 ^ r))) (2 ^ r) := by
      rw [e1]; unfold sumC; rw [sumF_split]
      congr 1
      refine sumF_congr _ (fun k _ => ?_)
      congr 1
      have : ((2 ^ r : Nat) : Int) = (2 : Int) ^ r := by simp
      rw [Int.natCast_add, this]; grind
    rw [e2] at h
    rcases (show 2 * (t * 2 ^ r) % 2048 = 0 ∨ 2 * (t * 2 ^ r) % 2048 = 1024 by omega) with h0 | h0
    · have hk : sumF (fun k => c (t * (2 * (k : Int) + 1) + 2 * (t * 2 ^ r))) (2 ^ r) = sumC c t (2 ^ r) :=
        sumF_congr _ (fun k _ => C.congr (by omega))
      have ih := sum_pow r t (by omega)
      rw [hs, hk, ih, Int.pow_succ]
      generalize (2 : Int) ^ r = p
      by_cases c1 : t % 2048 = 0
      · simp only [c1, if_true]; omega
      · by_cases c2 : t % 2048 = 1024
        · simp only [c1, c2, if_false, if_true]; omega
        · simp only [c1, c2, if_false]; omega
    · have hk : sumF (fun k => c (t * (2 * (k : Int) + 1) + 2 * (t * 2 ^ r))) (2 ^ r) = -sumC c t (2 ^ r) := by
        unfold sumC
        rw [← sumF_neg]
        refine sumF_congr _ (fun k _ => ?_)
        rw [← C.half]
        exact C.congr (by omega)
      have hn : t % 1024 ≠ 0 := by
        intro h1
        have : t * 2 ^ r = 1024 * (t / 1024 * 2 ^ r) := by
          rw [← Int.mul_assoc]; congr 1; omega
        omega
      rw [hs, hk, if_neg (by omega), if_neg (by omega)]; omega
theorem sum_odd (t : Int) (n : Nat) (h : t * n % 1024 = 512) : sumC c t n = 0 := by
  have h1 : sumC c t n = -sumC c t n := by
    unfold sumC
    conv => lhs; rw [← sumF_rev]
    rw [← sumF_neg]
    refine sumF_congr _ (fun k hk => ?_)
    rw [← C.half, ← C.even (t * (2 * (k : Int) + 1) + 1024)]
    apply C.congr
    have : t * (2 * ((n - 1 - k : Nat) : Int) + 1) = 2 * (t * n) - t * (2 * (k : Int) + 1) := by
      rw [show ((n - 1 - k : Nat) : Int) = (n : Int) - 1 - k by omega]; grind
    omega
  omega
theorem sum_all (r : Nat) (t : Int) (h : t * 2 ^ r % 512 = 0) :
    sumC c t (2 ^ r) = if t % 2048 = 0 then 67108864 * 2 ^ r else if t % 2048 = 1024 then -(67108864 * 2 ^ r) else 0 := by
  rcases (show t * 2 ^ r % 1024 = 0 ∨ t * 2 ^ r % 1024 = 512 by omega) with h0 | h0
  · exact C.sum_pow r t h0
  · have hn : t % 1024 ≠ 0 := by
      intro h1
      have : t * 2 ^ r = 1024 * (t / 1024 * 2 ^ r) := by
        rw [← Int.mul_assoc]; congr 1; omega
      omega
    rw [C.sum_odd t (2 ^ r) (by simpa using h0), if_neg (by omega), if_neg (by omega)]
/-- Two rows of a circle together. -/
theorem gram (a b : Int) (n : Nat) : -(201326592 * (n : Int)) ≤ 2 * sumF (fun k => c (a * (2 * (k : Int) + 1)) * c (b * (2 * (k : Int) + 1))) n - 67108864 * (sumC c (a + b) n + sumC c (a - b) n) ∧
    2 * sumF (fun k => c (a * (2 * (k : Int) + 1)) * c (b * (2 * (k : Int) + 1))) n - 67108864 * (sumC c (a + b) n + sumC c (a - b) n) ≤ 201326592 * n := by
  induction n with
  | zero => simp [sumF, sumC]
  | succ n ih =>
    obtain ⟨p, q⟩ := C.prod (a * (2 * (n : Int) + 1)) (b * (2 * (n : Int) + 1))
    rw [← Int.add_mul, ← Int.sub_mul] at p q
    simp only [sumF, sumC] at *
    omega
end Circle

theorem sumF_swap (f : Nat → Nat → Int) (m : Nat) : ∀ n, sumF (fun k => sumF (fun j => f j k) m) n = sumF (fun j => sumF (fun k => f j k) n) m
  | 0 => by
    have := sumF_const 0 m
    simp only [sumF]; omega
  | n + 1 => by rw [sumF, sumF_swap f m n, ← sumF_add]; rfl
theorem sumF_pick (f : Nat → Int) (j : Nat) : ∀ n, sumF (fun i => if i = j then f i else 0) n = if j < n then f j else 0
  | 0 => by simp [sumF]
  | n + 1 => by
    rw [sumF, sumF_pick f j n]
    rcases Nat.lt_trichotomy j n with h | h | h
    · rw [if_pos h, if_neg (by omega), if_pos (by omega)]; omega
    · subst h; rw [if_neg (by omega), if_pos rfl, if_pos (by omega)]; omega
    · rw [if_neg (by omega), if_neg (by omega), if_neg (by omega)]; rfl
/-- How far sums of small things go. -/
theorem sumF_abs (f : Nat → Int) (B : Int) (n : Nat) (h : ∀ i, i < n → -B ≤ f i ∧ f i ≤ B) : -(B * n) ≤ sumF f n ∧ sumF f n ≤ B * n := by
  have a := sumF_mono (f := fun _ => -B) (g := f) n (fun i hi => (h i hi).1)
  have b := sumF_mono (f := f) (g := fun _ => B) n (fun i hi => (h i hi).2)
  rw [sumF_const] at a b
  rw [Int.neg_mul] at a
  exact ⟨a, b⟩
theorem mul_abs {a b A B : Int} (h1 : -A ≤ a) (h2 : a ≤ A) (h3 : -B ≤ b) (h4 : b ≤ B) : -(A * B) ≤ a * b ∧ a * b ≤ A * B := by
  have hA : 0 ≤ A := by omega
  have hB : 0 ≤ B := by omega
  rcases Int.le_total 0 a with ha | ha <;> rcases Int.le_total 0 b with hb | hb
  · have := Int.mul_le_mul h2 h4 hb hA; have := Int.mul_nonneg ha hb; omega
  · have := Int.mul_le_mul h2 (show -b ≤ B by omega) (by omega) hA; have := Int.mul_nonneg ha (show 0 ≤ -b by omega)
    rw [Int.mul_neg] at *; omega
  · have := Int.mul_le_mul (show -a ≤ A by omega) h4 hb hA; have := Int.mul_nonneg (show 0 ≤ -a by omega) hb
    rw [Int.neg_mul] at *; omega
  · have := Int.mul_le_mul (show -a ≤ A by omega) (show -b ≤ B by omega) (by omega) hA; have := Int.mul_nonneg (show 0 ≤ -a by omega) (show 0 ≤ -b by omega)
    rw [Int.neg_mul_neg] at *; omega
/-- The arc of a place, of M = 2^r lines. -/
def arcOf (r : Nat) (n : Nat) : Int := (2 * (n : Int) + 1 + 2 ^ r) * 2 ^ (8 - r)
def foldT (M : Nat) (z : Nat → Int) (n : Nat) : Int := if n < M then z n - z (M - 1 - n) else z n + z (3 * M - 1 - n)
namespace Circle
variable {c : Int → Int} (C : Circle c)
include C
theorem two_pows (r : Nat) (hr : r = 8 ∨ r = 5) : (2 : Int) ^ r * 2 ^ (8 - r) = 256 := by rcases hr with rfl | rfl <;> rfl
theorem diff_sum (r : Nat) (hr : r = 8 ∨ r = 5) (m n : Nat) (hm : m < 2 * 2 ^ r) (hn : n < 2 * 2 ^ r) :
    sumC c (arcOf r m - arcOf r n) (2 ^ r) = if m = n then 67108864 * 2 ^ r else 0 := by
  rcases hr with rfl | rfl
  all_goals
    rw [C.sum_all]
    · unfold arcOf
      simp at *
      by_cases h : m = n
      · rw [if_pos (by omega), if_pos h]
      · rw [if_neg (by omega), if_neg (by omega), if_neg h]
    · unfold arcOf; simp; omega
theorem plus_low (r : Nat) (hr : r = 8 ∨ r = 5) (m n : Nat) (hm : m < 2 * 2 ^ r) (hn : n < 2 ^ r) :
    sumC c (arcOf r m + arcOf r n) (2 ^ r) = if m = 2 ^ r - 1 - n then -(67108864 * 2 ^ r) else 0 := by
  rcases hr with rfl | rfl
  all_goals
    rw [C.sum_all]
    · unfold arcOf
      simp at *
      first
      | (by_cases h : m = 255 - n
         · rw [if_neg (by omega), if_pos (by omega), if_pos h]
         · rw [if_neg (by omega), if_neg (by omega), if_neg h]; done)
      | (by_cases h : m = 31 - n
         · rw [if_neg (by omega), if_pos (by omega), if_pos h]
         · rw [if_neg (by omega), if_neg (by omega), if_neg h]; done)
    · unfold arcOf; simp; omega
theorem plus_high (r : Nat) (hr : r = 8 ∨ r = 5) (m n : Nat) (hm : m < 2 * 2 ^ r) (hn : 2 ^ r ≤ n) (hn2 : n < 2 * 2 ^ r) :
    sumC c (arcOf r m + arcOf r n) (2 ^ r) = if m = 3 * 2 ^ r - 1 - n then 67108864 * 2 ^ r else 0 := by
  rcases hr with rfl | rfl
  all_goals
    rw [C.sum_all]
    · unfold arcOf
      simp at *
      first
      | (by_cases h : m = 767 - n
         · rw [if_pos (by omega), if_pos h]
         · rw [if_neg (by omega), if_neg (by omega), if_neg h]; done)
      | (by_cases h : m = 95 - n
         · rw [if_pos (by omega), if_pos h]
         · rw [if_neg (by omega), if_neg (by omega), if_neg h]; done)
    · unfold arcOf; simp; omega
/-- All that two rows' sums come to, times samples. -/
theorem fold_sum (r : Nat) (hr : r = 8 ∨ r = 5) (z : Nat → Int) (n : Nat) (hn : n < 2 * 2 ^ r) :
    sumF (fun m => z m * (sumC c (arcOf r m + arcOf r n) (2 ^ r) + sumC c (arcOf r m - arcOf r n) (2 ^ r))) (2 * 2 ^ r) = 67108864 * 2 ^ r * foldT (2 ^ r) z n := by
  have hp : 0 < 2 ^ r := Nat.pow_pos (by decide)
  have e1 : sumF (fun m => z m * sumC c (arcOf r m - arcOf r n) (2 ^ r)) (2 * 2 ^ r) = 67108864 * 2 ^ r * z n := by
    rw [sumF_congr (g := fun m => if m = n then (67108864 * 2 ^ r) * z m else 0) _ (fun m hm => by
      rw [C.diff_sum r hr m n hm hn]; split <;> simp [Int.mul_comm]), sumF_pick, if_pos hn]
  rw [sumF_congr (g := fun m => z m * sumC c (arcOf r m + arcOf r n) (2 ^ r) + z m * sumC c (arcOf r m - arcOf r n) (2 ^ r)) _ (fun m _ => Int.mul_add _ _ _), sumF_add, e1]
  unfold foldT
  split
  · rename_i h
    rw [sumF_congr (g := fun m => if m = 2 ^ r - 1 - n then (-(67108864 * 2 ^ r)) * z m else 0) _ (fun m hm => by
      rw [C.plus_low r hr m n hm h]; split <;> simp [Int.mul_comm]), sumF_pick, if_pos (by omega)]
    grind
  · rename_i h
    rw [sumF_congr (g := fun m => if m = 3 * 2 ^ r - 1 - n then (67108864 * 2 ^ r) * z m else 0) _ (fun m hm => by
      rw [C.plus_high r hr m n hm (by omega) hn]; split <;> simp [Int.mul_comm]), sumF_pick, if_pos (by omega)]
    grind
/-- The lines, forward; X is each rounded off by 33 bits; what they come back to, ahead of rounding. -/
theorem back_near (r : Nat) (hr : r = 8 ∨ r = 5) (z X : Nat → Int) (hz : ∀ m, m < 2 * 2 ^ r → -8388608 ≤ z m ∧ z m ≤ 8388608)
    (hX : ∀ k : Nat, k < 2 ^ r → -4294967296 ≤ sumF (fun m => z m * c (arcOf r m * (2 * (k : Int) + 1))) (2 * 2 ^ r) - 8589934592 * X k ∧ sumF (fun m => z m * c (arcOf r m * (2 * (k : Int) + 1))) (2 * 2 ^ r) - 8589934592 * X k ≤ 4294967296)
    (n : Nat) (hn : n < 2 * 2 ^ r) :
    -(320 * 2 ^ (18 + r)) ≤ sumF (fun k => X k * c (arcOf r n * (2 * (k : Int) + 1))) (2 ^ r) - 2 ^ (18 + r) * foldT (2 ^ r) z n ∧
    sumF (fun k => X k * c (arcOf r n * (2 * (k : Int) + 1))) (2 ^ r) - 2 ^ (18 + r) * foldT (2 ^ r) z n ≤ 320 * 2 ^ (18 + r) := by
  -- the rounding of the lines
  have hE2 := sumF_abs (fun k => (sumF (fun m => z m * c (arcOf r m * (2 * (k : Int) + 1))) (2 * 2 ^ r) - 8589934592 * X k) * c (arcOf r n * (2 * (k : Int) + 1))) (4294967296 * 67108864) (2 ^ r) (fun k hk => by
    obtain ⟨a, b⟩ := hX k hk
    obtain ⟨p, q⟩ := C.range (arcOf r n * (2 * (k : Int) + 1))
    exact mul_abs a b p q)
  -- the rows' products
  have hE1 := sumF_abs (fun m => z m * (2 * sumF (fun k => c (arcOf r m * (2 * (k : Int) + 1)) * c (arcOf r n * (2 * (k : Int) + 1))) (2 ^ r) - 67108864 * (sumC c (arcOf r m + arcOf r n) (2 ^ r) + sumC c (arcOf r m - arcOf r n) (2 ^ r)))) (8388608 * (201326592 * ((2 ^ r : Nat) : Int))) (2 * 2 ^ r) (fun m hm => by
    obtain ⟨a, b⟩ := hz m hm
    obtain ⟨p, q⟩ := C.gram (arcOf r m) (arcOf r n) (2 ^ r)
    exact mul_abs a b p q)
  have hF := C.fold_sum r hr z n hn
  have s1 : sumF (fun m => z m * (2 * sumF (fun k => c (arcOf r m * (2 * (k : Int) + 1)) * c (arcOf r n * (2 * (k : Int) + 1))) (2 ^ r) - 67108864 * (sumC c (arcOf r m + arcOf r n) (2 ^ r) + sumC c (arcOf r m - arcOf r n) (2 ^ r)))) (2 * 2 ^ r) =
      2 * sumF (fun k => sumF (fun m => z m * c (arcOf r m * (2 * (k : Int) + 1))) (2 * 2 ^ r) * c (arcOf r n * (2 * (k : Int) + 1))) (2 ^ r) - 67108864 * (67108864 * 2 ^ r * foldT (2 ^ r) z n) := by
    have e : sumF (fun k => sumF (fun m => z m * c (arcOf r m * (2 * (k : Int) + 1))) (2 * 2 ^ r) * c (arcOf r n * (2 * (k : Int) + 1))) (2 ^ r) = sumF (fun m => z m * sumF (fun k => c (arcOf r m * (2 * (k : Int) + 1)) * c (arcOf r n * (2 * (k : Int) + 1))) (2 ^ r)) (2 * 2 ^ r) := by
      rw [sumF_congr (g := fun k => sumF (fun m => z m * (c (arcOf r m * (2 * (k : Int) + 1)) * c (arcOf r n * (2 * (k : Int) + 1)))) (2 * 2 ^ r)) _ (fun k _ => by
        rw [Int.mul_comm, ← sumF_smul]; exact sumF_congr _ (fun m _ => by grind)), sumF_swap]
      exact sumF_congr _ (fun m _ => sumF_smul _ _ _)
    rw [← hF, e, ← sumF_smul, ← sumF_smul]
    have : ∀ (f g : Nat → Int) (n : Nat), sumF f n - sumF g n = sumF (fun i => f i - g i) n := by
      intro f g n; have := sumF_add f (fun i => -g i) n; rw [sumF_neg] at this
      rw [sumF_congr (f := fun i => f i - g i) (g := fun i => f i + -g i) n (fun i _ => by omega)]; omega
    rw [this]
    exact sumF_congr _ (fun m _ => by grind)
  have s2 : sumF (fun k => (sumF (fun m => z m * c (arcOf r m * (2 * (k : Int) + 1))) (2 * 2 ^ r) - 8589934592 * X k) * c (arcOf r n * (2 * (k : Int) + 1))) (2 ^ r) =
      sumF (fun k => sumF (fun m => z m * c (arcOf r m * (2 * (k : Int) + 1))) (2 * 2 ^ r) * c (arcOf r n * (2 * (k : Int) + 1))) (2 ^ r) - 8589934592 * sumF (fun k => X k * c (arcOf r n * (2 * (k : Int) + 1))) (2 ^ r) := by
    rw [← sumF_smul]
    have : ∀ (f g : Nat → Int) (n : Nat), sumF f n - sumF g n = sumF (fun i => f i - g i) n := by
      intro f g n; have := sumF_add f (fun i => -g i) n; rw [sumF_neg] at this
      rw [sumF_congr (f := fun i => f i - g i) (g := fun i => f i + -g i) n (fun i _ => by omega)]; omega
    rw [this]
    exact sumF_congr _ (fun m _ => by grind)
  rw [s1] at hE1
  rw [s2] at hE2
  generalize sumF (fun k => sumF (fun m => z m * c (arcOf r m * (2 * (k : Int) + 1))) (2 * 2 ^ r) * c (arcOf r n * (2 * (k : Int) + 1))) (2 ^ r) = P at *
  generalize sumF (fun k => X k * c (arcOf r n * (2 * (k : Int) + 1))) (2 ^ r) = Y at *
  generalize foldT (2 ^ r) z n = v at *
  rcases hr with rfl | rfl
  · simp at hE1 hE2 ⊢; omega
  · simp at hE1 hE2 ⊢; omega
end Circle

end Go.Proofs.Ytcmbbmilldhnnaa
/- mdct.made: the circle. -/
set_option linter.unusedVariables false
namespace Go.Proofs.Ytcmbbmilldhnnaa
open Go.ChangeShapes Go.WideShapes Go.ChangeAt Go.RowKit

def zeroC : Array Value := Array.replicate 2048 (.int .i64 0)
theorem Try.zeroCircle (w : World) : Sem.run Try.prog (zeroValue 95) w = .ok (.agg zeroC) w := by kernel_rfl
theorem zeroC_size : zeroC.size = 2048 := by simp [zeroC]
/-- A circle's cosines lie in a block. -/
def CirAt (w : World) (g : Nat) : Prop := g < w.heap.size ∧ ∀ j : Nat, j < 2048 → w.cell? ⟨g, j, none⟩ = some (.int .i64 (cosL j))
theorem CirAt.keep {w w' : World} {g B : Nat} (h : CirAt w g) (hb : Below B w w') (hB : g < B) : CirAt w' g :=
  ⟨Nat.lt_of_lt_of_le h.1 hb.size, fun j hj => (hb.cell (p := ⟨g, j, none⟩) hB).trans (h.2 j hj)⟩
theorem CirAt.setCell {w : World} {g : Nat} (h : CirAt w g) (a : Addr) (u : Value) (hne : g ≠ a.block) : CirAt (w.setCell a u) g :=
  ⟨by simpa [World.setCell] using h.1, fun j hj => (World.cell?_of_block (Below.heap_setCell _ _ _ _ hne)).trans (h.2 j hj)⟩
theorem CirAt.drewN {w : World} {g : Nat} (h : CirAt w g) (n : Nat) : CirAt (w.drewN n) g := h
def RMade (w : World) (e : Ending) (w' : World) : Prop := ∃ g : Nat, e = .returned (.pointer (some ⟨g, 0, none⟩)) ∧ CirAt w' g ∧ w.heap.size ≤ g ∧ Below w.heap.size w w'
theorem owns_new (w : World) (cur : Array Value) (e : TypeId) (n : Nat) (hs : cur.size = n) (hn : n ≤ maxLen) : (w.alloc (.cells cur e)).ownsRow w.heap.size e 1 (.slice (some ⟨w.heap.size, 0, none⟩) n n) n cur.toList := by
  refine ⟨by simp [hs], .inr ⟨w.heap.size, n, cur, rfl, Nat.le_refl _, ?_, Nat.le_refl _, hn, by simp [hs], ?_⟩⟩
  · show ((w.heap.push _))[w.heap.size]? = _
    simp
  · rw [List.take_of_length_le (by simp [hs])]
set_option maxRecDepth 100000 in
set_option maxHeartbeats 1000000 in
theorem made_ok (w : World) : Calls Try.prog 57 #[] w (RMade w) := by
  have hz := Try.zeroCircle
  have hown := owns_new w zeroC 95 2048 zeroC_size (by decide)
  have hl : zeroC.toList.length = 2048 := by simp [zeroC_size]
  generalize zeroC = z at hz hown hl
  have hb0 : Below w.heap.size w (w.alloc (.cells z 95)) := (Below.refl _ _).alloc (Nat.le_refl _) _
  have hg0 : w.heap.size < (w.alloc (.cells z 95)).heap.size := by simp
  have HO := Lib.hid hown
  clear hown
  go_enter Try.func57, Try.ntmps57
  go_wp2
  go_loopw [3] (fun I wr => ∃ (k : Nat) (xs : List Value), I = .int .i64 k ∧ k ≤ 2048 ∧ Hid (wr.ownsRow w.heap.size 95 1 (.slice (some ⟨w.heap.size, 0, none⟩) 2048 2048) 2048 xs) ∧ xs.length = 2048 ∧ Below w.heap.size w wr ∧ w.heap.size < wr.heap.size ∧ Hid (∀ j : Nat, j < k → xs[j]? = some (.int .i64 (cosL j)))) (fun I _ => 2048 - (intOf I).toNat)
  case atStart => exact ⟨0, _, rfl, by decide, HO, hl, hb0, hg0, Lib.hid (fun _ h => absurd h (Nat.not_lt_zero _))⟩
  case round =>
    obtain ⟨k, xs, rfl, hk, hO, hlenO, hbq, hgq, hxs⟩ := hrel
    by_cases hlt : k < 2048
    · have HC := Lib.hid (fun W => cos_ok k W)
      generalize hv : cosL (k : Int) = v at HC
      have HV := Lib.hid hv
      clear hv HO hz
      go_wp2_with fail
      refine (HC.out _).mono ?_
      rintro e w4 ⟨rfl, hb4⟩
      have hO2 := owns_keep hO.out hb4
      have hbq2 := hbq.trans (hb4.mono hbq.size)
      have hsz := Nat.lt_of_lt_of_le hgq hb4.size
      have hc := hO2.cellAt k (by omega)
      rw [List.getElem?_eq_getElem (by omega)] at hc
      have hf := hO2.frozenAt k
      have hO3 := Lib.hid (hO2.stored k (.int .i64 v)).1
      have hb6 : Below w.heap.size w (w4.setCell ⟨w.heap.size, k, none⟩ (.int .i64 v)) := hbq2.setCell (p := ⟨w.heap.size, k, none⟩) (Nat.le_refl _) _
      have hxs2 : Hid (∀ j : Nat, j < k + 1 → (xs.set k (.int .i64 v))[j]? = some (.int .i64 (cosL j))) := by
        intro j hj
        by_cases e : j = k
        · rw [e, List.getElem?_set_self (by omega), HV.out]
        · rw [List.getElem?_set_ne (by omega)]; exact hxs.out j (by omega)
      clear hxs hb4 hO hO2 hbq hbq2 HC
      go_wp2
      exact ⟨⟨k + 1, _, by go_num, by omega, hO3, by simp [hlenO], hb6, by simpa [World.setCell] using hsz, hxs2⟩, by simp [intOf]; omega⟩
    · have hkM : k = 2048 := by omega
      subst hkM
      go_wp2
      go_ret
      refine ⟨w.heap.size, rfl, ⟨hgq, fun j hj => ?_⟩, Nat.le_refl _, hbq⟩
      rw [hO.out.cellAt j (by omega)]
      exact hxs.out j hj
end Go.Proofs.Ytcmbbmilldhnnaa
/- mdct.sums: what each call answers, by either arc. -/
set_option linter.unusedVariables false
namespace Go.Proofs.Ytcmbbmilldhnnaa
open Go.ChangeShapes Go.WideShapes Go.ChangeAt Go.RowKit

/-- A sum of numbers times cosines, over an arc that goes on. -/
def sumX (l : List Int) (a b : Int) (k : Nat) : Int := sumF (fun j => l.getD j 0 * cosL (a + b * j)) k
theorem sumX_succ (l : List Int) (a b : Int) (k : Nat) : sumX l a b (k + 1) = sumX l a b k + l.getD k 0 * cosL (a + b * k) := rfl
theorem sumX_range (l : List Int) (a b B : Int) (hl : ∀ j, j < l.length → -B ≤ l.getD j 0 ∧ l.getD j 0 ≤ B) : ∀ k, k ≤ l.length → -(B * 67108864 * k) ≤ sumX l a b k ∧ sumX l a b k ≤ B * 67108864 * k
  | 0, _ => by simp [sumX, sumF]
  | k + 1, hk => by
    obtain ⟨p, q⟩ := sumX_range l a b B hl k (by omega)
    obtain ⟨r, s⟩ := hl k (by omega)
    obtain ⟨t, u⟩ := cos_range (a + b * k)
    have := mul_abs r s t u
    rw [sumX_succ]
    have e : B * 67108864 * ((k + 1 : Nat) : Int) = B * 67108864 * k + B * 67108864 := by rw [Int.natCast_add]; grind
    rw [e]
    omega
theorem row_eq {xs : List Value} {m : Nat} {f : Nat → Int} (hl : xs.length = m) (h : ∀ j, j < m → xs[j]? = some (.int .i64 (f j))) : xs = ((List.range m).map f).map (Value.int .i64) := by
  apply List.ext_getElem?
  intro j
  by_cases hj : j < m
  · rw [h j hj]; simp [hj]
  · rw [List.getElem?_eq_none (by omega), List.getElem?_eq_none (by simp; omega)]
def RFull (f : Nat → Int) (n : Nat) (w : World) (e : Ending) (w' : World) : Prop :=
  ∃ g : Nat, e = .returned (.slice (some ⟨g, 0, none⟩) n n) ∧ w'.ownsRow w.heap.size 3 1 (.slice (some ⟨g, 0, none⟩) n n) n (((List.range n).map f).map (Value.int .i64)) ∧ Below w.heap.size w w'
def RArc (a b : Int) (w : World) (e : Ending) (w' : World) : Prop := e = .returned (.tuple #[.int .i64 a, .int .i64 b]) ∧ ∃ n, w' = w.drewN n

set_option maxRecDepth 100000 in
set_option maxHeartbeats 4000000 in
theorem sums_fwd (l : List Int) (p : Option Addr) (cap many bits ga : Nat) (m B : Int) (fa fb : Nat → Int) (w : World) (hI : IsInts w p l) (hga : ga < w.heap.size) (hm : w.cell? ⟨ga, 0, none⟩ = some (.int .i64 m))
    (hcall : ∀ (i : Nat) W, i < many → W.cell? ⟨ga, 0, none⟩ = some (.int .i64 m) → Calls Try.prog 44 #[.int .i64 i, .pointer (some ⟨ga, 0, none⟩)] W (RArc (fa i) (fb i) W))
    (hl : l.length ≤ 512) (hmany : many ≤ 512) (hbits : bits ≤ 62) (hB0 : 0 ≤ B) (hBB : B ≤ 68719476736) (hB : B * l.length ≤ 68719476736) (hlB : ∀ j, j < l.length → -B ≤ l.getD j 0 ∧ l.getD j 0 ≤ B)
    (hfa : ∀ i, i < many → -10000000 ≤ fa i ∧ fa i ≤ 10000000) (hfb : ∀ i, i < many → -100000 ≤ fb i ∧ fb i ≤ 100000) :
    Calls Try.prog 43 #[.slice p l.length cap, .int .i64 many, .int .i64 bits, .func (.func 44) #[] #[.pointer (some ⟨ga, 0, none⟩)]] w (RFull (fun i => rnd (sumX l (fa i) (fb i) l.length) bits) many w) := by
  obtain ⟨i0, hi, hz0, hz1, hz2⟩ := info_parts Try.infoInt
  have HI := Lib.hid hI
  have HM := Lib.hid hm
  have HC := Lib.hid hcall
  have HLB := Lib.hid hlB
  have HFA := Lib.hid hfa
  have HFB := Lib.hid hfb
  have SR : Hid (∀ i k, k ≤ l.length → -4611686018427387904 ≤ sumX l (fa i) (fb i) k ∧ sumX l (fa i) (fb i) k ≤ 4611686018427387904) := by
    intro i k hk
    have h := sumX_range l (fa i) (fb i) B hlB k hk
    have : B * 67108864 * (k : Int) ≤ 4611686018427387904 := by
      have h1 := Int.mul_le_mul_of_nonneg_left (show (k : Int) ≤ l.length by omega) hB0
      have e : B * 67108864 * (k : Int) = B * k * 67108864 := by grind
      rw [e]; omega
    omega
  clear hI hm hcall hlB hfa hfb hB
  go_enter Try.func43, Try.ntmps43
  go_wp2_with fail
  refine (made_ok _).mono ?_
  rintro e w1 ⟨gc, rfl, hcir, hgc, hb1⟩
  have HC1 := Lib.hid hcir
  have HI1 := Lib.hid (HI.out.inB.keep hb1 (Nat.le_refl _))
  have HM1 := Lib.hid ((hb1.cell (p := ⟨ga, 0, none⟩) hga).trans HM.out)
  have hsz1 := hb1.size
  have hgc1 := hcir.1
  clear hcir HI HM
  go_wp2_with (at_make; refine wpList_make_full _ rfl _ _ 22 rfl w1.heap.size 3 i0 (.int .i64 0) 1 Try.underlying22 hi hz0 hz1 .i64 .i64 _ _ many rfl rfl ?hL ?hC ?b2 ?b3 ?b4 ?_)
  case hL => rfl
  case hC => rfl
  case b2 => rw [hz2]; omega
  case b3 => unfold maxLen; omega
  case b4 => exact Nat.le_refl _
  intro w2 hown hgrow
  have hb2 : Below w1.heap.size w1 w2 := (Below.refl _ _).grown hgrow (by simp) (by simp)
  have hg2 : w1.heap.size < w2.heap.size := (hown.lt _ rfl).2
  have hown1 : w2.ownsRow w1.heap.size 3 1 (.slice (some ⟨w1.heap.size, 0, none⟩) many many) many (List.replicate many (.int .i64 0)) := by
    have e := toList_madeCells_one (.int .i64 0) many
    rw [← e]; simpa using hown
  have HO := Lib.hid hown1
  clear hgrow hown hown1
  go_wp2
  go_loopw [22] (fun I wr => ∃ (k : Nat) (xs : List Value), I = .int .i64 k ∧ k ≤ many ∧ Hid (wr.ownsRow w1.heap.size 3 1 (.slice (some ⟨w1.heap.size, 0, none⟩) many many) many xs) ∧ xs.length = many ∧ Below w1.heap.size w1 wr ∧ w1.heap.size < wr.heap.size ∧ Hid (∀ j : Nat, j < k → xs[j]? = some (.int .i64 (rnd (sumX l (fa j) (fb j) l.length) bits)))) (fun I _ => many - (intOf I).toNat)
  case atStart => exact ⟨0, _, rfl, Nat.zero_le _, HO, by simp, hb2, hg2, Lib.hid (fun _ h => absurd h (Nat.not_lt_zero _))⟩
  case round =>
    obtain ⟨k, xs, rfl, hk, hO, hlenO, hbq, hgq, hxs⟩ := hrel
    clear HO hb2 hg2
    by_cases hlt : k < many
    · have HMr := (hbq.cell (p := ⟨ga, 0, none⟩) (show ga < w1.heap.size by omega)).trans HM1.out
      have HK := Lib.hid (HC.out k wr hlt HMr)
      have HCr := Lib.hid (HC1.out.keep hbq hgc1)
      have HIr := Lib.hid (HI1.out.keep hbq hsz1)
      obtain ⟨a0, a1⟩ := HFA.out k hlt
      obtain ⟨b0, b1⟩ := HFB.out k hlt
      have SRk := Lib.hid (SR.out k)
      have HV : Hid (rnd (sumX l (fa k) (fb k) l.length) bits = rnd (sumX l (fa k) (fb k) l.length) bits) := rfl
      generalize ha : fa k = A at HK a0 a1 SRk HV
      generalize hbb : fb k = D at HK b0 b1 SRk HV
      have HA := Lib.hid ha
      have HD := Lib.hid hbb
      clear HMr ha hbb
      go_wp2_with fail
      refine HK.out.mono ?_
      rintro e w3 ⟨rfl, n3, rfl⟩
      clear HK
      go_wp2
      go_loop [14, 12, 33] (fun S T J => ∃ (j : Nat) (t : Int), S = .int .i64 (sumX l A D j) ∧ T = .int .i64 t ∧ J = .int .i64 j ∧ j ≤ l.length ∧ Hid (t = A + D * j) ∧ -100000000 ≤ t ∧ t ≤ 100000000) (fun _ _ J => l.length - (intOf J).toNat)
      case atStart => exact ⟨0, A, rfl, rfl, rfl, Nat.zero_le _, Lib.hid (by simp), by omega, by omega⟩
      case round =>
        obtain ⟨j, t, rfl, rfl, rfl, hj, ht, t0, t1⟩ := hrel
        by_cases hjl : j < l.length
        · obtain ⟨b, off, rfl, h1⟩ := (HIr.out.drewN n3).at hjl
          have h2 := (HCr.out.drewN n3).2 (t % 2048).toNat (by omega)
          have hm := mask2047 t
          obtain ⟨r0, r1⟩ : 0 ≤ t % 2048 ∧ t % 2048 < 2048 := ⟨Int.emod_nonneg _ (by decide), Int.emod_lt_of_pos _ (by decide)⟩
          rw [Int.toNat_of_nonneg r0, cos_mod] at h2
          obtain ⟨s0, s1⟩ := SRk.out j (by omega)
          obtain ⟨s2, s3⟩ := SRk.out (j + 1) (by omega)
          have hst := sumX_succ l A D j
          rw [← ht.out] at hst
          rw [hst] at s2 s3
          have HS := Lib.hid hst
          obtain ⟨l0, l1⟩ := HLB.out j hjl
          obtain ⟨c0, c1⟩ := cos_range t
          have hp := mul_abs l0 l1 c0 c1
          obtain ⟨p0, p1⟩ := hp
          have ht2 : Hid (t + D = A + D * ((j + 1 : Nat) : Int)) := by
            have := ht.out
            show _ = _
            rw [this, Int.natCast_add]; grind
          have hn2 : -100000000 ≤ t + D ∧ t + D ≤ 100000000 := by
            have e := ht2.out
            have m1 := mul_abs b0 b1 (show -(512 : Int) ≤ ((j + 1 : Nat) : Int) by omega) (show ((j + 1 : Nat) : Int) ≤ 512 by omega)
            omega
          obtain ⟨q0, q1⟩ := hn2
          generalize l.getD j 0 = x at h1 l0 l1 p0 p1 s2 s3 HS
          generalize cosL t = y at h2 c0 c1 p0 p1 s2 s3 HS
          generalize sumX l A D j = S at s0 s1 s2 s3 HS ⊢
          have p2 : -(68719476736 * 67108864) ≤ x * y := by omega
          have p3 : x * y ≤ 68719476736 * 67108864 := by omega
          clear hst p0 p1
          go_wp2
          go_round
          case rel => exact ⟨j + 1, t + D, congrArg (Value.int .i64) HS.out.symm, rfl, by go_num, by omega, ht2, q0, q1⟩
          case measure => simp [intOf]; omega
        · have hjn : j = l.length := by omega
          subst hjn
          obtain ⟨s0, s1⟩ := SRk.out l.length (Nat.le_refl _)
          have HR := Lib.hid (fun W => round_ok (sumX l A D l.length) bits s0 s1 hbits W)
          obtain ⟨v, hv⟩ : ∃ v, rnd (sumX l A D l.length) bits = v := ⟨_, rfl⟩
          have HVv := Lib.hid hv
          have hbq3 : Below w1.heap.size w1 (wr.drewN n3) := below_drewN hbq n3
          clear hv
          go_wp2_with fail
          refine (HR.out _).mono ?_
          rintro e w4 ⟨rfl, n4, hw4⟩
          rw [HVv.out]
          have hO2 : w4.ownsRow w1.heap.size 3 1 (.slice (some ⟨w1.heap.size, 0, none⟩) many many) many xs := hw4 ▸ hO.out
          have hbq4 : Below w1.heap.size w1 w4 := hw4 ▸ below_drewN hbq3 n4
          have hsz4 : w1.heap.size < w4.heap.size := hw4 ▸ hgq
          have hc := hO2.cellAt k (by omega)
          rw [List.getElem?_eq_getElem (by omega)] at hc
          have hf := hO2.frozenAt k
          have hO3 := Lib.hid (hO2.stored k (.int .i64 v)).1
          have hb6 : Below w1.heap.size w1 (w4.setCell ⟨w1.heap.size, k, none⟩ (.int .i64 v)) := hbq4.setCell (p := ⟨w1.heap.size, k, none⟩) (Nat.le_refl _) _
          have hxs2 : Hid (∀ j : Nat, j < k + 1 → (xs.set k (.int .i64 v))[j]? = some (.int .i64 (rnd (sumX l (fa j) (fb j) l.length) bits))) := by
            intro j hj
            by_cases e : j = k
            · rw [e, List.getElem?_set_self (by omega), HA.out, HD.out, HVv.out]
            · rw [List.getElem?_set_ne (by omega)]; exact hxs.out j (by omega)
          clear hxs hO hO2 hw4 hbq hbq3 hbq4 HR HIr HCr
          go_wp2
          exact ⟨⟨k + 1, _, by go_num, by omega, hO3, by simp [hlenO], hb6, by simpa [World.setCell] using hsz4, hxs2⟩, by simp [intOf]; omega⟩
    · have hkM : k = many := by omega
      subst hkM
      have HE := Lib.hid (row_eq hlenO hxs.out)
      clear hxs
      go_wp2
      go_ret
      refine ⟨w1.heap.size, rfl, ?_, ?_⟩
      · have := HE.out
        rw [this] at hO
        exact owns_lower hO.out hsz1
      · exact hb1.trans (hbq.mono hsz1)

set_option maxRecDepth 100000 in
set_option maxHeartbeats 4000000 in
theorem sums_inv (l : List Int) (p : Option Addr) (cap many bits ga : Nat) (m B : Int) (fa fb : Nat → Int) (w : World) (hI : IsInts w p l) (hga : ga < w.heap.size) (hm : w.cell? ⟨ga, 0, none⟩ = some (.int .i64 m))
    (hcall : ∀ (i : Nat) W, i < many → W.cell? ⟨ga, 0, none⟩ = some (.int .i64 m) → Calls Try.prog 51 #[.int .i64 i, .pointer (some ⟨ga, 0, none⟩)] W (RArc (fa i) (fb i) W))
    (hl : l.length ≤ 512) (hmany : many ≤ 512) (hbits : bits ≤ 62) (hB0 : 0 ≤ B) (hBB : B ≤ 68719476736) (hB : B * l.length ≤ 68719476736) (hlB : ∀ j, j < l.length → -B ≤ l.getD j 0 ∧ l.getD j 0 ≤ B)
    (hfa : ∀ i, i < many → -10000000 ≤ fa i ∧ fa i ≤ 10000000) (hfb : ∀ i, i < many → -100000 ≤ fb i ∧ fb i ≤ 100000) :
    Calls Try.prog 43 #[.slice p l.length cap, .int .i64 many, .int .i64 bits, .func (.func 51) #[] #[.pointer (some ⟨ga, 0, none⟩)]] w (RFull (fun i => rnd (sumX l (fa i) (fb i) l.length) bits) many w) := by
  obtain ⟨i0, hi, hz0, hz1, hz2⟩ := info_parts Try.infoInt
  have HI := Lib.hid hI
  have HM := Lib.hid hm
  have HC := Lib.hid hcall
  have HLB := Lib.hid hlB
  have HFA := Lib.hid hfa
  have HFB := Lib.hid hfb
  have SR : Hid (∀ i k, k ≤ l.length → -4611686018427387904 ≤ sumX l (fa i) (fb i) k ∧ sumX l (fa i) (fb i) k ≤ 4611686018427387904) := by
    intro i k hk
    have h := sumX_range l (fa i) (fb i) B hlB k hk
    have : B * 67108864 * (k : Int) ≤ 4611686018427387904 := by
      have h1 := Int.mul_le_mul_of_nonneg_left (show (k : Int) ≤ l.length by omega) hB0
      have e : B * 67108864 * (k : Int) = B * k * 67108864 := by grind
      rw [e]; omega
    omega
  clear hI hm hcall hlB hfa hfb hB
  go_enter Try.func43, Try.ntmps43
  go_wp2_with fail
  refine (made_ok _).mono ?_
  rintro e w1 ⟨gc, rfl, hcir, hgc, hb1⟩
  have HC1 := Lib.hid hcir
  have HI1 := Lib.hid (HI.out.inB.keep hb1 (Nat.le_refl _))
  have HM1 := Lib.hid ((hb1.cell (p := ⟨ga, 0, none⟩) hga).trans HM.out)
  have hsz1 := hb1.size
  have hgc1 := hcir.1
  clear hcir HI HM
  go_wp2_with (at_make; refine wpList_make_full _ rfl _ _ 22 rfl w1.heap.size 3 i0 (.int .i64 0) 1 Try.underlying22 hi hz0 hz1 .i64 .i64 _ _ many rfl rfl ?hL ?hC ?b2 ?b3 ?b4 ?_)
  case hL => rfl
  case hC => rfl
  case b2 => rw [hz2]; omega
  case b3 => unfold maxLen; omega
  case b4 => exact Nat.le_refl _
  intro w2 hown hgrow
  have hb2 : Below w1.heap.size w1 w2 := (Below.refl _ _).grown hgrow (by simp) (by simp)
  have hg2 : w1.heap.size < w2.heap.size := (hown.lt _ rfl).2
  have hown1 : w2.ownsRow w1.heap.size 3 1 (.slice (some ⟨w1.heap.size, 0, none⟩) many many) many (List.replicate many (.int .i64 0)) := by
    have e := toList_madeCells_one (.int .i64 0) many
    rw [← e]; simpa using hown
  have HO := Lib.hid hown1
  clear hgrow hown hown1
  go_wp2
  go_loopw [22] (fun I wr => ∃ (k : Nat) (xs : List Value), I = .int .i64 k ∧ k ≤ many ∧ Hid (wr.ownsRow w1.heap.size 3 1 (.slice (some ⟨w1.heap.size, 0, none⟩) many many) many xs) ∧ xs.length = many ∧ Below w1.heap.size w1 wr ∧ w1.heap.size < wr.heap.size ∧ Hid (∀ j : Nat, j < k → xs[j]? = some (.int .i64 (rnd (sumX l (fa j) (fb j) l.length) bits)))) (fun I _ => many - (intOf I).toNat)
  case atStart => exact ⟨0, _, rfl, Nat.zero_le _, HO, by simp, hb2, hg2, Lib.hid (fun _ h => absurd h (Nat.not_lt_zero _))⟩
  case round =>
    obtain ⟨k, xs, rfl, hk, hO, hlenO, hbq, hgq, hxs⟩ := hrel
    clear HO hb2 hg2
    by_cases hlt : k < many
    · have HMr := (hbq.cell (p := ⟨ga, 0, none⟩) (show ga < w1.heap.size by omega)).trans HM1.out
      have HK := Lib.hid (HC.out k wr hlt HMr)
      have HCr := Lib.hid (HC1.out.keep hbq hgc1)
      have HIr := Lib.hid (HI1.out.keep hbq hsz1)
      obtain ⟨a0, a1⟩ := HFA.out k hlt
      obtain ⟨b0, b1⟩ := HFB.out k hlt
      have SRk := Lib.hid (SR.out k)
      have HV : Hid (rnd (sumX l (fa k) (fb k) l.length) bits = rnd (sumX l (fa k) (fb k) l.length) bits) := rfl
      generalize ha : fa k = A at HK a0 a1 SRk HV
      generalize hbb : fb k = D at HK b0 b1 SRk HV
      have HA := Lib.hid ha
      have HD := Lib.hid hbb
      clear HMr ha hbb
      go_wp2_with fail
      refine HK.out.mono ?_
      rintro e w3 ⟨rfl, n3, rfl⟩
      clear HK
      go_wp2
      go_loop [14, 12, 33] (fun S T J => ∃ (j : Nat) (t : Int), S = .int .i64 (sumX l A D j) ∧ T = .int .i64 t ∧ J = .int .i64 j ∧ j ≤ l.length ∧ Hid (t = A + D * j) ∧ -100000000 ≤ t ∧ t ≤ 100000000) (fun _ _ J => l.length - (intOf J).toNat)
      case atStart => exact ⟨0, A, rfl, rfl, rfl, Nat.zero_le _, Lib.hid (by simp), by omega, by omega⟩
      case round =>
        obtain ⟨j, t, rfl, rfl, rfl, hj, ht, t0, t1⟩ := hrel
        by_cases hjl : j < l.length
        · obtain ⟨b, off, rfl, h1⟩ := (HIr.out.drewN n3).at hjl
          have h2 := (HCr.out.drewN n3).2 (t % 2048).toNat (by omega)
          have hm := mask2047 t
          obtain ⟨r0, r1⟩ : 0 ≤ t % 2048 ∧ t % 2048 < 2048 := ⟨Int.emod_nonneg _ (by decide), Int.emod_lt_of_pos _ (by decide)⟩
          rw [Int.toNat_of_nonneg r0, cos_mod] at h2
          obtain ⟨s0, s1⟩ := SRk.out j (by omega)
          obtain ⟨s2, s3⟩ := SRk.out (j + 1) (by omega)
          have hst := sumX_succ l A D j
          rw [← ht.out] at hst
          rw [hst] at s2 s3
          have HS := Lib.hid hst
          obtain ⟨l0, l1⟩ := HLB.out j hjl
          obtain ⟨c0, c1⟩ := cos_range t
          have hp := mul_abs l0 l1 c0 c1
          obtain ⟨p0, p1⟩ := hp
          have ht2 : Hid (t + D = A + D * ((j + 1 : Nat) : Int)) := by
            have := ht.out
            show _ = _
            rw [this, Int.natCast_add]; grind
          have hn2 : -100000000 ≤ t + D ∧ t + D ≤ 100000000 := by
            have e := ht2.out
            have m1 := mul_abs b0 b1 (show -(512 : Int) ≤ ((j + 1 : Nat) : Int) by omega) (show ((j + 1 : Nat) : Int) ≤ 512 by omega)
            omega
          obtain ⟨q0, q1⟩ := hn2
          generalize l.getD j 0 = x at h1 l0 l1 p0 p1 s2 s3 HS
          generalize cosL t = y at h2 c0 c1 p0 p1 s2 s3 HS
          generalize sumX l A D j = S at s0 s1 s2 s3 HS ⊢
          have p2 : -(68719476736 * 67108864) ≤ x * y := by omega
          have p3 : x * y ≤ 68719476736 * 67108864 := by omega
          clear hst p0 p1
          go_wp2
          go_round
          case rel => exact ⟨j + 1, t + D, congrArg (Value.int .i64) HS.out.symm, rfl, by go_num, by omega, ht2, q0, q1⟩
          case measure => simp [intOf]; omega
        · have hjn : j = l.length := by omega
          subst hjn
          obtain ⟨s0, s1⟩ := SRk.out l.length (Nat.le_refl _)
          have HR := Lib.hid (fun W => round_ok (sumX l A D l.length) bits s0 s1 hbits W)
          obtain ⟨v, hv⟩ : ∃ v, rnd (sumX l A D l.length) bits = v := ⟨_, rfl⟩
          have HVv := Lib.hid hv
          have hbq3 : Below w1.heap.size w1 (wr.drewN n3) := below_drewN hbq n3
          clear hv
          go_wp2_with fail
          refine (HR.out _).mono ?_
          rintro e w4 ⟨rfl, n4, hw4⟩
          rw [HVv.out]
          have hO2 : w4.ownsRow w1.heap.size 3 1 (.slice (some ⟨w1.heap.size, 0, none⟩) many many) many xs := hw4 ▸ hO.out
          have hbq4 : Below w1.heap.size w1 w4 := hw4 ▸ below_drewN hbq3 n4
          have hsz4 : w1.heap.size < w4.heap.size := hw4 ▸ hgq
          have hc := hO2.cellAt k (by omega)
          rw [List.getElem?_eq_getElem (by omega)] at hc
          have hf := hO2.frozenAt k
          have hO3 := Lib.hid (hO2.stored k (.int .i64 v)).1
          have hb6 : Below w1.heap.size w1 (w4.setCell ⟨w1.heap.size, k, none⟩ (.int .i64 v)) := hbq4.setCell (p := ⟨w1.heap.size, k, none⟩) (Nat.le_refl _) _
          have hxs2 : Hid (∀ j : Nat, j < k + 1 → (xs.set k (.int .i64 v))[j]? = some (.int .i64 (rnd (sumX l (fa j) (fb j) l.length) bits))) := by
            intro j hj
            by_cases e : j = k
            · rw [e, List.getElem?_set_self (by omega), HA.out, HD.out, HVv.out]
            · rw [List.getElem?_set_ne (by omega)]; exact hxs.out j (by omega)
          clear hxs hO hO2 hw4 hbq hbq3 hbq4 HR HIr HCr
          go_wp2
          exact ⟨⟨k + 1, _, by go_num, by omega, hO3, by simp [hlenO], hb6, by simpa [World.setCell] using hsz4, hxs2⟩, by simp [intOf]; omega⟩
    · have hkM : k = many := by omega
      subst hkM
      have HE := Lib.hid (row_eq hlenO hxs.out)
      clear hxs
      go_wp2
      go_ret
      refine ⟨w1.heap.size, rfl, ?_, ?_⟩
      · have := HE.out
        rw [this] at hO
        exact owns_lower hO.out hsz1
      · exact hb1.trans (hbq.mono hsz1)
end Go.Proofs.Ytcmbbmilldhnnaa
