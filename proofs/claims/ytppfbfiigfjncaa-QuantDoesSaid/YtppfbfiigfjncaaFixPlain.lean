/- Plain numbers: rounding off, roots. No program in sight. -/
import Derived.Test.YtppfbfiigfjncaaGP
namespace Go.Proofs.Ytppfbfiigfjncaa

/-- Halved so often, rounded: halves go up. -/
def rnd (n : Int) (b : Nat) : Int := if b = 0 then n else (n + 2 ^ (b - 1)) / 2 ^ b

theorem pow_pred (b : Nat) (hb : 1 ≤ b) : (2 : Int) ^ b = 2 ^ (b - 1) * 2 := by
  obtain ⟨c, rfl⟩ : ∃ c, b = c + 1 := ⟨b - 1, by omega⟩
  rw [Nat.add_sub_cancel, Int.pow_succ]

theorem pow_pos' (b : Nat) : (0 : Int) < 2 ^ b := Int.pow_pos (by decide)

theorem pow_le_pow' {a b : Nat} (h : a ≤ b) : (2 : Int) ^ a ≤ 2 ^ b := by
  have : (2 : Nat) ^ a ≤ 2 ^ b := Nat.pow_le_pow_right (by decide) h
  exact_mod_cast this

/-- As the code does it: a shift, and the highest bit shifted out. -/
theorem rnd_shift (n : Int) (b : Nat) (hb : 1 ≤ b) : n / 2 ^ b + n / 2 ^ (b - 1) % 2 = rnd n b := by
  unfold rnd
  rw [if_neg (by omega), pow_pred b hb, ← Int.ediv_ediv_of_nonneg (Int.le_of_lt (pow_pos' _)), ← Int.ediv_ediv_of_nonneg (Int.le_of_lt (pow_pos' _))]
  have h := pow_pos' (b - 1)
  rw [Int.add_ediv_of_dvd_right (Int.dvd_refl _), Int.ediv_self (by omega)]
  omega

theorem rnd_zero (n : Int) : rnd n 0 = n := rfl

theorem rnd_spec (n : Int) (b : Nat) (hb : 1 ≤ b) : - 2 ^ (b - 1) ≤ n - rnd n b * 2 ^ b ∧ n - rnd n b * 2 ^ b < 2 ^ (b - 1) := by
  unfold rnd
  rw [if_neg (by omega)]
  have h1 := Int.emod_nonneg (n + 2 ^ (b - 1)) (b := 2 ^ b) (Int.ne_of_gt (pow_pos' b))
  have h2 := Int.emod_lt_of_pos (n + 2 ^ (b - 1)) (pow_pos' b)
  have h3 := Int.mul_ediv_add_emod (n + 2 ^ (b - 1)) (2 ^ b)
  have h4 := pow_pred b hb
  rw [Int.mul_comm] at h3
  generalize (n + 2 ^ (b - 1)) / 2 ^ b * 2 ^ b = x at *
  omega

theorem rnd_mono {n m : Int} (b : Nat) (h : n ≤ m) : rnd n b ≤ rnd m b := by
  unfold rnd
  split
  · exact h
  · exact Int.ediv_le_ediv (pow_pos' b) (by omega)

/-- A rounded number, from between. -/
theorem rnd_eq (n r : Int) (b : Nat) (hb : 1 ≤ b) (h1 : - 2 ^ (b - 1) ≤ n - r * 2 ^ b) (h2 : n - r * 2 ^ b < 2 ^ (b - 1)) : rnd n b = r := by
  unfold rnd
  rw [if_neg (by omega)]
  have h4 := pow_pred b hb
  refine (Int.ediv_emod_unique (a := n + 2 ^ (b - 1)) (b := 2 ^ b) (q := r) (r := n - r * 2 ^ b + 2 ^ (b - 1)) (pow_pos' b)).2 ⟨?_, by omega, by omega⟩ |>.1
  rw [Int.mul_comm (2 ^ b) r]; omega

theorem rnd_bound {n : Int} {B : Int} (b : Nat) (hB : 0 ≤ B) (h1 : -B ≤ n) (h2 : n ≤ B) : -B ≤ rnd n b ∧ rnd n b ≤ B := by
  by_cases hb : b = 0
  · subst hb; exact ⟨h1, h2⟩
  · obtain ⟨s1, s2⟩ := rnd_spec n b (by omega)
    have hp := pow_pos' (b - 1)
    have h4 := pow_pred b (by omega)
    generalize rnd n b = r at *
    rw [h4] at s1 s2
    generalize (2 : Int) ^ (b - 1) = p at *
    constructor
    · rcases Int.lt_or_le r (-B) with h | h
      · exfalso
        have : (r + B) * (p * 2) ≤ (-1) * (p * 2) := Int.mul_le_mul_of_nonneg_right (by omega) (by omega)
        have hB2 : B * 2 ≤ B * (p * 2) := Int.mul_le_mul_of_nonneg_left (by omega) hB
        rw [Int.add_mul] at this
        omega
      · exact h
    · rcases Int.lt_or_le B r with h | h
      · exfalso
        have : 1 * (p * 2) ≤ (r - B) * (p * 2) := Int.mul_le_mul_of_nonneg_right (by omega) (by omega)
        have hB2 : B * 2 ≤ B * (p * 2) := Int.mul_le_mul_of_nonneg_left (by omega) hB
        rw [Int.sub_mul] at this
        omega
      · exact h

/-- The greatest number of so many bits that is not too great. -/
def rootN (great : Nat → Bool) : Nat → Nat → Nat
  | 0, r => r
  | i + 1, r => rootN great i (if great (r + 2 ^ i) then r else r + 2 ^ i)

theorem rootN_eq (great : Nat → Bool) (R : Nat) (hg : ∀ x, great x = decide (R < x)) : ∀ i r, r % 2 ^ i = 0 → r ≤ R → R < r + 2 ^ i → rootN great i r = R
  | 0, r, _, h1, h2 => by simp [rootN]; omega
  | i + 1, r, hm, h1, h2 => by
    have hp : 0 < 2 ^ i := Nat.pow_pos (by decide)
    have hm' : r % 2 ^ i = 0 := by
      have : 2 ^ i ∣ r := Nat.dvd_trans ⟨2, by rw [Nat.pow_succ]⟩ (Nat.dvd_of_mod_eq_zero hm)
      exact Nat.mod_eq_zero_of_dvd this
    rw [rootN, hg]
    rw [Nat.pow_succ] at h2
    by_cases h : R < r + 2 ^ i
    · simp only [h, decide_true, if_true]
      exact rootN_eq great R hg i r hm' h1 h
    · simp only [h, decide_false, Bool.false_eq_true, if_false]
      exact rootN_eq great R hg i _ (by simp [hm']) (by omega) (by omega)

/-- The root, rounded down; the third root. -/
def sqN (n : Nat) : Nat := rootN (fun r => decide (n < r * r)) 32 0
def cbN (n : Nat) : Nat := rootN (fun r => decide (n < r * r * r)) 21 0

theorem exists_root (f : Nat → Nat) (hf : ∀ a b, a < b → f a < f b) (h0 : f 0 = 0) (n : Nat) : ∃ R, f R ≤ n ∧ n < f (R + 1) := by
  have hge : ∀ k, k ≤ f k := by
    intro k
    induction k with
    | zero => omega
    | succ k ih => have := hf k (k + 1) (by omega); omega
  have : ∀ k, n < f k → ∃ R, f R ≤ n ∧ n < f (R + 1) := by
    intro k
    induction k with
    | zero => intro h; omega
    | succ k ih =>
      intro h
      by_cases hk : n < f k
      · exact ih hk
      · exact ⟨k, by omega, h⟩
  exact this (n + 1) (by have := hge (n + 1); omega)

theorem sq_lt {a b : Nat} (h : a < b) : a * a < b * b := Nat.mul_lt_mul_of_lt_of_lt h h
theorem sq_le {a b : Nat} (h : a ≤ b) : a * a ≤ b * b := Nat.mul_le_mul h h
theorem cb_lt {a b : Nat} (h : a < b) : a * a * a < b * b * b := Nat.mul_lt_mul_of_lt_of_lt (sq_lt h) h
theorem cb_le {a b : Nat} (h : a ≤ b) : a * a * a ≤ b * b * b := Nat.mul_le_mul (sq_le h) h

theorem sqN_spec (n : Nat) (hn : n ≤ 4611686018427387904) : sqN n * sqN n ≤ n ∧ n < (sqN n + 1) * (sqN n + 1) := by
  obtain ⟨R, h1, h2⟩ := exists_root (fun r => r * r) (fun _ _ h => sq_lt h) rfl n
  have hR : R < 2 ^ 32 := by
    rcases Nat.lt_or_ge R (2 ^ 32) with h | h
    · exact h
    · have := sq_le h; simp at this h1; omega
  have : sqN n = R := rootN_eq _ R (fun x => by
    simp only [decide_eq_decide]
    constructor
    · intro h; rcases Nat.lt_or_ge R x with h' | h'
      · exact h'
      · have := sq_le h'; have h1' : R * R ≤ n := h1; omega
    · intro h; have := sq_le (show R + 1 ≤ x by omega); have h2' : n < (R + 1) * (R + 1) := h2; omega) 32 0 rfl (Nat.zero_le _) (by omega)
  rw [this]; exact ⟨h1, h2⟩

theorem sqN_unique {n r : Nat} (hn : n ≤ 4611686018427387904) (h1 : r * r ≤ n) (h2 : n < (r + 1) * (r + 1)) : sqN n = r := by
  obtain ⟨s1, s2⟩ := sqN_spec n hn
  rcases Nat.lt_trichotomy (sqN n) r with h | h | h
  · have := sq_le (show sqN n + 1 ≤ r by omega); omega
  · exact h
  · have := sq_le (show r + 1 ≤ sqN n by omega); omega

theorem cbN_spec (n : Nat) (hn : n ≤ 4611686018427387904) : cbN n * cbN n * cbN n ≤ n ∧ n < (cbN n + 1) * (cbN n + 1) * (cbN n + 1) := by
  obtain ⟨R, h1, h2⟩ := exists_root (fun r => r * r * r) (fun _ _ h => cb_lt h) rfl n
  have hR : R < 2 ^ 21 := by
    rcases Nat.lt_or_ge R (2 ^ 21) with h | h
    · exact h
    · have := cb_le h; simp at this h1; omega
  have : cbN n = R := rootN_eq _ R (fun x => by
    simp only [decide_eq_decide]
    constructor
    · intro h; rcases Nat.lt_or_ge R x with h' | h'
      · exact h'
      · have := cb_le h'; have h1' : R * R * R ≤ n := h1; omega
    · intro h; have := cb_le (show R + 1 ≤ x by omega); have h2' : n < (R + 1) * (R + 1) * (R + 1) := h2; omega) 21 0 rfl (Nat.zero_le _) (by omega)
  rw [this]; exact ⟨h1, h2⟩

theorem cbN_unique {n r : Nat} (hn : n ≤ 4611686018427387904) (h1 : r * r * r ≤ n) (h2 : n < (r + 1) * (r + 1) * (r + 1)) : cbN n = r := by
  obtain ⟨s1, s2⟩ := cbN_spec n hn
  rcases Nat.lt_trichotomy (cbN n) r with h | h | h
  · have := cb_le (show cbN n + 1 ≤ r by omega); omega
  · exact h
  · have := cb_le (show r + 1 ≤ cbN n by omega); omega

theorem sqN_le (n : Nat) (hn : n ≤ 4611686018427387904) : sqN n ≤ 2147483648 := by
  obtain ⟨s1, _⟩ := sqN_spec n hn
  rcases Nat.lt_or_ge 2147483648 (sqN n) with h | h
  · have := sq_le (show 2147483649 ≤ sqN n by omega); omega
  · exact h
theorem cbN_le (n : Nat) (hn : n ≤ 4611686018427387904) : cbN n ≤ 1664510 := by
  obtain ⟨s1, _⟩ := cbN_spec n hn
  rcases Nat.lt_or_ge 1664510 (cbN n) with h | h
  · have := cb_le (show 1664511 ≤ cbN n by omega); omega
  · exact h
theorem sqN_mono {n m : Nat} (h : n ≤ m) (hm : m ≤ 4611686018427387904) : sqN n ≤ sqN m := by
  obtain ⟨s1, s2⟩ := sqN_spec n (by omega)
  obtain ⟨t1, t2⟩ := sqN_spec m hm
  rcases Nat.lt_or_ge (sqN m) (sqN n) with h' | h'
  · have := sq_le (show sqN m + 1 ≤ sqN n by omega); omega
  · exact h'
theorem cbN_mono {n m : Nat} (h : n ≤ m) (hm : m ≤ 4611686018427387904) : cbN n ≤ cbN m := by
  obtain ⟨s1, s2⟩ := cbN_spec n (by omega)
  obtain ⟨t1, t2⟩ := cbN_spec m hm
  rcases Nat.lt_or_ge (cbN m) (cbN n) with h' | h'
  · have := cb_le (show cbN m + 1 ≤ cbN n by omega); omega
  · exact h'

theorem ofInt_nat (a : Nat) (ha : a < 9223372036854775808) : (BitVec.ofInt 64 (a : Int)).toNat = a := by
  rw [BitVec.ofInt_natCast, BitVec.toNat_ofNat]; exact Nat.mod_eq_of_lt (by omega)
theorem i64_or_nat (a b : Nat) (ha : a < 9223372036854775808) (hb : b < 9223372036854775808) : bits .or .i64 (a : Int) (b : Int) = ((a ||| b : Nat) : Int) := by
  have h : a ||| b < 2 ^ 63 := Nat.or_lt_two_pow (by omega) (by omega)
  show IntKind.i64.wrap ((BitVec.ofInt 64 (a : Int) ||| BitVec.ofInt 64 (b : Int)).toNat : Int) = _
  rw [BitVec.toNat_or, ofInt_nat a ha, ofInt_nat b hb]
  exact IntWalk.i64_in _ (by omega)
theorem i64_and_nat (a b : Nat) (ha : a < 9223372036854775808) (hb : b < 9223372036854775808) : bits .and .i64 (a : Int) (b : Int) = ((a &&& b : Nat) : Int) := by
  have h : a &&& b < 2 ^ 63 := Nat.and_lt_two_pow _ (by omega)
  show IntKind.i64.wrap ((BitVec.ofInt 64 (a : Int) &&& BitVec.ofInt 64 (b : Int)).toNat : Int) = _
  rw [BitVec.toNat_and, ofInt_nat a ha, ofInt_nat b hb]
  exact IntWalk.i64_in _ (by omega)
/-- The lowest bits of any number. -/
theorem i64_mask (n : Int) (k : Nat) (hk : k ≤ 62) : bits .and .i64 n ((2 ^ k - 1 : Nat) : Int) = n % 2 ^ k := by
  have hp : (2 : Nat) ^ k ≤ 2 ^ 62 := Nat.pow_le_pow_right (by decide) hk
  have hp0 : 0 < (2 : Nat) ^ k := Nat.pow_pos (by decide)
  show IntKind.i64.wrap ((BitVec.ofInt 64 n &&& BitVec.ofInt 64 ((2 ^ k - 1 : Nat) : Int)).toNat : Int) = _
  rw [BitVec.toNat_and, ofInt_nat (2 ^ k - 1) (by omega), Nat.and_two_pow_sub_one_eq_mod, BitVec.toNat_ofInt]
  have h : (((n % ((2 ^ 64 : Nat) : Int)).toNat % 2 ^ k : Nat) : Int) = n % 2 ^ k := by
    have h0 : 0 ≤ n % ((2 ^ 64 : Nat) : Int) := Int.emod_nonneg _ (by decide)
    rw [Int.natCast_emod, Int.toNat_of_nonneg h0]
    rw [show ((2 ^ k : Nat) : Int) = (2 : Int) ^ k from Int.natCast_pow 2 k]
    exact Int.emod_emod_of_dvd n ⟨2 ^ (64 - k), by rw [← Int.pow_add, show k + (64 - k) = 64 by omega]; rfl⟩
  rw [h]
  have h1 := Int.emod_nonneg n (b := 2 ^ k) (Int.ne_of_gt (pow_pos' k))
  have h2 := Int.emod_lt_of_pos n (pow_pos' k)
  have h3 : (2 : Int) ^ k ≤ 2 ^ 62 := pow_le_pow' hk
  exact IntWalk.i64_in _ (by omega)
theorem i64_and_one (n : Int) : bits .and .i64 n 1 = n % 2 := i64_mask n 1 (by decide)

theorem or_bit (r j : Nat) (hr : r % 2 ^ (j + 1) = 0) (hb : r < 4294967296) (hj : j < 32) : bits .or .i64 (r : Int) (2 ^ j) = ((r + 2 ^ j : Nat) : Int) := by
  have h1 : (2 : Nat) ^ j < 2 ^ 32 := Nat.pow_lt_pow_right (by decide) hj
  have h2 : r ||| 2 ^ j = r + 2 ^ j := nat_join (j + 1) r (2 ^ j) hr (Nat.pow_lt_pow_right (by decide) (by omega))
  have h3 : ((2 ^ j : Nat) : Int) = (2 : Int) ^ j := Int.natCast_pow 2 j
  rw [← h3, i64_or_nat _ _ (by omega) (by omega), h2]

theorem root_wf (r j bits : Nat) (h : r + 2 ^ (j + 1) ≤ 2 ^ bits) (hb : bits ≤ 32) : r + 2 ^ j < 4294967296 ∧ r + 2 ^ j + 2 ^ j ≤ 2 ^ bits := by
  have h1 : (2 : Nat) ^ bits ≤ 2 ^ 32 := Nat.pow_le_pow_right (by decide) hb
  have h2 : 0 < (2 : Nat) ^ j := Nat.pow_pos (by decide)
  rw [Nat.pow_succ] at h
  omega

theorem root_wf21 (r j bits : Nat) (h : r + 2 ^ (j + 1) ≤ 2 ^ bits) (hb : bits ≤ 21) : r + 2 ^ j < 2097152 ∧ r + 2 ^ j + 2 ^ j ≤ 2 ^ bits ∧ 1 ≤ r + 2 ^ j := by
  have h1 : (2 : Nat) ^ bits ≤ 2 ^ 21 := Nat.pow_le_pow_right (by decide) hb
  have h2 : 0 < (2 : Nat) ^ j := Nat.pow_pos (by decide)
  rw [Nat.pow_succ] at h
  omega
theorem pow_small (j : Nat) (hj : j < 32) : (0 : Int) ≤ 2 ^ j ∧ (2 : Int) ^ j ≤ 4294967296 := ⟨Int.le_of_lt (pow_pos' j), Int.le_trans (pow_le_pow' (show j ≤ 32 by omega)) (by decide)⟩

end Go.Proofs.Ytppfbfiigfjncaa
