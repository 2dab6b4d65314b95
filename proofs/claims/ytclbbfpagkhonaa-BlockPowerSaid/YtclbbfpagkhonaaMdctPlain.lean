/- Sums over a circle; a transform and its way back, in plain numbers. -/
import Derived.Test.YtclbbfpagkhonaaVecPlain
set_option linter.unusedVariables false
set_option linter.unusedSimpArgs false
set_option linter.unusedSectionVars false
namespace Go.Proofs.Ytclbbfpagkhonaa
/-- What is asked of a circle's cosines, with 26 bits. -/
structure Circle (c : Int → Int) : Prop where
  even : ∀ n, c (-n) = c n
  half : ∀ n, c (n + 1024) = -c n
  zero : c 0 = 67108864
  range : ∀ n, -67108864 ≤ c n ∧ c n ≤ 67108864
  prod : ∀ a b, -201326592 ≤ 2 * (c a * c b) - 67108864 * (c (a + b) + c (a - b)) ∧ 2 * (c a * c b) - 67108864 * (c (a + b) + c (a - b)) ≤ 201326592
namespace Circle
variable {c : Int → Int} (C : Circle c)
include C
theorem turn (n : Int) : c (n + 2048) = c n := by
  rw [show n + 2048 = n + 1024 + 1024 by omega, C.half, C.half]; omega
theorem turns_nat (n : Int) : ∀ k : Nat, c (n + 2048 * k) = c n
  | 0 => by simp
  | k + 1 => by rw [show n + 2048 * ((k + 1 : Nat) : Int) = n + 2048 * k + 2048 by omega, C.turn, turns_nat n k]
theorem turns (n k : Int) : c (n + 2048 * k) = c n := by
  rcases Int.le_total 0 k with h | h
  · obtain ⟨m, rfl⟩ := Int.eq_ofNat_of_zero_le h; exact C.turns_nat n m
  · obtain ⟨m, hm⟩ := Int.eq_ofNat_of_zero_le (show 0 ≤ -k by omega)
    have := C.turns_nat (n + 2048 * k) m
    rw [← this]; congr 1; omega
theorem congr {n m : Int} (h : n % 2048 = m % 2048) : c n = c m := by
  have : n = m + 2048 * (n / 2048 - m / 2048) := by omega
  rw [this, C.turns]
theorem odd_half {n k : Int} (hk : k % 2 = 1) : c (n + 1024 * k) = -c n := by
  rw [show n + 1024 * k = n + 1024 + 2048 * (k / 2) by omega, C.turns, C.half]
end Circle
/-- A sum over a circle. -/
def sumC (c : Int → Int) (t : Int) (n : Nat) : Int := sumF (fun k => c (t * (2 * (k : Int) + 1))) n
theorem sumF_split (f : Nat → Int) (m : Nat) : ∀ n, sumF f (m + n) = sumF f m + sumF (fun k => f (m + k)) n
  | 0 => by simp [sumF]
  | n + 1 => by rw [← Nat.add_assoc, sumF, sumF, sumF_split f m n]; omega
theorem sumF_neg (f : Nat → Int) (n : Nat) : sumF (fun i => -f i) n = -sumF f n := by
  have := sumF_smul (-1) f n
  rw [sumF_congr (g := fun i => -f i) n (fun i _ => by omega)] at this; omega
theorem sumF_rev (f : Nat → Int) : ∀ n, sumF (fun k => f (n - 1 - k)) n = sumF f n
  | 0 => rfl
  | n + 1 => by
    have h := sumF_split (fun k => f (n + 1 - 1 - k)) 1 n
    rw [Nat.add_comm 1 n] at h
    rw [h, sumF, sumF_congr (g := fun k => f (n - 1 - k)) n (fun i hi => by congr 1; omega), sumF_rev f n]
    simp [sumF]; omega
namespace Circle
variable {c : Int → Int} (C : Circle c)
include C
/-- A circle's sums: all of one sign, or nothing. -/
theorem sum_pow : ∀ (r : Nat) (t : Int), t * 2 ^ r % 1024 = 0 →
    sumC c t (2 ^ r) = if t % 2048 = 0 then 67108864 * 2 ^ r else if t % 2048 = 1024 then -(67108864 * 2 ^ r) else 0
  | 0, t, h => by
    have e : sumC c t (2 ^ 0) = c t := by simp [sumC, sumF]
    rw [e]
    simp at h
    rcases (show t % 2048 = 0 ∨ t % 2048 = 1024 by omega) with h0 | h0
    · rw [if_pos h0, C.congr (m := 0) (by omega), C.zero]; rfl
    · rw [if_neg (by omega), if_pos h0, C.congr (m := 0 + 1024) (by omega), C.half, C.zero]; rfl
  | r + 1, t, h => by
    have e1 : (2 : Nat) ^ (r + 1) = 2 ^ r + 2 ^ r := by rw [Nat.pow_succ]; omega
    have e2 : t * 2 ^ (r + 1) = 2 * (t * 2 ^ r) := by rw [Int.pow_succ]; grind
    have hs : sumC c t (2 ^ (r + 1)) = sumC c t (2 ^ r) + sumF (fun k => c (t * (2 * (k : Int) + 1) + 2 * (t * 2 ^ r))) (2 ^ r) := by
      rw [e1]; unfold sumC; rw [sumF_split]
      congr 1
      refine sumF_congr _ (fun k _ => ?_)
      congr 1
      have : ((2 ^ r : Nat) : Int) = (2 : Int) ^ r := by simp
      rw [Int.natCast_add, this]; grind
    rw [e2] at h
    rcases (show 2 * (t * 2 ^ r) % 2048 = 0 ∨ 2 * (t * 2 ^ r) % 2048 = 1024 by omega) with h0 | h0
    · have hk : sumF (fun k => c (t * (2 * (k : Int) + 1) + 2 * (t * 2 ^ r))) (2 ^ r) = sumC c t (2 ^ r) :=
        sumF_congr _ (fun k _ => C.congr (by omega))
      have ih := sum_pow r t (by omega)
      rw [hs, hk, ih, Int.pow_succ]
      generalize (2 : Int) ^ r = p
      by_cases c1 : t % 2048 = 0
      · simp only [c1, if_true]; omega
      · by_cases c2 : t % 2048 = 1024
        · simp only [c1, c2, if_false, if_true]; omega
        · simp only [c1, c2, if_false]; omega
    · have hk : sumF (fun k => c (t * (2 * (k : Int) + 1) + 2 * (t * 2 ^ r))) (2 ^ r) = -sumC c t (2 ^ r) := by
        unfold sumC
        rw [← sumF_neg]
        refine sumF_congr _ (fun k _ => ?_)
        rw [← C.half]
        exact C.congr (by omega)
      have hn : t % 1024 ≠ 0 := by
        intro h1
        have : t * 2 ^ r = 1024 * (t / 1024 * 2 ^ r) := by
          rw [← Int.mul_assoc]; congr 1; omega
        omega
      rw [hs, hk, if_neg (by omega), if_neg (by omega)]; omega
theorem sum_odd (t : Int) (n : Nat) (h : t * n % 1024 = 512) : sumC c t n = 0 := by
  have h1 : sumC c t n = -sumC c t n := by
    unfold sumC
    conv => lhs; rw [← sumF_rev]
    rw [← sumF_neg]
    refine sumF_congr _ (fun k hk => ?_)
    rw [← C.half, ← C.even (t * (2 * (k : Int) + 1) + 1024)]
    apply C.congr
    have : t * (2 * ((n - 1 - k : Nat) : Int) + 1) = 2 * (t * n) - t * (2 * (k : Int) + 1) := by
      rw [show ((n - 1 - k : Nat) : Int) = (n : Int) - 1 - k by omega]; grind
    omega
  omega
theorem sum_all (r : Nat) (t : Int) (h : t * 2 ^ r % 512 = 0) :
    sumC c t (2 ^ r) = if t % 2048 = 0 then 67108864 * 2 ^ r else if t % 2048 = 1024 then -(67108864 * 2 ^ r) else 0 := by
  rcases (show t * 2 ^ r % 1024 = 0 ∨ t * 2 ^ r % 1024 = 512 by omega) with h0 | h0
  · exact C.sum_pow r t h0
  · have hn : t % 1024 ≠ 0 := by
      intro h1
      have : t * 2 ^ r = 1024 * (t / 1024 * 2 ^ r) := by
        rw [← Int.mul_assoc]; congr 1; omega
      omega
    rw [C.sum_odd t (2 ^ r) (by simpa using h0), if_neg (by omega), if_neg (by omega)]
/-- Two rows of a circle together. -/
theorem gram (a b : Int) (n : Nat) : -(201326592 * (n : Int)) ≤ 2 * sumF (fun k => c (a * (2 * (k : Int) + 1)) * c (b * (2 * (k : Int) + 1))) n - 67108864 * (sumC c (a + b) n + sumC c (a - b) n) ∧
    2 * sumF (fun k => c (a * (2 * (k : Int) + 1)) * c (b * (2 * (k : Int) + 1))) n - 67108864 * (sumC c (a + b) n + sumC c (a - b) n) ≤ 201326592 * n := by
  induction n with
  | zero => simp [sumF, sumC]
  | succ n ih =>
    obtain ⟨p, q⟩ := C.prod (a * (2 * (n : Int) + 1)) (b * (2 * (n : Int) + 1))
    rw [← Int.add_mul, ← Int.sub_mul] at p q
    simp only [sumF, sumC] at *
    omega
end Circle

theorem sumF_swap (f : Nat → Nat → Int) (m : Nat) : ∀ n, sumF (fun k => sumF (fun j => f j k) m) n = sumF (fun j => sumF (fun k => f j k) n) m
  | 0 => by
    have := sumF_const 0 m
    simp only [sumF]; omega
  | n + 1 => by rw [sumF, sumF_swap f m n, ← sumF_add]; rfl
theorem sumF_pick (f : Nat → Int) (j : Nat) : ∀ n, sumF (fun i => if i = j then f i else 0) n = if j < n then f j else 0
  | 0 => by simp [sumF]
  | n + 1 => by
    rw [sumF, sumF_pick f j n]
    rcases Nat.lt_trichotomy j n with h | h | h
    · rw [if_pos h, if_neg (by omega), if_pos (by omega)]; omega
    · subst h; rw [if_neg (by omega), if_pos rfl, if_pos (by omega)]; omega
    · rw [if_neg (by omega), if_neg (by omega), if_neg (by omega)]; rfl
/-- How far sums of small things go. -/
theorem sumF_abs (f : Nat → Int) (B : Int) (n : Nat) (h : ∀ i, i < n → -B ≤ f i ∧ f i ≤ B) : -(B * n) ≤ sumF f n ∧ sumF f n ≤ B * n := by
  have a := sumF_mono (f := fun _ => -B) (g := f) n (fun i hi => (h i hi).1)
  have b := sumF_mono (f := f) (g := fun _ => B) n (fun i hi => (h i hi).2)
  rw [sumF_const] at a b
  rw [Int.neg_mul] at a
  exact ⟨a, b⟩
theorem mul_abs {a b A B : Int} (h1 : -A ≤ a) (h2 : a ≤ A) (h3 : -B ≤ b) (h4 : b ≤ B) : -(A * B) ≤ a * b ∧ a * b ≤ A * B := by
  have hA : 0 ≤ A := by omega
  have hB : 0 ≤ B := by omega
  rcases Int.le_total 0 a with ha | ha <;> rcases Int.le_total 0 b with hb | hb
  · have := Int.mul_le_mul h2 h4 hb hA; have := Int.mul_nonneg ha hb; omega
  · have := Int.mul_le_mul h2 (show -b ≤ B by omega) (by omega) hA; have := Int.mul_nonneg ha (show 0 ≤ -b by omega)
    rw [Int.mul_neg] at *; omega
  · have := Int.mul_le_mul (show -a ≤ A by omega) h4 hb hA; have := Int.mul_nonneg (show 0 ≤ -a by omega) hb
    rw [Int.neg_mul] at *; omega
  · have := Int.mul_le_mul (show -a ≤ A by omega) (show -b ≤ B by omega) (by omega) hA; have := Int.mul_nonneg (show 0 ≤ -a by omega) (show 0 ≤ -b by omega)
    rw [Int.neg_mul_neg] at *; omega
/-- The arc of a place, of M = 2^r lines. -/
def arcOf (r : Nat) (n : Nat) : Int := (2 * (n : Int) + 1 + 2 ^ r) * 2 ^ (8 - r)
def foldT (M : Nat) (z : Nat → Int) (n : Nat) : Int := if n < M then z n - z (M - 1 - n) else z n + z (3 * M - 1 - n)
namespace Circle
variable {c : Int → Int} (C : Circle c)
include C
theorem two_pows (r : Nat) (hr : r = 8 ∨ r = 5) : (2 : Int) ^ r * 2 ^ (8 - r) = 256 := by rcases hr with rfl | rfl <;> rfl
theorem diff_sum (r : Nat) (hr : r = 8 ∨ r = 5) (m n : Nat) (hm : m < 2 * 2 ^ r) (hn : n < 2 * 2 ^ r) :
    sumC c (arcOf r m - arcOf r n) (2 ^ r) = if m = n then 67108864 * 2 ^ r else 0 := by
  rcases hr with rfl | rfl
  all_goals
    rw [C.sum_all]
    · unfold arcOf
      simp at *
      by_cases h : m = n
      · rw [if_pos (by omega), if_pos h]
      · rw [if_neg (by omega), if_neg (by omega), if_neg h]
    · unfold arcOf; simp; omega
theorem plus_low (r : Nat) (hr : r = 8 ∨ r = 5) (m n : Nat) (hm : m < 2 * 2 ^ r) (hn : n < 2 ^ r) :
    sumC c (arcOf r m + arcOf r n) (2 ^ r) = if m = 2 ^ r - 1 - n then -(67108864 * 2 ^ r) else 0 := by
  rcases hr with rfl | rfl
  all_goals
    rw [C.sum_all]
    · unfold arcOf
      simp at *
      first
      | (by_cases h : m = 255 - n
         · rw [if_neg (by omega), if_pos (by omega), if_pos h]
         · rw [if_neg (by omega), if_neg (by omega), if_neg h]; done)
      | (by_cases h : m = 31 - n
         · rw [if_neg (by omega), if_pos (by omega), if_pos h]
         · rw [if_neg (by omega), if_neg (by omega), if_neg h]; done)
    · unfold arcOf; simp; omega
theorem plus_high (r : Nat) (hr : r = 8 ∨ r = 5) (m n : Nat) (hm : m < 2 * 2 ^ r) (hn : 2 ^ r ≤ n) (hn2 : n < 2 * 2 ^ r) :
    sumC c (arcOf r m + arcOf r n) (2 ^ r) = if m = 3 * 2 ^ r - 1 - n then 67108864 * 2 ^ r else 0 := by
  rcases hr with rfl | rfl
  all_goals
    rw [C.sum_all]
    · unfold arcOf
      simp at *
      first
      | (by_cases h : m = 767 - n
         · rw [if_pos (by omega), if_pos h]
         · rw [if_neg (by omega), if_neg (by omega), if_neg h]; done)
      | (by_cases h : m = 95 - n
         · rw [if_pos (by omega), if_pos h]
         · rw [if_neg (by omega), if_neg (by omega), if_neg h]; done)
    · unfold arcOf; simp; omega
/-- All that two rows' sums come to, times samples. -/
theorem fold_sum (r : Nat) (hr : r = 8 ∨ r = 5) (z : Nat → Int) (n : Nat) (hn : n < 2 * 2 ^ r) :
    sumF (fun m => z m * (sumC c (arcOf r m + arcOf r n) (2 ^ r) + sumC c (arcOf r m - arcOf r n) (2 ^ r))) (2 * 2 ^ r) = 67108864 * 2 ^ r * foldT (2 ^ r) z n := by
  have hp : 0 < 2 ^ r := Nat.pow_pos (by decide)
  have e1 : sumF (fun m => z m * sumC c (arcOf r m - arcOf r n) (2 ^ r)) (2 * 2 ^ r) = 67108864 * 2 ^ r * z n := by
    rw [sumF_congr (g := fun m => if m = n then (67108864 * 2 ^ r) * z m else 0) _ (fun m hm => by
      rw [C.diff_sum r hr m n hm hn]; split <;> simp [Int.mul_comm]), sumF_pick, if_pos hn]
  rw [sumF_congr (g := fun m => z m * sumC c (arcOf r m + arcOf r n) (2 ^ r) + z m * sumC c (arcOf r m - arcOf r n) (2 ^ r)) _ (fun m _ => Int.mul_add _ _ _), sumF_add, e1]
  unfold foldT
  split
  · rename_i h
    rw [sumF_congr (g := fun m => if m = 2 ^ r - 1 - n then (-(67108864 * 2 ^ r)) * z m else 0) _ (fun m hm => by
      rw [C.plus_low r hr m n hm h]; split <;> simp [Int.mul_comm]), sumF_pick, if_pos (by omega)]
    grind
  · rename_i h
    rw [sumF_congr (g := fun m => if m = 3 * 2 ^ r - 1 - n then (67108864 * 2 ^ r) * z m else 0) _ (fun m hm => by
      rw [C.plus_high r hr m n hm (by omega) hn]; split <;> simp [Int.mul_comm]), sumF_pick, if_pos (by omega)]
    grind
/-- The lines, forward; X is each rounded off by 33 bits; what they come back to, ahead of rounding. -/
theorem back_near (r : Nat) (hr : r = 8 ∨ r = 5) (z X : Nat → Int) (hz : ∀ m, m < 2 * 2 ^ r → -8388608 ≤ z m ∧ z m ≤ 8388608)
    (hX : ∀ k : Nat, k < 2 ^ r → -4294967296 ≤ sumF (fun m => z m * c (arcOf r m * (2 * (k : Int) + 1))) (2 * 2 ^ r) - 8589934592 * X k ∧ sumF (fun m => z m * c (arcOf r m * (2 * (k : Int) + 1))) (2 * 2 ^ r) - 8589934592 * X k ≤ 4294967296)
    (n : Nat) (hn : n < 2 * 2 ^ r) :
    -(320 * 2 ^ (18 + r)) ≤ sumF (fun k => X k * c (arcOf r n * (2 * (k : Int) + 1))) (2 ^ r) - 2 ^ (18 + r) * foldT (2 ^ r) z n ∧
    sumF (fun k => X k * c (arcOf r n * (2 * (k : Int) + 1))) (2 ^ r) - 2 ^ (18 + r) * foldT (2 ^ r) z n ≤ 320 * 2 ^ (18 + r) := by
  -- the rounding of the lines
  have hE2 := sumF_abs (fun k => (sumF (fun m => z m * c (arcOf r m * (2 * (k : Int) + 1))) (2 * 2 ^ r) - 8589934592 * X k) * c (arcOf r n * (2 * (k : Int) + 1))) (4294967296 * 67108864) (2 ^ r) (fun k hk => by
    obtain ⟨a, b⟩ := hX k hk
    obtain ⟨p, q⟩ := C.range (arcOf r n * (2 * (k : Int) + 1))
    exact mul_abs a b p q)
  -- the rows' products
  have hE1 := sumF_abs (fun m => z m * (2 * sumF (fun k => c (arcOf r m * (2 * (k : Int) + 1)) * c (arcOf r n * (2 * (k : Int) + 1))) (2 ^ r) - 67108864 * (sumC c (arcOf r m + arcOf r n) (2 ^ r) + sumC c (arcOf r m - arcOf r n) (2 ^ r)))) (8388608 * (201326592 * ((2 ^ r : Nat) : Int))) (2 * 2 ^ r) (fun m hm => by
    obtain ⟨a, b⟩ := hz m hm
    obtain ⟨p, q⟩ := C.gram (arcOf r m) (arcOf r n) (2 ^ r)
    exact mul_abs a b p q)
  have hF := C.fold_sum r hr z n hn
  have s1 : sumF (fun m => z m * (2 * sumF (fun k => c (arcOf r m * (2 * (k : Int) + 1)) * c (arcOf r n * (2 * (k : Int) + 1))) (2 ^ r) - 67108864 * (sumC c (arcOf r m + arcOf r n) (2 ^ r) + sumC c (arcOf r m - arcOf r n) (2 ^ r)))) (2 * 2 ^ r) =
      2 * sumF (fun k => sumF (fun m => z m * c (arcOf r m * (2 * (k : Int) + 1))) (2 * 2 ^ r) * c (arcOf r n * (2 * (k : Int) + 1))) (2 ^ r) - 67108864 * (67108864 * 2 ^ r * foldT (2 ^ r) z n) := by
    have e : sumF (fun k => sumF (fun m => z m * c (arcOf r m * (2 * (k : Int) + 1))) (2 * 2 ^ r) * c (arcOf r n * (2 * (k : Int) + 1))) (2 ^ r) = sumF (fun m => z m * sumF (fun k => c (arcOf r m * (2 * (k : Int) + 1)) * c (arcOf r n * (2 * (k : Int) + 1))) (2 ^ r)) (2 * 2 ^ r) := by
      rw [sumF_congr (g := fun k => sumF (fun m => z m * (c (arcOf r m * (2 * (k : Int) + 1)) * c (arcOf r n * (2 * (k : Int) + 1)))) (2 * 2 ^ r)) _ (fun k _ => by
        rw [Int.mul_comm, ← sumF_smul]; exact sumF_congr _ (fun m _ => by grind)), sumF_swap]
      exact sumF_congr _ (fun m _ => sumF_smul _ _ _)
    rw [← hF, e, ← sumF_smul, ← sumF_smul]
    have : ∀ (f g : Nat → Int) (n : Nat), sumF f n - sumF g n = sumF (fun i => f i - g i) n := by
      intro f g n; have := sumF_add f (fun i => -g i) n; rw [sumF_neg] at this
      rw [sumF_congr (f := fun i => f i - g i) (g := fun i => f i + -g i) n (fun i _ => by omega)]; omega
    rw [this]
    exact sumF_congr _ (fun m _ => by grind)
  have s2 : sumF (fun k => (sumF (fun m => z m * c (arcOf r m * (2 * (k : Int) + 1))) (2 * 2 ^ r) - 8589934592 * X k) * c (arcOf r n * (2 * (k : Int) + 1))) (2 ^ r) =
      sumF (fun k => sumF (fun m => z m * c (arcOf r m * (2 * (k : Int) + 1))) (2 * 2 ^ r) * c (arcOf r n * (2 * (k : Int) + 1))) (2 ^ r) - 8589934592 * sumF (fun k => X k * c (arcOf r n * (2 * (k : Int) + 1))) (2 ^ r) := by
    rw [← sumF_smul]
    have : ∀ (f g : Nat → Int) (n : Nat), sumF f n - sumF g n = sumF (fun i => f i - g i) n := by
      intro f g n; have := sumF_add f (fun i => -g i) n; rw [sumF_neg] at this
      rw [sumF_congr (f := fun i => f i - g i) (g := fun i => f i + -g i) n (fun i _ => by omega)]; omega
    rw [this]
    exact sumF_congr _ (fun m _ => by grind)
  rw [s1] at hE1
  rw [s2] at hE2
  generalize sumF (fun k => sumF (fun m => z m * c (arcOf r m * (2 * (k : Int) + 1))) (2 * 2 ^ r) * c (arcOf r n * (2 * (k : Int) + 1))) (2 ^ r) = P at *
  generalize sumF (fun k => X k * c (arcOf r n * (2 * (k : Int) + 1))) (2 ^ r) = Y at *
  generalize foldT (2 ^ r) z n = v at *
  rcases hr with rfl | rfl
  · simp at hE1 hE2 ⊢; omega
  · simp at hE1 hE2 ⊢; omega
end Circle

end Go.Proofs.Ytclbbfpagkhonaa
