/- Cosines in plain numbers. -/
import Derived.Test.YteijlbblmdclaaaFixPlain
namespace Go.Proofs.Yteijlbblmdclaaa

/-- A sum of terms of turning signs. -/
def serL : List Int → Bool → Int → Int → Int → Int
  | [], _, _, _, s => s
  | d :: l, e, f, q, s => serL l (!e) (rnd (f * q) 30 / d) q (if e then s - rnd (f * q) 30 / d else s + rnd (f * q) 30 / d)

def arcL (m : Int) : Int := rnd (m * 3454217652358) 20
def sqL (m : Int) : Int := rnd (arcL m * arcL m) 30
def cosineL (m : Int) : Int := serL [2, 12, 30, 56, 90, 132, 182] true 1073741824 (sqL m) 1073741824
def sineL (m : Int) : Int := serL [6, 20, 42, 72, 110, 156, 210] true (arcL m) (sqL m) (arcL m)
/-- That of at most 512 parts. -/
def quartL (n : Int) : Int := if 256 < n then rnd (sineL (512 - n)) 4 else rnd (cosineL n) 4
/-- The cosine of parts of a circle. -/
def cosL (n : Int) : Int :=
  let m := if 1024 < n % 2048 then 2048 - n % 2048 else n % 2048
  if 512 < m then -quartL (1024 - m) else quartL m
def sinL (n : Int) : Int := cosL (n % 2048 - 512)

theorem cosL_congr {n m : Int} (h : n % 2048 = m % 2048) : cosL n = cosL m := by unfold cosL; rw [h]

theorem arc_range (m : Int) (h0 : 0 ≤ m) (h1 : m ≤ 256) : 0 ≤ arcL m ∧ arcL m ≤ 1073741824 := by
  unfold arcL
  have a := rnd_mono 20 (show 0 ≤ m * 3454217652358 by omega)
  have b := rnd_mono 20 (show m * 3454217652358 ≤ 1125899906842624 by omega)
  have e1 : rnd 0 20 = 0 := by decide +kernel
  have e2 : rnd 1125899906842624 20 = 1073741824 := by decide +kernel
  omega
theorem mul_range {a b : Int} (A B : Int) (h0 : 0 ≤ a) (h1 : a ≤ A) (k0 : 0 ≤ b) (k1 : b ≤ B) : 0 ≤ a * b ∧ a * b ≤ A * B :=
  ⟨Int.mul_nonneg h0 k0, Int.mul_le_mul h1 k1 k0 (Int.le_trans h0 h1)⟩
theorem rnd30_range (x : Int) (h0 : 0 ≤ x) (h1 : x ≤ 1152921504606846976) : 0 ≤ rnd x 30 ∧ rnd x 30 ≤ 1073741824 := by
  have a := rnd_mono 30 h0
  have b := rnd_mono 30 h1
  have e1 : rnd 0 30 = 0 := by decide +kernel
  have e2 : rnd 1152921504606846976 30 = 1073741824 := by decide +kernel
  omega
theorem sq_range (m : Int) (h0 : 0 ≤ m) (h1 : m ≤ 256) : 0 ≤ sqL m ∧ sqL m ≤ 1073741824 := by
  obtain ⟨a, b⟩ := arc_range m h0 h1
  obtain ⟨c, d⟩ := mul_range 1073741824 1073741824 a b a b
  exact rnd30_range _ c (by omega)
theorem term_range (f q d : Int) (h0 : 0 ≤ f) (h1 : f ≤ 1073741824) (k0 : 0 ≤ q) (k1 : q ≤ 1073741824) (hd : 1 ≤ d) : 0 ≤ rnd (f * q) 30 / d ∧ rnd (f * q) 30 / d ≤ 1073741824 := by
  obtain ⟨c, e⟩ := mul_range 1073741824 1073741824 h0 h1 k0 k1
  obtain ⟨r0, r1⟩ := rnd30_range _ c (by omega)
  exact ⟨Int.ediv_nonneg r0 (by omega), Int.le_trans (Int.ediv_le_self _ r0) r1⟩

theorem ser_bound (l : List Int) : ∀ (e : Bool) (f q s : Int), (∀ d ∈ l, 1 ≤ d) → 0 ≤ f → f ≤ 1073741824 → 0 ≤ q → q ≤ 1073741824 →
    s - 1073741824 * l.length ≤ serL l e f q s ∧ serL l e f q s ≤ s + 1073741824 * l.length := by
  induction l with
  | nil => intro e f q s _ _ _ _ _; simp [serL]
  | cons d l ih =>
    intro e f q s hd h0 h1 k0 k1
    obtain ⟨t0, t1⟩ := term_range f q d h0 h1 k0 k1 (hd d (by simp))
    have := ih (!e) (rnd (f * q) 30 / d) q (if e then s - rnd (f * q) 30 / d else s + rnd (f * q) 30 / d) (fun x hx => hd x (by simp [hx])) t0 t1 k0 k1
    rw [serL]
    simp only [List.length_cons]
    generalize rnd (f * q) 30 / d = t at *
    generalize serL l (!e) t q (if e = true then s - t else s + t) = z at *
    cases e <;> simp at this <;> omega

theorem cosine_range (m : Int) (h0 : 0 ≤ m) (h1 : m ≤ 256) : -8589934592 ≤ cosineL m ∧ cosineL m ≤ 8589934592 := by
  obtain ⟨a, b⟩ := sq_range m h0 h1
  have := ser_bound [2, 12, 30, 56, 90, 132, 182] true 1073741824 (sqL m) 1073741824 (by decide) (by decide) (by decide) a b
  unfold cosineL; simp at this; omega
theorem sine_range (m : Int) (h0 : 0 ≤ m) (h1 : m ≤ 256) : -8589934592 ≤ sineL m ∧ sineL m ≤ 8589934592 := by
  obtain ⟨a, b⟩ := sq_range m h0 h1
  obtain ⟨c, d⟩ := arc_range m h0 h1
  have := ser_bound [6, 20, 42, 72, 110, 156, 210] true (arcL m) (sqL m) (arcL m) (by decide) c d a b
  unfold sineL; simp at this; omega

/-- What is so of every part of a circle, by computation. -/
theorem all_parts (p : Int → Bool) (h : (List.range 2048).all (fun n => p n) = true) (n : Int) : p (n % 2048) = true := by
  have hn := Int.emod_nonneg n (b := 2048) (by decide)
  have hl := Int.emod_lt_of_pos n (b := 2048) (by decide)
  have := List.all_eq_true.1 h (n % 2048).toNat (by simp; omega)
  rwa [Int.toNat_of_nonneg hn] at this
theorem cos_mod (n : Int) : cosL (n % 2048) = cosL n := cosL_congr (by omega)

theorem cos_range_all : (List.range 2048).all (fun n => decide (-67108864 ≤ cosL n) && decide (cosL n ≤ 67108864)) = true := by decide +kernel
theorem cos_range (n : Int) : -67108864 ≤ cosL n ∧ cosL n ≤ 67108864 := by
  have := all_parts (fun n => decide (-67108864 ≤ cosL n) && decide (cosL n ≤ 67108864)) cos_range_all n
  simpa [cos_mod] using this
theorem sin_range (n : Int) : -67108864 ≤ sinL n ∧ sinL n ≤ 67108864 := cos_range _
end Go.Proofs.Yteijlbblmdclaaa
