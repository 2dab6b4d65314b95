/- tns: coefficients of prediction, in plain numbers. -/
import Derived.Test.YteijlbblmdclaaaTnsMir
set_option linter.unusedVariables false
namespace Go.Proofs.Yteijlbblmdclaaa

/-- One coefficient more. -/
def nextL (k : Int) (a : List Int) : List Int := (List.range a.length).map (fun i => a.getD i 0 + rnd (k * a.getD (a.length - 1 - i) 0) 20) ++ [k]
def coefP (fine : Bool) (cs : List Int) : Nat → List Int
  | 0 => []
  | m + 1 => nextL (mirL (cs.getD m 0) fine) (coefP fine cs m)
theorem nextL_len (k : Int) (a : List Int) : (nextL k a).length = a.length + 1 := by simp [nextL]
theorem coefP_len (fine : Bool) (cs : List Int) : ∀ m, (coefP fine cs m).length = m
  | 0 => rfl
  | m + 1 => by rw [coefP, nextL_len, coefP_len fine cs m]
theorem nextL_get (k : Int) (a : List Int) {i : Nat} (hi : i < a.length) : (nextL k a).getD i 0 = a.getD i 0 + rnd (k * a.getD (a.length - 1 - i) 0) 20 := by
  unfold nextL
  rw [List.getD_eq_getElem?_getD, List.getElem?_append_left (by simpa using hi), List.getElem?_map, List.getElem?_range hi]
  rfl
theorem nextL_last (k : Int) (a : List Int) : (nextL k a).getD a.length 0 = k := by
  unfold nextL
  rw [List.getD_eq_getElem?_getD, List.getElem?_append_right (by simp)]
  simp
theorem rnd_mul (B : Int) : rnd (1048576 * B) 20 = B := by
  unfold rnd
  rw [if_neg (by decide)]
  show (1048576 * B + 524288) / 1048576 = B
  omega
theorem rnd_prod {k b B : Int} (h1 : -1048576 ≤ k) (h2 : k ≤ 1048576) (h3 : -B ≤ b) (h4 : b ≤ B) : (-(1048576 * B) ≤ k * b ∧ k * b ≤ 1048576 * B) ∧ -B ≤ rnd (k * b) 20 ∧ rnd (k * b) 20 ≤ B := by
  have hB : 0 ≤ B := by omega
  have hp : -(1048576 * B) ≤ k * b ∧ k * b ≤ 1048576 * B := by
    have a1 : 0 ≤ (1048576 - k) * (B + b) := Int.mul_nonneg (by omega) (by omega)
    have a2 : 0 ≤ (1048576 + k) * (B - b) := Int.mul_nonneg (by omega) (by omega)
    have a3 : 0 ≤ (1048576 - k) * (B - b) := Int.mul_nonneg (by omega) (by omega)
    have a4 : 0 ≤ (1048576 + k) * (B + b) := Int.mul_nonneg (by omega) (by omega)
    constructor <;> grind
  have m1 := rnd_mono 20 hp.1
  have m2 := rnd_mono 20 hp.2
  rw [show -(1048576 * B) = 1048576 * (-B) by omega, rnd_mul] at m1
  rw [rnd_mul] at m2
  exact ⟨hp, m1, m2⟩
/-- How great they may be. -/
theorem coefP_fit (fine : Bool) (cs : List Int) : ∀ m j, -(1048576 * 2 ^ m) ≤ (coefP fine cs m).getD j 0 ∧ (coefP fine cs m).getD j 0 ≤ 1048576 * 2 ^ m
  | 0, j => by simp [coefP]
  | m + 1, j => by
    have hk := mirL_range (cs.getD m 0) fine
    have hl := coefP_len fine cs m
    have hp : (1 : Int) ≤ 2 ^ m := by have := pow_pos' m; omega
    rw [coefP]
    generalize mirL (cs.getD m 0) fine = k at *
    have ih := coefP_fit fine cs m
    generalize coefP fine cs m = a at *
    rw [Int.pow_succ]
    by_cases hj : j < a.length
    · rw [nextL_get k a hj]
      have i1 := ih j
      have i2 := ih (a.length - 1 - j)
      have := (rnd_prod hk.1 hk.2 i2.1 i2.2).2
      omega
    · by_cases he : j = a.length
      · rw [he, nextL_last]
        omega
      · rw [List.getD_eq_getElem?_getD, List.getElem?_eq_none (by rw [nextL_len]; omega)]
        simp only [Option.getD_none]
        omega
theorem coefP_fit12 (fine : Bool) (cs : List Int) {m : Nat} (hm : m ≤ 12) (j : Nat) : -4294967296 ≤ (coefP fine cs m).getD j 0 ∧ (coefP fine cs m).getD j 0 ≤ 4294967296 := by
  have h := coefP_fit fine cs m j
  have h2 : (2 : Int) ^ m ≤ 2 ^ 12 := pow_le_pow' hm
  omega
/-- The error of a filter. -/
def oddL (fine : Bool) (c : Int) : Bool := decide (c < -(if fine then 7 else 3) - 1) || decide ((if fine then 7 else 3) < c)
def filtE (len order : Int) (fine : Bool) (cs : List Int) : Int :=
  if order < 0 ∨ 12 < order ∨ (cs.length : Int) ≠ order then 4 else if len < 0 ∨ 63 < len ∨ cs.any (oddL fine) = true then 2 else 0
theorem filt_ok {len order : Int} {fine : Bool} {cs : List Int} (h : filtE len order fine cs = 0) : (cs.length : Int) = order ∧ cs.length ≤ 12 ∧ ∀ j, j < cs.length → -8 ≤ cs.getD j 0 ∧ cs.getD j 0 ≤ 7 := by
  unfold filtE at h
  split at h
  · simp at h
  · rename_i h1
    split at h
    · simp at h
    · rename_i h2
      refine ⟨by omega, by omega, fun j hj => ?_⟩
      have h3 : cs.any (oddL fine) = false := by simpa using fun e => h2 (.inr (.inr e))
      rw [List.any_eq_false] at h3
      have := h3 (cs.getD j 0) (by rw [List.getD_eq_getElem?_getD, List.getElem?_eq_getElem hj]; simp)
      unfold oddL at this
      generalize cs.getD j 0 = z at *
      cases fine <;> simp at this <;> omega
end Go.Proofs.Yteijlbblmdclaaa
