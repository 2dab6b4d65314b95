/- No quantised line's line is nearer than that of the quantised one. -/
import Derived.Test.YtppfbfiigfjncaaQuantAll
import Derived.Test.YtppfbfiigfjncaaDoublesPlain
set_option linter.unusedVariables false
namespace Go.Proofs.Ytppfbfiigfjncaa

theorem quantN_spec (x : Int) (s : Nat) : quantN x s ≤ 8191 ∧ (quantN x s < 8191 → 2 * x ≤ lineN (quantN x s) s + lineN (quantN x s + 1) s) ∧ ∀ i, i < quantN x s → lineN i s + lineN (i + 1) s < 2 * x := by
  obtain ⟨a, b, c⟩ := least_spec 8191 (halfway x s)
  refine ⟨a, fun h => of_decide_eq_true (b h), fun i hi => ?_⟩
  have := of_decide_eq_false (c i hi)
  omega
theorem near_nat (x : Int) (s q : Nat) (x0 : 0 ≤ x) (hq : q ≤ 8191) : farI x (lineN (quantN x s) s) ≤ farI x (lineN q s) := by
  obtain ⟨a, b, c⟩ := quantN_spec x s
  generalize quantN x s = k at *
  unfold farI
  rcases Nat.lt_trichotomy q k with h | h | h
  · have h1 := c (k - 1) (by omega)
    rw [show k - 1 + 1 = k by omega] at h1
    have h2 := lineN_mono (a := q) (b := k - 1) s (by omega) (by omega)
    have h3 := lineN_mono (a := q) (b := k) s (by omega) (by omega)
    omega
  · subst h; exact Int.le_refl _
  · have h1 := b (by omega)
    have h2 := lineN_mono (a := k + 1) (b := q) s (by omega) (by omega)
    have h3 := lineN_mono (a := k) (b := q) s (by omega) (by omega)
    omega
theorem back_nat (s q : Nat) (hq : q ≤ 8191) : lineN (quantN (lineN q s) s) s = lineN q s := by
  obtain ⟨a, b, c⟩ := quantN_spec (lineN q s) s
  generalize quantN (lineN q s) s = k at *
  rcases Nat.lt_trichotomy k q with h | h | h
  · have h1 := b (by omega)
    have h2 := lineN_mono (a := k + 1) (b := q) s (by omega) (by omega)
    have h3 := lineN_mono (a := k) (b := q) s (by omega) (by omega)
    omega
  · rw [h]
  · have h1 := c q h
    have h2 := lineN_mono (a := q) (b := q + 1) s (by omega) (by omega)
    omega
theorem mono_nat (x y : Int) (s : Nat) (h : x ≤ y) : quantN x s ≤ quantN y s := by
  obtain ⟨a, b, c⟩ := quantN_spec x s
  obtain ⟨d, e, f⟩ := quantN_spec y s
  rcases Nat.lt_or_ge (quantN y s) (quantN x s) with h' | h'
  · have h1 := e (by omega)
    have h2 := c _ h'
    omega
  · exact h'
theorem quantL_line (x : Int) (s : Nat) : lineL (quantL x s) s = if x < 0 then -lineN (quantN (-x) s) s else lineN (quantN x s) s := by
  unfold quantL
  split
  · rw [lineL_neg, lineL_nat]
  · rw [lineL_nat]
theorem near_int (x : Int) (s : Nat) (q : Int) (q0 : -8191 ≤ q) (q1 : q ≤ 8191) : farI x (lineL (quantL x s) s) ≤ farI x (lineL q s) := by
  rw [quantL_line]
  have h0 := lineN_zero s
  by_cases hx : x < 0
  · rw [if_pos hx]
    have n0 := near_nat (-x) s 0 (by omega) (by decide)
    rw [h0] at n0
    by_cases hq : q < 0
    · have n1 := near_nat (-x) s (-q).toNat (by omega) (by omega)
      have e : lineL q s = -lineN (-q).toNat s := by unfold lineL; rw [if_pos hq]
      rw [e]
      unfold farI at *
      omega
    · have r := (lineN_range q.toNat s (by omega)).1
      have e : lineL q s = lineN q.toNat s := by unfold lineL; rw [if_neg hq]
      rw [e]
      unfold farI at *
      omega
  · rw [if_neg hx]
    have n0 := near_nat x s 0 (by omega) (by decide)
    rw [h0] at n0
    by_cases hq : q < 0
    · have r := (lineN_range (-q).toNat s (by omega)).1
      have e : lineL q s = -lineN (-q).toNat s := by unfold lineL; rw [if_pos hq]
      rw [e]
      unfold farI at *
      omega
    · have n1 := near_nat x s q.toNat (by omega) (by omega)
      have e : lineL q s = lineN q.toNat s := by unfold lineL; rw [if_neg hq]
      rw [e]
      exact n1
theorem back_int (q : Int) (s : Nat) (q0 : -8191 ≤ q) (q1 : q ≤ 8191) : lineL (quantL (lineL q s) s) s = lineL q s := by
  rw [quantL_line]
  by_cases hq : q < 0
  · have e : lineL q s = -lineN (-q).toNat s := by unfold lineL; rw [if_pos hq]
    have r := (lineN_range (-q).toNat s (by omega)).1
    have b := back_nat s (-q).toNat (by omega)
    rw [e]
    by_cases hz : -lineN (-q).toNat s < 0
    · rw [if_pos hz, Int.neg_neg, b]
    · rw [if_neg hz, show -lineN (-q).toNat s = lineN (-q).toNat s by omega, b]
  · have e : lineL q s = lineN q.toNat s := by unfold lineL; rw [if_neg hq]
    have r := (lineN_range q.toNat s (by omega)).1
    have b := back_nat s q.toNat (by omega)
    rw [e, if_neg (by omega), b]
theorem mono_int (x y : Int) (s : Nat) (h : x ≤ y) : quantL x s ≤ quantL y s := by
  unfold quantL
  by_cases hx : x < 0
  · rw [if_pos hx]
    by_cases hy : y < 0
    · rw [if_pos hy]; have := mono_nat (-y) (-x) s (by omega); omega
    · rw [if_neg hy]; omega
  · rw [if_neg hx, if_neg (by omega)]
    have := mono_nat x y s h; omega
theorem quantL_range (x : Int) (s : Nat) : -8191 ≤ quantL x s ∧ quantL x s ≤ 8191 := by
  have := quantN_le (-x) s
  have := quantN_le x s
  unfold quantL; split <;> omega
end Go.Proofs.Ytppfbfiigfjncaa
