/- Coefficients of prediction: all their sizes together. -/
import Derived.Test.YteijlbblmdclaaaTnsPlain
import Derived.Test.YteijlbblmdclaaaVecPlain
set_option linter.unusedVariables false
namespace Go.Proofs.Yteijlbblmdclaaa

def ab (x : Int) : Int := max x (-x)
theorem ab_nonneg (x : Int) : 0 ≤ ab x := by unfold ab; omega
theorem ab_le {x B : Int} (h1 : -B ≤ x) (h2 : x ≤ B) : ab x ≤ B := by unfold ab; omega
theorem ab_two (x : Int) : -ab x ≤ x ∧ x ≤ ab x := by unfold ab; omega
theorem ab_add (x y : Int) : ab (x + y) ≤ ab x + ab y := by unfold ab; omega
def absF (a : List Int) (n : Nat) : Int := sumF (fun i => ab (a.getD i 0)) n
theorem absF_nonneg (a : List Int) (n : Nat) : 0 ≤ absF a n := sumF_nonneg n (fun i _ => ab_nonneg _)
theorem absF_mono (a : List Int) {n m : Nat} (h : n ≤ m) : absF a n ≤ absF a m := by
  induction m with
  | zero => rw [show n = 0 by omega]; exact Int.le_refl _
  | succ m ih =>
    by_cases e : n = m + 1
    · rw [e]; exact Int.le_refl _
    · have := ih (by omega)
      have h2 := ab_nonneg (a.getD m 0)
      unfold absF at *
      rw [sumF]; omega
theorem sumF_first (f : Nat → Int) : ∀ n, sumF f (n + 1) = f 0 + sumF (fun i => f (i + 1)) n
  | 0 => by simp [sumF]
  | n + 1 => by rw [sumF, sumF_first f n, sumF]; omega
theorem sumF_back (f : Nat → Int) : ∀ n, sumF (fun k => f (n - 1 - k)) n = sumF f n
  | 0 => rfl
  | n + 1 => by
    rw [sumF_first]
    have ih := sumF_back f n
    rw [sumF_congr (f := fun i => f (n + 1 - 1 - (i + 1))) (g := fun k => f (n - 1 - k)) n (fun i hi => by congr 1; omega), ih]
    rw [sumF]
    show f (n + 1 - 1 - 0) + sumF f n = _
    rw [show n + 1 - 1 - 0 = n by omega]; omega
theorem abs_next (k : Int) (a : List Int) (h1 : -1048576 ≤ k) (h2 : k ≤ 1048576) : absF (nextL k a) (a.length + 1) ≤ 2 * absF a a.length + ab k := by
  have e : absF (nextL k a) (a.length + 1) = sumF (fun i => ab ((nextL k a).getD i 0)) a.length + ab k := by
    unfold absF; rw [sumF, nextL_last]
  have b : sumF (fun i => ab ((nextL k a).getD i 0)) a.length ≤ sumF (fun i => ab (a.getD i 0) + ab (a.getD (a.length - 1 - i) 0)) a.length := by
    refine sumF_mono a.length (fun i hi => ?_)
    rw [nextL_get k a hi]
    have t := ab_two (a.getD (a.length - 1 - i) 0)
    have p := (rnd_prod h1 h2 t.1 t.2).2
    have := ab_add (a.getD i 0) (rnd (k * a.getD (a.length - 1 - i) 0) 20)
    have := ab_le p.1 p.2
    omega
  rw [sumF_add, sumF_back (fun i => ab (a.getD i 0))] at b
  rw [e]
  unfold absF
  omega
theorem coef_abs (fine : Bool) (cs : List Int) : ∀ m, absF (coefP fine cs m) m ≤ 1048576 * (2 ^ m - 1)
  | 0 => by simp [absF, sumF]
  | m + 1 => by
    have hk := mirL_range (cs.getD m 0) fine
    have hl := coefP_len fine cs m
    have ih := coef_abs fine cs m
    rw [coefP]
    have h := abs_next (mirL (cs.getD m 0) fine) (coefP fine cs m) hk.1 hk.2
    rw [hl] at h
    have := ab_le hk.1 hk.2
    rw [Int.pow_succ]
    omega
theorem coef_steady (fine : Bool) (cs : List Int) {m : Nat} (hm : m ≤ 12) : absF (coefP fine cs m) m ≤ 4293918720 := by
  have h := coef_abs fine cs m
  have h2 : (2 : Int) ^ m ≤ 2 ^ 12 := pow_le_pow' hm
  omega
/-- What is told of the lines ahead: of the first j coefficients. -/
def toldF (a now : List Int) (n j : Nat) : Int := sumF (fun k => a.getD k 0 * now.getD (n - 1 - k) 0) j
theorem told_abs (a now : List Int) (n : Nat) (hb : ∀ j, -268435455 ≤ now.getD j 0 ∧ now.getD j 0 ≤ 268435455) : ∀ j, -(268435455 * absF a j) ≤ toldF a now n j ∧ toldF a now n j ≤ 268435455 * absF a j
  | 0 => by simp [toldF, absF, sumF]
  | j + 1 => by
    have ih := told_abs a now n hb j
    have b := hb (n - 1 - j)
    have t := ab_two (a.getD j 0)
    have p : -(ab (a.getD j 0) * 268435455) ≤ a.getD j 0 * now.getD (n - 1 - j) 0 ∧ a.getD j 0 * now.getD (n - 1 - j) 0 ≤ ab (a.getD j 0) * 268435455 := mul_ab t.1 t.2 b.1 b.2
    unfold toldF absF at *
    rw [sumF, sumF]
    generalize a.getD j 0 * now.getD (n - 1 - j) 0 = P at *
    generalize ab (a.getD j 0) = A at *
    omega
where
  mul_ab {a b A B : Int} (h1 : -A ≤ a) (h2 : a ≤ A) (h3 : -B ≤ b) (h4 : b ≤ B) : -(A * B) ≤ a * b ∧ a * b ≤ A * B := by
    have a1 : 0 ≤ (A - a) * (B + b) := Int.mul_nonneg (by omega) (by omega)
    have a2 : 0 ≤ (A + a) * (B - b) := Int.mul_nonneg (by omega) (by omega)
    have a3 : 0 ≤ (A - a) * (B - b) := Int.mul_nonneg (by omega) (by omega)
    have a4 : 0 ≤ (A + a) * (B + b) := Int.mul_nonneg (by omega) (by omega)
    constructor <;> grind
end Go.Proofs.Yteijlbblmdclaaa
