/- Noise, in plain numbers: how loud, how signed, doubled. -/
import Derived.Test.YtpbjifohgfpeoaaVecPlain
import Derived.Test.YtpbjifohgfpeoaaNoise
set_option linter.unusedVariables false
set_option linter.unusedSimpArgs false
set_option linter.unusedSectionVars false
namespace Go.Proofs.Ytpbjifohgfpeoaa
theorem loud_core (v l : Nat → Int) (n : Nat) (A d R S : Int) (hA : 0 ≤ A) (hd : 256 ≤ d) (hR : 0 ≤ R) (hn : (n : Int) ≤ R * R) (hS : S = sumF (fun i => v i * v i) n)
    (h1 : 65536 * S ≤ (d + 1) * (d + 1)) (h2 : d * d ≤ 65536 * S) (hl : ∀ i, i < n → 2 * d * l i ≤ 512 * (v i * A) + d ∧ 512 * (v i * A) + d < 2 * d * l i + 2 * d) :
    sumF (fun i => l i * l i / 256) n ≤ (A / 16 + A / 1600 + R + 2) * (A / 16 + A / 1600 + R + 2) ∧
    (A / 16 - A / 1600 - R - 2 < 0 ∨ (A / 16 - A / 1600 - R - 2) * (A / 16 - A / 1600 - R - 2) ≤ sumF (fun i => l i * l i / 256) n + n) := by
  have hu : sumF (fun i => (512 * A * v i) * (512 * A * v i)) n = 4 * (A * A) * (65536 * S) := by
    rw [hS, ← sumF_smul, ← sumF_smul]
    exact sumF_congr n (fun i _ => by grind)
  have he : sumF (fun i => (2 * d * l i - 512 * A * v i) * (2 * d * l i - 512 * A * v i)) n ≤ (R * d) * (R * d) := by
    have h := sumF_mono (f := fun i => (2 * d * l i - 512 * A * v i) * (2 * d * l i - 512 * A * v i)) (g := fun _ => d * d) n (fun i hi => by
      obtain ⟨a, b⟩ := hl i hi
      have e : 512 * (v i * A) = 512 * A * v i := by grind
      rw [e] at a b
      generalize hy : 2 * d * l i = y at *
      generalize hz : 512 * A * v i = z at *
      have x1 : -d ≤ y - z := by omega
      have x2 : y - z ≤ d := by omega
      rcases Int.le_total 0 (y - z) with h | h
      · exact Int.mul_le_mul x2 x2 h (by omega)
      · have := Int.mul_le_mul (show -(y - z) ≤ d by omega) (show -(y - z) ≤ d by omega) (by omega) (by omega)
        rwa [Int.neg_mul_neg] at this)
    rw [sumF_const] at h
    have := Int.mul_le_mul_of_nonneg_left hn (sq_nonneg' d)
    grind
  have hA2 := sq_nonneg' A
  have a1 : 16 * (A / 16) ≤ A ∧ A ≤ 16 * (A / 16) + 15 := by omega
  have a2 : 1600 * (A / 1600) ≤ A ∧ A ≤ 1600 * (A / 1600) + 1599 := by omega
  have a3 : 0 ≤ A / 1600 := by omega
  have a4 : 0 ≤ A / 16 := by omega
  generalize A / 16 = a at *
  generalize A / 1600 = b at *
  constructor
  · have k := minkowski (fun i => 512 * A * v i) (fun i => 2 * d * l i - 512 * A * v i) n (2 * A * (d + 1)) (R * d) (Int.mul_nonneg (by omega) (by omega)) (Int.mul_nonneg hR (by omega)) (by
      rw [hu]
      have := Int.mul_le_mul_of_nonneg_left h1 (show 0 ≤ 4 * (A * A) by omega)
      grind) he
    have e : sumF (fun i => (512 * A * v i + (2 * d * l i - 512 * A * v i)) * (512 * A * v i + (2 * d * l i - 512 * A * v i))) n = (4 * (d * d)) * sumF (fun i => l i * l i) n := by
      rw [← sumF_smul]; exact sumF_congr n (fun i _ => by grind)
    rw [e] at k
    have m : 256 * sumF (fun i => l i * l i / 256) n ≤ sumF (fun i => l i * l i) n := by
      rw [← sumF_smul]; exact sumF_mono n (fun i _ => by omega)
    have bnd : 2 * A * (d + 1) + R * d ≤ 32 * d * (a + b + R + 2) := by
      have b1 : 256 * b ≤ d * b := Int.mul_le_mul_of_nonneg_right hd a3
      have b2 : 2 * d * A ≤ 2 * d * (16 * a + 15) := Int.mul_le_mul_of_nonneg_left a1.2 (by omega)
      have b3 : 0 ≤ d * R := Int.mul_nonneg (by omega) hR
      grind
    have sq : (2 * A * (d + 1) + R * d) * (2 * A * (d + 1) + R * d) ≤ (32 * d * (a + b + R + 2)) * (32 * d * (a + b + R + 2)) := by
      have : 0 ≤ 2 * A * (d + 1) + R * d := Int.add_nonneg (Int.mul_nonneg (by omega) (by omega)) (Int.mul_nonneg hR (by omega))
      exact Int.mul_le_mul bnd bnd this (by omega)
    have dd : 0 < 1024 * (d * d) := by
      have := Int.mul_le_mul hd hd (by omega) (by omega); omega
    have fin : 1024 * (d * d) * sumF (fun i => l i * l i / 256) n ≤ 1024 * (d * d) * ((a + b + R + 2) * (a + b + R + 2)) := by
      have := Int.mul_le_mul_of_nonneg_left m (show 0 ≤ 4 * (d * d) by omega)
      grind
    exact Int.le_of_mul_le_mul_left fin dd
  · rcases Int.lt_or_le (a - b - R - 2) 0 with hneg | hpos
    · exact .inl hneg
    · refine .inr ?_
      rcases Int.lt_or_le (sumF (fun i => l i * l i / 256) n + n) ((a - b - R - 2) * (a - b - R - 2)) with hlt | hge
      · exfalso
        have m : sumF (fun i => l i * l i) n ≤ 256 * (sumF (fun i => l i * l i / 256) n + n) := by
          have h0 : sumF (fun i => l i * l i) n ≤ sumF (fun i => 256 * (l i * l i / 256) + 256) n := sumF_mono n (fun i _ => by omega)
          rw [sumF_add, sumF_smul, sumF_const] at h0
          omega
        have p1 : sumF (fun i => (2 * d * l i) * (2 * d * l i)) n = (4 * (d * d)) * sumF (fun i => l i * l i) n := by
          rw [← sumF_smul]; exact sumF_congr n (fun i _ => by grind)
        have dd := sq_nonneg' d
        have k := minkowski (fun i => 2 * d * l i) (fun i => -(2 * d * l i - 512 * A * v i)) n (32 * d * (a - b - R - 2)) (R * d) (Int.mul_nonneg (by omega) hpos) (Int.mul_nonneg hR (by omega)) (by
          rw [p1]
          have := Int.mul_le_mul_of_nonneg_left (show sumF (fun i => l i * l i) n ≤ 256 * ((a - b - R - 2) * (a - b - R - 2)) by omega) (show 0 ≤ 4 * (d * d) by omega)
          grind) (by
          rw [sumF_congr (g := fun i => (2 * d * l i - 512 * A * v i) * (2 * d * l i - 512 * A * v i)) n (fun i _ => by grind)]; exact he)
        rw [sumF_congr (g := fun i => (512 * A * v i) * (512 * A * v i)) n (fun i _ => by grind), hu] at k
        have lo := Int.mul_le_mul_of_nonneg_left h2 (show 0 ≤ 4 * (A * A) by omega)
        have x0 : 0 ≤ 32 * d * (a - b - R - 2) + R * d := Int.add_nonneg (Int.mul_nonneg (by omega) hpos) (Int.mul_nonneg hR (by omega))
        have x1 : 32 * d * (a - b - R - 2) + R * d < 2 * A * d := by
          have b1 : 2 * d * (16 * a) ≤ 2 * d * A := Int.mul_le_mul_of_nonneg_left a1.1 (by omega)
          have b2 : 0 ≤ d * R := Int.mul_nonneg (by omega) hR
          have b3 : 0 ≤ d * b := Int.mul_nonneg (by omega) a3
          grind
        have := sq_lt_sq x0 x1
        grind
      · exact hge

theorem per_spec (a b : Int) (hb : 0 < b) : 2 * b * perV a b ≤ 2 * a + b ∧ 2 * a + b < 2 * b * perV a b + 2 * b := by
  have h1 := Int.emod_nonneg (2 * a + b) (b := 2 * b) (by omega)
  have h2 := Int.emod_lt_of_pos (2 * a + b) (b := 2 * b) (by omega)
  have h3 := Int.mul_ediv_add_emod (2 * a + b) (2 * b)
  unfold perV
  omega
/-- A quotient of at most 2 in size. -/
theorem quot_small {d x k : Int} (hd : 0 < d) (h1 : d * x < d * k) : x < k := Int.lt_of_mul_lt_mul_left h1 (Int.le_of_lt hd)
/-- No line is above the line of 1. -/
theorem noise_size (v A d : Int) (hd : 0 < d) (hA : 0 ≤ A) (h1 : 256 * v ≤ d) (h2 : -d ≤ 256 * v) : -A ≤ perV (v * A * 256) d ∧ perV (v * A * 256) d ≤ A := by
  obtain ⟨a, b⟩ := per_spec (v * A * 256) d hd
  have c1 := Int.mul_le_mul_of_nonneg_right h1 hA
  have c2 := Int.mul_le_mul_of_nonneg_right h2 hA
  generalize perV (v * A * 256) d = x at *
  constructor
  · have := quot_small (d := 2 * d) (x := -A) (k := x + 1) (by omega) (by grind)
    omega
  · have := quot_small (d := 2 * d) (x := x) (k := A + 1) (by omega) (by grind)
    omega
/-- Noise has the sign of its draw. -/
theorem noise_sign (v A d : Int) (hd : 0 < d) (hA : 0 ≤ A) : (0 ≤ v → 0 ≤ perV (v * A * 256) d) ∧ (v ≤ 0 → perV (v * A * 256) d ≤ 0) := by
  obtain ⟨a, b⟩ := per_spec (v * A * 256) d hd
  generalize perV (v * A * 256) d = x at *
  constructor
  · intro h
    have h' := Int.mul_nonneg h hA
    have := quot_small (d := 2 * d) (x := 0) (k := x + 1) (by omega) (by grind)
    omega
  · intro h
    have h' := Int.mul_nonneg_of_nonpos_of_nonpos (a := v) (b := -A) h (by omega)
    have := quot_small (d := 2 * d) (x := x) (k := 1) (by omega) (by grind)
    omega
/-- Noise of a line twice as great, but for 1. -/
theorem noise_double (v A B d : Int) (hd : 0 < d) (h1 : 256 * v ≤ d) (h2 : -d ≤ 256 * v) (b1 : -1 ≤ B - 2 * A) (b2 : B - 2 * A ≤ 1) :
    -2 ≤ perV (v * B * 256) d - 2 * perV (v * A * 256) d ∧ perV (v * B * 256) d - 2 * perV (v * A * 256) d ≤ 2 := by
  obtain ⟨p, q⟩ := per_spec (v * A * 256) d hd
  obtain ⟨r, s⟩ := per_spec (v * B * 256) d hd
  generalize perV (v * A * 256) d = x at *
  generalize perV (v * B * 256) d = y at *
  have e : v * B * 256 = 2 * (v * A * 256) + 256 * v * (B - 2 * A) := by grind
  have m : -d ≤ 256 * v * (B - 2 * A) ∧ 256 * v * (B - 2 * A) ≤ d := by
    rcases (show B - 2 * A = -1 ∨ B - 2 * A = 0 ∨ B - 2 * A = 1 by omega) with h | h | h <;> rw [h] <;> omega
  rw [e] at r s
  generalize 256 * v * (B - 2 * A) = z at *
  generalize v * A * 256 = t at *
  constructor
  · have := quot_small (d := 2 * d) (x := -3) (k := y - 2 * x) (by omega) (by grind)
    omega
  · have := quot_small (d := 2 * d) (x := y - 2 * x) (k := 3) (by omega) (by grind)
    omega
/-- Unlike bands have unlike seeds. -/
theorem seed_inj (x y : Int) (x0 : 0 ≤ x) (x1 : x < 4294967296) (y0 : 0 ≤ y) (y1 : y < 4294967296) (h : x * 2654435761 % 4294967296 = y * 2654435761 % 4294967296) : x = y := by
  have inv : ∀ z : Int, z * 2654435761 * 244002641 % 4294967296 = z % 4294967296 := by
    intro z
    have e : z * 2654435761 * 244002641 = z + 4294967296 * (z * 150801925) := by rw [Int.mul_assoc]; grind
    rw [e, Int.add_mul_emod_self_left]
  have a := inv x
  have b := inv y
  rw [Int.mul_emod] at a b
  rw [h, b] at a
  rw [Int.emod_eq_of_lt y0 y1, Int.emod_eq_of_lt x0 x1] at a
  exact a.symm

end Go.Proofs.Ytpbjifohgfpeoaa
