/- Four steps more double a line; a number eight times as great has sixteen times the line, nearly. -/
import Derived.Test.YtppfbfiigfjncaaPowerPlain
import Derived.Test.YtppfbfiigfjncaaSumsPlain
namespace Go.Proofs.Ytppfbfiigfjncaa

theorem double_nat (q s : Nat) (h : q ≤ 8191) (hb : lineN q (s + 4) < 268435455) : -1 ≤ lineN q (s + 4) - 2 * lineN q s ∧ lineN q (s + 4) - 2 * lineN q s ≤ 1 := by
  by_cases h0 : q = 0
  · subst h0; rw [lineN_zero, lineN_zero]; decide
  by_cases hs : 61 ≤ (s + 4) / 4
  · rw [lineN_top q (s + 4) (by omega) h hs] at hb; omega
  have m1 := step_mono q s h
  have m2 := step_mono q (s + 1) h
  have m3 := step_mono q (s + 2) h
  have m4 := step_mono q (s + 3) h
  have e1 : rawL q (s + 4) = rnd ((powN q : Int) * qrt (s % 4) + (powN q : Int) * qrt (s % 4)) (61 - s / 4) := by
    unfold rawL
    rw [show (s + 4) % 4 = s % 4 by omega, show 61 - (s + 4) / 4 = (61 - s / 4) - 1 by omega, ← rnd_double _ _ (by omega), Int.two_mul]
  have ha := rnd_add ((powN q : Int) * qrt (s % 4)) ((powN q : Int) * qrt (s % 4)) (61 - s / 4)
  rw [← e1] at ha
  have e2 : rawL q s = rnd ((powN q : Int) * qrt (s % 4)) (61 - s / 4) := rfl
  rw [← e2] at ha
  unfold lineN at *
  omega

theorem cb_eight (n : Nat) (hn : 8 * n ≤ 4611686018427387904) : 2 * cbN n ≤ cbN (8 * n) ∧ cbN (8 * n) ≤ 2 * cbN n + 1 := by
  obtain ⟨a1, a2⟩ := cbN_spec n (by omega)
  obtain ⟨b1, b2⟩ := cbN_spec (8 * n) hn
  generalize cbN n = c at *
  generalize cbN (8 * n) = d at *
  have e1 : 2 * c * (2 * c) * (2 * c) = 8 * (c * c * c) := by
    rw [show 2 * c * (2 * c) = 4 * (c * c) by rw [Nat.mul_mul_mul_comm], Nat.mul_mul_mul_comm]
  have e2 : 2 * (c + 1) * (2 * (c + 1)) * (2 * (c + 1)) = 8 * ((c + 1) * (c + 1) * (c + 1)) := by
    rw [show 2 * (c + 1) * (2 * (c + 1)) = 4 * ((c + 1) * (c + 1)) by rw [Nat.mul_mul_mul_comm], Nat.mul_mul_mul_comm]
  constructor
  · rcases Nat.lt_or_ge d (2 * c) with h | h
    · have := cb_le (show d + 1 ≤ 2 * c by omega); omega
    · exact h
  · rcases Nat.lt_or_ge (2 * c + 1) d with h | h
    · have := cb_le (show 2 * (c + 1) ≤ d by omega); omega
    · exact h
theorem eight_arith (q X Y : Nat) (k1 : 16 * Y ≤ X) (k2 : X ≤ 16 * Y + 8 * q) (k3 : 8 * q * 8192 ≤ X) : 16 * Y ≤ X ∧ 8192 * (X - 16 * Y) ≤ X := by omega
theorem eight_core (q c d : Nat) (c1 : 2 * c ≤ d) (c2 : d ≤ 2 * c + 1) (g1 : 8192 ≤ d) : 16 * (q * c) ≤ 8 * q * d ∧ 8192 * (8 * q * d - 16 * (q * c)) ≤ 8 * q * d := by
  have k1 : 8 * q * (2 * c) ≤ 8 * q * d := Nat.mul_le_mul_left _ c1
  have k2 : 8 * q * d ≤ 8 * q * (2 * c + 1) := Nat.mul_le_mul_left _ c2
  have k3 : 8 * q * 8192 ≤ 8 * q * d := Nat.mul_le_mul_left _ g1
  have e1 : 8 * q * (2 * c) = 16 * (q * c) := by rw [Nat.mul_mul_mul_comm]
  have e2 : 8 * q * (2 * c + 1) = 16 * (q * c) + 8 * q := by rw [Nat.mul_add, e1, Nat.mul_one]
  rw [e1] at k1
  rw [e2] at k2
  exact eight_arith q _ _ k1 k2 k3
theorem pow_eight (q : Nat) (h : 8 * q ≤ 8191) : 16 * powN q ≤ powN (8 * q) ∧ 8192 * (powN (8 * q) - 16 * powN q) ≤ powN (8 * q) := by
  by_cases h0 : q = 0
  · subst h0; decide +kernel
  obtain ⟨c1, c2⟩ := cb_eight (q * 68719476736) (by omega)
  have e : 8 * (q * 68719476736) = 8 * q * 68719476736 := by rw [Nat.mul_assoc]
  rw [e] at c1 c2
  have g1 : 8192 ≤ cbN (8 * q * 68719476736) := by
    have := cbN_mono (n := 8 * 68719476736) (m := 8 * q * 68719476736) (Nat.mul_le_mul_right _ (by omega)) (by omega)
    have h2 : 8192 ≤ cbN (8 * 68719476736) := by decide +kernel
    exact Nat.le_trans h2 this
  unfold powN
  exact eight_core q _ _ c1 c2 g1

theorem eight_nat (q s : Nat) (h : 8 * q ≤ 8191) (hb : lineN (8 * q) s < 268435455) :
    -8 ≤ lineN (8 * q) s - 16 * lineN q s ∧ lineN (8 * q) s - 16 * lineN q s ≤ 16 + lineN (8 * q) s / 4096 := by
  by_cases h0 : q = 0
  · subst h0; rw [Nat.mul_zero, lineN_zero]; decide
  by_cases hs : 61 ≤ s / 4
  · rw [lineN_top (8 * q) s (by omega) h hs] at hb; omega
  obtain ⟨p1, p2⟩ := pow_eight q h
  have hr := raw_mono (a := q) (b := 8 * q) s (by omega) h
  have hge := (raw_range (8 * q) s h).1
  have hge2 := (raw_range q s (by omega)).1
  have ec : lineN (8 * q) s = rawL (8 * q) s := by unfold lineN at hb ⊢; omega
  have ea : lineN q s = rawL q s := by unfold lineN at hb ⊢; omega
  rw [ec, ea]
  obtain ⟨a1, a2⟩ := rnd_spec ((powN (8 * q) : Int) * qrt (s % 4)) (61 - s / 4) (by omega)
  obtain ⟨b1, b2⟩ := rnd_spec ((powN q : Int) * qrt (s % 4)) (61 - s / 4) (by omega)
  have h4 := pow_pred (61 - s / 4) (by omega)
  have hp := pow_pos' (61 - s / 4 - 1)
  obtain ⟨g0, g1⟩ := qrt_range (s % 4)
  change -2 ^ (61 - s / 4 - 1) ≤ _ - rawL (8 * q) s * _ at a1
  change _ - rawL (8 * q) s * _ < _ at a2
  change -2 ^ (61 - s / 4 - 1) ≤ _ - rawL q s * _ at b1
  change _ - rawL q s * _ < _ at b2
  generalize rawL (8 * q) s = c at *
  generalize rawL q s = a at *
  rw [h4] at a1 a2 b1 b2
  generalize (2 : Int) ^ (61 - s / 4 - 1) = p at *
  have P1 : (16 : Int) * powN q ≤ powN (8 * q) := by omega
  have P2 : (8192 : Int) * (powN (8 * q) - 16 * powN q) ≤ powN (8 * q) := by omega
  generalize (powN (8 * q) : Int) = P8 at *
  generalize (powN q : Int) = P at *
  generalize qrt (s % 4) = g at *
  have X1 : 16 * (P * g) ≤ P8 * g := by
    have := Int.mul_le_mul_of_nonneg_right P1 (show 0 ≤ g by omega)
    rw [Int.mul_assoc] at this; exact this
  have X2 : 8192 * (P8 * g - 16 * (P * g)) ≤ P8 * g := by
    have := Int.mul_le_mul_of_nonneg_right P2 (show 0 ≤ g by omega)
    rw [Int.mul_assoc, Int.sub_mul, Int.mul_assoc] at this; exact this
  generalize P8 * g = X8 at *
  generalize P * g = X at *
  have e1 : c * (p * 2) = 2 * (p * c) := by rw [Int.mul_comm c, Int.mul_comm p 2, Int.mul_assoc]
  have e2 : a * (p * 2) = 2 * (p * a) := by rw [Int.mul_comm a, Int.mul_comm p 2, Int.mul_assoc]
  rw [e1] at a1 a2
  rw [e2] at b1 b2
  constructor
  · rcases Int.lt_or_le (c - 16 * a) (-8) with h | h
    · exfalso
      have k : p * (c - 16 * a) ≤ p * (-9) := Int.mul_le_mul_of_nonneg_left (by omega) (by omega)
      rw [Int.mul_sub, Int.mul_left_comm] at k
      omega
    · exact h
  · have k : 16384 * (c - 16 * a) ≤ 2 * c + 139265 := by
      rcases Int.lt_or_le (2 * c + 139265) (16384 * (c - 16 * a)) with h | h
      · exfalso
        have k : p * (2 * c + 139266) ≤ p * (16384 * (c - 16 * a)) := Int.mul_le_mul_of_nonneg_left (by omega) (by omega)
        have k2 : p * (16384 * (c - 16 * a)) = 16384 * (p * c) - 262144 * (p * a) := by
          rw [Int.mul_left_comm, Int.mul_sub, Int.mul_left_comm p 16 a]; omega
        have k3 : p * (2 * c + 139266) = 2 * (p * c) + 139266 * p := by rw [Int.mul_add, Int.mul_left_comm, Int.mul_comm p 139266]
        omega
      · exact h
    omega

/-- How far from nought. -/
def farI (a b : Int) : Int := max (a - b) (b - a)
theorem double_int (q : Int) (s : Nat) (h0 : -8191 ≤ q) (h1 : q ≤ 8191) (hb : farI (lineL q (s + 4)) 0 < 268435455) : -1 ≤ lineL q (s + 4) - 2 * lineL q s ∧ lineL q (s + 4) - 2 * lineL q s ≤ 1 := by
  unfold farI lineL at *
  by_cases h : q < 0
  · rw [if_pos h] at *
    have := double_nat (-q).toNat s (by omega) (by omega)
    omega
  · rw [if_neg h] at *
    have := double_nat q.toNat s (by omega) (by omega)
    omega
theorem eight_int (q : Int) (s : Nat) (h0 : -8191 ≤ 8 * q) (h1 : 8 * q ≤ 8191) (hb : farI (lineL (8 * q) s) 0 ≠ 268435455) :
    farI (lineL (8 * q) s) (16 * lineL q s) ≤ 16 + farI (lineL (8 * q) s) 0 / 4096 := by
  have hr := lineL_range (8 * q) s h0 h1
  unfold farI lineL at *
  by_cases h : q < 0
  · rw [if_pos h, if_pos (show 8 * q < 0 by omega)] at *
    have e : (-(8 * q)).toNat = 8 * (-q).toNat := by omega
    rw [e] at hb hr ⊢
    have hn := (lineN_range (8 * (-q).toNat) s (by omega)).1
    have := eight_nat (-q).toNat s (by omega) (by omega)
    omega
  · rw [if_neg h, if_neg (show ¬ 8 * q < 0 by omega)] at *
    have e : (8 * q).toNat = 8 * q.toNat := by omega
    rw [e] at hb hr ⊢
    have hn := (lineN_range (8 * q.toNat) s (by omega)).1
    have := eight_nat q.toNat s (by omega) (by omega)
    omega
end Go.Proofs.Ytppfbfiigfjncaa
