/- Powers and lines in plain numbers. -/
import Derived.Test.YtppfbfiigfjncaaFixPlain
namespace Go.Proofs.Ytppfbfiigfjncaa

def powN (q : Nat) : Nat := q * cbN (q * 68719476736)
def qrt (n : Nat) : Int := match n with
  | 0 => 1073741824
  | 1 => 1276901417
  | 2 => 1518500250
  | _ => 1805811301
/-- The line of a number from 0 on, ahead of the limit; and with it. -/
def rawL (q s : Nat) : Int := rnd ((powN q : Int) * qrt (s % 4)) (61 - s / 4)
def lineN (q s : Nat) : Int := min (rawL q s) 268435455
def lineL (q : Int) (s : Nat) : Int := if q < 0 then -lineN (-q).toNat s else lineN q.toNat s

theorem cb_le_82567 (q : Nat) (h : q ≤ 8191) : cbN (q * 68719476736) ≤ 82567 := by
  have h1 := cbN_mono (n := q * 68719476736) (m := 8191 * 68719476736) (by omega) (by omega)
  have h2 : cbN (8191 * 68719476736) ≤ 82567 := by decide +kernel
  exact Nat.le_trans h1 h2
theorem powN_le (q : Nat) (h : q ≤ 8191) : powN q ≤ 676306297 := by
  exact Nat.mul_le_mul h (cb_le_82567 q h)
theorem powN_zero : powN 0 = 0 := by decide +kernel
theorem powN_mono {a b : Nat} (h : a ≤ b) (hb : b ≤ 8191) : powN a ≤ powN b :=
  Nat.mul_le_mul h (cbN_mono (by omega) (by omega))
theorem cb_ge_4096 (q : Nat) (h1 : 1 ≤ q) (h : q ≤ 8191) : 4096 ≤ cbN (q * 68719476736) := by
  have h1 := cbN_mono (n := 1 * 68719476736) (m := q * 68719476736) (by omega) (by omega)
  have h2 : 4096 ≤ cbN (1 * 68719476736) := by decide +kernel
  exact Nat.le_trans h2 h1
theorem powN_ge (q : Nat) (h1 : 1 ≤ q) (h : q ≤ 8191) : 4096 ≤ powN q := by
  have h2 : 1 * 4096 ≤ q * cbN (q * 68719476736) := Nat.mul_le_mul h1 (cb_ge_4096 q h1 h)
  exact h2
theorem qrt_range (n : Nat) : 1073741824 ≤ qrt n ∧ qrt n ≤ 1805811301 := by
  unfold qrt; split <;> decide
theorem prod_le (q n : Nat) (h : q ≤ 8191) : 0 ≤ (powN q : Int) * qrt n ∧ (powN q : Int) * qrt n ≤ 1221281554060062397 := by
  obtain ⟨r0, r1⟩ := qrt_range n
  have hp := powN_le q h
  exact ⟨Int.mul_nonneg (by omega) (by omega), Int.mul_le_mul (show (powN q : Int) ≤ 676306297 by omega) r1 (by omega) (by omega)⟩
theorem raw_range (q s : Nat) (h : q ≤ 8191) : 0 ≤ rawL q s ∧ rawL q s ≤ 1221281554060062397 := by
  obtain ⟨h0, h1⟩ := prod_le q (s % 4) h
  have a := rnd_mono (61 - s / 4) h0
  have e1 : rnd 0 (61 - s / 4) = 0 := by
    by_cases hb : 61 - s / 4 = 0
    · rw [hb]; rfl
    · exact rnd_eq 0 0 _ (by omega) (by have := pow_pos' (61 - s / 4 - 1); omega) (by have := pow_pos' (61 - s / 4 - 1); omega)
  have b := rnd_bound (n := (powN q : Int) * qrt (s % 4)) (B := 1221281554060062397) (61 - s / 4) (by decide) (by omega) h1
  unfold rawL; omega
theorem lineN_range (q s : Nat) (h : q ≤ 8191) : 0 ≤ lineN q s ∧ lineN q s ≤ 268435455 := by
  have := raw_range q s h
  unfold lineN; omega
theorem lineN_zero (s : Nat) : lineN 0 s = 0 := by
  have e1 : rnd 0 (61 - s / 4) = 0 := by
    by_cases hb : 61 - s / 4 = 0
    · rw [hb]; rfl
    · exact rnd_eq 0 0 _ (by omega) (by have := pow_pos' (61 - s / 4 - 1); omega) (by have := pow_pos' (61 - s / 4 - 1); omega)
  unfold lineN rawL; rw [powN_zero, show ((0 : Nat) : Int) * qrt (s % 4) = 0 by simp, e1]; decide
theorem raw_mono {a b : Nat} (s : Nat) (h : a ≤ b) (hb : b ≤ 8191) : rawL a s ≤ rawL b s :=
  rnd_mono _ (Int.mul_le_mul_of_nonneg_right (Int.ofNat_le.2 (powN_mono h hb)) (by have := (qrt_range (s % 4)).1; omega))
theorem lineN_mono {a b : Nat} (s : Nat) (h : a ≤ b) (hb : b ≤ 8191) : lineN a s ≤ lineN b s := by
  have := raw_mono s h hb
  unfold lineN; omega

theorem rnd_double (x : Int) (k : Nat) (hk : 1 ≤ k) : rnd (2 * x) k = rnd x (k - 1) := by
  by_cases h1 : k = 1
  · subst h1; exact rnd_eq _ _ _ (by decide) (by simp [rnd]; omega) (by simp [rnd]; omega)
  · obtain ⟨s1, s2⟩ := rnd_spec x (k - 1) (by omega)
    have e1 := pow_pred k hk
    have e2 := pow_pred (k - 1) (by omega)
    refine rnd_eq _ _ k hk ?_ ?_
    all_goals
      rw [e1]
      generalize rnd x (k - 1) = r at *
      rw [e2] at s1 s2 ⊢
      generalize (2 : Int) ^ (k - 1 - 1) = p at *
      have e3 : r * (p * 2 * 2) = 2 * (r * (p * 2)) := by rw [← Int.mul_assoc, Int.mul_comm _ 2]
      rw [e3]
      omega
/-- Away from 0 a step that shifts no more has the limit's line. -/
theorem lineN_top (q s : Nat) (h1 : 1 ≤ q) (h : q ≤ 8191) (hs : 61 ≤ s / 4) : lineN q s = 268435455 := by
  have hp := powN_ge q h1 h
  have hr := (qrt_range (s % 4)).1
  have : (4096 : Int) * 1073741824 ≤ (powN q : Int) * qrt (s % 4) := Int.mul_le_mul (by omega) hr (by omega) (by omega)
  unfold lineN rawL
  rw [show 61 - s / 4 = 0 by omega, rnd_zero]
  omega
theorem step_mono (q s : Nat) (h : q ≤ 8191) : lineN q s ≤ lineN q (s + 1) := by
  by_cases h0 : q = 0
  · subst h0; rw [lineN_zero, lineN_zero]; exact Int.le_refl _
  by_cases hs : 61 ≤ s / 4
  · rw [lineN_top q s (by omega) h hs, lineN_top q (s + 1) (by omega) h (by omega)]; exact Int.le_refl _
  have hp : (0 : Int) ≤ powN q := by omega
  have : rawL q s ≤ rawL q (s + 1) := by
    unfold rawL
    by_cases h3 : s % 4 = 3
    · rw [h3, show (s + 1) % 4 = 0 by omega, show 61 - (s + 1) / 4 = (61 - s / 4) - 1 by omega, ← rnd_double _ _ (by omega)]
      refine rnd_mono _ ?_
      have : (powN q : Int) * qrt 3 ≤ (powN q : Int) * 2147483648 := Int.mul_le_mul_of_nonneg_left (by decide) hp
      have e : qrt 0 = 1073741824 := rfl
      rw [e]; omega
    · rw [show (s + 1) / 4 = s / 4 by omega]
      refine rnd_mono _ (Int.mul_le_mul_of_nonneg_left ?_ hp)
      rcases (show s % 4 = 0 ∨ s % 4 = 1 ∨ s % 4 = 2 by omega) with e | e | e
      · rw [e, show (s + 1) % 4 = 1 by omega]; decide
      · rw [e, show (s + 1) % 4 = 2 by omega]; decide
      · rw [e, show (s + 1) % 4 = 3 by omega]; decide
  unfold lineN; omega
theorem lineL_nat (q s : Nat) : lineL q s = lineN q s := by unfold lineL; rw [if_neg (by omega), Int.toNat_natCast]
theorem lineL_neg (q : Int) (s : Nat) : lineL (-q) s = -lineL q s := by
  unfold lineL
  rcases Int.lt_trichotomy q 0 with h | h | h
  · rw [if_neg (by omega), if_pos h]; omega
  · subst h; simp [lineN_zero]
  · rw [if_pos (by omega), if_neg (by omega), Int.neg_neg]
theorem lineL_range (q : Int) (s : Nat) (h0 : -8191 ≤ q) (h1 : q ≤ 8191) : -268435455 ≤ lineL q s ∧ lineL q s ≤ 268435455 := by
  unfold lineL
  split
  · have := lineN_range (-q).toNat s (by omega); omega
  · have := lineN_range q.toNat s (by omega); omega
theorem lineL_mono {a b : Int} (s : Nat) (h : a ≤ b) (h0 : -8191 ≤ a) (h1 : b ≤ 8191) : lineL a s ≤ lineL b s := by
  unfold lineL
  split
  · split
    · have := lineN_mono (a := (-b).toNat) (b := (-a).toNat) s (by omega) (by omega); omega
    · have := lineN_range (-a).toNat s (by omega); have := lineN_range b.toNat s (by omega); omega
  · split
    · omega
    · exact lineN_mono s (by omega) (by omega)
end Go.Proofs.Ytppfbfiigfjncaa
