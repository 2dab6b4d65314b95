/- trig: quarter, Cos, Sin. -/
import Derived.Test.YteijlbblmdclaaaTrig
set_option linter.unusedVariables false
namespace Go.Proofs.Yteijlbblmdclaaa
open Go.ChangeShapes Go.WideShapes Go.ChangeAt Go.RowKit

theorem sine_list : ∀ k, k < ([6, 20, 42, 72, 110, 156, 210] : List Int).length → 2 ≤ ([6, 20, 42, 72, 110, 156, 210] : List Int).getD k 0 ∧ ([6, 20, 42, 72, 110, 156, 210] : List Int).getD k 0 ≤ 1000 := by decide
theorem cosine_list : ∀ k, k < ([2, 12, 30, 56, 90, 132, 182] : List Int).length → 2 ≤ ([2, 12, 30, 56, 90, 132, 182] : List Int).getD k 0 ∧ ([2, 12, 30, 56, 90, 132, 182] : List Int).getD k 0 ≤ 1000 := by decide

def RInt (v : Int) (w : World) (e : Ending) (w' : World) : Prop := e = .returned (.int .i64 v) ∧ Below w.heap.size w w'

set_option maxRecDepth 100000 in
set_option maxHeartbeats 1000000 in
theorem quarter_sine (n : Int) (h0 : 256 < n) (h1 : n ≤ 512) (w : World) :
    Calls Try.prog 75 #[.int .i64 n] w (RInt (quartL n) w) := by
  have hq : quartL n = rnd (sineL (512 - n)) 4 := if_pos h0
  rw [hq]
  clear hq
  obtain ⟨m, rfl⟩ : ∃ m, n = 512 - m := ⟨512 - n, by omega⟩
  have hm : 512 - (512 - m) = m := by omega
  rw [hm]
  obtain ⟨a0, a1⟩ := arc_range m (by omega) (by omega)
  obtain ⟨q0, q1⟩ := sq_range m (by omega) (by omega)
  obtain ⟨s0, s1⟩ := sine_range m (by omega) (by omega)
  obtain ⟨m0, m1⟩ := mul_range 1073741824 1073741824 a0 a1 a0 a1
  have ea : Hid (rnd (m * 3454217652358) 20 = arcL m) := rfl
  have eq : Hid (rnd (arcL m * arcL m) 30 = sqL m) := rfl
  have es : Hid (serL [6, 20, 42, 72, 110, 156, 210] true (arcL m) (sqL m) (arcL m) = sineL m) := rfl
  generalize sineL m = S at *
  generalize sqL m = Q at *
  generalize arcL m = A at *
  go_enter Try.func75, Try.ntmps75
  go_wp2_with fail
  refine (rounded_lit _ 20 20 rfl (by omega) (by omega) (by decide) (by decide) _).mono ?_
  rintro e w' ⟨he, rfl⟩
  rw [ea.out] at he
  subst he
  go_wp2_with fail
  refine (rounded_lit _ 30 30 rfl (by omega) (by omega) (by decide) (by decide) _).mono ?_
  rintro e w' ⟨he, rfl⟩
  rw [eq.out] at he
  subst he
  go_wp2_with fail
  refine (series_ok [6, 20, 42, 72, 110, 156, 210] _ _ A Q (by decide) sine_list a0 a1 q0 q1 _ (isInts_new w [6, 20, 42, 72, 110, 156, 210] 3 rfl)).mono ?_
  rintro e w' ⟨he, rfl⟩
  rw [es.out] at he
  subst he
  go_wp2_with fail
  refine (rounded_lit _ 4 4 rfl (by omega) (by omega) (by decide) (by decide) _).mono ?_
  rintro e w' ⟨rfl, rfl⟩
  go_wp2
  go_ret
  exact ⟨rfl, (Below.refl _ _).alloc (Nat.le_refl _) _⟩

set_option maxRecDepth 100000 in
set_option maxHeartbeats 1000000 in
theorem quarter_cosine (n : Int) (h0 : 0 ≤ n) (h1 : n ≤ 256) (w : World) :
    Calls Try.prog 75 #[.int .i64 n] w (RInt (quartL n) w) := by
  have hq : quartL n = rnd (cosineL n) 4 := if_neg (by omega)
  rw [hq]
  clear hq
  obtain ⟨a0, a1⟩ := arc_range n h0 h1
  obtain ⟨q0, q1⟩ := sq_range n h0 h1
  obtain ⟨s0, s1⟩ := cosine_range n h0 h1
  obtain ⟨m0, m1⟩ := mul_range 1073741824 1073741824 a0 a1 a0 a1
  have ea : Hid (rnd (n * 3454217652358) 20 = arcL n) := rfl
  have eq : Hid (rnd (arcL n * arcL n) 30 = sqL n) := rfl
  have es : Hid (serL [2, 12, 30, 56, 90, 132, 182] true 1073741824 (sqL n) 1073741824 = cosineL n) := rfl
  generalize cosineL n = S at *
  generalize sqL n = Q at *
  generalize arcL n = A at *
  go_enter Try.func75, Try.ntmps75
  go_wp2_with fail
  refine (rounded_lit _ 20 20 rfl (by omega) (by omega) (by decide) (by decide) _).mono ?_
  rintro e w' ⟨he, rfl⟩
  rw [ea.out] at he
  subst he
  go_wp2_with fail
  refine (rounded_lit _ 30 30 rfl (by omega) (by omega) (by decide) (by decide) _).mono ?_
  rintro e w' ⟨he, rfl⟩
  rw [eq.out] at he
  subst he
  go_wp2_with fail
  refine (series_ok [2, 12, 30, 56, 90, 132, 182] _ _ 1073741824 Q (by decide) cosine_list (by decide) (by decide) q0 q1 _ (isInts_new w [2, 12, 30, 56, 90, 132, 182] 3 rfl)).mono ?_
  rintro e w' ⟨he, rfl⟩
  rw [es.out] at he
  subst he
  go_wp2_with fail
  refine (rounded_lit _ 4 4 rfl (by omega) (by omega) (by decide) (by decide) _).mono ?_
  rintro e w' ⟨rfl, rfl⟩
  go_wp2
  go_ret
  exact ⟨rfl, (Below.refl _ _).alloc (Nat.le_refl _) _⟩

theorem quarter_ok (n : Int) (h0 : 0 ≤ n) (h1 : n ≤ 512) (w : World) :
    Calls Try.prog 75 #[.int .i64 n] w (RInt (quartL n) w) := by
  by_cases h : 256 < n
  · exact quarter_sine n h h1 w
  · exact quarter_cosine n h0 (by omega) w

theorem quart_range (n : Int) (h0 : 0 ≤ n) (h1 : n ≤ 512) : -67108864 ≤ quartL n ∧ quartL n ≤ 67108864 := by
  have := cos_range n
  have h2 : n % 2048 = n := Int.emod_eq_of_lt h0 (by omega)
  unfold cosL at this
  rw [h2] at this
  simp only [if_neg (show ¬ 1024 < n by omega), if_neg (show ¬ 512 < n by omega)] at this
  exact this

theorem mask2047 (n : Int) : bits .and .i64 n 2047 = n % 2048 := i64_mask n 11 (by decide)

set_option maxRecDepth 100000 in
set_option maxHeartbeats 1000000 in
theorem cos_ok (n : Int) (w : World) : Calls Try.prog 70 #[.int .i64 n] w (RInt (cosL n) w) := by
  have hm := mask2047 n
  have r0 := Int.emod_nonneg n (b := 2048) (by decide)
  have r1 := Int.emod_lt_of_pos n (b := 2048) (by decide)
  have hc : cosL n = if 512 < (if 1024 < n % 2048 then 2048 - n % 2048 else n % 2048) then -quartL (1024 - (if 1024 < n % 2048 then 2048 - n % 2048 else n % 2048)) else quartL (if 1024 < n % 2048 then 2048 - n % 2048 else n % 2048) := rfl
  rw [hc]
  clear hc
  by_cases h1 : 1024 < n % 2048
  · rw [if_pos h1]
    by_cases h2 : 512 < 2048 - n % 2048
    · rw [if_pos h2]
      generalize n % 2048 = r at *
      obtain ⟨b0, b1⟩ := quart_range (1024 - (2048 - r)) (by omega) (by omega)
      go_enter Try.func70, Try.ntmps70
      go_wp2_with (go_at_call 75; refine (quarter_ok _ (by omega) (by omega) _).mono ?_; rintro e w1 ⟨rfl, hb⟩)
      go_ret
      exact ⟨rfl, hb⟩
    · rw [if_neg h2]
      generalize n % 2048 = r at *
      go_enter Try.func70, Try.ntmps70
      go_wp2_with (go_at_call 75; refine (quarter_ok _ (by omega) (by omega) _).mono ?_; rintro e w1 ⟨rfl, hb⟩)
      go_ret
      exact ⟨rfl, hb⟩
  · rw [if_neg h1]
    by_cases h2 : 512 < n % 2048
    · rw [if_pos h2]
      generalize n % 2048 = r at *
      obtain ⟨b0, b1⟩ := quart_range (1024 - r) (by omega) (by omega)
      go_enter Try.func70, Try.ntmps70
      go_wp2_with (go_at_call 75; refine (quarter_ok _ (by omega) (by omega) _).mono ?_; rintro e w1 ⟨rfl, hb⟩)
      go_ret
      exact ⟨rfl, hb⟩
    · rw [if_neg h2]
      generalize n % 2048 = r at *
      go_enter Try.func70, Try.ntmps70
      go_wp2_with (go_at_call 75; refine (quarter_ok _ (by omega) (by omega) _).mono ?_; rintro e w1 ⟨rfl, hb⟩)
      go_ret
      exact ⟨rfl, hb⟩

end Go.Proofs.Yteijlbblmdclaaa
