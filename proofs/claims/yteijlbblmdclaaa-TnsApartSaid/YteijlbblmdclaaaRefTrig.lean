/- reedpiperef04: what each call answers. -/
import Derived.Test.YteijlbblmdclaaaTrig2
import Derived.Test.YteijlbblmdclaaaDown
set_option linter.unusedVariables false
namespace Go.Proofs.Yteijlbblmdclaaa
open Go.ChangeShapes Go.WideShapes Go.ChangeAt Go.RowKit

theorem refarc_ok (n : Int) (h0 : 0 ≤ n) (h1 : n ≤ 256) (w : World) :
    Calls Try.prog 76 #[.int .i64 n] w fun e w' => e = .returned (.int .i64 (arcL n)) ∧ w = w' := by
  have ea : Hid (rnd (n * 3454217652358) 20 = arcL n) := rfl
  go_enter Try.func76, Try.ntmps76
  go_wp2_with fail
  refine (down_lit _ 20 20 rfl (by omega) (by omega) (by decide) _).mono ?_
  rintro e w' ⟨he, rfl⟩
  rw [ea.out] at he
  subst he
  go_wp2
  go_ret
  exact ⟨rfl, rfl⟩

def ds_cosine : List Int := [2, 12, 30, 56, 90, 132, 182]
theorem ds_cosine_at : ∀ K : Nat, K < 7 → (2 * ((K : Int) + 1)) * (2 * ((K : Int) + 1) - 1) = ds_cosine.getD K 0 ∧ 2 ≤ ds_cosine.getD K 0 ∧ ds_cosine.getD K 0 ≤ 1000 := by decide

set_option maxRecDepth 100000 in
set_option maxHeartbeats 1000000 in
theorem refcosine_ok (n : Int) (h0 : 0 ≤ n) (h1 : n ≤ 256) (w : World) :
    Calls Try.prog 71 #[.int .i64 n] w fun e w' => e = .returned (.int .i64 (cosineL n)) ∧ w = w' := by
  obtain ⟨a0, a1⟩ := arc_range n h0 h1
  obtain ⟨q0, q1⟩ := sq_range n h0 h1
  obtain ⟨m0, m1⟩ := mul_range 1073741824 1073741824 a0 a1 a0 a1
  have eq : Hid (rnd (arcL n * arcL n) 30 = sqL n) := rfl
  have es : Hid (serL ds_cosine true 1073741824 (sqL n) 1073741824 = cosineL n) := rfl
  generalize cosineL n = S at *
  have RA := refarc_ok n h0 h1 w
  generalize sqL n = Q at *
  generalize arcL n = A at *
  go_enter Try.func71, Try.ntmps71
  go_wp2_with fail
  refine RA.mono ?_
  clear RA
  rintro e w' ⟨rfl, rfl⟩
  go_wp2_with fail
  refine (down_lit _ 30 30 rfl (by omega) (by omega) (by decide) _).mono ?_
  rintro e w' ⟨he, rfl⟩
  rw [eq.out] at he
  subst he
  go_wp2
  go_loop [5, 6, 7] (fun T Z I => ∃ (K : Nat) (x s k : Int), T = .int .i64 x ∧ Z = .int .i64 s ∧ I = .int .i64 k ∧ k = (K : Int) + 1 ∧ K ≤ 7 ∧ 0 ≤ x ∧ x ≤ 1073741824 ∧ -1073741824 * ((K : Int) + 1) ≤ s ∧ s ≤ 1073741824 * ((K : Int) + 1) ∧ Hid (serL (ds_cosine.drop K) (even K) x Q s = S)) (fun _ _ i => (8 - intOf i).toNat)
  case atStart => exact ⟨0, 1073741824, 1073741824, 1, rfl, rfl, rfl, rfl, by decide, by omega, by omega, by omega, by omega, es⟩
  case round =>
    obtain ⟨K, x, s, k, rfl, rfl, rfl, hkK, hK, hx0, hx1, hs0, hs1, hser⟩ := hrel
    by_cases hlt : K < 7
    · obtain ⟨e1, e2, e3⟩ := ds_cosine_at K hlt
      rw [← hkK] at e1
      obtain ⟨t0, t1⟩ := term_range x Q (ds_cosine.getD K 0) hx0 hx1 q0 q1 (by omega)
      obtain ⟨n0, n1⟩ := mul_range 1073741824 1073741824 hx0 hx1 q0 q1
      obtain ⟨r0, r1⟩ := rnd30_range _ n0 (by omega)
      have hs := hser.out
      rw [ser_step ds_cosine K hlt] at hs
      have HS := Lib.hid hs
      clear hs hser
      generalize ds_cosine.getD K 0 = d at *
      have k1 : 1 ≤ k := by omega
      have k2 : k ≤ 7 := by omega
      have hle : decide (k ≤ 7) = true := by simp; omega
      have HK := Lib.hid hkK
      by_cases hp : K % 2 = 0
      · have he : even K = true := by simp [even, hp]
        have HE := Lib.hid he
        have hp' : (k % 2 == 1) = true := by simp; omega
        clear he hkK hp
        go_wp2_with (go_at_call 33; refine (down_lit _ 30 30 rfl (by omega) (by omega) (by decide) _).mono ?_; rintro e w' ⟨rfl, rfl⟩)
        go_round
        case rel => exact ⟨K + 1, rnd (x * Q) 30 / d, s - rnd (x * Q) 30 / d, k + 1, rfl, rfl, rfl, by have := HK.out; omega, by omega, t0, t1, by omega, by omega, by have h := HS.out; rw [HE.out] at h; rw [even_succ, HE.out]; exact h⟩
        case measure => simp [intOf]; omega
      · have he : even K = false := by simp [even, hp]
        have HE := Lib.hid he
        have hp' : (k % 2 == 1) = false := by simp; omega
        clear he hkK hp
        go_wp2_with (go_at_call 33; refine (down_lit _ 30 30 rfl (by omega) (by omega) (by decide) _).mono ?_; rintro e w' ⟨rfl, rfl⟩)
        go_round
        case rel => exact ⟨K + 1, rnd (x * Q) 30 / d, s + rnd (x * Q) 30 / d, k + 1, rfl, rfl, rfl, by have := HK.out; omega, by omega, t0, t1, by omega, by omega, by have h := HS.out; rw [HE.out] at h; rw [even_succ, HE.out]; exact h⟩
        case measure => simp [intOf]; omega
    · have hf := hser.out
      obtain rfl : K = 7 := by omega
      have hle : decide (k ≤ 7) = false := by simp; omega
      rw [show ds_cosine.drop 7 = [] from rfl, serL] at hf
      have HF := Lib.hid hf
      clear hf hser hkK
      go_wp2
      go_ret
      exact ⟨ret_int HF.out, rfl⟩

def ds_sine : List Int := [6, 20, 42, 72, 110, 156, 210]
theorem ds_sine_at : ∀ K : Nat, K < 7 → (2 * ((K : Int) + 1)) * (2 * ((K : Int) + 1) + 1) = ds_sine.getD K 0 ∧ 2 ≤ ds_sine.getD K 0 ∧ ds_sine.getD K 0 ≤ 1000 := by decide

set_option maxRecDepth 100000 in
set_option maxHeartbeats 1000000 in
theorem refsine_ok (n : Int) (h0 : 0 ≤ n) (h1 : n ≤ 256) (w : World) :
    Calls Try.prog 72 #[.int .i64 n] w fun e w' => e = .returned (.int .i64 (sineL n)) ∧ w = w' := by
  obtain ⟨a0, a1⟩ := arc_range n h0 h1
  obtain ⟨q0, q1⟩ := sq_range n h0 h1
  obtain ⟨m0, m1⟩ := mul_range 1073741824 1073741824 a0 a1 a0 a1
  have eq : Hid (rnd (arcL n * arcL n) 30 = sqL n) := rfl
  have es : Hid (serL ds_sine true (arcL n) (sqL n) (arcL n) = sineL n) := rfl
  generalize sineL n = S at *
  have RA := refarc_ok n h0 h1 w
  generalize sqL n = Q at *
  generalize arcL n = A at *
  go_enter Try.func72, Try.ntmps72
  go_wp2_with fail
  refine RA.mono ?_
  clear RA
  rintro e w' ⟨rfl, rfl⟩
  go_wp2_with fail
  refine (down_lit _ 30 30 rfl (by omega) (by omega) (by decide) _).mono ?_
  rintro e w' ⟨he, rfl⟩
  rw [eq.out] at he
  subst he
  go_wp2
  go_loop [5, 6, 7] (fun T Z I => ∃ (K : Nat) (x s k : Int), T = .int .i64 x ∧ Z = .int .i64 s ∧ I = .int .i64 k ∧ k = (K : Int) + 1 ∧ K ≤ 7 ∧ 0 ≤ x ∧ x ≤ 1073741824 ∧ -1073741824 * ((K : Int) + 1) ≤ s ∧ s ≤ 1073741824 * ((K : Int) + 1) ∧ Hid (serL (ds_sine.drop K) (even K) x Q s = S)) (fun _ _ i => (8 - intOf i).toNat)
  case atStart => exact ⟨0, A, A, 1, rfl, rfl, rfl, rfl, by decide, by omega, by omega, by omega, by omega, es⟩
  case round =>
    obtain ⟨K, x, s, k, rfl, rfl, rfl, hkK, hK, hx0, hx1, hs0, hs1, hser⟩ := hrel
    by_cases hlt : K < 7
    · obtain ⟨e1, e2, e3⟩ := ds_sine_at K hlt
      rw [← hkK] at e1
      obtain ⟨t0, t1⟩ := term_range x Q (ds_sine.getD K 0) hx0 hx1 q0 q1 (by omega)
      obtain ⟨n0, n1⟩ := mul_range 1073741824 1073741824 hx0 hx1 q0 q1
      obtain ⟨r0, r1⟩ := rnd30_range _ n0 (by omega)
      have hs := hser.out
      rw [ser_step ds_sine K hlt] at hs
      have HS := Lib.hid hs
      clear hs hser
      generalize ds_sine.getD K 0 = d at *
      have k1 : 1 ≤ k := by omega
      have k2 : k ≤ 7 := by omega
      have hle : decide (k ≤ 7) = true := by simp; omega
      have HK := Lib.hid hkK
      by_cases hp : K % 2 = 0
      · have he : even K = true := by simp [even, hp]
        have HE := Lib.hid he
        have hp' : (k % 2 == 1) = true := by simp; omega
        clear he hkK hp
        go_wp2_with (go_at_call 33; refine (down_lit _ 30 30 rfl (by omega) (by omega) (by decide) _).mono ?_; rintro e w' ⟨rfl, rfl⟩)
        go_round
        case rel => exact ⟨K + 1, rnd (x * Q) 30 / d, s - rnd (x * Q) 30 / d, k + 1, rfl, rfl, rfl, by have := HK.out; omega, by omega, t0, t1, by omega, by omega, by have h := HS.out; rw [HE.out] at h; rw [even_succ, HE.out]; exact h⟩
        case measure => simp [intOf]; omega
      · have he : even K = false := by simp [even, hp]
        have HE := Lib.hid he
        have hp' : (k % 2 == 1) = false := by simp; omega
        clear he hkK hp
        go_wp2_with (go_at_call 33; refine (down_lit _ 30 30 rfl (by omega) (by omega) (by decide) _).mono ?_; rintro e w' ⟨rfl, rfl⟩)
        go_round
        case rel => exact ⟨K + 1, rnd (x * Q) 30 / d, s + rnd (x * Q) 30 / d, k + 1, rfl, rfl, rfl, by have := HK.out; omega, by omega, t0, t1, by omega, by omega, by have h := HS.out; rw [HE.out] at h; rw [even_succ, HE.out]; exact h⟩
        case measure => simp [intOf]; omega
    · have hf := hser.out
      obtain rfl : K = 7 := by omega
      have hle : decide (k ≤ 7) = false := by simp; omega
      rw [show ds_sine.drop 7 = [] from rfl, serL] at hf
      have HF := Lib.hid hf
      clear hf hser hkK
      go_wp2
      go_ret
      exact ⟨ret_int HF.out, rfl⟩

theorem refcos_small (n : Int) (h0 : 0 ≤ n) (h1 : n ≤ 512) (w : World) :
    Calls Try.prog 63 #[.int .i64 n] w fun e w' => e = .returned (.int .i64 (quartL n)) ∧ w = w' := by
  have hN : n.tmod 2048 = n := Int.tmod_eq_of_lt h0 (by omega)
  have hN2 : n % 2048 = n := Int.emod_eq_of_lt h0 (by omega)
  by_cases h : n ≤ 256
  · have hq : quartL n = rnd (cosineL n) 4 := if_neg (by omega)
    rw [hq]
    obtain ⟨s0, s1⟩ := cosine_range n h0 h
    clear hq
    have RC := fun W => refcosine_ok n h0 h W
    generalize cosineL n = S at *
    go_enter Try.func63, Try.ntmps63
    go_wp2_with fail
    refine (RC _).mono ?_
    clear RC
    rintro e w' ⟨rfl, rfl⟩
    go_wp2_with fail
    refine (down_lit _ 4 4 rfl (by omega) (by omega) (by decide) _).mono ?_
    rintro e w' ⟨rfl, rfl⟩
    go_wp2
    go_ret
    exact ⟨rfl, rfl⟩
  · have hq : quartL n = rnd (sineL (512 - n)) 4 := if_pos (by omega)
    rw [hq]
    obtain ⟨s0, s1⟩ := sine_range (512 - n) (by omega) (by omega)
    clear hq
    have RC := fun W => refsine_ok (512 - n) (by omega) (by omega) W
    generalize sineL (512 - n) = S at *
    go_enter Try.func63, Try.ntmps63
    go_wp2_with fail
    refine (RC _).mono ?_
    clear RC
    rintro e w' ⟨rfl, rfl⟩
    go_wp2_with fail
    refine (down_lit _ 4 4 rfl (by omega) (by omega) (by decide) _).mono ?_
    rintro e w' ⟨rfl, rfl⟩
    go_wp2
    go_ret
    exact ⟨rfl, rfl⟩

end Go.Proofs.Yteijlbblmdclaaa
