/- reedpiperef04: Cos and Sin of any parts. -/
import Derived.Test.YteijlbblmdclaaaRefTrig
set_option linter.unusedVariables false
namespace Go.Proofs.Yteijlbblmdclaaa
open Go.ChangeShapes Go.WideShapes Go.ChangeAt Go.RowKit

/-- The remainder of a circle, as Go tells it. -/
theorem tmod_circle (n : Int) : (0 ≤ n.tmod 2048 ∧ n.tmod 2048 < 2048 ∧ n % 2048 = n.tmod 2048) ∨ (n.tmod 2048 < 0 ∧ -2048 < n.tmod 2048 ∧ n % 2048 = n.tmod 2048 + 2048) := by
  rcases Int.le_total 0 n with h | h
  · rw [Int.tmod_eq_emod_of_nonneg h]; omega
  · obtain ⟨m, rfl⟩ : ∃ m, n = -m := ⟨-n, by omega⟩
    rw [Int.neg_tmod, Int.tmod_eq_emod_of_nonneg (by omega)]; omega
theorem cosL_at {n r : Int} (h : n % 2048 = r) : cosL n = if 512 < (if 1024 < r then 2048 - r else r) then -quartL (1024 - (if 1024 < r then 2048 - r else r)) else quartL (if 1024 < r then 2048 - r else r) := by subst h; rfl

set_option maxHeartbeats 1000000 in
theorem refcos_pbf (n N : Int) (hN : n.tmod 2048 = N) (hs : 0 ≤ N) (hs2 : N < 2048) (hb : 1024 < N) (hf : 512 < (2048 - N)) (w : World) :
    Calls Try.prog 63 #[.int .i64 n] w fun e w' => e = .returned (.int .i64 (-quartL (1024 - (2048 - N)))) ∧ w = w' := by
  obtain ⟨b0, b1⟩ := quart_range (1024 - (2048 - N)) (by omega) (by omega)
  go_enter Try.func63, Try.ntmps63
  go_wp2_with fail
  refine (refcos_small _ (by omega) (by omega) _).mono ?_
  rintro e w' ⟨rfl, rfl⟩
  go_wp2
  go_ret
  exact ⟨rfl, rfl⟩

set_option maxHeartbeats 1000000 in
theorem refcos_pbc (n N : Int) (hN : n.tmod 2048 = N) (hs : 0 ≤ N) (hs2 : N < 2048) (hb : 1024 < N) (hf : (2048 - N) ≤ 256) (w : World) :
    Calls Try.prog 63 #[.int .i64 n] w fun e w' => e = .returned (.int .i64 (quartL (2048 - N))) ∧ w = w' := by
  have hq : quartL (2048 - N) = rnd (cosineL (2048 - N)) 4 := if_neg (by omega)
  rw [hq]
  obtain ⟨s0, s1⟩ := cosine_range (2048 - N) (by omega) (by omega)
  clear hq
  have RC := fun W => refcosine_ok (2048 - N) (by omega) (by omega) W
  generalize cosineL (2048 - N) = S at *
  go_enter Try.func63, Try.ntmps63
  go_wp2_with fail
  refine (RC _).mono ?_
  clear RC
  rintro e w' ⟨rfl, rfl⟩
  go_wp2_with fail
  refine (down_lit _ 4 4 rfl (by omega) (by omega) (by decide) _).mono ?_
  rintro e w' ⟨rfl, rfl⟩
  go_wp2
  go_ret
  exact ⟨rfl, rfl⟩

set_option maxHeartbeats 1000000 in
theorem refcos_pbs (n N : Int) (hN : n.tmod 2048 = N) (hs : 0 ≤ N) (hs2 : N < 2048) (hb : 1024 < N) (hf : ¬ (2048 - N) ≤ 256) (hf2 : (2048 - N) ≤ 512) (w : World) :
    Calls Try.prog 63 #[.int .i64 n] w fun e w' => e = .returned (.int .i64 (quartL (2048 - N))) ∧ w = w' := by
  have hq : quartL (2048 - N) = rnd (sineL (512 - (2048 - N))) 4 := if_pos (by omega)
  rw [hq]
  obtain ⟨s0, s1⟩ := sine_range (512 - (2048 - N)) (by omega) (by omega)
  clear hq
  have RC := fun W => refsine_ok (512 - (2048 - N)) (by omega) (by omega) W
  generalize sineL (512 - (2048 - N)) = S at *
  go_enter Try.func63, Try.ntmps63
  go_wp2_with fail
  refine (RC _).mono ?_
  clear RC
  rintro e w' ⟨rfl, rfl⟩
  go_wp2_with fail
  refine (down_lit _ 4 4 rfl (by omega) (by omega) (by decide) _).mono ?_
  rintro e w' ⟨rfl, rfl⟩
  go_wp2
  go_ret
  exact ⟨rfl, rfl⟩

set_option maxHeartbeats 1000000 in
theorem refcos_plf (n N : Int) (hN : n.tmod 2048 = N) (hs : 0 ≤ N) (hs2 : N < 2048) (hb : ¬ 1024 < N) (hf : 512 < N) (w : World) :
    Calls Try.prog 63 #[.int .i64 n] w fun e w' => e = .returned (.int .i64 (-quartL (1024 - N))) ∧ w = w' := by
  obtain ⟨b0, b1⟩ := quart_range (1024 - N) (by omega) (by omega)
  go_enter Try.func63, Try.ntmps63
  go_wp2_with fail
  refine (refcos_small _ (by omega) (by omega) _).mono ?_
  rintro e w' ⟨rfl, rfl⟩
  go_wp2
  go_ret
  exact ⟨rfl, rfl⟩

set_option maxHeartbeats 1000000 in
theorem refcos_plc (n N : Int) (hN : n.tmod 2048 = N) (hs : 0 ≤ N) (hs2 : N < 2048) (hb : ¬ 1024 < N) (hf : N ≤ 256) (w : World) :
    Calls Try.prog 63 #[.int .i64 n] w fun e w' => e = .returned (.int .i64 (quartL N)) ∧ w = w' := by
  have hq : quartL N = rnd (cosineL N) 4 := if_neg (by omega)
  rw [hq]
  obtain ⟨s0, s1⟩ := cosine_range N (by omega) (by omega)
  clear hq
  have RC := fun W => refcosine_ok N (by omega) (by omega) W
  generalize cosineL N = S at *
  go_enter Try.func63, Try.ntmps63
  go_wp2_with fail
  refine (RC _).mono ?_
  clear RC
  rintro e w' ⟨rfl, rfl⟩
  go_wp2_with fail
  refine (down_lit _ 4 4 rfl (by omega) (by omega) (by decide) _).mono ?_
  rintro e w' ⟨rfl, rfl⟩
  go_wp2
  go_ret
  exact ⟨rfl, rfl⟩

set_option maxHeartbeats 1000000 in
theorem refcos_pls (n N : Int) (hN : n.tmod 2048 = N) (hs : 0 ≤ N) (hs2 : N < 2048) (hb : ¬ 1024 < N) (hf : ¬ N ≤ 256) (hf2 : N ≤ 512) (w : World) :
    Calls Try.prog 63 #[.int .i64 n] w fun e w' => e = .returned (.int .i64 (quartL N)) ∧ w = w' := by
  have hq : quartL N = rnd (sineL (512 - N)) 4 := if_pos (by omega)
  rw [hq]
  obtain ⟨s0, s1⟩ := sine_range (512 - N) (by omega) (by omega)
  clear hq
  have RC := fun W => refsine_ok (512 - N) (by omega) (by omega) W
  generalize sineL (512 - N) = S at *
  go_enter Try.func63, Try.ntmps63
  go_wp2_with fail
  refine (RC _).mono ?_
  clear RC
  rintro e w' ⟨rfl, rfl⟩
  go_wp2_with fail
  refine (down_lit _ 4 4 rfl (by omega) (by omega) (by decide) _).mono ?_
  rintro e w' ⟨rfl, rfl⟩
  go_wp2
  go_ret
  exact ⟨rfl, rfl⟩

set_option maxHeartbeats 1000000 in
theorem refcos_nbf (n N : Int) (hN : n.tmod 2048 = N) (hs : N < 0) (hs2 : -2048 < N) (hb : 1024 < (N + 2048)) (hf : 512 < (2048 - (N + 2048))) (w : World) :
    Calls Try.prog 63 #[.int .i64 n] w fun e w' => e = .returned (.int .i64 (-quartL (1024 - (2048 - (N + 2048))))) ∧ w = w' := by
  obtain ⟨b0, b1⟩ := quart_range (1024 - (2048 - (N + 2048))) (by omega) (by omega)
  go_enter Try.func63, Try.ntmps63
  go_wp2_with fail
  refine (refcos_small _ (by omega) (by omega) _).mono ?_
  rintro e w' ⟨rfl, rfl⟩
  go_wp2
  go_ret
  exact ⟨rfl, rfl⟩

set_option maxHeartbeats 1000000 in
theorem refcos_nbc (n N : Int) (hN : n.tmod 2048 = N) (hs : N < 0) (hs2 : -2048 < N) (hb : 1024 < (N + 2048)) (hf : (2048 - (N + 2048)) ≤ 256) (w : World) :
    Calls Try.prog 63 #[.int .i64 n] w fun e w' => e = .returned (.int .i64 (quartL (2048 - (N + 2048)))) ∧ w = w' := by
  have hq : quartL (2048 - (N + 2048)) = rnd (cosineL (2048 - (N + 2048))) 4 := if_neg (by omega)
  rw [hq]
  obtain ⟨s0, s1⟩ := cosine_range (2048 - (N + 2048)) (by omega) (by omega)
  clear hq
  have RC := fun W => refcosine_ok (2048 - (N + 2048)) (by omega) (by omega) W
  generalize cosineL (2048 - (N + 2048)) = S at *
  go_enter Try.func63, Try.ntmps63
  go_wp2_with fail
  refine (RC _).mono ?_
  clear RC
  rintro e w' ⟨rfl, rfl⟩
  go_wp2_with fail
  refine (down_lit _ 4 4 rfl (by omega) (by omega) (by decide) _).mono ?_
  rintro e w' ⟨rfl, rfl⟩
  go_wp2
  go_ret
  exact ⟨rfl, rfl⟩

set_option maxHeartbeats 1000000 in
theorem refcos_nbs (n N : Int) (hN : n.tmod 2048 = N) (hs : N < 0) (hs2 : -2048 < N) (hb : 1024 < (N + 2048)) (hf : ¬ (2048 - (N + 2048)) ≤ 256) (hf2 : (2048 - (N + 2048)) ≤ 512) (w : World) :
    Calls Try.prog 63 #[.int .i64 n] w fun e w' => e = .returned (.int .i64 (quartL (2048 - (N + 2048)))) ∧ w = w' := by
  have hq : quartL (2048 - (N + 2048)) = rnd (sineL (512 - (2048 - (N + 2048)))) 4 := if_pos (by omega)
  rw [hq]
  obtain ⟨s0, s1⟩ := sine_range (512 - (2048 - (N + 2048))) (by omega) (by omega)
  clear hq
  have RC := fun W => refsine_ok (512 - (2048 - (N + 2048))) (by omega) (by omega) W
  generalize sineL (512 - (2048 - (N + 2048))) = S at *
  go_enter Try.func63, Try.ntmps63
  go_wp2_with fail
  refine (RC _).mono ?_
  clear RC
  rintro e w' ⟨rfl, rfl⟩
  go_wp2_with fail
  refine (down_lit _ 4 4 rfl (by omega) (by omega) (by decide) _).mono ?_
  rintro e w' ⟨rfl, rfl⟩
  go_wp2
  go_ret
  exact ⟨rfl, rfl⟩

set_option maxHeartbeats 1000000 in
theorem refcos_nlf (n N : Int) (hN : n.tmod 2048 = N) (hs : N < 0) (hs2 : -2048 < N) (hb : ¬ 1024 < (N + 2048)) (hf : 512 < (N + 2048)) (w : World) :
    Calls Try.prog 63 #[.int .i64 n] w fun e w' => e = .returned (.int .i64 (-quartL (1024 - (N + 2048)))) ∧ w = w' := by
  obtain ⟨b0, b1⟩ := quart_range (1024 - (N + 2048)) (by omega) (by omega)
  go_enter Try.func63, Try.ntmps63
  go_wp2_with fail
  refine (refcos_small _ (by omega) (by omega) _).mono ?_
  rintro e w' ⟨rfl, rfl⟩
  go_wp2
  go_ret
  exact ⟨rfl, rfl⟩

set_option maxHeartbeats 1000000 in
theorem refcos_nlc (n N : Int) (hN : n.tmod 2048 = N) (hs : N < 0) (hs2 : -2048 < N) (hb : ¬ 1024 < (N + 2048)) (hf : (N + 2048) ≤ 256) (w : World) :
    Calls Try.prog 63 #[.int .i64 n] w fun e w' => e = .returned (.int .i64 (quartL (N + 2048))) ∧ w = w' := by
  have hq : quartL (N + 2048) = rnd (cosineL (N + 2048)) 4 := if_neg (by omega)
  rw [hq]
  obtain ⟨s0, s1⟩ := cosine_range (N + 2048) (by omega) (by omega)
  clear hq
  have RC := fun W => refcosine_ok (N + 2048) (by omega) (by omega) W
  generalize cosineL (N + 2048) = S at *
  go_enter Try.func63, Try.ntmps63
  go_wp2_with fail
  refine (RC _).mono ?_
  clear RC
  rintro e w' ⟨rfl, rfl⟩
  go_wp2_with fail
  refine (down_lit _ 4 4 rfl (by omega) (by omega) (by decide) _).mono ?_
  rintro e w' ⟨rfl, rfl⟩
  go_wp2
  go_ret
  exact ⟨rfl, rfl⟩

set_option maxHeartbeats 1000000 in
theorem refcos_nls (n N : Int) (hN : n.tmod 2048 = N) (hs : N < 0) (hs2 : -2048 < N) (hb : ¬ 1024 < (N + 2048)) (hf : ¬ (N + 2048) ≤ 256) (hf2 : (N + 2048) ≤ 512) (w : World) :
    Calls Try.prog 63 #[.int .i64 n] w fun e w' => e = .returned (.int .i64 (quartL (N + 2048))) ∧ w = w' := by
  have hq : quartL (N + 2048) = rnd (sineL (512 - (N + 2048))) 4 := if_pos (by omega)
  rw [hq]
  obtain ⟨s0, s1⟩ := sine_range (512 - (N + 2048)) (by omega) (by omega)
  clear hq
  have RC := fun W => refsine_ok (512 - (N + 2048)) (by omega) (by omega) W
  generalize sineL (512 - (N + 2048)) = S at *
  go_enter Try.func63, Try.ntmps63
  go_wp2_with fail
  refine (RC _).mono ?_
  clear RC
  rintro e w' ⟨rfl, rfl⟩
  go_wp2_with fail
  refine (down_lit _ 4 4 rfl (by omega) (by omega) (by decide) _).mono ?_
  rintro e w' ⟨rfl, rfl⟩
  go_wp2
  go_ret
  exact ⟨rfl, rfl⟩

theorem refcos_ok (n : Int) (w : World) : Calls Try.prog 63 #[.int .i64 n] w fun e w' => e = .returned (.int .i64 (cosL n)) ∧ w = w' := by
  obtain ⟨N, hN⟩ : ∃ N, n.tmod 2048 = N := ⟨_, rfl⟩
  have ht := tmod_circle n
  rw [hN] at ht
  rcases ht with ⟨h1, h2, hr⟩ | ⟨h1, h2, hr⟩
  · skip
    by_cases hb : 1024 < N
    · skip
      rw [cosL_at hr, if_pos hb]
      by_cases hf : 512 < (2048 - N)
      · rw [if_pos hf]; exact refcos_pbf n N hN h1 h2 hb hf w
      · rw [if_neg hf]
        by_cases hc : (2048 - N) ≤ 256
        · exact refcos_pbc n N hN h1 h2 hb hc w
        · exact refcos_pbs n N hN h1 h2 hb hc (by omega) w
    · skip
      rw [cosL_at hr, if_neg hb]
      by_cases hf : 512 < N
      · rw [if_pos hf]; exact refcos_plf n N hN h1 h2 hb hf w
      · rw [if_neg hf]
        by_cases hc : N ≤ 256
        · exact refcos_plc n N hN h1 h2 hb hc w
        · exact refcos_pls n N hN h1 h2 hb hc (by omega) w
  · skip
    by_cases hb : 1024 < (N + 2048)
    · skip
      rw [cosL_at hr, if_pos hb]
      by_cases hf : 512 < (2048 - (N + 2048))
      · rw [if_pos hf]; exact refcos_nbf n N hN h1 h2 hb hf w
      · rw [if_neg hf]
        by_cases hc : (2048 - (N + 2048)) ≤ 256
        · exact refcos_nbc n N hN h1 h2 hb hc w
        · exact refcos_nbs n N hN h1 h2 hb hc (by omega) w
    · skip
      rw [cosL_at hr, if_neg hb]
      by_cases hf : 512 < (N + 2048)
      · rw [if_pos hf]; exact refcos_nlf n N hN h1 h2 hb hf w
      · rw [if_neg hf]
        by_cases hc : (N + 2048) ≤ 256
        · exact refcos_nlc n N hN h1 h2 hb hc w
        · exact refcos_nls n N hN h1 h2 hb hc (by omega) w

end Go.Proofs.Yteijlbblmdclaaa
