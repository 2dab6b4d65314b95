import Derived.Test.YtfjckgdmicgkmaaFixAll
set_option linter.unusedVariables false
namespace Go.Proofs.Ytfjckgdmicgkmaa
open Go.ChangeShapes Go.WideShapes Go.ChangeAt Go.RowKit

set_option maxRecDepth 100000 in
set_option maxHeartbeats 1000000 in
theorem roots_bad (n m r : Int) (h : n < 0 ∨ 4611686018427387904 < n) (w : World) :
    Calls Try.prog 5 #[.int .i64 n, .int .i64 m, .int .u16 r] w fun e w' => e = .returned (.bool true) ∧ Below w.heap.size w w' := by
  have e1 : sqV n = (0, 2) := if_pos h
  have e2 : cbV n = (0, 2) := if_pos h
  go_enter Try.func5, Try.ntmps5
  go_wp2_with fail
  refine (alive03 _).mono ?_
  skip
  rintro e w1 ⟨rfl, hb1⟩
  go_wp2_with fail
  refine (sqrt_any n _).mono ?_
  rw [e1]
  rintro e w2 ⟨rfl, hb2⟩
  go_wp2_with fail
  refine (cbrt_any n _).mono ?_
  rw [e2]
  rintro e w3 ⟨rfl, hb3⟩
  have sz2 : w.heap.size ≤ w1.heap.size := (hb1).size
  have sz3 : w.heap.size ≤ w2.heap.size := ((hb1).trans (hb2.mono sz2)).size
  clear e1 e2
  go_wp2
  all_goals go_ret
  all_goals exact ⟨rfl, ((hb1).trans (hb2.mono sz2)).trans (hb3.mono sz3)⟩

/-- What a root's answers meet. -/
theorem sq_facts (n : Nat) (hn : n ≤ 4611686018427387904) (h0 : 1 ≤ n) : 1 ≤ sqN n ∧ sqN n ≤ 2147483648 ∧ (sqN n : Int) ≤ (n : Int) / (sqN n : Int) ∧ (n : Int) / ((sqN n : Int) + 1) < (sqN n : Int) + 1 := by
  obtain ⟨s1, s2⟩ := sqN_spec n hn
  have h1 : 1 ≤ sqN n := by
    rcases Nat.eq_zero_or_pos (sqN n) with h | h
    · rw [h] at s2; omega
    · exact h
  refine ⟨h1, sqN_le n hn, ?_, ?_⟩
  · exact Int.ofNat_le.2 ((Nat.le_div_iff_mul_le (by omega)).2 s1)
  · exact Int.ofNat_lt.2 ((Nat.div_lt_iff_lt_mul (by omega)).2 s2)
theorem cb_facts (n : Nat) (hn : n ≤ 4611686018427387904) (h0 : 1 ≤ n) : 1 ≤ cbN n ∧ cbN n ≤ 1664510 ∧ (cbN n : Int) * cbN n ≤ (n : Int) / (cbN n : Int) ∧ (n : Int) / ((cbN n : Int) + 1) < ((cbN n : Int) + 1) * ((cbN n : Int) + 1) := by
  obtain ⟨s1, s2⟩ := cbN_spec n hn
  have h1 : 1 ≤ cbN n := by
    rcases Nat.eq_zero_or_pos (cbN n) with h | h
    · rw [h] at s2; omega
    · exact h
  refine ⟨h1, cbN_le n hn, ?_, ?_⟩
  · have := Int.ofNat_le.2 ((Nat.le_div_iff_mul_le (by omega)).2 s1); simpa using this
  · have := Int.ofNat_lt.2 ((Nat.div_lt_iff_lt_mul (by omega)).2 s2); simpa using this

/-- Powers have the roots of which they are. -/
theorem sq_own (s : Nat) (hs : s ≤ 65535) : sqV ((s : Int) * s) = ((s : Int), 0) ∧ cbV ((s : Int) * s * s) = ((s : Int), 0) := by
  have h1 := sq_le hs
  have h2 := cb_le hs
  have e1 : ((s : Int) * s) = ((s * s : Nat) : Int) := by simp
  have e2 : ((s : Int) * s * s) = ((s * s * s : Nat) : Int) := by simp
  constructor
  · rw [e1, sqV, if_neg (by omega), Int.toNat_natCast, sqN_unique (r := s) (by omega) (Nat.le_refl _) (sq_lt (Nat.lt_succ_self s))]
  · rw [e2, cbV, if_neg (by omega), Int.toNat_natCast, cbN_unique (r := s) (by omega) (Nat.le_refl _) (cb_lt (Nat.lt_succ_self s))]

set_option maxRecDepth 100000 in
set_option maxHeartbeats 2000000 in
theorem roots_pos_bad (n a b : Int) (n0 : 0 ≤ n) (n1 : n ≤ 4611686018427387904) (e1 : sqV n = (a, 0)) (e2 : cbV n = (b, 0)) (f1 : 1 ≤ a) (f2 : a ≤ 2147483648) (k1 : decide (n / a < a) = false) (k2 : decide (a + 1 ≤ n / (a + 1)) = false) (d1 : 0 ≤ n / a) (d2 : n / a ≤ 4611686018427387904) (d3 : 0 ≤ n / (a + 1)) (d4 : n / (a + 1) ≤ 4611686018427387904)
    (g1 : 1 ≤ b) (g2 : b ≤ 1664510) (k3 : decide (n / b < b * b) = false) (k4 : decide ((b + 1) * (b + 1) ≤ n / (b + 1)) = false) (d5 : 0 ≤ n / b) (d6 : n / b ≤ 4611686018427387904) (d7 : 0 ≤ n / (b + 1)) (d8 : n / (b + 1) ≤ 4611686018427387904)
    (c1 : 0 ≤ b * b) (c2 : b * b ≤ 2770593540100) (c3 : 0 ≤ (b + 1) * (b + 1)) (c4 : (b + 1) * (b + 1) ≤ 2770596869121) (m : Int) (e3 : sqV m = (0, 2)) (e4 : cbV m = (0, 2)) (s : Int) (s0 : 0 ≤ s) (s1 : s ≤ 65535) (v1 : 0 ≤ s * s) (v2 : s * s ≤ 4294836225) (v3 : 0 ≤ s * s * s) (v4 : s * s * s ≤ 281462092005375) (e5 : sqV (s * s) = (s, 0)) (e6 : cbV (s * s * s) = (s, 0)) (w : World) :
    Calls Try.prog 5 #[.int .i64 n, .int .i64 m, .int .u16 s] w fun e w' => e = .returned (.bool true) ∧ Below w.heap.size w w' := by
  go_enter Try.func5, Try.ntmps5
  go_wp2_with fail
  refine (alive03 _).mono ?_
  skip
  rintro e w1 ⟨rfl, hb1⟩
  go_wp2_with fail
  refine (sqrt_any n _).mono ?_
  rw [e1]
  rintro e w2 ⟨rfl, hb2⟩
  go_wp2_with fail
  refine (cbrt_any n _).mono ?_
  rw [e2]
  rintro e w3 ⟨rfl, hb3⟩
  clear e1 e2
  go_wp2_with fail
  refine (sqrt_any m _).mono ?_
  rw [e3]
  rintro e w4 ⟨rfl, hb4⟩
  go_wp2_with fail
  refine (cbrt_any m _).mono ?_
  rw [e4]
  rintro e w5 ⟨rfl, hb5⟩
  clear e3 e4
  go_wp2_with fail
  refine (sqrt_any (s * s) _).mono ?_
  rw [e5]
  rintro e w6 ⟨rfl, hb6⟩
  go_wp2_with fail
  refine (cbrt_any (s * s * s) _).mono ?_
  rw [e6]
  rintro e w7 ⟨rfl, hb7⟩
  have sz2 : w.heap.size ≤ w1.heap.size := (hb1).size
  have sz3 : w.heap.size ≤ w2.heap.size := ((hb1).trans (hb2.mono sz2)).size
  have sz4 : w.heap.size ≤ w3.heap.size := (((hb1).trans (hb2.mono sz2)).trans (hb3.mono sz3)).size
  have sz5 : w.heap.size ≤ w4.heap.size := ((((hb1).trans (hb2.mono sz2)).trans (hb3.mono sz3)).trans (hb4.mono sz4)).size
  have sz6 : w.heap.size ≤ w5.heap.size := (((((hb1).trans (hb2.mono sz2)).trans (hb3.mono sz3)).trans (hb4.mono sz4)).trans (hb5.mono sz5)).size
  have sz7 : w.heap.size ≤ w6.heap.size := ((((((hb1).trans (hb2.mono sz2)).trans (hb3.mono sz3)).trans (hb4.mono sz4)).trans (hb5.mono sz5)).trans (hb6.mono sz6)).size
  go_wp2
  all_goals go_ret
  all_goals exact ⟨rfl, ((((((hb1).trans (hb2.mono sz2)).trans (hb3.mono sz3)).trans (hb4.mono sz4)).trans (hb5.mono sz5)).trans (hb6.mono sz6)).trans (hb7.mono sz7)⟩

set_option maxRecDepth 100000 in
set_option maxHeartbeats 2000000 in
theorem roots_pos_gt (n a b : Int) (n0 : 0 ≤ n) (n1 : n ≤ 4611686018427387904) (e1 : sqV n = (a, 0)) (e2 : cbV n = (b, 0)) (f1 : 1 ≤ a) (f2 : a ≤ 2147483648) (k1 : decide (n / a < a) = false) (k2 : decide (a + 1 ≤ n / (a + 1)) = false) (d1 : 0 ≤ n / a) (d2 : n / a ≤ 4611686018427387904) (d3 : 0 ≤ n / (a + 1)) (d4 : n / (a + 1) ≤ 4611686018427387904)
    (g1 : 1 ≤ b) (g2 : b ≤ 1664510) (k3 : decide (n / b < b * b) = false) (k4 : decide ((b + 1) * (b + 1) ≤ n / (b + 1)) = false) (d5 : 0 ≤ n / b) (d6 : n / b ≤ 4611686018427387904) (d7 : 0 ≤ n / (b + 1)) (d8 : n / (b + 1) ≤ 4611686018427387904)
    (c1 : 0 ≤ b * b) (c2 : b * b ≤ 2770593540100) (c3 : 0 ≤ (b + 1) * (b + 1)) (c4 : (b + 1) * (b + 1) ≤ 2770596869121) (m c d : Int) (e3 : sqV m = (c, 0)) (e4 : cbV m = (d, 0)) (hnm : m < n) (s : Int) (s0 : 0 ≤ s) (s1 : s ≤ 65535) (v1 : 0 ≤ s * s) (v2 : s * s ≤ 4294836225) (v3 : 0 ≤ s * s * s) (v4 : s * s * s ≤ 281462092005375) (e5 : sqV (s * s) = (s, 0)) (e6 : cbV (s * s * s) = (s, 0)) (w : World) :
    Calls Try.prog 5 #[.int .i64 n, .int .i64 m, .int .u16 s] w fun e w' => e = .returned (.bool true) ∧ Below w.heap.size w w' := by
  go_enter Try.func5, Try.ntmps5
  go_wp2_with fail
  refine (alive03 _).mono ?_
  skip
  rintro e w1 ⟨rfl, hb1⟩
  go_wp2_with fail
  refine (sqrt_any n _).mono ?_
  rw [e1]
  rintro e w2 ⟨rfl, hb2⟩
  go_wp2_with fail
  refine (cbrt_any n _).mono ?_
  rw [e2]
  rintro e w3 ⟨rfl, hb3⟩
  clear e1 e2
  go_wp2_with fail
  refine (sqrt_any m _).mono ?_
  rw [e3]
  rintro e w4 ⟨rfl, hb4⟩
  go_wp2_with fail
  refine (cbrt_any m _).mono ?_
  rw [e4]
  rintro e w5 ⟨rfl, hb5⟩
  clear e3 e4
  go_wp2_with fail
  refine (sqrt_any (s * s) _).mono ?_
  rw [e5]
  rintro e w6 ⟨rfl, hb6⟩
  go_wp2_with fail
  refine (cbrt_any (s * s * s) _).mono ?_
  rw [e6]
  rintro e w7 ⟨rfl, hb7⟩
  have sz2 : w.heap.size ≤ w1.heap.size := (hb1).size
  have sz3 : w.heap.size ≤ w2.heap.size := ((hb1).trans (hb2.mono sz2)).size
  have sz4 : w.heap.size ≤ w3.heap.size := (((hb1).trans (hb2.mono sz2)).trans (hb3.mono sz3)).size
  have sz5 : w.heap.size ≤ w4.heap.size := ((((hb1).trans (hb2.mono sz2)).trans (hb3.mono sz3)).trans (hb4.mono sz4)).size
  have sz6 : w.heap.size ≤ w5.heap.size := (((((hb1).trans (hb2.mono sz2)).trans (hb3.mono sz3)).trans (hb4.mono sz4)).trans (hb5.mono sz5)).size
  have sz7 : w.heap.size ≤ w6.heap.size := ((((((hb1).trans (hb2.mono sz2)).trans (hb3.mono sz3)).trans (hb4.mono sz4)).trans (hb5.mono sz5)).trans (hb6.mono sz6)).size
  go_wp2
  all_goals go_ret
  all_goals exact ⟨rfl, ((((((hb1).trans (hb2.mono sz2)).trans (hb3.mono sz3)).trans (hb4.mono sz4)).trans (hb5.mono sz5)).trans (hb6.mono sz6)).trans (hb7.mono sz7)⟩

set_option maxRecDepth 100000 in
set_option maxHeartbeats 2000000 in
theorem roots_pos_le (n a b : Int) (n0 : 0 ≤ n) (n1 : n ≤ 4611686018427387904) (e1 : sqV n = (a, 0)) (e2 : cbV n = (b, 0)) (f1 : 1 ≤ a) (f2 : a ≤ 2147483648) (k1 : decide (n / a < a) = false) (k2 : decide (a + 1 ≤ n / (a + 1)) = false) (d1 : 0 ≤ n / a) (d2 : n / a ≤ 4611686018427387904) (d3 : 0 ≤ n / (a + 1)) (d4 : n / (a + 1) ≤ 4611686018427387904)
    (g1 : 1 ≤ b) (g2 : b ≤ 1664510) (k3 : decide (n / b < b * b) = false) (k4 : decide ((b + 1) * (b + 1) ≤ n / (b + 1)) = false) (d5 : 0 ≤ n / b) (d6 : n / b ≤ 4611686018427387904) (d7 : 0 ≤ n / (b + 1)) (d8 : n / (b + 1) ≤ 4611686018427387904)
    (c1 : 0 ≤ b * b) (c2 : b * b ≤ 2770593540100) (c3 : 0 ≤ (b + 1) * (b + 1)) (c4 : (b + 1) * (b + 1) ≤ 2770596869121) (m c d : Int) (e3 : sqV m = (c, 0)) (e4 : cbV m = (d, 0)) (hnm : n ≤ m) (mo1 : a ≤ c) (mo2 : b ≤ d) (s : Int) (s0 : 0 ≤ s) (s1 : s ≤ 65535) (v1 : 0 ≤ s * s) (v2 : s * s ≤ 4294836225) (v3 : 0 ≤ s * s * s) (v4 : s * s * s ≤ 281462092005375) (e5 : sqV (s * s) = (s, 0)) (e6 : cbV (s * s * s) = (s, 0)) (w : World) :
    Calls Try.prog 5 #[.int .i64 n, .int .i64 m, .int .u16 s] w fun e w' => e = .returned (.bool true) ∧ Below w.heap.size w w' := by
  go_enter Try.func5, Try.ntmps5
  go_wp2_with fail
  refine (alive03 _).mono ?_
  skip
  rintro e w1 ⟨rfl, hb1⟩
  go_wp2_with fail
  refine (sqrt_any n _).mono ?_
  rw [e1]
  rintro e w2 ⟨rfl, hb2⟩
  go_wp2_with fail
  refine (cbrt_any n _).mono ?_
  rw [e2]
  rintro e w3 ⟨rfl, hb3⟩
  clear e1 e2
  go_wp2_with fail
  refine (sqrt_any m _).mono ?_
  rw [e3]
  rintro e w4 ⟨rfl, hb4⟩
  go_wp2_with fail
  refine (cbrt_any m _).mono ?_
  rw [e4]
  rintro e w5 ⟨rfl, hb5⟩
  clear e3 e4
  go_wp2_with fail
  refine (sqrt_any (s * s) _).mono ?_
  rw [e5]
  rintro e w6 ⟨rfl, hb6⟩
  go_wp2_with fail
  refine (cbrt_any (s * s * s) _).mono ?_
  rw [e6]
  rintro e w7 ⟨rfl, hb7⟩
  have sz2 : w.heap.size ≤ w1.heap.size := (hb1).size
  have sz3 : w.heap.size ≤ w2.heap.size := ((hb1).trans (hb2.mono sz2)).size
  have sz4 : w.heap.size ≤ w3.heap.size := (((hb1).trans (hb2.mono sz2)).trans (hb3.mono sz3)).size
  have sz5 : w.heap.size ≤ w4.heap.size := ((((hb1).trans (hb2.mono sz2)).trans (hb3.mono sz3)).trans (hb4.mono sz4)).size
  have sz6 : w.heap.size ≤ w5.heap.size := (((((hb1).trans (hb2.mono sz2)).trans (hb3.mono sz3)).trans (hb4.mono sz4)).trans (hb5.mono sz5)).size
  have sz7 : w.heap.size ≤ w6.heap.size := ((((((hb1).trans (hb2.mono sz2)).trans (hb3.mono sz3)).trans (hb4.mono sz4)).trans (hb5.mono sz5)).trans (hb6.mono sz6)).size
  go_wp2
  all_goals go_ret
  all_goals exact ⟨rfl, ((((((hb1).trans (hb2.mono sz2)).trans (hb3.mono sz3)).trans (hb4.mono sz4)).trans (hb5.mono sz5)).trans (hb6.mono sz6)).trans (hb7.mono sz7)⟩

set_option maxRecDepth 100000 in
set_option maxHeartbeats 2000000 in
theorem roots_zero_bad (e1 : sqV 0 = (0, 0)) (e2 : cbV 0 = (0, 0)) (m : Int) (e3 : sqV m = (0, 2)) (e4 : cbV m = (0, 2)) (s : Int) (s0 : 0 ≤ s) (s1 : s ≤ 65535) (v1 : 0 ≤ s * s) (v2 : s * s ≤ 4294836225) (v3 : 0 ≤ s * s * s) (v4 : s * s * s ≤ 281462092005375) (e5 : sqV (s * s) = (s, 0)) (e6 : cbV (s * s * s) = (s, 0)) (w : World) :
    Calls Try.prog 5 #[.int .i64 0, .int .i64 m, .int .u16 s] w fun e w' => e = .returned (.bool true) ∧ Below w.heap.size w w' := by
  go_enter Try.func5, Try.ntmps5
  go_wp2_with fail
  refine (alive03 _).mono ?_
  skip
  rintro e w1 ⟨rfl, hb1⟩
  go_wp2_with fail
  refine (sqrt_any 0 _).mono ?_
  rw [e1]
  rintro e w2 ⟨rfl, hb2⟩
  go_wp2_with fail
  refine (cbrt_any 0 _).mono ?_
  rw [e2]
  rintro e w3 ⟨rfl, hb3⟩
  clear e1 e2
  go_wp2_with fail
  refine (sqrt_any m _).mono ?_
  rw [e3]
  rintro e w4 ⟨rfl, hb4⟩
  go_wp2_with fail
  refine (cbrt_any m _).mono ?_
  rw [e4]
  rintro e w5 ⟨rfl, hb5⟩
  clear e3 e4
  go_wp2_with fail
  refine (sqrt_any (s * s) _).mono ?_
  rw [e5]
  rintro e w6 ⟨rfl, hb6⟩
  go_wp2_with fail
  refine (cbrt_any (s * s * s) _).mono ?_
  rw [e6]
  rintro e w7 ⟨rfl, hb7⟩
  have sz2 : w.heap.size ≤ w1.heap.size := (hb1).size
  have sz3 : w.heap.size ≤ w2.heap.size := ((hb1).trans (hb2.mono sz2)).size
  have sz4 : w.heap.size ≤ w3.heap.size := (((hb1).trans (hb2.mono sz2)).trans (hb3.mono sz3)).size
  have sz5 : w.heap.size ≤ w4.heap.size := ((((hb1).trans (hb2.mono sz2)).trans (hb3.mono sz3)).trans (hb4.mono sz4)).size
  have sz6 : w.heap.size ≤ w5.heap.size := (((((hb1).trans (hb2.mono sz2)).trans (hb3.mono sz3)).trans (hb4.mono sz4)).trans (hb5.mono sz5)).size
  have sz7 : w.heap.size ≤ w6.heap.size := ((((((hb1).trans (hb2.mono sz2)).trans (hb3.mono sz3)).trans (hb4.mono sz4)).trans (hb5.mono sz5)).trans (hb6.mono sz6)).size
  go_wp2
  all_goals go_ret
  all_goals exact ⟨rfl, ((((((hb1).trans (hb2.mono sz2)).trans (hb3.mono sz3)).trans (hb4.mono sz4)).trans (hb5.mono sz5)).trans (hb6.mono sz6)).trans (hb7.mono sz7)⟩

set_option maxRecDepth 100000 in
set_option maxHeartbeats 2000000 in
theorem roots_zero_gt (e1 : sqV 0 = (0, 0)) (e2 : cbV 0 = (0, 0)) (m c d : Int) (e3 : sqV m = (c, 0)) (e4 : cbV m = (d, 0)) (hnm : m < 0) (s : Int) (s0 : 0 ≤ s) (s1 : s ≤ 65535) (v1 : 0 ≤ s * s) (v2 : s * s ≤ 4294836225) (v3 : 0 ≤ s * s * s) (v4 : s * s * s ≤ 281462092005375) (e5 : sqV (s * s) = (s, 0)) (e6 : cbV (s * s * s) = (s, 0)) (w : World) :
    Calls Try.prog 5 #[.int .i64 0, .int .i64 m, .int .u16 s] w fun e w' => e = .returned (.bool true) ∧ Below w.heap.size w w' := by
  go_enter Try.func5, Try.ntmps5
  go_wp2_with fail
  refine (alive03 _).mono ?_
  skip
  rintro e w1 ⟨rfl, hb1⟩
  go_wp2_with fail
  refine (sqrt_any 0 _).mono ?_
  rw [e1]
  rintro e w2 ⟨rfl, hb2⟩
  go_wp2_with fail
  refine (cbrt_any 0 _).mono ?_
  rw [e2]
  rintro e w3 ⟨rfl, hb3⟩
  clear e1 e2
  go_wp2_with fail
  refine (sqrt_any m _).mono ?_
  rw [e3]
  rintro e w4 ⟨rfl, hb4⟩
  go_wp2_with fail
  refine (cbrt_any m _).mono ?_
  rw [e4]
  rintro e w5 ⟨rfl, hb5⟩
  clear e3 e4
  go_wp2_with fail
  refine (sqrt_any (s * s) _).mono ?_
  rw [e5]
  rintro e w6 ⟨rfl, hb6⟩
  go_wp2_with fail
  refine (cbrt_any (s * s * s) _).mono ?_
  rw [e6]
  rintro e w7 ⟨rfl, hb7⟩
  have sz2 : w.heap.size ≤ w1.heap.size := (hb1).size
  have sz3 : w.heap.size ≤ w2.heap.size := ((hb1).trans (hb2.mono sz2)).size
  have sz4 : w.heap.size ≤ w3.heap.size := (((hb1).trans (hb2.mono sz2)).trans (hb3.mono sz3)).size
  have sz5 : w.heap.size ≤ w4.heap.size := ((((hb1).trans (hb2.mono sz2)).trans (hb3.mono sz3)).trans (hb4.mono sz4)).size
  have sz6 : w.heap.size ≤ w5.heap.size := (((((hb1).trans (hb2.mono sz2)).trans (hb3.mono sz3)).trans (hb4.mono sz4)).trans (hb5.mono sz5)).size
  have sz7 : w.heap.size ≤ w6.heap.size := ((((((hb1).trans (hb2.mono sz2)).trans (hb3.mono sz3)).trans (hb4.mono sz4)).trans (hb5.mono sz5)).trans (hb6.mono sz6)).size
  go_wp2
  all_goals go_ret
  all_goals exact ⟨rfl, ((((((hb1).trans (hb2.mono sz2)).trans (hb3.mono sz3)).trans (hb4.mono sz4)).trans (hb5.mono sz5)).trans (hb6.mono sz6)).trans (hb7.mono sz7)⟩

set_option maxRecDepth 100000 in
set_option maxHeartbeats 2000000 in
theorem roots_zero_le (e1 : sqV 0 = (0, 0)) (e2 : cbV 0 = (0, 0)) (m c d : Int) (e3 : sqV m = (c, 0)) (e4 : cbV m = (d, 0)) (hnm : 0 ≤ m) (mo1 : 0 ≤ c) (mo2 : 0 ≤ d) (s : Int) (s0 : 0 ≤ s) (s1 : s ≤ 65535) (v1 : 0 ≤ s * s) (v2 : s * s ≤ 4294836225) (v3 : 0 ≤ s * s * s) (v4 : s * s * s ≤ 281462092005375) (e5 : sqV (s * s) = (s, 0)) (e6 : cbV (s * s * s) = (s, 0)) (w : World) :
    Calls Try.prog 5 #[.int .i64 0, .int .i64 m, .int .u16 s] w fun e w' => e = .returned (.bool true) ∧ Below w.heap.size w w' := by
  go_enter Try.func5, Try.ntmps5
  go_wp2_with fail
  refine (alive03 _).mono ?_
  skip
  rintro e w1 ⟨rfl, hb1⟩
  go_wp2_with fail
  refine (sqrt_any 0 _).mono ?_
  rw [e1]
  rintro e w2 ⟨rfl, hb2⟩
  go_wp2_with fail
  refine (cbrt_any 0 _).mono ?_
  rw [e2]
  rintro e w3 ⟨rfl, hb3⟩
  clear e1 e2
  go_wp2_with fail
  refine (sqrt_any m _).mono ?_
  rw [e3]
  rintro e w4 ⟨rfl, hb4⟩
  go_wp2_with fail
  refine (cbrt_any m _).mono ?_
  rw [e4]
  rintro e w5 ⟨rfl, hb5⟩
  clear e3 e4
  go_wp2_with fail
  refine (sqrt_any (s * s) _).mono ?_
  rw [e5]
  rintro e w6 ⟨rfl, hb6⟩
  go_wp2_with fail
  refine (cbrt_any (s * s * s) _).mono ?_
  rw [e6]
  rintro e w7 ⟨rfl, hb7⟩
  have sz2 : w.heap.size ≤ w1.heap.size := (hb1).size
  have sz3 : w.heap.size ≤ w2.heap.size := ((hb1).trans (hb2.mono sz2)).size
  have sz4 : w.heap.size ≤ w3.heap.size := (((hb1).trans (hb2.mono sz2)).trans (hb3.mono sz3)).size
  have sz5 : w.heap.size ≤ w4.heap.size := ((((hb1).trans (hb2.mono sz2)).trans (hb3.mono sz3)).trans (hb4.mono sz4)).size
  have sz6 : w.heap.size ≤ w5.heap.size := (((((hb1).trans (hb2.mono sz2)).trans (hb3.mono sz3)).trans (hb4.mono sz4)).trans (hb5.mono sz5)).size
  have sz7 : w.heap.size ≤ w6.heap.size := ((((((hb1).trans (hb2.mono sz2)).trans (hb3.mono sz3)).trans (hb4.mono sz4)).trans (hb5.mono sz5)).trans (hb6.mono sz6)).size
  go_wp2
  all_goals go_ret
  all_goals exact ⟨rfl, ((((((hb1).trans (hb2.mono sz2)).trans (hb3.mono sz3)).trans (hb4.mono sz4)).trans (hb5.mono sz5)).trans (hb6.mono sz6)).trans (hb7.mono sz7)⟩

theorem s_facts (s : Int) (s0 : 0 ≤ s) (s1 : s ≤ 65535) : 0 ≤ s * s ∧ s * s ≤ 4294836225 ∧ 0 ≤ s * s * s ∧ s * s * s ≤ 281462092005375 ∧ sqV (s * s) = (s, 0) ∧ cbV (s * s * s) = (s, 0) := by
  obtain ⟨S, rfl⟩ : ∃ B : Nat, s = B := ⟨s.toNat, by omega⟩
  obtain ⟨e5, e6⟩ := sq_own S (by omega)
  have s2 := sq_le (show S ≤ 65535 by omega)
  have s3 := cb_le (show S ≤ 65535 by omega)
  have u1 : ((S : Int) * S) = ((S * S : Nat) : Int) := by simp
  have u2 : ((S : Int) * S * S) = ((S * S * S : Nat) : Int) := by simp
  refine ⟨?_, ?_, ?_, ?_, e5, e6⟩
  · rw [u1]; omega
  · rw [u1]; omega
  · rw [u2]; omega
  · rw [u2]; omega
theorem b_facts (b : Int) (g1 : 1 ≤ b) (g2 : b ≤ 1664510) : 0 ≤ b * b ∧ b * b ≤ 2770593540100 ∧ 0 ≤ (b + 1) * (b + 1) ∧ (b + 1) * (b + 1) ≤ 2770596869121 := by
  obtain ⟨h1, h2⟩ : 0 ≤ b * b ∧ b * b ≤ 1664510 * 1664510 := ⟨Int.mul_nonneg (by omega) (by omega), Int.mul_le_mul g2 g2 (by omega) (by omega)⟩
  obtain ⟨h3, h4⟩ : 0 ≤ (b + 1) * (b + 1) ∧ (b + 1) * (b + 1) ≤ 1664511 * 1664511 := ⟨Int.mul_nonneg (by omega) (by omega), Int.mul_le_mul (by omega) (by omega) (by omega) (by omega)⟩
  exact ⟨h1, by omega, h3, by omega⟩
theorem quo_facts (n a : Int) (n0 : 0 ≤ n) (n1 : n ≤ 4611686018427387904) (h : 1 ≤ a) : 0 ≤ n / a ∧ n / a ≤ 4611686018427387904 :=
  ⟨Int.ediv_nonneg n0 (by omega), Int.le_trans (Int.ediv_le_self _ n0) n1⟩
theorem sqV_ok (n : Nat) (hn : n ≤ 4611686018427387904) : sqV n = ((sqN n : Int), 0) := by rw [sqV, if_neg (by omega), Int.toNat_natCast]
theorem cbV_ok (n : Nat) (hn : n ≤ 4611686018427387904) : cbV n = ((cbN n : Int), 0) := by rw [cbV, if_neg (by omega), Int.toNat_natCast]

theorem roots_any (n m r : Int) (hr : 0 ≤ r ∧ r ≤ 65535) (w : World) :
    Calls Try.prog 5 #[.int .i64 n, .int .i64 m, .int .u16 r] w fun e w' => e = .returned (.bool true) ∧ Below w.heap.size w w' := by
  obtain ⟨v1, v2, v3, v4, e5, e6⟩ := s_facts r hr.1 hr.2
  by_cases h : n < 0 ∨ 4611686018427387904 < n
  · exact roots_bad n m r h w
  · by_cases h0 : n = 0
    · subst h0
      have e1 : sqV 0 = (0, 0) := by decide +kernel
      have e2 : cbV 0 = (0, 0) := by decide +kernel
      by_cases hm : m < 0 ∨ 4611686018427387904 < m
      · exact roots_zero_bad e1 e2 m (if_pos hm) (if_pos hm) r hr.1 hr.2 v1 v2 v3 v4 e5 e6 w
      · obtain ⟨M, rfl⟩ : ∃ B : Nat, m = B := ⟨m.toNat, by omega⟩
        exact roots_zero_le e1 e2 M _ _ (sqV_ok M (by omega)) (cbV_ok M (by omega)) (by omega) (by omega) (by omega) r hr.1 hr.2 v1 v2 v3 v4 e5 e6 w
    · obtain ⟨N, rfl⟩ : ∃ B : Nat, n = B := ⟨n.toNat, by omega⟩
      have hN : N ≤ 4611686018427387904 := by omega
      obtain ⟨f1, f2, f3, f4⟩ := sq_facts N hN (by omega)
      obtain ⟨g1, g2, g3, g4⟩ := cb_facts N hN (by omega)
      obtain ⟨c1, c2, c3, c4⟩ := b_facts (cbN N) (by omega) (by omega)
      obtain ⟨d1, d2⟩ := quo_facts N (sqN N) (by omega) (by omega) (by omega)
      obtain ⟨d3, d4⟩ := quo_facts N (sqN N + 1) (by omega) (by omega) (by omega)
      obtain ⟨d5, d6⟩ := quo_facts N (cbN N) (by omega) (by omega) (by omega)
      obtain ⟨d7, d8⟩ := quo_facts N (cbN N + 1) (by omega) (by omega) (by omega)
      have k1 : decide ((N : Int) / (sqN N : Int) < sqN N) = false := decide_eq_false (Int.not_lt.2 f3)
      have k2 : decide ((sqN N : Int) + 1 ≤ (N : Int) / ((sqN N : Int) + 1)) = false := decide_eq_false (Int.not_le.2 f4)
      have k3 : decide ((N : Int) / (cbN N : Int) < (cbN N : Int) * cbN N) = false := decide_eq_false (Int.not_lt.2 g3)
      have k4 : decide (((cbN N : Int) + 1) * ((cbN N : Int) + 1) ≤ (N : Int) / ((cbN N : Int) + 1)) = false := decide_eq_false (Int.not_le.2 g4)
      by_cases hm : m < 0 ∨ 4611686018427387904 < m
      · exact roots_pos_bad N _ _ (by omega) (by omega) (sqV_ok N hN) (cbV_ok N hN) (by omega) (by omega) k1 k2 d1 d2 d3 d4 (by omega) (by omega) k3 k4 d5 d6 d7 d8 c1 c2 c3 c4 m (if_pos hm) (if_pos hm) r hr.1 hr.2 v1 v2 v3 v4 e5 e6 w
      · obtain ⟨M, rfl⟩ : ∃ B : Nat, m = B := ⟨m.toNat, by omega⟩
        have hM : M ≤ 4611686018427387904 := by omega
        by_cases hnm : N ≤ M
        · exact roots_pos_le N _ _ (by omega) (by omega) (sqV_ok N hN) (cbV_ok N hN) (by omega) (by omega) k1 k2 d1 d2 d3 d4 (by omega) (by omega) k3 k4 d5 d6 d7 d8 c1 c2 c3 c4 M _ _ (sqV_ok M hM) (cbV_ok M hM) (by omega) (Int.ofNat_le.2 (sqN_mono hnm hM)) (Int.ofNat_le.2 (cbN_mono hnm hM)) r hr.1 hr.2 v1 v2 v3 v4 e5 e6 w
        · exact roots_pos_gt N _ _ (by omega) (by omega) (sqV_ok N hN) (cbV_ok N hN) (by omega) (by omega) k1 k2 d1 d2 d3 d4 (by omega) (by omega) k3 k4 d5 d6 d7 d8 c1 c2 c3 c4 M _ _ (sqV_ok M hM) (cbV_ok M hM) (by omega) r hr.1 hr.2 v1 v2 v3 v4 e5 e6 w
end Go.Proofs.Ytfjckgdmicgkmaa
