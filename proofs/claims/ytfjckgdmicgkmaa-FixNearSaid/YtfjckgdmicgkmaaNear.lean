import Derived.Test.YtfjckgdmicgkmaaFixAll
set_option linter.unusedVariables false
namespace Go.Proofs.Ytfjckgdmicgkmaa
open Go.ChangeShapes Go.WideShapes Go.ChangeAt Go.RowKit

set_option maxHeartbeats 1000000 in
theorem near_bad (n m b : Int) (h : (n < -4611686018427387904 ∨ 4611686018427387904 < n ∨ b < 0 ∨ 62 < b) ∨ (m < -4611686018427387904 ∨ 4611686018427387904 < m ∨ b < 0 ∨ 62 < b)) (w : World) :
    Calls Try.prog 3 #[.int .i64 n, .int .i64 m, .int .i64 b] w fun e w' => e = .returned (.bool true) ∧ Below w.heap.size w w' := by
  by_cases hn : n < -4611686018427387904 ∨ 4611686018427387904 < n ∨ b < 0 ∨ 62 < b
  · have e1 : rndV n b = (0, 2) := if_pos hn
    by_cases hm : m < -4611686018427387904 ∨ 4611686018427387904 < m ∨ b < 0 ∨ 62 < b
    · have e2 : rndV m b = (0, 2) := if_pos hm
      go_enter Try.func3, Try.ntmps3
      go_wp2_with fail
      refine (alive03 _).mono ?_
      rintro e w1 ⟨rfl, hb1⟩
      go_wp2_with fail
      refine (round_any n b _).mono ?_
      rw [e1]
      rintro e w2 ⟨rfl, hb2⟩
      go_wp2_with fail
      refine (round_any m b _).mono ?_
      rw [e2]
      rintro e w3 ⟨rfl, hb3⟩
      clear e1 e2
      go_wp2
      all_goals go_ret
      all_goals exact ⟨ret_bool (by first | rfl | (simp; omega)), (hb1.trans (hb2.mono hb1.size)).trans (hb3.mono (Nat.le_trans hb1.size hb2.size))⟩

    · have e2 : rndV m b = (rnd m b.toNat, 0) := if_neg hm
      go_enter Try.func3, Try.ntmps3
      go_wp2_with fail
      refine (alive03 _).mono ?_
      rintro e w1 ⟨rfl, hb1⟩
      go_wp2_with fail
      refine (round_any n b _).mono ?_
      rw [e1]
      rintro e w2 ⟨rfl, hb2⟩
      go_wp2_with fail
      refine (round_any m b _).mono ?_
      rw [e2]
      rintro e w3 ⟨rfl, hb3⟩
      clear e1 e2
      go_wp2
      all_goals go_ret
      all_goals exact ⟨ret_bool (by first | rfl | (simp; omega)), (hb1.trans (hb2.mono hb1.size)).trans (hb3.mono (Nat.le_trans hb1.size hb2.size))⟩

  · have e1 : rndV n b = (rnd n b.toNat, 0) := if_neg hn
    by_cases hm : m < -4611686018427387904 ∨ 4611686018427387904 < m ∨ b < 0 ∨ 62 < b
    · have e2 : rndV m b = (0, 2) := if_pos hm
      go_enter Try.func3, Try.ntmps3
      go_wp2_with fail
      refine (alive03 _).mono ?_
      rintro e w1 ⟨rfl, hb1⟩
      go_wp2_with fail
      refine (round_any n b _).mono ?_
      rw [e1]
      rintro e w2 ⟨rfl, hb2⟩
      go_wp2_with fail
      refine (round_any m b _).mono ?_
      rw [e2]
      rintro e w3 ⟨rfl, hb3⟩
      clear e1 e2
      go_wp2
      all_goals go_ret
      all_goals exact ⟨ret_bool (by first | rfl | (simp; omega)), (hb1.trans (hb2.mono hb1.size)).trans (hb3.mono (Nat.le_trans hb1.size hb2.size))⟩

    · omega

set_option maxHeartbeats 1000000 in
theorem near_zero_le (n m : Int)  (hn : -4611686018427387904 ≤ n ∧ n ≤ 4611686018427387904) (hm : -4611686018427387904 ≤ m ∧ m ≤ 4611686018427387904) (hnm : n ≤ m) (w : World) :
    Calls Try.prog 3 #[.int .i64 n, .int .i64 m, .int .i64 0] w fun e w' => e = .returned (.bool true) ∧ Below w.heap.size w w' := by
  have e1 : rndV n 0 = (n, 0) := if_neg (by omega)
  have e2 : rndV m 0 = (m, 0) := if_neg (by omega)
  go_enter Try.func3, Try.ntmps3
  go_wp2_with fail
  refine (alive03 _).mono ?_
  rintro e w1 ⟨rfl, hb1⟩
  go_wp2_with fail
  refine (round_any n _ _).mono ?_
  rw [e1]
  rintro e w2 ⟨rfl, hb2⟩
  go_wp2_with fail
  refine (round_any m _ _).mono ?_
  rw [e2]
  rintro e w3 ⟨rfl, hb3⟩
  clear e1 e2
  go_wp2
  all_goals go_ret
  all_goals exact ⟨ret_bool (by first | rfl | (simp; omega)), (hb1.trans (hb2.mono hb1.size)).trans (hb3.mono (Nat.le_trans hb1.size hb2.size))⟩


set_option maxHeartbeats 1000000 in
theorem near_high_le (n m : Int) (B : Nat) (hn : -4611686018427387904 ≤ n ∧ n ≤ 4611686018427387904) (hm : -4611686018427387904 ≤ m ∧ m ≤ 4611686018427387904) (hnm : n ≤ m) (hB1 : 61 ≤ B) (hB2 : B ≤ 62) (w : World) :
    Calls Try.prog 3 #[.int .i64 n, .int .i64 m, .int .i64 B] w fun e w' => e = .returned (.bool true) ∧ Below w.heap.size w w' := by
  have e1 : rndV n B = (rnd n B, 0) := if_neg (by omega)
  have e2 : rndV m B = (rnd m B, 0) := if_neg (by omega)
  have hzb : ((B : Int) == 0) = false := by simp; omega
  have mo : rnd n B ≤ rnd m B := rnd_mono B hnm
  generalize rnd n B = x at *
  generalize rnd m B = y at *
  go_enter Try.func3, Try.ntmps3
  go_wp2_with fail
  refine (alive03 _).mono ?_
  rintro e w1 ⟨rfl, hb1⟩
  go_wp2_with fail
  refine (round_any n _ _).mono ?_
  rw [e1]
  rintro e w2 ⟨rfl, hb2⟩
  go_wp2_with fail
  refine (round_any m _ _).mono ?_
  rw [e2]
  rintro e w3 ⟨rfl, hb3⟩
  clear e1 e2
  go_wp2
  all_goals go_ret
  all_goals exact ⟨ret_bool (by first | rfl | (simp; omega)), (hb1.trans (hb2.mono hb1.size)).trans (hb3.mono (Nat.le_trans hb1.size hb2.size))⟩


set_option maxHeartbeats 1000000 in
theorem near_mid_le (n m : Int) (B : Nat) (hn : -4611686018427387904 ≤ n ∧ n ≤ 4611686018427387904) (hm : -4611686018427387904 ≤ m ∧ m ≤ 4611686018427387904) (hnm : n ≤ m) (hB1 : 1 ≤ B) (hB2 : B ≤ 60) (w : World) :
    Calls Try.prog 3 #[.int .i64 n, .int .i64 m, .int .i64 B] w fun e w' => e = .returned (.bool true) ∧ Below w.heap.size w w' := by
  have e1 : rndV n B = (rnd n B, 0) := if_neg (by omega)
  have e2 : rndV m B = (rnd m B, 0) := if_neg (by omega)
  obtain ⟨s1, s2⟩ := rnd_spec n B hB1
  have p1 := pow_pos' (B - 1)
  have p2 : (2 : Int) ^ (B - 1) ≤ 576460752303423488 := pow_le_pow' (show B - 1 ≤ 59 by omega)
  have mo : rnd n B ≤ rnd m B := rnd_mono B hnm
  generalize rnd n B = x at *
  generalize rnd m B = y at *
  go_enter Try.func3, Try.ntmps3
  go_wp2_with fail
  refine (alive03 _).mono ?_
  rintro e w1 ⟨rfl, hb1⟩
  go_wp2_with fail
  refine (round_any n _ _).mono ?_
  rw [e1]
  rintro e w2 ⟨rfl, hb2⟩
  go_wp2_with fail
  refine (round_any m _ _).mono ?_
  rw [e2]
  rintro e w3 ⟨rfl, hb3⟩
  clear e1 e2
  go_wp2
  all_goals go_ret
  all_goals exact ⟨ret_bool (by first | rfl | (simp; omega)), (hb1.trans (hb2.mono hb1.size)).trans (hb3.mono (Nat.le_trans hb1.size hb2.size))⟩


set_option maxHeartbeats 1000000 in
theorem near_zero_gt (n m : Int)  (hn : -4611686018427387904 ≤ n ∧ n ≤ 4611686018427387904) (hm : -4611686018427387904 ≤ m ∧ m ≤ 4611686018427387904) (hnm : ¬ n ≤ m) (w : World) :
    Calls Try.prog 3 #[.int .i64 n, .int .i64 m, .int .i64 0] w fun e w' => e = .returned (.bool true) ∧ Below w.heap.size w w' := by
  have e1 : rndV n 0 = (n, 0) := if_neg (by omega)
  have e2 : rndV m 0 = (m, 0) := if_neg (by omega)
  go_enter Try.func3, Try.ntmps3
  go_wp2_with fail
  refine (alive03 _).mono ?_
  rintro e w1 ⟨rfl, hb1⟩
  go_wp2_with fail
  refine (round_any n _ _).mono ?_
  rw [e1]
  rintro e w2 ⟨rfl, hb2⟩
  go_wp2_with fail
  refine (round_any m _ _).mono ?_
  rw [e2]
  rintro e w3 ⟨rfl, hb3⟩
  clear e1 e2
  go_wp2
  all_goals go_ret
  all_goals exact ⟨ret_bool (by first | rfl | (simp; omega)), (hb1.trans (hb2.mono hb1.size)).trans (hb3.mono (Nat.le_trans hb1.size hb2.size))⟩


set_option maxHeartbeats 1000000 in
theorem near_high_gt (n m : Int) (B : Nat) (hn : -4611686018427387904 ≤ n ∧ n ≤ 4611686018427387904) (hm : -4611686018427387904 ≤ m ∧ m ≤ 4611686018427387904) (hnm : ¬ n ≤ m) (hB1 : 61 ≤ B) (hB2 : B ≤ 62) (w : World) :
    Calls Try.prog 3 #[.int .i64 n, .int .i64 m, .int .i64 B] w fun e w' => e = .returned (.bool true) ∧ Below w.heap.size w w' := by
  have e1 : rndV n B = (rnd n B, 0) := if_neg (by omega)
  have e2 : rndV m B = (rnd m B, 0) := if_neg (by omega)
  have hzb : ((B : Int) == 0) = false := by simp; omega
  generalize rnd n B = x at *
  generalize rnd m B = y at *
  go_enter Try.func3, Try.ntmps3
  go_wp2_with fail
  refine (alive03 _).mono ?_
  rintro e w1 ⟨rfl, hb1⟩
  go_wp2_with fail
  refine (round_any n _ _).mono ?_
  rw [e1]
  rintro e w2 ⟨rfl, hb2⟩
  go_wp2_with fail
  refine (round_any m _ _).mono ?_
  rw [e2]
  rintro e w3 ⟨rfl, hb3⟩
  clear e1 e2
  go_wp2
  all_goals go_ret
  all_goals exact ⟨ret_bool (by first | rfl | (simp; omega)), (hb1.trans (hb2.mono hb1.size)).trans (hb3.mono (Nat.le_trans hb1.size hb2.size))⟩


set_option maxHeartbeats 1000000 in
theorem near_mid_gt (n m : Int) (B : Nat) (hn : -4611686018427387904 ≤ n ∧ n ≤ 4611686018427387904) (hm : -4611686018427387904 ≤ m ∧ m ≤ 4611686018427387904) (hnm : ¬ n ≤ m) (hB1 : 1 ≤ B) (hB2 : B ≤ 60) (w : World) :
    Calls Try.prog 3 #[.int .i64 n, .int .i64 m, .int .i64 B] w fun e w' => e = .returned (.bool true) ∧ Below w.heap.size w w' := by
  have e1 : rndV n B = (rnd n B, 0) := if_neg (by omega)
  have e2 : rndV m B = (rnd m B, 0) := if_neg (by omega)
  obtain ⟨s1, s2⟩ := rnd_spec n B hB1
  have p1 := pow_pos' (B - 1)
  have p2 : (2 : Int) ^ (B - 1) ≤ 576460752303423488 := pow_le_pow' (show B - 1 ≤ 59 by omega)
  generalize rnd n B = x at *
  generalize rnd m B = y at *
  go_enter Try.func3, Try.ntmps3
  go_wp2_with fail
  refine (alive03 _).mono ?_
  rintro e w1 ⟨rfl, hb1⟩
  go_wp2_with fail
  refine (round_any n _ _).mono ?_
  rw [e1]
  rintro e w2 ⟨rfl, hb2⟩
  go_wp2_with fail
  refine (round_any m _ _).mono ?_
  rw [e2]
  rintro e w3 ⟨rfl, hb3⟩
  clear e1 e2
  go_wp2
  all_goals go_ret
  all_goals exact ⟨ret_bool (by first | rfl | (simp; omega)), (hb1.trans (hb2.mono hb1.size)).trans (hb3.mono (Nat.le_trans hb1.size hb2.size))⟩


theorem near_any (n m b : Int) (w : World) :
    Calls Try.prog 3 #[.int .i64 n, .int .i64 m, .int .i64 b] w fun e w' => e = .returned (.bool true) ∧ Below w.heap.size w w' := by
  by_cases h : (n < -4611686018427387904 ∨ 4611686018427387904 < n ∨ b < 0 ∨ 62 < b) ∨ (m < -4611686018427387904 ∨ 4611686018427387904 < m ∨ b < 0 ∨ 62 < b)
  · exact near_bad n m b h w
  · obtain ⟨B, rfl⟩ : ∃ B : Nat, b = B := ⟨b.toNat, by omega⟩
    by_cases hz : B = 0
    · subst hz
      by_cases hnm : n ≤ m
      · exact near_zero_le n m (by omega) (by omega) hnm w
      · exact near_zero_gt n m (by omega) (by omega) hnm w
    · by_cases hh : B ≤ 60
      · by_cases hnm : n ≤ m
        · exact near_mid_le n m B (by omega) (by omega) hnm (by omega) hh w
        · exact near_mid_gt n m B (by omega) (by omega) hnm (by omega) hh w
      · by_cases hnm : n ≤ m
        · exact near_high_le n m B (by omega) (by omega) hnm (by omega) (by omega) w
        · exact near_high_gt n m B (by omega) (by omega) hnm (by omega) (by omega) w
end Go.Proofs.Ytfjckgdmicgkmaa
