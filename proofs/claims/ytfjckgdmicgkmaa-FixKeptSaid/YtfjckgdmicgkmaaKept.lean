import Derived.Test.YtfjckgdmicgkmaaFixAll
set_option linter.unusedVariables false
namespace Go.Proofs.Ytfjckgdmicgkmaa
open Go.ChangeShapes Go.WideShapes Go.ChangeAt Go.RowKit

set_option maxRecDepth 100000 in
set_option maxHeartbeats 1000000 in
theorem kept_bad (n m b : Int) (hn : -9223372036854775808 ≤ n ∧ n ≤ 9223372036854775807) (hm : -9223372036854775808 ≤ m ∧ m ≤ 9223372036854775807) (h : b < 1 ∨ 62 < b) (w : World) :
    Calls Try.prog 6 #[.int .i64 n, .int .i64 m, .int .i64 b] w fun e w' => e = .returned (.bool true) ∧ Below w.heap.size w w' := by
  have e1 : clpV n b = (0, 2) := if_pos (by omega)
  have e2 : clpV m b = (0, 2) := if_pos (by omega)
  go_enter Try.func6, Try.ntmps6
  go_wp2_with fail
  refine (alive03 _).mono ?_
  skip
  rintro e w1 ⟨rfl, hb1⟩
  go_wp2_with fail
  refine (clip_any n b hn.1 hn.2 _).mono ?_
  rw [e1]
  rintro e w2 ⟨rfl, hb2⟩
  go_wp2_with fail
  refine (clip_any m b hm.1 hm.2 _).mono ?_
  rw [e2]
  rintro e w3 ⟨rfl, hb3⟩
  have sz2 : w.heap.size ≤ w1.heap.size := (hb1).size
  have sz3 : w.heap.size ≤ w2.heap.size := ((hb1).trans (hb2.mono sz2)).size
  clear e1 e2
  go_wp2
  all_goals go_ret
  all_goals exact ⟨rfl, ((hb1).trans (hb2.mono sz2)).trans (hb3.mono sz3)⟩

set_option maxRecDepth 100000 in
set_option maxHeartbeats 1000000 in
theorem kept_in_in (n m : Int) (B : Nat) (hB1 : 1 ≤ B) (hB2 : B ≤ 62) (hn : -9223372036854775808 ≤ n ∧ n ≤ 9223372036854775807) (hm : -9223372036854775808 ≤ m ∧ m ≤ 9223372036854775807) (P : Int) (hP : P = 2 ^ (B - 1)) (c1 : -P ≤ n) (c2 : n ≤ P - 1) (d1 : -P ≤ m) (d2 : m ≤ P - 1) (w : World) :
    Calls Try.prog 6 #[.int .i64 n, .int .i64 m, .int .i64 B] w fun e w' => e = .returned (.bool true) ∧ Below w.heap.size w w' := by
  have p1 : 0 < P := hP ▸ pow_pos' (B - 1)
  have p2 : P ≤ 2305843009213693952 := hP ▸ pow_le_pow' (show B - 1 ≤ 61 by omega)
  have q1 := p1
  have q2 := p2
  rw [hP] at q1 q2
  have e1 : clpV n B = (n, 0) := by rw [clpV, if_neg (by omega), Int.toNat_natCast, clp, ← hP]; congr 1; omega
  have e2 : clpV m B = (m, 0) := by rw [clpV, if_neg (by omega), Int.toNat_natCast, clp, ← hP]; congr 1; omega
  have e3 : clpV n B = (n, 0) := by rw [clpV, if_neg (by omega), Int.toNat_natCast, clp, ← hP]; congr 1; omega
  have HP : (2 : Int) ^ (B - 1) = P := hP.symm
  clear hP q1 q2
  go_enter Try.func6, Try.ntmps6
  go_wp2_with fail
  refine (alive03 _).mono ?_
  skip
  rintro e w1 ⟨rfl, hb1⟩
  go_wp2_with fail
  refine (clip_any n B hn.1 hn.2 _).mono ?_
  rw [e1]
  rintro e w2 ⟨rfl, hb2⟩
  go_wp2_with fail
  refine (clip_any m B hm.1 hm.2 _).mono ?_
  rw [e2]
  rintro e w3 ⟨rfl, hb3⟩
  go_wp2_with fail
  refine (clip_any n B (by omega) (by omega) _).mono ?_
  rw [e3]
  rintro e w4 ⟨rfl, hb4⟩
  have sz2 : w.heap.size ≤ w1.heap.size := (hb1).size
  have sz3 : w.heap.size ≤ w2.heap.size := ((hb1).trans (hb2.mono sz2)).size
  have sz4 : w.heap.size ≤ w3.heap.size := (((hb1).trans (hb2.mono sz2)).trans (hb3.mono sz3)).size
  clear e1 e2 e3
  have hq : ((-P : Int) == P - 1) = false := by simp; omega
  have hq2 : decide ((0 : Int) < n) = decide ((0 : Int) < n) := by rfl
  clear hq2
  go_wp2
  all_goals go_ret
  all_goals exact ⟨ret_bool (by first | rfl | (simp; omega)), (((hb1).trans (hb2.mono sz2)).trans (hb3.mono sz3)).trans (hb4.mono sz4)⟩

set_option maxRecDepth 100000 in
set_option maxHeartbeats 1000000 in
theorem kept_in_up (n m : Int) (B : Nat) (hB1 : 1 ≤ B) (hB2 : B ≤ 62) (hn : -9223372036854775808 ≤ n ∧ n ≤ 9223372036854775807) (hm : -9223372036854775808 ≤ m ∧ m ≤ 9223372036854775807) (P : Int) (hP : P = 2 ^ (B - 1)) (c1 : -P ≤ n) (c2 : n ≤ P - 1) (d1 : P - 1 < m) (w : World) :
    Calls Try.prog 6 #[.int .i64 n, .int .i64 m, .int .i64 B] w fun e w' => e = .returned (.bool true) ∧ Below w.heap.size w w' := by
  have p1 : 0 < P := hP ▸ pow_pos' (B - 1)
  have p2 : P ≤ 2305843009213693952 := hP ▸ pow_le_pow' (show B - 1 ≤ 61 by omega)
  have q1 := p1
  have q2 := p2
  rw [hP] at q1 q2
  have e1 : clpV n B = (n, 0) := by rw [clpV, if_neg (by omega), Int.toNat_natCast, clp, ← hP]; congr 1; omega
  have e2 : clpV m B = ((P - 1), 0) := by rw [clpV, if_neg (by omega), Int.toNat_natCast, clp, ← hP]; congr 1; omega
  have e3 : clpV n B = (n, 0) := by rw [clpV, if_neg (by omega), Int.toNat_natCast, clp, ← hP]; congr 1; omega
  have HP : (2 : Int) ^ (B - 1) = P := hP.symm
  clear hP q1 q2
  go_enter Try.func6, Try.ntmps6
  go_wp2_with fail
  refine (alive03 _).mono ?_
  skip
  rintro e w1 ⟨rfl, hb1⟩
  go_wp2_with fail
  refine (clip_any n B hn.1 hn.2 _).mono ?_
  rw [e1]
  rintro e w2 ⟨rfl, hb2⟩
  go_wp2_with fail
  refine (clip_any m B hm.1 hm.2 _).mono ?_
  rw [e2]
  rintro e w3 ⟨rfl, hb3⟩
  go_wp2_with fail
  refine (clip_any n B (by omega) (by omega) _).mono ?_
  rw [e3]
  rintro e w4 ⟨rfl, hb4⟩
  have sz2 : w.heap.size ≤ w1.heap.size := (hb1).size
  have sz3 : w.heap.size ≤ w2.heap.size := ((hb1).trans (hb2.mono sz2)).size
  have sz4 : w.heap.size ≤ w3.heap.size := (((hb1).trans (hb2.mono sz2)).trans (hb3.mono sz3)).size
  clear e1 e2 e3
  have hq : ((-P : Int) == P - 1) = false := by simp; omega
  have hq2 : decide ((0 : Int) < n) = decide ((0 : Int) < n) := by rfl
  clear hq2
  go_wp2
  all_goals go_ret
  all_goals exact ⟨ret_bool (by first | rfl | (simp; omega)), (((hb1).trans (hb2.mono sz2)).trans (hb3.mono sz3)).trans (hb4.mono sz4)⟩

set_option maxRecDepth 100000 in
set_option maxHeartbeats 1000000 in
theorem kept_in_lo (n m : Int) (B : Nat) (hB1 : 1 ≤ B) (hB2 : B ≤ 62) (hn : -9223372036854775808 ≤ n ∧ n ≤ 9223372036854775807) (hm : -9223372036854775808 ≤ m ∧ m ≤ 9223372036854775807) (P : Int) (hP : P = 2 ^ (B - 1)) (c1 : -P ≤ n) (c2 : n ≤ P - 1) (d1 : m < -P) (w : World) :
    Calls Try.prog 6 #[.int .i64 n, .int .i64 m, .int .i64 B] w fun e w' => e = .returned (.bool true) ∧ Below w.heap.size w w' := by
  have p1 : 0 < P := hP ▸ pow_pos' (B - 1)
  have p2 : P ≤ 2305843009213693952 := hP ▸ pow_le_pow' (show B - 1 ≤ 61 by omega)
  have q1 := p1
  have q2 := p2
  rw [hP] at q1 q2
  have e1 : clpV n B = (n, 0) := by rw [clpV, if_neg (by omega), Int.toNat_natCast, clp, ← hP]; congr 1; omega
  have e2 : clpV m B = ((-P), 0) := by rw [clpV, if_neg (by omega), Int.toNat_natCast, clp, ← hP]; congr 1; omega
  have e3 : clpV n B = (n, 0) := by rw [clpV, if_neg (by omega), Int.toNat_natCast, clp, ← hP]; congr 1; omega
  have HP : (2 : Int) ^ (B - 1) = P := hP.symm
  clear hP q1 q2
  go_enter Try.func6, Try.ntmps6
  go_wp2_with fail
  refine (alive03 _).mono ?_
  skip
  rintro e w1 ⟨rfl, hb1⟩
  go_wp2_with fail
  refine (clip_any n B hn.1 hn.2 _).mono ?_
  rw [e1]
  rintro e w2 ⟨rfl, hb2⟩
  go_wp2_with fail
  refine (clip_any m B hm.1 hm.2 _).mono ?_
  rw [e2]
  rintro e w3 ⟨rfl, hb3⟩
  go_wp2_with fail
  refine (clip_any n B (by omega) (by omega) _).mono ?_
  rw [e3]
  rintro e w4 ⟨rfl, hb4⟩
  have sz2 : w.heap.size ≤ w1.heap.size := (hb1).size
  have sz3 : w.heap.size ≤ w2.heap.size := ((hb1).trans (hb2.mono sz2)).size
  have sz4 : w.heap.size ≤ w3.heap.size := (((hb1).trans (hb2.mono sz2)).trans (hb3.mono sz3)).size
  clear e1 e2 e3
  have hq : ((-P : Int) == P - 1) = false := by simp; omega
  have hq2 : decide ((0 : Int) < n) = decide ((0 : Int) < n) := by rfl
  clear hq2
  go_wp2
  all_goals go_ret
  all_goals exact ⟨ret_bool (by first | rfl | (simp; omega)), (((hb1).trans (hb2.mono sz2)).trans (hb3.mono sz3)).trans (hb4.mono sz4)⟩

set_option maxRecDepth 100000 in
set_option maxHeartbeats 1000000 in
theorem kept_up_in (n m : Int) (B : Nat) (hB1 : 1 ≤ B) (hB2 : B ≤ 62) (hn : -9223372036854775808 ≤ n ∧ n ≤ 9223372036854775807) (hm : -9223372036854775808 ≤ m ∧ m ≤ 9223372036854775807) (P : Int) (hP : P = 2 ^ (B - 1)) (c1 : P - 1 < n) (d1 : -P ≤ m) (d2 : m ≤ P - 1) (w : World) :
    Calls Try.prog 6 #[.int .i64 n, .int .i64 m, .int .i64 B] w fun e w' => e = .returned (.bool true) ∧ Below w.heap.size w w' := by
  have p1 : 0 < P := hP ▸ pow_pos' (B - 1)
  have p2 : P ≤ 2305843009213693952 := hP ▸ pow_le_pow' (show B - 1 ≤ 61 by omega)
  have q1 := p1
  have q2 := p2
  rw [hP] at q1 q2
  have e1 : clpV n B = ((P - 1), 0) := by rw [clpV, if_neg (by omega), Int.toNat_natCast, clp, ← hP]; congr 1; omega
  have e2 : clpV m B = (m, 0) := by rw [clpV, if_neg (by omega), Int.toNat_natCast, clp, ← hP]; congr 1; omega
  have e3 : clpV (P - 1) B = ((P - 1), 0) := by rw [clpV, if_neg (by omega), Int.toNat_natCast, clp, ← hP]; congr 1; omega
  have HP : (2 : Int) ^ (B - 1) = P := hP.symm
  clear hP q1 q2
  go_enter Try.func6, Try.ntmps6
  go_wp2_with fail
  refine (alive03 _).mono ?_
  skip
  rintro e w1 ⟨rfl, hb1⟩
  go_wp2_with fail
  refine (clip_any n B hn.1 hn.2 _).mono ?_
  rw [e1]
  rintro e w2 ⟨rfl, hb2⟩
  go_wp2_with fail
  refine (clip_any m B hm.1 hm.2 _).mono ?_
  rw [e2]
  rintro e w3 ⟨rfl, hb3⟩
  go_wp2_with fail
  refine (clip_any (P - 1) B (by omega) (by omega) _).mono ?_
  rw [e3]
  rintro e w4 ⟨rfl, hb4⟩
  have sz2 : w.heap.size ≤ w1.heap.size := (hb1).size
  have sz3 : w.heap.size ≤ w2.heap.size := ((hb1).trans (hb2.mono sz2)).size
  have sz4 : w.heap.size ≤ w3.heap.size := (((hb1).trans (hb2.mono sz2)).trans (hb3.mono sz3)).size
  clear e1 e2 e3
  have hq : ((-P : Int) == P - 1) = false := by simp; omega
  have hq2 : decide ((0 : Int) < n) = true := by simp; omega
  skip
  go_wp2
  all_goals go_ret
  all_goals exact ⟨ret_bool (by first | rfl | (simp; omega)), (((hb1).trans (hb2.mono sz2)).trans (hb3.mono sz3)).trans (hb4.mono sz4)⟩

set_option maxRecDepth 100000 in
set_option maxHeartbeats 1000000 in
theorem kept_up_up (n m : Int) (B : Nat) (hB1 : 1 ≤ B) (hB2 : B ≤ 62) (hn : -9223372036854775808 ≤ n ∧ n ≤ 9223372036854775807) (hm : -9223372036854775808 ≤ m ∧ m ≤ 9223372036854775807) (P : Int) (hP : P = 2 ^ (B - 1)) (c1 : P - 1 < n) (d1 : P - 1 < m) (w : World) :
    Calls Try.prog 6 #[.int .i64 n, .int .i64 m, .int .i64 B] w fun e w' => e = .returned (.bool true) ∧ Below w.heap.size w w' := by
  have p1 : 0 < P := hP ▸ pow_pos' (B - 1)
  have p2 : P ≤ 2305843009213693952 := hP ▸ pow_le_pow' (show B - 1 ≤ 61 by omega)
  have q1 := p1
  have q2 := p2
  rw [hP] at q1 q2
  have e1 : clpV n B = ((P - 1), 0) := by rw [clpV, if_neg (by omega), Int.toNat_natCast, clp, ← hP]; congr 1; omega
  have e2 : clpV m B = ((P - 1), 0) := by rw [clpV, if_neg (by omega), Int.toNat_natCast, clp, ← hP]; congr 1; omega
  have e3 : clpV (P - 1) B = ((P - 1), 0) := by rw [clpV, if_neg (by omega), Int.toNat_natCast, clp, ← hP]; congr 1; omega
  have HP : (2 : Int) ^ (B - 1) = P := hP.symm
  clear hP q1 q2
  go_enter Try.func6, Try.ntmps6
  go_wp2_with fail
  refine (alive03 _).mono ?_
  skip
  rintro e w1 ⟨rfl, hb1⟩
  go_wp2_with fail
  refine (clip_any n B hn.1 hn.2 _).mono ?_
  rw [e1]
  rintro e w2 ⟨rfl, hb2⟩
  go_wp2_with fail
  refine (clip_any m B hm.1 hm.2 _).mono ?_
  rw [e2]
  rintro e w3 ⟨rfl, hb3⟩
  go_wp2_with fail
  refine (clip_any (P - 1) B (by omega) (by omega) _).mono ?_
  rw [e3]
  rintro e w4 ⟨rfl, hb4⟩
  have sz2 : w.heap.size ≤ w1.heap.size := (hb1).size
  have sz3 : w.heap.size ≤ w2.heap.size := ((hb1).trans (hb2.mono sz2)).size
  have sz4 : w.heap.size ≤ w3.heap.size := (((hb1).trans (hb2.mono sz2)).trans (hb3.mono sz3)).size
  clear e1 e2 e3
  have hq : ((-P : Int) == P - 1) = false := by simp; omega
  have hq2 : decide ((0 : Int) < n) = true := by simp; omega
  skip
  go_wp2
  all_goals go_ret
  all_goals exact ⟨ret_bool (by first | rfl | (simp; omega)), (((hb1).trans (hb2.mono sz2)).trans (hb3.mono sz3)).trans (hb4.mono sz4)⟩

set_option maxRecDepth 100000 in
set_option maxHeartbeats 1000000 in
theorem kept_up_lo (n m : Int) (B : Nat) (hB1 : 1 ≤ B) (hB2 : B ≤ 62) (hn : -9223372036854775808 ≤ n ∧ n ≤ 9223372036854775807) (hm : -9223372036854775808 ≤ m ∧ m ≤ 9223372036854775807) (P : Int) (hP : P = 2 ^ (B - 1)) (c1 : P - 1 < n) (d1 : m < -P) (w : World) :
    Calls Try.prog 6 #[.int .i64 n, .int .i64 m, .int .i64 B] w fun e w' => e = .returned (.bool true) ∧ Below w.heap.size w w' := by
  have p1 : 0 < P := hP ▸ pow_pos' (B - 1)
  have p2 : P ≤ 2305843009213693952 := hP ▸ pow_le_pow' (show B - 1 ≤ 61 by omega)
  have q1 := p1
  have q2 := p2
  rw [hP] at q1 q2
  have e1 : clpV n B = ((P - 1), 0) := by rw [clpV, if_neg (by omega), Int.toNat_natCast, clp, ← hP]; congr 1; omega
  have e2 : clpV m B = ((-P), 0) := by rw [clpV, if_neg (by omega), Int.toNat_natCast, clp, ← hP]; congr 1; omega
  have e3 : clpV (P - 1) B = ((P - 1), 0) := by rw [clpV, if_neg (by omega), Int.toNat_natCast, clp, ← hP]; congr 1; omega
  have HP : (2 : Int) ^ (B - 1) = P := hP.symm
  clear hP q1 q2
  go_enter Try.func6, Try.ntmps6
  go_wp2_with fail
  refine (alive03 _).mono ?_
  skip
  rintro e w1 ⟨rfl, hb1⟩
  go_wp2_with fail
  refine (clip_any n B hn.1 hn.2 _).mono ?_
  rw [e1]
  rintro e w2 ⟨rfl, hb2⟩
  go_wp2_with fail
  refine (clip_any m B hm.1 hm.2 _).mono ?_
  rw [e2]
  rintro e w3 ⟨rfl, hb3⟩
  go_wp2_with fail
  refine (clip_any (P - 1) B (by omega) (by omega) _).mono ?_
  rw [e3]
  rintro e w4 ⟨rfl, hb4⟩
  have sz2 : w.heap.size ≤ w1.heap.size := (hb1).size
  have sz3 : w.heap.size ≤ w2.heap.size := ((hb1).trans (hb2.mono sz2)).size
  have sz4 : w.heap.size ≤ w3.heap.size := (((hb1).trans (hb2.mono sz2)).trans (hb3.mono sz3)).size
  clear e1 e2 e3
  have hq : ((-P : Int) == P - 1) = false := by simp; omega
  have hq2 : decide ((0 : Int) < n) = true := by simp; omega
  skip
  go_wp2
  all_goals go_ret
  all_goals exact ⟨ret_bool (by first | rfl | (simp; omega)), (((hb1).trans (hb2.mono sz2)).trans (hb3.mono sz3)).trans (hb4.mono sz4)⟩

set_option maxRecDepth 100000 in
set_option maxHeartbeats 1000000 in
theorem kept_lo_in (n m : Int) (B : Nat) (hB1 : 1 ≤ B) (hB2 : B ≤ 62) (hn : -9223372036854775808 ≤ n ∧ n ≤ 9223372036854775807) (hm : -9223372036854775808 ≤ m ∧ m ≤ 9223372036854775807) (P : Int) (hP : P = 2 ^ (B - 1)) (c1 : n < -P) (d1 : -P ≤ m) (d2 : m ≤ P - 1) (w : World) :
    Calls Try.prog 6 #[.int .i64 n, .int .i64 m, .int .i64 B] w fun e w' => e = .returned (.bool true) ∧ Below w.heap.size w w' := by
  have p1 : 0 < P := hP ▸ pow_pos' (B - 1)
  have p2 : P ≤ 2305843009213693952 := hP ▸ pow_le_pow' (show B - 1 ≤ 61 by omega)
  have q1 := p1
  have q2 := p2
  rw [hP] at q1 q2
  have e1 : clpV n B = ((-P), 0) := by rw [clpV, if_neg (by omega), Int.toNat_natCast, clp, ← hP]; congr 1; omega
  have e2 : clpV m B = (m, 0) := by rw [clpV, if_neg (by omega), Int.toNat_natCast, clp, ← hP]; congr 1; omega
  have e3 : clpV (-P) B = ((-P), 0) := by rw [clpV, if_neg (by omega), Int.toNat_natCast, clp, ← hP]; congr 1; omega
  have HP : (2 : Int) ^ (B - 1) = P := hP.symm
  clear hP q1 q2
  go_enter Try.func6, Try.ntmps6
  go_wp2_with fail
  refine (alive03 _).mono ?_
  skip
  rintro e w1 ⟨rfl, hb1⟩
  go_wp2_with fail
  refine (clip_any n B hn.1 hn.2 _).mono ?_
  rw [e1]
  rintro e w2 ⟨rfl, hb2⟩
  go_wp2_with fail
  refine (clip_any m B hm.1 hm.2 _).mono ?_
  rw [e2]
  rintro e w3 ⟨rfl, hb3⟩
  go_wp2_with fail
  refine (clip_any (-P) B (by omega) (by omega) _).mono ?_
  rw [e3]
  rintro e w4 ⟨rfl, hb4⟩
  have sz2 : w.heap.size ≤ w1.heap.size := (hb1).size
  have sz3 : w.heap.size ≤ w2.heap.size := ((hb1).trans (hb2.mono sz2)).size
  have sz4 : w.heap.size ≤ w3.heap.size := (((hb1).trans (hb2.mono sz2)).trans (hb3.mono sz3)).size
  clear e1 e2 e3
  have hq : ((-P : Int) == P - 1) = false := by simp; omega
  have hq2 : decide ((0 : Int) < n) = false := by simp; omega
  skip
  go_wp2
  all_goals go_ret
  all_goals exact ⟨ret_bool (by first | rfl | (simp; omega)), (((hb1).trans (hb2.mono sz2)).trans (hb3.mono sz3)).trans (hb4.mono sz4)⟩

set_option maxRecDepth 100000 in
set_option maxHeartbeats 1000000 in
theorem kept_lo_up (n m : Int) (B : Nat) (hB1 : 1 ≤ B) (hB2 : B ≤ 62) (hn : -9223372036854775808 ≤ n ∧ n ≤ 9223372036854775807) (hm : -9223372036854775808 ≤ m ∧ m ≤ 9223372036854775807) (P : Int) (hP : P = 2 ^ (B - 1)) (c1 : n < -P) (d1 : P - 1 < m) (w : World) :
    Calls Try.prog 6 #[.int .i64 n, .int .i64 m, .int .i64 B] w fun e w' => e = .returned (.bool true) ∧ Below w.heap.size w w' := by
  have p1 : 0 < P := hP ▸ pow_pos' (B - 1)
  have p2 : P ≤ 2305843009213693952 := hP ▸ pow_le_pow' (show B - 1 ≤ 61 by omega)
  have q1 := p1
  have q2 := p2
  rw [hP] at q1 q2
  have e1 : clpV n B = ((-P), 0) := by rw [clpV, if_neg (by omega), Int.toNat_natCast, clp, ← hP]; congr 1; omega
  have e2 : clpV m B = ((P - 1), 0) := by rw [clpV, if_neg (by omega), Int.toNat_natCast, clp, ← hP]; congr 1; omega
  have e3 : clpV (-P) B = ((-P), 0) := by rw [clpV, if_neg (by omega), Int.toNat_natCast, clp, ← hP]; congr 1; omega
  have HP : (2 : Int) ^ (B - 1) = P := hP.symm
  clear hP q1 q2
  go_enter Try.func6, Try.ntmps6
  go_wp2_with fail
  refine (alive03 _).mono ?_
  skip
  rintro e w1 ⟨rfl, hb1⟩
  go_wp2_with fail
  refine (clip_any n B hn.1 hn.2 _).mono ?_
  rw [e1]
  rintro e w2 ⟨rfl, hb2⟩
  go_wp2_with fail
  refine (clip_any m B hm.1 hm.2 _).mono ?_
  rw [e2]
  rintro e w3 ⟨rfl, hb3⟩
  go_wp2_with fail
  refine (clip_any (-P) B (by omega) (by omega) _).mono ?_
  rw [e3]
  rintro e w4 ⟨rfl, hb4⟩
  have sz2 : w.heap.size ≤ w1.heap.size := (hb1).size
  have sz3 : w.heap.size ≤ w2.heap.size := ((hb1).trans (hb2.mono sz2)).size
  have sz4 : w.heap.size ≤ w3.heap.size := (((hb1).trans (hb2.mono sz2)).trans (hb3.mono sz3)).size
  clear e1 e2 e3
  have hq : ((-P : Int) == P - 1) = false := by simp; omega
  have hq2 : decide ((0 : Int) < n) = false := by simp; omega
  skip
  go_wp2
  all_goals go_ret
  all_goals exact ⟨ret_bool (by first | rfl | (simp; omega)), (((hb1).trans (hb2.mono sz2)).trans (hb3.mono sz3)).trans (hb4.mono sz4)⟩

set_option maxRecDepth 100000 in
set_option maxHeartbeats 1000000 in
theorem kept_lo_lo (n m : Int) (B : Nat) (hB1 : 1 ≤ B) (hB2 : B ≤ 62) (hn : -9223372036854775808 ≤ n ∧ n ≤ 9223372036854775807) (hm : -9223372036854775808 ≤ m ∧ m ≤ 9223372036854775807) (P : Int) (hP : P = 2 ^ (B - 1)) (c1 : n < -P) (d1 : m < -P) (w : World) :
    Calls Try.prog 6 #[.int .i64 n, .int .i64 m, .int .i64 B] w fun e w' => e = .returned (.bool true) ∧ Below w.heap.size w w' := by
  have p1 : 0 < P := hP ▸ pow_pos' (B - 1)
  have p2 : P ≤ 2305843009213693952 := hP ▸ pow_le_pow' (show B - 1 ≤ 61 by omega)
  have q1 := p1
  have q2 := p2
  rw [hP] at q1 q2
  have e1 : clpV n B = ((-P), 0) := by rw [clpV, if_neg (by omega), Int.toNat_natCast, clp, ← hP]; congr 1; omega
  have e2 : clpV m B = ((-P), 0) := by rw [clpV, if_neg (by omega), Int.toNat_natCast, clp, ← hP]; congr 1; omega
  have e3 : clpV (-P) B = ((-P), 0) := by rw [clpV, if_neg (by omega), Int.toNat_natCast, clp, ← hP]; congr 1; omega
  have HP : (2 : Int) ^ (B - 1) = P := hP.symm
  clear hP q1 q2
  go_enter Try.func6, Try.ntmps6
  go_wp2_with fail
  refine (alive03 _).mono ?_
  skip
  rintro e w1 ⟨rfl, hb1⟩
  go_wp2_with fail
  refine (clip_any n B hn.1 hn.2 _).mono ?_
  rw [e1]
  rintro e w2 ⟨rfl, hb2⟩
  go_wp2_with fail
  refine (clip_any m B hm.1 hm.2 _).mono ?_
  rw [e2]
  rintro e w3 ⟨rfl, hb3⟩
  go_wp2_with fail
  refine (clip_any (-P) B (by omega) (by omega) _).mono ?_
  rw [e3]
  rintro e w4 ⟨rfl, hb4⟩
  have sz2 : w.heap.size ≤ w1.heap.size := (hb1).size
  have sz3 : w.heap.size ≤ w2.heap.size := ((hb1).trans (hb2.mono sz2)).size
  have sz4 : w.heap.size ≤ w3.heap.size := (((hb1).trans (hb2.mono sz2)).trans (hb3.mono sz3)).size
  clear e1 e2 e3
  have hq : ((-P : Int) == P - 1) = false := by simp; omega
  have hq2 : decide ((0 : Int) < n) = false := by simp; omega
  skip
  go_wp2
  all_goals go_ret
  all_goals exact ⟨ret_bool (by first | rfl | (simp; omega)), (((hb1).trans (hb2.mono sz2)).trans (hb3.mono sz3)).trans (hb4.mono sz4)⟩

theorem kept_any (n m b : Int) (hn : -9223372036854775808 ≤ n ∧ n ≤ 9223372036854775807) (hm : -9223372036854775808 ≤ m ∧ m ≤ 9223372036854775807) (w : World) :
    Calls Try.prog 6 #[.int .i64 n, .int .i64 m, .int .i64 b] w fun e w' => e = .returned (.bool true) ∧ Below w.heap.size w w' := by
  by_cases h : b < 1 ∨ 62 < b
  · exact kept_bad n m b hn hm h w
  · obtain ⟨B, rfl⟩ : ∃ B : Nat, b = B := ⟨b.toNat, by omega⟩
    rcases (show (-2 ^ (B - 1) ≤ n ∧ n ≤ 2 ^ (B - 1) - 1) ∨ 2 ^ (B - 1) - 1 < n ∨ n < -2 ^ (B - 1) by omega) with h1 | h1 | h1
    · rcases (show (-2 ^ (B - 1) ≤ m ∧ m ≤ 2 ^ (B - 1) - 1) ∨ 2 ^ (B - 1) - 1 < m ∨ m < -2 ^ (B - 1) by omega) with h2 | h2 | h2
      · exact kept_in_in n m B (by omega) (by omega) hn hm _ rfl h1.1 h1.2 h2.1 h2.2 w
      · exact kept_in_up n m B (by omega) (by omega) hn hm _ rfl h1.1 h1.2 h2 w
      · exact kept_in_lo n m B (by omega) (by omega) hn hm _ rfl h1.1 h1.2 h2 w
    · rcases (show (-2 ^ (B - 1) ≤ m ∧ m ≤ 2 ^ (B - 1) - 1) ∨ 2 ^ (B - 1) - 1 < m ∨ m < -2 ^ (B - 1) by omega) with h2 | h2 | h2
      · exact kept_up_in n m B (by omega) (by omega) hn hm _ rfl h1 h2.1 h2.2 w
      · exact kept_up_up n m B (by omega) (by omega) hn hm _ rfl h1 h2 w
      · exact kept_up_lo n m B (by omega) (by omega) hn hm _ rfl h1 h2 w
    · rcases (show (-2 ^ (B - 1) ≤ m ∧ m ≤ 2 ^ (B - 1) - 1) ∨ 2 ^ (B - 1) - 1 < m ∨ m < -2 ^ (B - 1) by omega) with h2 | h2 | h2
      · exact kept_lo_in n m B (by omega) (by omega) hn hm _ rfl h1 h2.1 h2.2 w
      · exact kept_lo_up n m B (by omega) (by omega) hn hm _ rfl h1 h2 w
      · exact kept_lo_lo n m B (by omega) (by omega) hn hm _ rfl h1 h2 w

theorem wf_range {n : Int} (h : (Lit.int .i64 n).wf = true) : -9223372036854775808 ≤ n ∧ n ≤ 9223372036854775807 := by
  have := bounds_i64 h
  omega
end Go.Proofs.Ytfjckgdmicgkmaa
