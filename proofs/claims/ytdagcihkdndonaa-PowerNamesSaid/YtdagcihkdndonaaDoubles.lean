import Derived.Test.YtdagcihkdndonaaPowerRises0
import Derived.Test.YtdagcihkdndonaaDoublesPlain
set_option linter.unusedVariables false
namespace Go.Proofs.Ytdagcihkdndonaa
open Go.ChangeShapes Go.WideShapes Go.ChangeAt Go.RowKit

theorem far_ok (a b : Int) (h1 : -2305843009213693952 ≤ a) (h2 : a ≤ 2305843009213693952) (h3 : -2305843009213693952 ≤ b) (h4 : b ≤ 2305843009213693952) (w : World) :
    Calls Try.prog 10 #[.int .i64 a, .int .i64 b] w fun e w' => e = .returned (.int .i64 (farI a b)) ∧ w = w' := by
  go_enter Try.func10, Try.ntmps10
  go_wp2
  all_goals go_ret
  all_goals exact ⟨ret_int (by unfold farI; omega), rfl⟩
theorem far_zero (a : Int) (h1 : -2305843009213693952 ≤ a) (h2 : a ≤ 2305843009213693952) (w : World) :
    Calls Try.prog 10 #[.int .i64 a, .int .i64 0] w fun e w' => e = .returned (.int .i64 (farI a 0)) ∧ w = w' := far_ok a 0 h1 h2 (by decide) (by decide) w

set_option maxRecDepth 100000 in
set_option maxHeartbeats 2000000 in
theorem dbl_bad (q s : Int) (h : BadQ q 8191 s) (w : World) :
    Calls Try.prog 4 #[.int .i64 q, .int .i64 s] w fun e w' => e = .returned (.bool true) ∧ Below w.heap.size w w' := by
  have e1 : lineV q s = (0, 2) := if_pos h
  go_enter Try.func4, Try.ntmps4
  go_wp2_with fail
  refine (alive07 _).mono ?_
  skip
  rintro e w1 ⟨rfl, hb1⟩
  go_wp2_with fail
  refine (Line_any q s _).mono ?_
  rw [e1]
  rintro e w2 ⟨rfl, hb2⟩
  clear e1
  go_wp2_with fail
  refine (Line_any _ _ _).mono ?_
  rintro e w3 ⟨rfl, hb3⟩
  have sz2 : w.heap.size ≤ w1.heap.size := (hb1).size
  have sz3 : w.heap.size ≤ w2.heap.size := ((hb1).trans (hb2.mono sz2)).size
  go_wp2
  all_goals go_ret
  all_goals exact ⟨rfl, ((hb1).trans (hb2.mono sz2)).trans (hb3.mono sz3)⟩

set_option maxRecDepth 100000 in
set_option maxHeartbeats 2000000 in
theorem dbl_high (q s a : Int) (h0 : 252 ≤ s) (h1 : s ≤ 255) (e1 : lineV q s = (a, 0)) (e2 : lineV q (s + 4) = (0, 2)) (w : World) :
    Calls Try.prog 4 #[.int .i64 q, .int .i64 s] w fun e w' => e = .returned (.bool true) ∧ Below w.heap.size w w' := by
  go_enter Try.func4, Try.ntmps4
  go_wp2_with fail
  refine (alive07 _).mono ?_
  skip
  rintro e w1 ⟨rfl, hb1⟩
  go_wp2_with fail
  refine (Line_any q s _).mono ?_
  rw [e1]
  rintro e w2 ⟨rfl, hb2⟩
  go_wp2_with fail
  refine (Line_any q (s + 4) _).mono ?_
  rw [e2]
  rintro e w3 ⟨rfl, hb3⟩
  clear e1 e2
  have sz2 : w.heap.size ≤ w1.heap.size := (hb1).size
  have sz3 : w.heap.size ≤ w2.heap.size := ((hb1).trans (hb2.mono sz2)).size
  go_wp2
  all_goals go_ret
  all_goals exact ⟨rfl, ((hb1).trans (hb2.mono sz2)).trans (hb3.mono sz3)⟩

set_option maxRecDepth 100000 in
set_option maxHeartbeats 2000000 in
theorem dbl_near_out (q s a b : Int) (s0 : 0 ≤ s) (s1 : s ≤ 251) (q0 : -8191 ≤ q) (q1 : q ≤ 8191) (a0 : -268435455 ≤ a) (a1 : a ≤ 268435455) (b0 : -268435455 ≤ b) (b1 : b ≤ 268435455) (e1 : lineV q s = (a, 0)) (e2 : lineV q (s + 4) = (b, 0)) (hn : farI b 0 < 268435455) (n0 : -1 ≤ b - 2 * a) (n1 : b - 2 * a ≤ 1) (e3 : lineV (8 * q) s = (0, 2)) (w : World) :
    Calls Try.prog 4 #[.int .i64 q, .int .i64 s] w fun e w' => e = .returned (.bool true) ∧ Below w.heap.size w w' := by
  have hd : decide (farI b 0 < 268435455) = true := decide_eq_true hn
  clear hn
  go_enter Try.func4, Try.ntmps4
  go_wp2_with fail
  refine (alive07 _).mono ?_
  skip
  rintro e w1 ⟨rfl, hb1⟩
  go_wp2_with fail
  refine (Line_any q s _).mono ?_
  rw [e1]
  rintro e w2 ⟨rfl, hb2⟩
  go_wp2_with fail
  refine (Line_any q (s + 4) _).mono ?_
  rw [e2]
  rintro e w3 ⟨rfl, hb3⟩
  clear e1 e2
  go_wp2_with fail
  refine (far_zero b (by omega) (by omega) _).mono ?_
  rintro e wf ⟨rfl, rfl⟩
  go_wp2_with fail
  refine (Line_any (8 * q) s _).mono ?_
  rw [e3]
  rintro e w4 ⟨rfl, hb4⟩
  clear e3
  have sz2 : w.heap.size ≤ w1.heap.size := (hb1).size
  have sz3 : w.heap.size ≤ w2.heap.size := ((hb1).trans (hb2.mono sz2)).size
  have sz4 : w.heap.size ≤ w3.heap.size := (((hb1).trans (hb2.mono sz2)).trans (hb3.mono sz3)).size
  go_wp2
  all_goals go_ret
  all_goals exact ⟨rfl, (((hb1).trans (hb2.mono sz2)).trans (hb3.mono sz3)).trans (hb4.mono sz4)⟩

set_option maxRecDepth 100000 in
set_option maxHeartbeats 2000000 in
theorem dbl_near_top (q s a b : Int) (s0 : 0 ≤ s) (s1 : s ≤ 251) (q0 : -8191 ≤ q) (q1 : q ≤ 8191) (a0 : -268435455 ≤ a) (a1 : a ≤ 268435455) (b0 : -268435455 ≤ b) (b1 : b ≤ 268435455) (e1 : lineV q s = (a, 0)) (e2 : lineV q (s + 4) = (b, 0)) (hn : farI b 0 < 268435455) (n0 : -1 ≤ b - 2 * a) (n1 : b - 2 * a ≤ 1) (c : Int) (c0 : -268435455 ≤ c) (c1 : c ≤ 268435455) (e3 : lineV (8 * q) s = (c, 0)) (ht : farI c 0 = 268435455) (w : World) :
    Calls Try.prog 4 #[.int .i64 q, .int .i64 s] w fun e w' => e = .returned (.bool true) ∧ Below w.heap.size w w' := by
  have hd : decide (farI b 0 < 268435455) = true := decide_eq_true hn
  clear hn
  have HT := Lib.hid ht
  clear ht
  go_enter Try.func4, Try.ntmps4
  go_wp2_with fail
  refine (alive07 _).mono ?_
  skip
  rintro e w1 ⟨rfl, hb1⟩
  go_wp2_with fail
  refine (Line_any q s _).mono ?_
  rw [e1]
  rintro e w2 ⟨rfl, hb2⟩
  go_wp2_with fail
  refine (Line_any q (s + 4) _).mono ?_
  rw [e2]
  rintro e w3 ⟨rfl, hb3⟩
  clear e1 e2
  go_wp2_with fail
  refine (far_zero b (by omega) (by omega) _).mono ?_
  rintro e wf ⟨rfl, rfl⟩
  go_wp2_with fail
  refine (Line_any (8 * q) s _).mono ?_
  rw [e3]
  rintro e w4 ⟨rfl, hb4⟩
  clear e3
  go_wp2_with fail
  refine (far_zero c (by omega) (by omega) _).mono ?_
  rw [HT.out]
  rintro e wf ⟨rfl, rfl⟩
  have sz2 : w.heap.size ≤ w1.heap.size := (hb1).size
  have sz3 : w.heap.size ≤ w2.heap.size := ((hb1).trans (hb2.mono sz2)).size
  have sz4 : w.heap.size ≤ w3.heap.size := (((hb1).trans (hb2.mono sz2)).trans (hb3.mono sz3)).size
  go_wp2
  all_goals go_ret
  all_goals exact ⟨rfl, (((hb1).trans (hb2.mono sz2)).trans (hb3.mono sz3)).trans (hb4.mono sz4)⟩

set_option maxRecDepth 100000 in
set_option maxHeartbeats 2000000 in
theorem dbl_near_in1 (q s a b : Int) (s0 : 0 ≤ s) (s1 : s ≤ 251) (q0 : -8191 ≤ q) (q1 : q ≤ 8191) (a0 : -268435455 ≤ a) (a1 : a ≤ 268435455) (b0 : -268435455 ≤ b) (b1 : b ≤ 268435455) (e1 : lineV q s = (a, 0)) (e2 : lineV q (s + 4) = (b, 0)) (hn : farI b 0 < 268435455) (n0 : -1 ≤ b - 2 * a) (n1 : b - 2 * a ≤ 1) (c : Int) (c0 : -268435455 ≤ c) (c1 : c ≤ 268435455) (e3 : lineV (8 * q) s = (c, 0)) (x y z : Int) (hx : farI c 0 = x) (hy : farI c (16 * a) = y) (hz : farI q 0 = z) (hne : (x == 268435455) = false) (x0 : 0 ≤ x) (x1 : x ≤ 268435455) (z0 : 1 ≤ z) (z1 : z ≤ 8191) (hle : y ≤ 16 + x / 4096) (w : World) :
    Calls Try.prog 4 #[.int .i64 q, .int .i64 s] w fun e w' => e = .returned (.bool true) ∧ Below w.heap.size w w' := by
  have hd : decide (farI b 0 < 268435455) = true := decide_eq_true hn
  clear hn
  have F1 := Lib.hid (fun W => far_zero c (by omega) (by omega) W)
  have F2 := Lib.hid (fun W => far_ok c (16 * a) (by omega) (by omega) (by omega) (by omega) W)
  have F3 := Lib.hid (fun W => far_zero q (by omega) (by omega) W)
  rw [hx] at F1
  rw [hy] at F2
  rw [hz] at F3
  clear hx hy hz
  have hmx : (z < 1) = False := by simp; omega
  obtain ⟨d0, d1⟩ : 0 ≤ x / z ∧ x / z ≤ x := ⟨Int.ediv_nonneg x0 (by omega), Int.ediv_le_self _ x0⟩
  go_enter Try.func4, Try.ntmps4
  go_wp2_with fail
  refine (alive07 _).mono ?_
  skip
  rintro e w1 ⟨rfl, hb1⟩
  go_wp2_with fail
  refine (Line_any q s _).mono ?_
  rw [e1]
  rintro e w2 ⟨rfl, hb2⟩
  go_wp2_with fail
  refine (Line_any q (s + 4) _).mono ?_
  rw [e2]
  rintro e w3 ⟨rfl, hb3⟩
  clear e1 e2
  go_wp2_with fail
  refine (far_zero b (by omega) (by omega) _).mono ?_
  rintro e wf ⟨rfl, rfl⟩
  go_wp2_with fail
  refine (Line_any (8 * q) s _).mono ?_
  rw [e3]
  rintro e w4 ⟨rfl, hb4⟩
  clear e3
  go_wp2_with fail
  refine (F1.out _).mono ?_
  rintro e wf ⟨rfl, rfl⟩
  go_wp2_with fail
  refine (F2.out _).mono ?_
  rintro e wf ⟨rfl, rfl⟩
  go_wp2_with fail
  refine (F1.out _).mono ?_
  rintro e wf ⟨rfl, rfl⟩
  go_wp2_with fail
  refine (F1.out _).mono ?_
  rintro e wf ⟨rfl, rfl⟩
  go_wp2_with fail
  refine (F3.out _).mono ?_
  rintro e wf ⟨rfl, rfl⟩
  clear F1 F2 F3
  have sz2 : w.heap.size ≤ w1.heap.size := (hb1).size
  have sz3 : w.heap.size ≤ w2.heap.size := ((hb1).trans (hb2.mono sz2)).size
  have sz4 : w.heap.size ≤ w3.heap.size := (((hb1).trans (hb2.mono sz2)).trans (hb3.mono sz3)).size
  go_wp2
  all_goals go_ret
  all_goals exact ⟨ret_bool (by first | rfl | (simp <;> omega)), (((hb1).trans (hb2.mono sz2)).trans (hb3.mono sz3)).trans (hb4.mono sz4)⟩

set_option maxRecDepth 100000 in
set_option maxHeartbeats 2000000 in
theorem dbl_near_in0 (q s a b : Int) (s0 : 0 ≤ s) (s1 : s ≤ 251) (q0 : -8191 ≤ q) (q1 : q ≤ 8191) (a0 : -268435455 ≤ a) (a1 : a ≤ 268435455) (b0 : -268435455 ≤ b) (b1 : b ≤ 268435455) (e1 : lineV q s = (a, 0)) (e2 : lineV q (s + 4) = (b, 0)) (hn : farI b 0 < 268435455) (n0 : -1 ≤ b - 2 * a) (n1 : b - 2 * a ≤ 1) (c : Int) (c0 : -268435455 ≤ c) (c1 : c ≤ 268435455) (e3 : lineV (8 * q) s = (c, 0)) (x y : Int) (hx : farI c 0 = x) (hy : farI c (16 * a) = y) (hz : farI q 0 = 0) (hne : (x == 268435455) = false) (x0 : 0 ≤ x) (x1 : x ≤ 268435455) (hle : y ≤ 16 + x / 4096) (w : World) :
    Calls Try.prog 4 #[.int .i64 q, .int .i64 s] w fun e w' => e = .returned (.bool true) ∧ Below w.heap.size w w' := by
  have hd : decide (farI b 0 < 268435455) = true := decide_eq_true hn
  clear hn
  have F1 := Lib.hid (fun W => far_zero c (by omega) (by omega) W)
  have F2 := Lib.hid (fun W => far_ok c (16 * a) (by omega) (by omega) (by omega) (by omega) W)
  have F3 := Lib.hid (fun W => far_zero q (by omega) (by omega) W)
  rw [hx] at F1
  rw [hy] at F2
  rw [hz] at F3
  clear hx hy hz
  go_enter Try.func4, Try.ntmps4
  go_wp2_with fail
  refine (alive07 _).mono ?_
  skip
  rintro e w1 ⟨rfl, hb1⟩
  go_wp2_with fail
  refine (Line_any q s _).mono ?_
  rw [e1]
  rintro e w2 ⟨rfl, hb2⟩
  go_wp2_with fail
  refine (Line_any q (s + 4) _).mono ?_
  rw [e2]
  rintro e w3 ⟨rfl, hb3⟩
  clear e1 e2
  go_wp2_with fail
  refine (far_zero b (by omega) (by omega) _).mono ?_
  rintro e wf ⟨rfl, rfl⟩
  go_wp2_with fail
  refine (Line_any (8 * q) s _).mono ?_
  rw [e3]
  rintro e w4 ⟨rfl, hb4⟩
  clear e3
  go_wp2_with fail
  refine (F1.out _).mono ?_
  rintro e wf ⟨rfl, rfl⟩
  go_wp2_with fail
  refine (F2.out _).mono ?_
  rintro e wf ⟨rfl, rfl⟩
  go_wp2_with fail
  refine (F1.out _).mono ?_
  rintro e wf ⟨rfl, rfl⟩
  go_wp2_with fail
  refine (F1.out _).mono ?_
  rintro e wf ⟨rfl, rfl⟩
  go_wp2_with fail
  refine (F3.out _).mono ?_
  rintro e wf ⟨rfl, rfl⟩
  clear F1 F2 F3
  have sz2 : w.heap.size ≤ w1.heap.size := (hb1).size
  have sz3 : w.heap.size ≤ w2.heap.size := ((hb1).trans (hb2.mono sz2)).size
  have sz4 : w.heap.size ≤ w3.heap.size := (((hb1).trans (hb2.mono sz2)).trans (hb3.mono sz3)).size
  go_wp2
  all_goals go_ret
  all_goals exact ⟨ret_bool (by first | rfl | (simp <;> omega)), (((hb1).trans (hb2.mono sz2)).trans (hb3.mono sz3)).trans (hb4.mono sz4)⟩

set_option maxRecDepth 100000 in
set_option maxHeartbeats 2000000 in
theorem dbl_kept_out (q s a b : Int) (s0 : 0 ≤ s) (s1 : s ≤ 251) (q0 : -8191 ≤ q) (q1 : q ≤ 8191) (a0 : -268435455 ≤ a) (a1 : a ≤ 268435455) (b0 : -268435455 ≤ b) (b1 : b ≤ 268435455) (e1 : lineV q s = (a, 0)) (e2 : lineV q (s + 4) = (b, 0)) (hn : ¬ farI b 0 < 268435455) (e3 : lineV (8 * q) s = (0, 2)) (w : World) :
    Calls Try.prog 4 #[.int .i64 q, .int .i64 s] w fun e w' => e = .returned (.bool true) ∧ Below w.heap.size w w' := by
  have hd : decide (farI b 0 < 268435455) = false := decide_eq_false hn
  clear hn
  go_enter Try.func4, Try.ntmps4
  go_wp2_with fail
  refine (alive07 _).mono ?_
  skip
  rintro e w1 ⟨rfl, hb1⟩
  go_wp2_with fail
  refine (Line_any q s _).mono ?_
  rw [e1]
  rintro e w2 ⟨rfl, hb2⟩
  go_wp2_with fail
  refine (Line_any q (s + 4) _).mono ?_
  rw [e2]
  rintro e w3 ⟨rfl, hb3⟩
  clear e1 e2
  go_wp2_with fail
  refine (far_zero b (by omega) (by omega) _).mono ?_
  rintro e wf ⟨rfl, rfl⟩
  go_wp2_with fail
  refine (Line_any (8 * q) s _).mono ?_
  rw [e3]
  rintro e w4 ⟨rfl, hb4⟩
  clear e3
  have sz2 : w.heap.size ≤ w1.heap.size := (hb1).size
  have sz3 : w.heap.size ≤ w2.heap.size := ((hb1).trans (hb2.mono sz2)).size
  have sz4 : w.heap.size ≤ w3.heap.size := (((hb1).trans (hb2.mono sz2)).trans (hb3.mono sz3)).size
  go_wp2
  all_goals go_ret
  all_goals exact ⟨rfl, (((hb1).trans (hb2.mono sz2)).trans (hb3.mono sz3)).trans (hb4.mono sz4)⟩

set_option maxRecDepth 100000 in
set_option maxHeartbeats 2000000 in
theorem dbl_kept_top (q s a b : Int) (s0 : 0 ≤ s) (s1 : s ≤ 251) (q0 : -8191 ≤ q) (q1 : q ≤ 8191) (a0 : -268435455 ≤ a) (a1 : a ≤ 268435455) (b0 : -268435455 ≤ b) (b1 : b ≤ 268435455) (e1 : lineV q s = (a, 0)) (e2 : lineV q (s + 4) = (b, 0)) (hn : ¬ farI b 0 < 268435455) (c : Int) (c0 : -268435455 ≤ c) (c1 : c ≤ 268435455) (e3 : lineV (8 * q) s = (c, 0)) (ht : farI c 0 = 268435455) (w : World) :
    Calls Try.prog 4 #[.int .i64 q, .int .i64 s] w fun e w' => e = .returned (.bool true) ∧ Below w.heap.size w w' := by
  have hd : decide (farI b 0 < 268435455) = false := decide_eq_false hn
  clear hn
  have HT := Lib.hid ht
  clear ht
  go_enter Try.func4, Try.ntmps4
  go_wp2_with fail
  refine (alive07 _).mono ?_
  skip
  rintro e w1 ⟨rfl, hb1⟩
  go_wp2_with fail
  refine (Line_any q s _).mono ?_
  rw [e1]
  rintro e w2 ⟨rfl, hb2⟩
  go_wp2_with fail
  refine (Line_any q (s + 4) _).mono ?_
  rw [e2]
  rintro e w3 ⟨rfl, hb3⟩
  clear e1 e2
  go_wp2_with fail
  refine (far_zero b (by omega) (by omega) _).mono ?_
  rintro e wf ⟨rfl, rfl⟩
  go_wp2_with fail
  refine (Line_any (8 * q) s _).mono ?_
  rw [e3]
  rintro e w4 ⟨rfl, hb4⟩
  clear e3
  go_wp2_with fail
  refine (far_zero c (by omega) (by omega) _).mono ?_
  rw [HT.out]
  rintro e wf ⟨rfl, rfl⟩
  have sz2 : w.heap.size ≤ w1.heap.size := (hb1).size
  have sz3 : w.heap.size ≤ w2.heap.size := ((hb1).trans (hb2.mono sz2)).size
  have sz4 : w.heap.size ≤ w3.heap.size := (((hb1).trans (hb2.mono sz2)).trans (hb3.mono sz3)).size
  go_wp2
  all_goals go_ret
  all_goals exact ⟨rfl, (((hb1).trans (hb2.mono sz2)).trans (hb3.mono sz3)).trans (hb4.mono sz4)⟩

set_option maxRecDepth 100000 in
set_option maxHeartbeats 2000000 in
theorem dbl_kept_in1 (q s a b : Int) (s0 : 0 ≤ s) (s1 : s ≤ 251) (q0 : -8191 ≤ q) (q1 : q ≤ 8191) (a0 : -268435455 ≤ a) (a1 : a ≤ 268435455) (b0 : -268435455 ≤ b) (b1 : b ≤ 268435455) (e1 : lineV q s = (a, 0)) (e2 : lineV q (s + 4) = (b, 0)) (hn : ¬ farI b 0 < 268435455) (c : Int) (c0 : -268435455 ≤ c) (c1 : c ≤ 268435455) (e3 : lineV (8 * q) s = (c, 0)) (x y z : Int) (hx : farI c 0 = x) (hy : farI c (16 * a) = y) (hz : farI q 0 = z) (hne : (x == 268435455) = false) (x0 : 0 ≤ x) (x1 : x ≤ 268435455) (z0 : 1 ≤ z) (z1 : z ≤ 8191) (hle : y ≤ 16 + x / 4096) (w : World) :
    Calls Try.prog 4 #[.int .i64 q, .int .i64 s] w fun e w' => e = .returned (.bool true) ∧ Below w.heap.size w w' := by
  have hd : decide (farI b 0 < 268435455) = false := decide_eq_false hn
  clear hn
  have F1 := Lib.hid (fun W => far_zero c (by omega) (by omega) W)
  have F2 := Lib.hid (fun W => far_ok c (16 * a) (by omega) (by omega) (by omega) (by omega) W)
  have F3 := Lib.hid (fun W => far_zero q (by omega) (by omega) W)
  rw [hx] at F1
  rw [hy] at F2
  rw [hz] at F3
  clear hx hy hz
  have hmx : (z < 1) = False := by simp; omega
  obtain ⟨d0, d1⟩ : 0 ≤ x / z ∧ x / z ≤ x := ⟨Int.ediv_nonneg x0 (by omega), Int.ediv_le_self _ x0⟩
  go_enter Try.func4, Try.ntmps4
  go_wp2_with fail
  refine (alive07 _).mono ?_
  skip
  rintro e w1 ⟨rfl, hb1⟩
  go_wp2_with fail
  refine (Line_any q s _).mono ?_
  rw [e1]
  rintro e w2 ⟨rfl, hb2⟩
  go_wp2_with fail
  refine (Line_any q (s + 4) _).mono ?_
  rw [e2]
  rintro e w3 ⟨rfl, hb3⟩
  clear e1 e2
  go_wp2_with fail
  refine (far_zero b (by omega) (by omega) _).mono ?_
  rintro e wf ⟨rfl, rfl⟩
  go_wp2_with fail
  refine (Line_any (8 * q) s _).mono ?_
  rw [e3]
  rintro e w4 ⟨rfl, hb4⟩
  clear e3
  go_wp2_with fail
  refine (F1.out _).mono ?_
  rintro e wf ⟨rfl, rfl⟩
  go_wp2_with fail
  refine (F2.out _).mono ?_
  rintro e wf ⟨rfl, rfl⟩
  go_wp2_with fail
  refine (F1.out _).mono ?_
  rintro e wf ⟨rfl, rfl⟩
  go_wp2_with fail
  refine (F1.out _).mono ?_
  rintro e wf ⟨rfl, rfl⟩
  go_wp2_with fail
  refine (F3.out _).mono ?_
  rintro e wf ⟨rfl, rfl⟩
  clear F1 F2 F3
  have sz2 : w.heap.size ≤ w1.heap.size := (hb1).size
  have sz3 : w.heap.size ≤ w2.heap.size := ((hb1).trans (hb2.mono sz2)).size
  have sz4 : w.heap.size ≤ w3.heap.size := (((hb1).trans (hb2.mono sz2)).trans (hb3.mono sz3)).size
  go_wp2
  all_goals go_ret
  all_goals exact ⟨ret_bool (by first | rfl | (simp <;> omega)), (((hb1).trans (hb2.mono sz2)).trans (hb3.mono sz3)).trans (hb4.mono sz4)⟩

set_option maxRecDepth 100000 in
set_option maxHeartbeats 2000000 in
theorem dbl_kept_in0 (q s a b : Int) (s0 : 0 ≤ s) (s1 : s ≤ 251) (q0 : -8191 ≤ q) (q1 : q ≤ 8191) (a0 : -268435455 ≤ a) (a1 : a ≤ 268435455) (b0 : -268435455 ≤ b) (b1 : b ≤ 268435455) (e1 : lineV q s = (a, 0)) (e2 : lineV q (s + 4) = (b, 0)) (hn : ¬ farI b 0 < 268435455) (c : Int) (c0 : -268435455 ≤ c) (c1 : c ≤ 268435455) (e3 : lineV (8 * q) s = (c, 0)) (x y : Int) (hx : farI c 0 = x) (hy : farI c (16 * a) = y) (hz : farI q 0 = 0) (hne : (x == 268435455) = false) (x0 : 0 ≤ x) (x1 : x ≤ 268435455) (hle : y ≤ 16 + x / 4096) (w : World) :
    Calls Try.prog 4 #[.int .i64 q, .int .i64 s] w fun e w' => e = .returned (.bool true) ∧ Below w.heap.size w w' := by
  have hd : decide (farI b 0 < 268435455) = false := decide_eq_false hn
  clear hn
  have F1 := Lib.hid (fun W => far_zero c (by omega) (by omega) W)
  have F2 := Lib.hid (fun W => far_ok c (16 * a) (by omega) (by omega) (by omega) (by omega) W)
  have F3 := Lib.hid (fun W => far_zero q (by omega) (by omega) W)
  rw [hx] at F1
  rw [hy] at F2
  rw [hz] at F3
  clear hx hy hz
  go_enter Try.func4, Try.ntmps4
  go_wp2_with fail
  refine (alive07 _).mono ?_
  skip
  rintro e w1 ⟨rfl, hb1⟩
  go_wp2_with fail
  refine (Line_any q s _).mono ?_
  rw [e1]
  rintro e w2 ⟨rfl, hb2⟩
  go_wp2_with fail
  refine (Line_any q (s + 4) _).mono ?_
  rw [e2]
  rintro e w3 ⟨rfl, hb3⟩
  clear e1 e2
  go_wp2_with fail
  refine (far_zero b (by omega) (by omega) _).mono ?_
  rintro e wf ⟨rfl, rfl⟩
  go_wp2_with fail
  refine (Line_any (8 * q) s _).mono ?_
  rw [e3]
  rintro e w4 ⟨rfl, hb4⟩
  clear e3
  go_wp2_with fail
  refine (F1.out _).mono ?_
  rintro e wf ⟨rfl, rfl⟩
  go_wp2_with fail
  refine (F2.out _).mono ?_
  rintro e wf ⟨rfl, rfl⟩
  go_wp2_with fail
  refine (F1.out _).mono ?_
  rintro e wf ⟨rfl, rfl⟩
  go_wp2_with fail
  refine (F1.out _).mono ?_
  rintro e wf ⟨rfl, rfl⟩
  go_wp2_with fail
  refine (F3.out _).mono ?_
  rintro e wf ⟨rfl, rfl⟩
  clear F1 F2 F3
  have sz2 : w.heap.size ≤ w1.heap.size := (hb1).size
  have sz3 : w.heap.size ≤ w2.heap.size := ((hb1).trans (hb2.mono sz2)).size
  have sz4 : w.heap.size ≤ w3.heap.size := (((hb1).trans (hb2.mono sz2)).trans (hb3.mono sz3)).size
  go_wp2
  all_goals go_ret
  all_goals exact ⟨ret_bool (by first | rfl | (simp <;> omega)), (((hb1).trans (hb2.mono sz2)).trans (hb3.mono sz3)).trans (hb4.mono sz4)⟩

theorem farI_range (a : Int) (h0 : -268435455 ≤ a) (h1 : a ≤ 268435455) : 0 ≤ farI a 0 ∧ farI a 0 ≤ 268435455 := by unfold farI; omega
theorem lineV_ok (q : Int) (s : Nat) (h0 : -8191 ≤ q) (h1 : q ≤ 8191) (hs : s ≤ 255) : lineV q s = (lineL q s, 0) := by
  rw [lineV, if_neg (by unfold BadQ; omega), Int.toNat_natCast]
theorem dbl_any (q s : Int) (w : World) :
    Calls Try.prog 4 #[.int .i64 q, .int .i64 s] w fun e w' => e = .returned (.bool true) ∧ Below w.heap.size w w' := by
  by_cases h : BadQ q 8191 s
  · exact dbl_bad q s h w
  · have h' : ¬ (q < -8191 ∨ 8191 < q ∨ s < 0 ∨ 255 < s) := h
    obtain ⟨n, rfl⟩ : ∃ n : Nat, s = n := ⟨s.toNat, by omega⟩
    have e1 := lineV_ok q n (by omega) (by omega) (by omega)
    by_cases hs : (n : Int) ≤ 251
    · have e2 : lineV q ((n : Int) + 4) = (lineL q (n + 4), 0) := lineV_ok q (n + 4) (by omega) (by omega) (by omega)
      obtain ⟨a0, a1⟩ := lineL_range q n (by omega) (by omega)
      obtain ⟨b0, b1⟩ := lineL_range q (n + 4) (by omega) (by omega)
      by_cases hq : 8 * q < -8191 ∨ 8191 < 8 * q
      · have e3 : lineV (8 * q) n = (0, 2) := if_pos (by unfold BadQ; omega)
        by_cases hn : farI (lineL q (n + 4)) 0 < 268435455
        · obtain ⟨n0, n1⟩ := double_int q n (by omega) (by omega) hn
          exact dbl_near_out q n _ _ (by omega) hs (by omega) (by omega) a0 a1 b0 b1 e1 e2 hn n0 n1 e3 w
        · exact dbl_kept_out q n _ _ (by omega) hs (by omega) (by omega) a0 a1 b0 b1 e1 e2 hn e3 w
      · have e3 := lineV_ok (8 * q) n (by omega) (by omega) (by omega)
        obtain ⟨c0, c1⟩ := lineL_range (8 * q) n (by omega) (by omega)
        by_cases ht : farI (lineL (8 * q) n) 0 = 268435455
        · by_cases hn : farI (lineL q (n + 4)) 0 < 268435455
          · obtain ⟨n0, n1⟩ := double_int q n (by omega) (by omega) hn
            exact dbl_near_top q n _ _ (by omega) hs (by omega) (by omega) a0 a1 b0 b1 e1 e2 hn n0 n1 _ c0 c1 e3 ht w
          · exact dbl_kept_top q n _ _ (by omega) hs (by omega) (by omega) a0 a1 b0 b1 e1 e2 hn _ c0 c1 e3 ht w
        · have hle := eight_int q n (by omega) (by omega) ht
          obtain ⟨x0, x1⟩ := farI_range _ c0 c1
          have hne : (farI (lineL (8 * q) n) 0 == 268435455) = false := by simpa using ht
          have z0 : 0 ≤ farI q 0 := by unfold farI; omega
          have z1 : farI q 0 ≤ 8191 := by unfold farI; omega
          by_cases hn : farI (lineL q (n + 4)) 0 < 268435455
          · obtain ⟨n0, n1⟩ := double_int q n (by omega) (by omega) hn
            by_cases hz : farI q 0 = 0
            · exact dbl_near_in0 q n _ _ (by omega) hs (by omega) (by omega) a0 a1 b0 b1 e1 e2 hn n0 n1 _ c0 c1 e3 _ _ rfl rfl hz hne x0 x1 hle w
            · exact dbl_near_in1 q n _ _ (by omega) hs (by omega) (by omega) a0 a1 b0 b1 e1 e2 hn n0 n1 _ c0 c1 e3 _ _ _ rfl rfl rfl hne x0 x1 (by omega) z1 hle w
          · by_cases hz : farI q 0 = 0
            · exact dbl_kept_in0 q n _ _ (by omega) hs (by omega) (by omega) a0 a1 b0 b1 e1 e2 hn _ c0 c1 e3 _ _ rfl rfl hz hne x0 x1 hle w
            · exact dbl_kept_in1 q n _ _ (by omega) hs (by omega) (by omega) a0 a1 b0 b1 e1 e2 hn _ c0 c1 e3 _ _ _ rfl rfl rfl hne x0 x1 (by omega) z1 hle w
    · have e2 : lineV q ((n : Int) + 4) = (0, 2) := if_pos (by unfold BadQ; omega)
      exact dbl_high q n _ (by omega) (by omega) e1 e2 w
end Go.Proofs.Ytdagcihkdndonaa
