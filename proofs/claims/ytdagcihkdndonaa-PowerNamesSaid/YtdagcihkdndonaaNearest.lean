import Derived.Test.YtdagcihkdndonaaDoubles
import Derived.Test.YtdagcihkdndonaaNearPlain
set_option linter.unusedVariables false
namespace Go.Proofs.Ytdagcihkdndonaa
open Go.ChangeShapes Go.WideShapes Go.ChangeAt Go.RowKit

set_option maxRecDepth 100000 in
set_option maxHeartbeats 2000000 in
theorem names07  (w : World) :
    Calls Try.prog 5 #[] w fun e w' => e = .returned (.bool true) ∧ Below w.heap.size w w' := by
  have v1 : fourV 0 = (0, 0) := by decide +kernel
  have v2 : fourV 1 = (4096, 0) := by decide +kernel
  have v3 : lineV 0 200 = (0, 0) := by decide +kernel
  have v4 : quantV 0 7 = (0, 0) := by decide +kernel
  have v5 : lineV 1 256 = (0, 2) := by decide +kernel
  go_enter Try.func5, Try.ntmps5
  go_wp2_with fail
  refine (Four_any 0 _).mono ?_
  rw [v1]
  rintro e w1 ⟨rfl, hb1⟩
  go_wp2_with fail
  refine (Four_any 1 _).mono ?_
  rw [v2]
  rintro e w2 ⟨rfl, hb2⟩
  go_wp2_with fail
  refine (Line_any 0 200 _).mono ?_
  rw [v3]
  rintro e w3 ⟨rfl, hb3⟩
  go_wp2_with fail
  refine (Quant_any 0 7 _).mono ?_
  rw [v4]
  rintro e w4 ⟨rfl, hb4⟩
  go_wp2_with fail
  refine (Line_any 1 256 _).mono ?_
  rw [v5]
  rintro e w5 ⟨rfl, hb5⟩
  go_wp2_with fail
  refine (alive07 _).mono ?_
  skip
  rintro e w6 ⟨rfl, hb6⟩
  clear v1 v2 v3 v4 v5
  have sz2 : w.heap.size ≤ w1.heap.size := (hb1).size
  have sz3 : w.heap.size ≤ w2.heap.size := ((hb1).trans (hb2.mono sz2)).size
  have sz4 : w.heap.size ≤ w3.heap.size := (((hb1).trans (hb2.mono sz2)).trans (hb3.mono sz3)).size
  have sz5 : w.heap.size ≤ w4.heap.size := ((((hb1).trans (hb2.mono sz2)).trans (hb3.mono sz3)).trans (hb4.mono sz4)).size
  have sz6 : w.heap.size ≤ w5.heap.size := (((((hb1).trans (hb2.mono sz2)).trans (hb3.mono sz3)).trans (hb4.mono sz4)).trans (hb5.mono sz5)).size
  go_wp2
  all_goals go_ret
  all_goals exact ⟨rfl, (((((hb1).trans (hb2.mono sz2)).trans (hb3.mono sz3)).trans (hb4.mono sz4)).trans (hb5.mono sz5)).trans (hb6.mono sz6)⟩

set_option maxRecDepth 100000 in
set_option maxHeartbeats 2000000 in
theorem near_bad (x y s q : Int) (h : BadQ x 268435455 s) (w : World) :
    Calls Try.prog 7 #[.int .i64 x, .int .i64 y, .int .i64 s, .int .i64 q] w fun e w' => e = .returned (.bool true) ∧ Below w.heap.size w w' := by
  have e1 : quantV x s = (0, 2) := if_pos h
  unfold BadQ at h
  go_enter Try.func7, Try.ntmps7
  go_wp2_with fail
  refine (alive07 _).mono ?_
  skip
  rintro e w1 ⟨rfl, hb1⟩
  go_wp2_with fail
  refine (Quant_any x s _).mono ?_
  rw [e1]
  rintro e w2 ⟨rfl, hb2⟩
  clear e1
  have sz2 : w.heap.size ≤ w1.heap.size := (hb1).size
  go_wp2
  all_goals go_ret
  all_goals exact ⟨ret_bool (by first | rfl | (simp <;> omega)), (hb1).trans (hb2.mono sz2)⟩

set_option maxRecDepth 100000 in
set_option maxHeartbeats 2000000 in
theorem near_bad_out (x y s q a own : Int) (e1 : quantV x s = (a, 0)) (e2 : lineV a s = (own, 0)) (a0 : -8191 ≤ a) (a1 : a ≤ 8191) (e3 : lineV q s = (0, 2)) (e6 : quantV y s = (0, 2)) (w : World) :
    Calls Try.prog 7 #[.int .i64 x, .int .i64 y, .int .i64 s, .int .i64 q] w fun e w' => e = .returned (.bool true) ∧ Below w.heap.size w w' := by
  go_enter Try.func7, Try.ntmps7
  go_wp2_with fail
  refine (alive07 _).mono ?_
  skip
  rintro e w1 ⟨rfl, hb1⟩
  go_wp2_with fail
  refine (Quant_any x s _).mono ?_
  rw [e1]
  rintro e w2 ⟨rfl, hb2⟩
  go_wp2_with fail
  refine (Line_any a s _).mono ?_
  rw [e2]
  rintro e w3 ⟨rfl, hb3⟩
  go_wp2_with fail
  refine (Line_any q s _).mono ?_
  rw [e3]
  rintro e w4 ⟨rfl, hb4⟩
  go_wp2_with fail
  refine (Quant_any y s _).mono ?_
  rw [e6]
  rintro e w5 ⟨rfl, hb5⟩
  clear e1 e2 e3 e6
  have sz2 : w.heap.size ≤ w1.heap.size := (hb1).size
  have sz3 : w.heap.size ≤ w2.heap.size := ((hb1).trans (hb2.mono sz2)).size
  have sz4 : w.heap.size ≤ w3.heap.size := (((hb1).trans (hb2.mono sz2)).trans (hb3.mono sz3)).size
  have sz5 : w.heap.size ≤ w4.heap.size := ((((hb1).trans (hb2.mono sz2)).trans (hb3.mono sz3)).trans (hb4.mono sz4)).size
  go_wp2
  all_goals go_ret
  all_goals exact ⟨ret_bool (by first | rfl | (simp <;> omega)), ((((hb1).trans (hb2.mono sz2)).trans (hb3.mono sz3)).trans (hb4.mono sz4)).trans (hb5.mono sz5)⟩

set_option maxRecDepth 100000 in
set_option maxHeartbeats 2000000 in
theorem near_bad_in (x y s q a own : Int) (e1 : quantV x s = (a, 0)) (e2 : lineV a s = (own, 0)) (a0 : -8191 ≤ a) (a1 : a ≤ 8191) (other back u v : Int) (e3 : lineV q s = (other, 0)) (e4 : quantV other s = (back, 0)) (e5 : lineV back s = (other, 0)) (x0 : -268435455 ≤ x) (x1 : x ≤ 268435455) (o0 : -268435455 ≤ own) (o1 : own ≤ 268435455) (p0 : -268435455 ≤ other) (p1 : other ≤ 268435455) (hu : farI x other = u) (hv : farI x own = v) (huv : v ≤ u) (e6 : quantV y s = (0, 2)) (w : World) :
    Calls Try.prog 7 #[.int .i64 x, .int .i64 y, .int .i64 s, .int .i64 q] w fun e w' => e = .returned (.bool true) ∧ Below w.heap.size w w' := by
  have F1 := Lib.hid (fun W => far_ok x other (by omega) (by omega) (by omega) (by omega) W)
  have F2 := Lib.hid (fun W => far_ok x own (by omega) (by omega) (by omega) (by omega) W)
  rw [hu] at F1
  rw [hv] at F2
  have hd : decide (u < v) = false := by simp; omega
  clear hu hv
  go_enter Try.func7, Try.ntmps7
  go_wp2_with fail
  refine (alive07 _).mono ?_
  skip
  rintro e w1 ⟨rfl, hb1⟩
  go_wp2_with fail
  refine (Quant_any x s _).mono ?_
  rw [e1]
  rintro e w2 ⟨rfl, hb2⟩
  go_wp2_with fail
  refine (Line_any a s _).mono ?_
  rw [e2]
  rintro e w3 ⟨rfl, hb3⟩
  go_wp2_with fail
  refine (Line_any q s _).mono ?_
  rw [e3]
  rintro e w4 ⟨rfl, hb4⟩
  go_wp2_with fail
  refine (Quant_any other s _).mono ?_
  rw [e4]
  rintro e w5 ⟨rfl, hb5⟩
  go_wp2_with fail
  refine (Line_any back s _).mono ?_
  rw [e5]
  rintro e w6 ⟨rfl, hb6⟩
  go_wp2_with fail
  refine (F1.out _).mono ?_
  rintro e wf ⟨rfl, rfl⟩
  go_wp2_with fail
  refine (F2.out _).mono ?_
  rintro e wf ⟨rfl, rfl⟩
  go_wp2_with fail
  refine (Quant_any y s _).mono ?_
  rw [e6]
  rintro e w7 ⟨rfl, hb7⟩
  clear e1 e2 e3 e4 e5 e6 F1 F2
  have sz2 : w.heap.size ≤ w1.heap.size := (hb1).size
  have sz3 : w.heap.size ≤ w2.heap.size := ((hb1).trans (hb2.mono sz2)).size
  have sz4 : w.heap.size ≤ w3.heap.size := (((hb1).trans (hb2.mono sz2)).trans (hb3.mono sz3)).size
  have sz5 : w.heap.size ≤ w4.heap.size := ((((hb1).trans (hb2.mono sz2)).trans (hb3.mono sz3)).trans (hb4.mono sz4)).size
  have sz6 : w.heap.size ≤ w5.heap.size := (((((hb1).trans (hb2.mono sz2)).trans (hb3.mono sz3)).trans (hb4.mono sz4)).trans (hb5.mono sz5)).size
  have sz7 : w.heap.size ≤ w6.heap.size := ((((((hb1).trans (hb2.mono sz2)).trans (hb3.mono sz3)).trans (hb4.mono sz4)).trans (hb5.mono sz5)).trans (hb6.mono sz6)).size
  go_wp2
  all_goals go_ret
  all_goals exact ⟨ret_bool (by first | rfl | (simp <;> omega)), ((((((hb1).trans (hb2.mono sz2)).trans (hb3.mono sz3)).trans (hb4.mono sz4)).trans (hb5.mono sz5)).trans (hb6.mono sz6)).trans (hb7.mono sz7)⟩

set_option maxRecDepth 100000 in
set_option maxHeartbeats 2000000 in
theorem near_gt_out (x y s q a own : Int) (e1 : quantV x s = (a, 0)) (e2 : lineV a s = (own, 0)) (a0 : -8191 ≤ a) (a1 : a ≤ 8191) (e3 : lineV q s = (0, 2)) (b : Int) (e6 : quantV y s = (b, 0)) (hxy : y < x) (w : World) :
    Calls Try.prog 7 #[.int .i64 x, .int .i64 y, .int .i64 s, .int .i64 q] w fun e w' => e = .returned (.bool true) ∧ Below w.heap.size w w' := by
  go_enter Try.func7, Try.ntmps7
  go_wp2_with fail
  refine (alive07 _).mono ?_
  skip
  rintro e w1 ⟨rfl, hb1⟩
  go_wp2_with fail
  refine (Quant_any x s _).mono ?_
  rw [e1]
  rintro e w2 ⟨rfl, hb2⟩
  go_wp2_with fail
  refine (Line_any a s _).mono ?_
  rw [e2]
  rintro e w3 ⟨rfl, hb3⟩
  go_wp2_with fail
  refine (Line_any q s _).mono ?_
  rw [e3]
  rintro e w4 ⟨rfl, hb4⟩
  go_wp2_with fail
  refine (Quant_any y s _).mono ?_
  rw [e6]
  rintro e w5 ⟨rfl, hb5⟩
  clear e1 e2 e3 e6
  have sz2 : w.heap.size ≤ w1.heap.size := (hb1).size
  have sz3 : w.heap.size ≤ w2.heap.size := ((hb1).trans (hb2.mono sz2)).size
  have sz4 : w.heap.size ≤ w3.heap.size := (((hb1).trans (hb2.mono sz2)).trans (hb3.mono sz3)).size
  have sz5 : w.heap.size ≤ w4.heap.size := ((((hb1).trans (hb2.mono sz2)).trans (hb3.mono sz3)).trans (hb4.mono sz4)).size
  go_wp2
  all_goals go_ret
  all_goals exact ⟨ret_bool (by first | rfl | (simp <;> omega)), ((((hb1).trans (hb2.mono sz2)).trans (hb3.mono sz3)).trans (hb4.mono sz4)).trans (hb5.mono sz5)⟩

set_option maxRecDepth 100000 in
set_option maxHeartbeats 2000000 in
theorem near_gt_in (x y s q a own : Int) (e1 : quantV x s = (a, 0)) (e2 : lineV a s = (own, 0)) (a0 : -8191 ≤ a) (a1 : a ≤ 8191) (other back u v : Int) (e3 : lineV q s = (other, 0)) (e4 : quantV other s = (back, 0)) (e5 : lineV back s = (other, 0)) (x0 : -268435455 ≤ x) (x1 : x ≤ 268435455) (o0 : -268435455 ≤ own) (o1 : own ≤ 268435455) (p0 : -268435455 ≤ other) (p1 : other ≤ 268435455) (hu : farI x other = u) (hv : farI x own = v) (huv : v ≤ u) (b : Int) (e6 : quantV y s = (b, 0)) (hxy : y < x) (w : World) :
    Calls Try.prog 7 #[.int .i64 x, .int .i64 y, .int .i64 s, .int .i64 q] w fun e w' => e = .returned (.bool true) ∧ Below w.heap.size w w' := by
  have F1 := Lib.hid (fun W => far_ok x other (by omega) (by omega) (by omega) (by omega) W)
  have F2 := Lib.hid (fun W => far_ok x own (by omega) (by omega) (by omega) (by omega) W)
  rw [hu] at F1
  rw [hv] at F2
  have hd : decide (u < v) = false := by simp; omega
  clear hu hv
  go_enter Try.func7, Try.ntmps7
  go_wp2_with fail
  refine (alive07 _).mono ?_
  skip
  rintro e w1 ⟨rfl, hb1⟩
  go_wp2_with fail
  refine (Quant_any x s _).mono ?_
  rw [e1]
  rintro e w2 ⟨rfl, hb2⟩
  go_wp2_with fail
  refine (Line_any a s _).mono ?_
  rw [e2]
  rintro e w3 ⟨rfl, hb3⟩
  go_wp2_with fail
  refine (Line_any q s _).mono ?_
  rw [e3]
  rintro e w4 ⟨rfl, hb4⟩
  go_wp2_with fail
  refine (Quant_any other s _).mono ?_
  rw [e4]
  rintro e w5 ⟨rfl, hb5⟩
  go_wp2_with fail
  refine (Line_any back s _).mono ?_
  rw [e5]
  rintro e w6 ⟨rfl, hb6⟩
  go_wp2_with fail
  refine (F1.out _).mono ?_
  rintro e wf ⟨rfl, rfl⟩
  go_wp2_with fail
  refine (F2.out _).mono ?_
  rintro e wf ⟨rfl, rfl⟩
  go_wp2_with fail
  refine (Quant_any y s _).mono ?_
  rw [e6]
  rintro e w7 ⟨rfl, hb7⟩
  clear e1 e2 e3 e4 e5 e6 F1 F2
  have sz2 : w.heap.size ≤ w1.heap.size := (hb1).size
  have sz3 : w.heap.size ≤ w2.heap.size := ((hb1).trans (hb2.mono sz2)).size
  have sz4 : w.heap.size ≤ w3.heap.size := (((hb1).trans (hb2.mono sz2)).trans (hb3.mono sz3)).size
  have sz5 : w.heap.size ≤ w4.heap.size := ((((hb1).trans (hb2.mono sz2)).trans (hb3.mono sz3)).trans (hb4.mono sz4)).size
  have sz6 : w.heap.size ≤ w5.heap.size := (((((hb1).trans (hb2.mono sz2)).trans (hb3.mono sz3)).trans (hb4.mono sz4)).trans (hb5.mono sz5)).size
  have sz7 : w.heap.size ≤ w6.heap.size := ((((((hb1).trans (hb2.mono sz2)).trans (hb3.mono sz3)).trans (hb4.mono sz4)).trans (hb5.mono sz5)).trans (hb6.mono sz6)).size
  go_wp2
  all_goals go_ret
  all_goals exact ⟨ret_bool (by first | rfl | (simp <;> omega)), ((((((hb1).trans (hb2.mono sz2)).trans (hb3.mono sz3)).trans (hb4.mono sz4)).trans (hb5.mono sz5)).trans (hb6.mono sz6)).trans (hb7.mono sz7)⟩

set_option maxRecDepth 100000 in
set_option maxHeartbeats 2000000 in
theorem near_le_out (x y s q a own : Int) (e1 : quantV x s = (a, 0)) (e2 : lineV a s = (own, 0)) (a0 : -8191 ≤ a) (a1 : a ≤ 8191) (e3 : lineV q s = (0, 2)) (b : Int) (e6 : quantV y s = (b, 0)) (hab : a ≤ b) (w : World) :
    Calls Try.prog 7 #[.int .i64 x, .int .i64 y, .int .i64 s, .int .i64 q] w fun e w' => e = .returned (.bool true) ∧ Below w.heap.size w w' := by
  go_enter Try.func7, Try.ntmps7
  go_wp2_with fail
  refine (alive07 _).mono ?_
  skip
  rintro e w1 ⟨rfl, hb1⟩
  go_wp2_with fail
  refine (Quant_any x s _).mono ?_
  rw [e1]
  rintro e w2 ⟨rfl, hb2⟩
  go_wp2_with fail
  refine (Line_any a s _).mono ?_
  rw [e2]
  rintro e w3 ⟨rfl, hb3⟩
  go_wp2_with fail
  refine (Line_any q s _).mono ?_
  rw [e3]
  rintro e w4 ⟨rfl, hb4⟩
  go_wp2_with fail
  refine (Quant_any y s _).mono ?_
  rw [e6]
  rintro e w5 ⟨rfl, hb5⟩
  clear e1 e2 e3 e6
  have sz2 : w.heap.size ≤ w1.heap.size := (hb1).size
  have sz3 : w.heap.size ≤ w2.heap.size := ((hb1).trans (hb2.mono sz2)).size
  have sz4 : w.heap.size ≤ w3.heap.size := (((hb1).trans (hb2.mono sz2)).trans (hb3.mono sz3)).size
  have sz5 : w.heap.size ≤ w4.heap.size := ((((hb1).trans (hb2.mono sz2)).trans (hb3.mono sz3)).trans (hb4.mono sz4)).size
  go_wp2
  all_goals go_ret
  all_goals exact ⟨ret_bool (by first | rfl | (simp <;> omega)), ((((hb1).trans (hb2.mono sz2)).trans (hb3.mono sz3)).trans (hb4.mono sz4)).trans (hb5.mono sz5)⟩

set_option maxRecDepth 100000 in
set_option maxHeartbeats 2000000 in
theorem near_le_in (x y s q a own : Int) (e1 : quantV x s = (a, 0)) (e2 : lineV a s = (own, 0)) (a0 : -8191 ≤ a) (a1 : a ≤ 8191) (other back u v : Int) (e3 : lineV q s = (other, 0)) (e4 : quantV other s = (back, 0)) (e5 : lineV back s = (other, 0)) (x0 : -268435455 ≤ x) (x1 : x ≤ 268435455) (o0 : -268435455 ≤ own) (o1 : own ≤ 268435455) (p0 : -268435455 ≤ other) (p1 : other ≤ 268435455) (hu : farI x other = u) (hv : farI x own = v) (huv : v ≤ u) (b : Int) (e6 : quantV y s = (b, 0)) (hab : a ≤ b) (w : World) :
    Calls Try.prog 7 #[.int .i64 x, .int .i64 y, .int .i64 s, .int .i64 q] w fun e w' => e = .returned (.bool true) ∧ Below w.heap.size w w' := by
  have F1 := Lib.hid (fun W => far_ok x other (by omega) (by omega) (by omega) (by omega) W)
  have F2 := Lib.hid (fun W => far_ok x own (by omega) (by omega) (by omega) (by omega) W)
  rw [hu] at F1
  rw [hv] at F2
  have hd : decide (u < v) = false := by simp; omega
  clear hu hv
  go_enter Try.func7, Try.ntmps7
  go_wp2_with fail
  refine (alive07 _).mono ?_
  skip
  rintro e w1 ⟨rfl, hb1⟩
  go_wp2_with fail
  refine (Quant_any x s _).mono ?_
  rw [e1]
  rintro e w2 ⟨rfl, hb2⟩
  go_wp2_with fail
  refine (Line_any a s _).mono ?_
  rw [e2]
  rintro e w3 ⟨rfl, hb3⟩
  go_wp2_with fail
  refine (Line_any q s _).mono ?_
  rw [e3]
  rintro e w4 ⟨rfl, hb4⟩
  go_wp2_with fail
  refine (Quant_any other s _).mono ?_
  rw [e4]
  rintro e w5 ⟨rfl, hb5⟩
  go_wp2_with fail
  refine (Line_any back s _).mono ?_
  rw [e5]
  rintro e w6 ⟨rfl, hb6⟩
  go_wp2_with fail
  refine (F1.out _).mono ?_
  rintro e wf ⟨rfl, rfl⟩
  go_wp2_with fail
  refine (F2.out _).mono ?_
  rintro e wf ⟨rfl, rfl⟩
  go_wp2_with fail
  refine (Quant_any y s _).mono ?_
  rw [e6]
  rintro e w7 ⟨rfl, hb7⟩
  clear e1 e2 e3 e4 e5 e6 F1 F2
  have sz2 : w.heap.size ≤ w1.heap.size := (hb1).size
  have sz3 : w.heap.size ≤ w2.heap.size := ((hb1).trans (hb2.mono sz2)).size
  have sz4 : w.heap.size ≤ w3.heap.size := (((hb1).trans (hb2.mono sz2)).trans (hb3.mono sz3)).size
  have sz5 : w.heap.size ≤ w4.heap.size := ((((hb1).trans (hb2.mono sz2)).trans (hb3.mono sz3)).trans (hb4.mono sz4)).size
  have sz6 : w.heap.size ≤ w5.heap.size := (((((hb1).trans (hb2.mono sz2)).trans (hb3.mono sz3)).trans (hb4.mono sz4)).trans (hb5.mono sz5)).size
  have sz7 : w.heap.size ≤ w6.heap.size := ((((((hb1).trans (hb2.mono sz2)).trans (hb3.mono sz3)).trans (hb4.mono sz4)).trans (hb5.mono sz5)).trans (hb6.mono sz6)).size
  go_wp2
  all_goals go_ret
  all_goals exact ⟨ret_bool (by first | rfl | (simp <;> omega)), ((((((hb1).trans (hb2.mono sz2)).trans (hb3.mono sz3)).trans (hb4.mono sz4)).trans (hb5.mono sz5)).trans (hb6.mono sz6)).trans (hb7.mono sz7)⟩

theorem near_any (x y s q : Int) (w : World) :
    Calls Try.prog 7 #[.int .i64 x, .int .i64 y, .int .i64 s, .int .i64 q] w fun e w' => e = .returned (.bool true) ∧ Below w.heap.size w w' := by
  by_cases h : BadQ x 268435455 s
  · exact near_bad x y s q h w
  · have h' : ¬ (x < -268435455 ∨ 268435455 < x ∨ s < 0 ∨ 255 < s) := h
    obtain ⟨n, rfl⟩ : ∃ n : Nat, s = n := ⟨s.toNat, by omega⟩
    have qv : ∀ z : Int, -268435455 ≤ z → z ≤ 268435455 → quantV z n = (quantL z n, 0) := fun z z0 z1 => by
      rw [quantV, if_neg (by unfold BadQ; omega), Int.toNat_natCast]
    have lv : ∀ z : Int, -8191 ≤ z → z ≤ 8191 → lineV z n = (lineL z n, 0) := fun z z0 z1 => lineV_ok z n z0 z1 (by omega)
    obtain ⟨a0, a1⟩ := quantL_range x n
    have e1 := qv x (by omega) (by omega)
    have e2 := lv (quantL x n) a0 a1
    obtain ⟨o0, o1⟩ := lineL_range (quantL x n) n a0 a1
    by_cases hq : q < -8191 ∨ 8191 < q
    · have e3 : lineV q n = (0, 2) := if_pos (by unfold BadQ; omega)
      by_cases hy : y < -268435455 ∨ 268435455 < y
      · exact near_bad_out x y n q _ _ e1 e2 a0 a1 e3 (if_pos (by unfold BadQ; omega)) w
      · by_cases hxy : y < x
        · exact near_gt_out x y n q _ _ e1 e2 a0 a1 e3 _ (qv y (by omega) (by omega)) hxy w
        · exact near_le_out x y n q _ _ e1 e2 a0 a1 e3 _ (qv y (by omega) (by omega)) (mono_int x y n (by omega)) w
    · have e3 := lv q (by omega) (by omega)
      obtain ⟨p0, p1⟩ := lineL_range q n (by omega) (by omega)
      have e4 := qv (lineL q n) p0 p1
      obtain ⟨b0, b1⟩ := quantL_range (lineL q n) n
      have e5 := lv (quantL (lineL q n) n) b0 b1
      rw [back_int q n (by omega) (by omega)] at e5
      have hn := near_int x n q (by omega) (by omega)
      by_cases hy : y < -268435455 ∨ 268435455 < y
      · exact near_bad_in x y n q _ _ e1 e2 a0 a1 _ _ _ _ e3 e4 e5 (by omega) (by omega) o0 o1 p0 p1 rfl rfl hn (if_pos (by unfold BadQ; omega)) w
      · by_cases hxy : y < x
        · exact near_gt_in x y n q _ _ e1 e2 a0 a1 _ _ _ _ e3 e4 e5 (by omega) (by omega) o0 o1 p0 p1 rfl rfl hn _ (qv y (by omega) (by omega)) hxy w
        · exact near_le_in x y n q _ _ e1 e2 a0 a1 _ _ _ _ e3 e4 e5 (by omega) (by omega) o0 o1 p0 p1 rfl rfl hn _ (qv y (by omega) (by omega)) (mono_int x y n (by omega)) w
end Go.Proofs.Ytdagcihkdndonaa
