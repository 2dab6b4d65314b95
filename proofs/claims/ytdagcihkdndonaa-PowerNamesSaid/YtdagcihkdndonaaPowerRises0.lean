import Derived.Test.YtdagcihkdndonaaPowerFour
set_option linter.unusedVariables false
namespace Go.Proofs.Ytdagcihkdndonaa
open Go.ChangeShapes Go.WideShapes Go.ChangeAt Go.RowKit

set_option maxRecDepth 100000 in
set_option maxHeartbeats 2000000 in
theorem alive07  (w : World) :
    Calls Try.prog 8 #[] w fun e w' => e = .returned (.bool true) ∧ Below w.heap.size w w' := by
  have v1 : fourV 8 = (65536, 0) := by decide +kernel
  go_enter Try.func8, Try.ntmps8
  go_wp2_with fail
  refine (Four_any 8 _).mono ?_
  rw [v1]
  rintro e w1 ⟨rfl, hb1⟩
  clear v1
  go_wp2
  all_goals go_ret
  all_goals exact ⟨rfl, hb1⟩

theorem lineL_step (q : Int) (s : Nat) (h0 : -8191 ≤ q) (h1 : q ≤ 8191) : (q < 0 ∨ lineL q s ≤ lineL q (s + 1)) ∧ (0 < q ∨ lineL q (s + 1) ≤ lineL q s) := by
  unfold lineL
  by_cases h : q < 0
  · rw [if_pos h, if_pos h]
    have := step_mono (-q).toNat s (by omega)
    omega
  · rw [if_neg h, if_neg h]
    have := step_mono q.toNat s (by omega)
    refine ⟨.inr this, ?_⟩
    by_cases hq : 0 < q
    · exact .inl hq
    · right
      rw [show q.toNat = 0 by omega, lineN_zero, lineN_zero]
      exact Int.le_refl _

set_option maxRecDepth 100000 in
set_option maxHeartbeats 2000000 in
theorem rises_bad (q s : Int) (h : BadQ q 8191 s) (w : World) :
    Calls Try.prog 3 #[.int .i64 q, .int .i64 s] w fun e w' => e = .returned (.bool true) ∧ Below w.heap.size w w' := by
  have e1 : lineV q s = (0, 2) := if_pos h
  unfold BadQ at h
  go_enter Try.func3, Try.ntmps3
  go_wp2_with fail
  refine (alive07 _).mono ?_
  skip
  rintro e w1 ⟨rfl, hb1⟩
  go_wp2_with fail
  refine (Line_any q s _).mono ?_
  rw [e1]
  rintro e w2 ⟨rfl, hb2⟩
  clear e1
  have sz2 : w.heap.size ≤ w1.heap.size := (hb1).size
  go_wp2
  all_goals go_ret
  all_goals exact ⟨ret_bool (by first | rfl | (simp <;> omega)), (hb1).trans (hb2.mono sz2)⟩

set_option maxRecDepth 100000 in
set_option maxHeartbeats 2000000 in
theorem rises_a (q : Int) (s : Nat) (h0 : -8191 ≤ q) (h1 : q ≤ 8191) (hs255 : s ≤ 255) (hq : q < 8191) (hs : s < 255) (w : World) :
    Calls Try.prog 3 #[.int .i64 q, .int .i64 s] w fun e w' => e = .returned (.bool true) ∧ Below w.heap.size w w' := by
  have e1 : lineV q s = (lineL q s, 0) := by rw [lineV, if_neg (by unfold BadQ; omega), Int.toNat_natCast]
  have e2 : lineV (-q) s = (-lineL q s, 0) := by rw [lineV, if_neg (by unfold BadQ; omega), Int.toNat_natCast, lineL_neg]
  obtain ⟨r0, r1⟩ := lineL_range q s h0 h1
  have e3 : lineV (q + 1) s = (lineL (q + 1) s, 0) := by rw [lineV, if_neg (by unfold BadQ; omega), Int.toNat_natCast]
  have e4 : lineV q ((s : Int) + 1) = (lineL q (s + 1), 0) := by rw [lineV, if_neg (by unfold BadQ; omega), show ((s : Int) + 1).toNat = s + 1 by omega]
  have m1 := lineL_mono (a := q) (b := q + 1) s (by omega) (by omega) (by omega)
  have m2 : (q < 0 ∨ lineL q s ≤ lineL q (s + 1)) ∧ (0 < q ∨ lineL q (s + 1) ≤ lineL q s) := lineL_step q s h0 h1
  have He1 := Lib.hid e1
  have He2 := Lib.hid e2
  have He3 := Lib.hid e3
  have He4 := Lib.hid e4
  clear e1 e2 e3 e4
  have hs2 : ((s : Int) == 255) = false := by simp; omega
  generalize lineL q s = x at *
  generalize lineL (q + 1) s = y at *
  generalize lineL q (s + 1) = z at *
  go_enter Try.func3, Try.ntmps3
  go_wp2_with fail
  refine (alive07 _).mono ?_
  skip
  rintro e w1 ⟨rfl, hb1⟩
  go_wp2_with fail
  refine (Line_any q s _).mono ?_
  rw [He1.out]
  rintro e w2 ⟨rfl, hb2⟩
  go_wp2_with fail
  refine (Line_any (-q) s _).mono ?_
  rw [He2.out]
  rintro e w3 ⟨rfl, hb3⟩
  go_wp2_with fail
  refine (Line_any (q + 1) s _).mono ?_
  rw [He3.out]
  rintro e w4 ⟨rfl, hb4⟩
  go_wp2_with fail
  refine (Line_any q ((s : Int) + 1) _).mono ?_
  rw [He4.out]
  rintro e w5 ⟨rfl, hb5⟩
  clear He1 He2 He3 He4
  have sz2 : w.heap.size ≤ w1.heap.size := (hb1).size
  have sz3 : w.heap.size ≤ w2.heap.size := ((hb1).trans (hb2.mono sz2)).size
  have sz4 : w.heap.size ≤ w3.heap.size := (((hb1).trans (hb2.mono sz2)).trans (hb3.mono sz3)).size
  have sz5 : w.heap.size ≤ w4.heap.size := ((((hb1).trans (hb2.mono sz2)).trans (hb3.mono sz3)).trans (hb4.mono sz4)).size
  go_wp2
  all_goals go_ret
  all_goals exact ⟨ret_bool (by first | rfl | (simp <;> omega)), ((((hb1).trans (hb2.mono sz2)).trans (hb3.mono sz3)).trans (hb4.mono sz4)).trans (hb5.mono sz5)⟩

set_option maxRecDepth 100000 in
set_option maxHeartbeats 2000000 in
theorem rises_b (q : Int) (s : Nat) (h0 : -8191 ≤ q) (h1 : q ≤ 8191) (hs255 : s ≤ 255) (hq : q = 8191) (hs : s < 255) (w : World) :
    Calls Try.prog 3 #[.int .i64 q, .int .i64 s] w fun e w' => e = .returned (.bool true) ∧ Below w.heap.size w w' := by
  have e1 : lineV q s = (lineL q s, 0) := by rw [lineV, if_neg (by unfold BadQ; omega), Int.toNat_natCast]
  have e2 : lineV (-q) s = (-lineL q s, 0) := by rw [lineV, if_neg (by unfold BadQ; omega), Int.toNat_natCast, lineL_neg]
  obtain ⟨r0, r1⟩ := lineL_range q s h0 h1
  have e4 : lineV q ((s : Int) + 1) = (lineL q (s + 1), 0) := by rw [lineV, if_neg (by unfold BadQ; omega), show ((s : Int) + 1).toNat = s + 1 by omega]
  have m2 : (q < 0 ∨ lineL q s ≤ lineL q (s + 1)) ∧ (0 < q ∨ lineL q (s + 1) ≤ lineL q s) := lineL_step q s h0 h1
  have hq8 : (q < 8191) = False := by simp; omega
  have He1 := Lib.hid e1
  have He2 := Lib.hid e2
  have He4 := Lib.hid e4
  clear e1 e2 e4
  have hs2 : ((s : Int) == 255) = false := by simp; omega
  clear hq
  generalize lineL q s = x at *
  generalize lineL q (s + 1) = z at *
  go_enter Try.func3, Try.ntmps3
  go_wp2_with fail
  refine (alive07 _).mono ?_
  skip
  rintro e w1 ⟨rfl, hb1⟩
  go_wp2_with fail
  refine (Line_any q s _).mono ?_
  rw [He1.out]
  rintro e w2 ⟨rfl, hb2⟩
  go_wp2_with fail
  refine (Line_any (-q) s _).mono ?_
  rw [He2.out]
  rintro e w3 ⟨rfl, hb3⟩
  go_wp2_with fail
  refine (Line_any q ((s : Int) + 1) _).mono ?_
  rw [He4.out]
  rintro e w4 ⟨rfl, hb4⟩
  clear He1 He2 He4
  have sz2 : w.heap.size ≤ w1.heap.size := (hb1).size
  have sz3 : w.heap.size ≤ w2.heap.size := ((hb1).trans (hb2.mono sz2)).size
  have sz4 : w.heap.size ≤ w3.heap.size := (((hb1).trans (hb2.mono sz2)).trans (hb3.mono sz3)).size
  go_wp2
  all_goals go_ret
  all_goals exact ⟨ret_bool (by first | rfl | (simp <;> omega)), (((hb1).trans (hb2.mono sz2)).trans (hb3.mono sz3)).trans (hb4.mono sz4)⟩

set_option maxRecDepth 100000 in
set_option maxHeartbeats 2000000 in
theorem rises_c (q : Int) (s : Nat) (h0 : -8191 ≤ q) (h1 : q ≤ 8191) (hs255 : s ≤ 255) (hq : q < 8191) (hs : (s : Int) = 255) (w : World) :
    Calls Try.prog 3 #[.int .i64 q, .int .i64 s] w fun e w' => e = .returned (.bool true) ∧ Below w.heap.size w w' := by
  have e1 : lineV q s = (lineL q s, 0) := by rw [lineV, if_neg (by unfold BadQ; omega), Int.toNat_natCast]
  have e2 : lineV (-q) s = (-lineL q s, 0) := by rw [lineV, if_neg (by unfold BadQ; omega), Int.toNat_natCast, lineL_neg]
  obtain ⟨r0, r1⟩ := lineL_range q s h0 h1
  have e3 : lineV (q + 1) s = (lineL (q + 1) s, 0) := by rw [lineV, if_neg (by unfold BadQ; omega), Int.toNat_natCast]
  have m1 := lineL_mono (a := q) (b := q + 1) s (by omega) (by omega) (by omega)
  have He1 := Lib.hid e1
  have He2 := Lib.hid e2
  have He3 := Lib.hid e3
  clear e1 e2 e3
  have hs2 : ((s : Int) == 255) = true := by simp; omega
  clear hs
  generalize lineL q s = x at *
  generalize lineL (q + 1) s = y at *
  go_enter Try.func3, Try.ntmps3
  go_wp2_with fail
  refine (alive07 _).mono ?_
  skip
  rintro e w1 ⟨rfl, hb1⟩
  go_wp2_with fail
  refine (Line_any q s _).mono ?_
  rw [He1.out]
  rintro e w2 ⟨rfl, hb2⟩
  go_wp2_with fail
  refine (Line_any (-q) s _).mono ?_
  rw [He2.out]
  rintro e w3 ⟨rfl, hb3⟩
  go_wp2_with fail
  refine (Line_any (q + 1) s _).mono ?_
  rw [He3.out]
  rintro e w4 ⟨rfl, hb4⟩
  clear He1 He2 He3
  have sz2 : w.heap.size ≤ w1.heap.size := (hb1).size
  have sz3 : w.heap.size ≤ w2.heap.size := ((hb1).trans (hb2.mono sz2)).size
  have sz4 : w.heap.size ≤ w3.heap.size := (((hb1).trans (hb2.mono sz2)).trans (hb3.mono sz3)).size
  go_wp2
  all_goals go_ret
  all_goals exact ⟨ret_bool (by first | rfl | (simp <;> omega)), (((hb1).trans (hb2.mono sz2)).trans (hb3.mono sz3)).trans (hb4.mono sz4)⟩

set_option maxRecDepth 100000 in
set_option maxHeartbeats 2000000 in
theorem rises_d (q : Int) (s : Nat) (h0 : -8191 ≤ q) (h1 : q ≤ 8191) (hs255 : s ≤ 255) (hq : q = 8191) (hs : (s : Int) = 255) (w : World) :
    Calls Try.prog 3 #[.int .i64 q, .int .i64 s] w fun e w' => e = .returned (.bool true) ∧ Below w.heap.size w w' := by
  have e1 : lineV q s = (lineL q s, 0) := by rw [lineV, if_neg (by unfold BadQ; omega), Int.toNat_natCast]
  have e2 : lineV (-q) s = (-lineL q s, 0) := by rw [lineV, if_neg (by unfold BadQ; omega), Int.toNat_natCast, lineL_neg]
  obtain ⟨r0, r1⟩ := lineL_range q s h0 h1
  have hq8 : (q < 8191) = False := by simp; omega
  have He1 := Lib.hid e1
  have He2 := Lib.hid e2
  clear e1 e2
  have hs2 : ((s : Int) == 255) = true := by simp; omega
  clear hs
  clear hq
  generalize lineL q s = x at *
  go_enter Try.func3, Try.ntmps3
  go_wp2_with fail
  refine (alive07 _).mono ?_
  skip
  rintro e w1 ⟨rfl, hb1⟩
  go_wp2_with fail
  refine (Line_any q s _).mono ?_
  rw [He1.out]
  rintro e w2 ⟨rfl, hb2⟩
  go_wp2_with fail
  refine (Line_any (-q) s _).mono ?_
  rw [He2.out]
  rintro e w3 ⟨rfl, hb3⟩
  clear He1 He2 
  have sz2 : w.heap.size ≤ w1.heap.size := (hb1).size
  have sz3 : w.heap.size ≤ w2.heap.size := ((hb1).trans (hb2.mono sz2)).size
  go_wp2
  all_goals go_ret
  all_goals exact ⟨ret_bool (by first | rfl | (simp <;> omega)), ((hb1).trans (hb2.mono sz2)).trans (hb3.mono sz3)⟩

theorem rises_any (q s : Int) (w : World) :
    Calls Try.prog 3 #[.int .i64 q, .int .i64 s] w fun e w' => e = .returned (.bool true) ∧ Below w.heap.size w w' := by
  by_cases h : BadQ q 8191 s
  · exact rises_bad q s h w
  · have h' : ¬ (q < -8191 ∨ 8191 < q ∨ s < 0 ∨ 255 < s) := h
    obtain ⟨n, rfl⟩ : ∃ n : Nat, s = n := ⟨s.toNat, by omega⟩
    by_cases hq : q < 8191
    · by_cases hs : n < 255
      · exact rises_a q n (by omega) (by omega) (by omega) hq hs w
      · exact rises_c q n (by omega) (by omega) (by omega) hq (by omega) w
    · by_cases hs : n < 255
      · exact rises_b q n (by omega) (by omega) (by omega) (by omega) hs w
      · exact rises_d q n (by omega) (by omega) (by omega) (by omega) (by omega) w
end Go.Proofs.Ytdagcihkdndonaa
