import Derived.Test.YtginhdfmpkhhiaaTrigFacts
set_option linter.unusedVariables false
namespace Go.Proofs.Ytginhdfmpkhhiaa
open Go.ChangeShapes Go.WideShapes Go.ChangeAt Go.RowKit

set_option maxRecDepth 100000 in
set_option maxHeartbeats 2000000 in
theorem alive04  (w : World) :
    Calls Try.prog 9 #[] w fun e w' => e = .returned (.bool true) ∧ Below w.heap.size w w' := by
  go_enter Try.func9, Try.ntmps9
  go_wp2_with fail
  refine (cos_ok 0 _).mono ?_
  rw [cos_0]
  rintro e w1 ⟨rfl, hb1⟩
  go_wp2_with fail
  refine (cos_ok 512 _).mono ?_
  rw [cos_512]
  rintro e w2 ⟨rfl, hb2⟩
  go_wp2_with fail
  refine (sin_ok 512 _).mono ?_
  rw [sin_512]
  rintro e w3 ⟨rfl, hb3⟩
  have sz2 : w.heap.size ≤ w1.heap.size := (hb1).size
  have sz3 : w.heap.size ≤ w2.heap.size := ((hb1).trans (hb2.mono sz2)).size
  go_wp2
  go_ret
  exact ⟨rfl, ((hb1).trans (hb2.mono sz2)).trans (hb3.mono sz3)⟩

set_option maxRecDepth 100000 in
set_option maxHeartbeats 2000000 in
theorem names04  (w : World) :
    Calls Try.prog 3 #[] w fun e w' => e = .returned (.bool true) ∧ Below w.heap.size w w' := by
  go_enter Try.func3, Try.ntmps3
  go_wp2_with fail
  refine (alive04 _).mono ?_
  skip
  rintro e w1 ⟨rfl, hb1⟩
  go_wp2_with fail
  refine (cos_ok 1024 _).mono ?_
  rw [cos_1024]
  rintro e w2 ⟨rfl, hb2⟩
  go_wp2_with fail
  refine (cos_ok 2048 _).mono ?_
  rw [cos_2048]
  rintro e w3 ⟨rfl, hb3⟩
  go_wp2_with fail
  refine (sin_ok 0 _).mono ?_
  rw [sin_0]
  rintro e w4 ⟨rfl, hb4⟩
  have sz2 : w.heap.size ≤ w1.heap.size := (hb1).size
  have sz3 : w.heap.size ≤ w2.heap.size := ((hb1).trans (hb2.mono sz2)).size
  have sz4 : w.heap.size ≤ w3.heap.size := (((hb1).trans (hb2.mono sz2)).trans (hb3.mono sz3)).size
  go_wp2
  go_ret
  exact ⟨rfl, (((hb1).trans (hb2.mono sz2)).trans (hb3.mono sz3)).trans (hb4.mono sz4)⟩

theorem tmod_range (n : Int) : -100000 < n.tmod 100000 ∧ n.tmod 100000 < 100000 := by
  rcases Int.le_total 0 n with h | h
  · rw [Int.tmod_eq_emod_of_nonneg h]; omega
  · obtain ⟨m, rfl⟩ : ∃ m, n = -m := ⟨-n, by omega⟩
    rw [Int.neg_tmod, Int.tmod_eq_emod_of_nonneg (by omega)]; omega
theorem tmod_range2 (n : Int) : -2048 < n.tmod 2048 ∧ n.tmod 2048 < 2048 := by
  rcases Int.le_total 0 n with h | h
  · rw [Int.tmod_eq_emod_of_nonneg h]; omega
  · obtain ⟨m, rfl⟩ : ∃ m, n = -m := ⟨-n, by omega⟩
    rw [Int.neg_tmod, Int.tmod_eq_emod_of_nonneg (by omega)]; omega

set_option maxRecDepth 100000 in
set_option maxHeartbeats 2000000 in
theorem turns04 (n c : Int) (hc : -32768 ≤ c ∧ c ≤ 32767) (w : World) :
    Calls Try.prog 6 #[.int .i64 n, .int .i16 c] w fun e w' => e = .returned (.bool true) ∧ Below w.heap.size w w' := by
  obtain ⟨N, hN⟩ : ∃ N, n.tmod 100000 = N := ⟨_, rfl⟩
  have hN1 : -100000 < N ∧ N < 100000 := by rw [← hN]; exact tmod_range n
  obtain ⟨r1, r2⟩ := cos_range N
  obtain ⟨s1, s2⟩ := sin_range N
  have E1 := Lib.hid (cos_even N)
  have E2 := Lib.hid (cos_period N c)
  have E3 := Lib.hid (cos_half N)
  have E4 := Lib.hid (sin_quarter N)
  have E5 := Lib.hid (sin_odd N)
  go_enter Try.func6, Try.ntmps6
  go_wp2_with fail
  refine (alive04 _).mono ?_
  skip
  rintro e w1 ⟨rfl, hb1⟩
  go_wp2_with fail
  refine (cos_ok N _).mono ?_
  skip
  rintro e w2 ⟨rfl, hb2⟩
  go_wp2_with fail
  refine (cos_ok (-N) _).mono ?_
  rw [E1.out]
  rintro e w3 ⟨rfl, hb3⟩
  go_wp2_with fail
  refine (cos_ok (N + 2048 * c) _).mono ?_
  rw [E2.out]
  rintro e w4 ⟨rfl, hb4⟩
  go_wp2_with fail
  refine (cos_ok (N + 1024) _).mono ?_
  rw [E3.out]
  rintro e w5 ⟨rfl, hb5⟩
  go_wp2_with fail
  refine (sin_ok (N + 512) _).mono ?_
  rw [E4.out]
  rintro e w6 ⟨rfl, hb6⟩
  go_wp2_with fail
  refine (sin_ok (-N) _).mono ?_
  rw [E5.out]
  rintro e w7 ⟨rfl, hb7⟩
  go_wp2_with fail
  refine (sin_ok N _).mono ?_
  skip
  rintro e w8 ⟨rfl, hb8⟩
  have sz2 : w.heap.size ≤ w1.heap.size := (hb1).size
  have sz3 : w.heap.size ≤ w2.heap.size := ((hb1).trans (hb2.mono sz2)).size
  have sz4 : w.heap.size ≤ w3.heap.size := (((hb1).trans (hb2.mono sz2)).trans (hb3.mono sz3)).size
  have sz5 : w.heap.size ≤ w4.heap.size := ((((hb1).trans (hb2.mono sz2)).trans (hb3.mono sz3)).trans (hb4.mono sz4)).size
  have sz6 : w.heap.size ≤ w5.heap.size := (((((hb1).trans (hb2.mono sz2)).trans (hb3.mono sz3)).trans (hb4.mono sz4)).trans (hb5.mono sz5)).size
  have sz7 : w.heap.size ≤ w6.heap.size := ((((((hb1).trans (hb2.mono sz2)).trans (hb3.mono sz3)).trans (hb4.mono sz4)).trans (hb5.mono sz5)).trans (hb6.mono sz6)).size
  have sz8 : w.heap.size ≤ w7.heap.size := (((((((hb1).trans (hb2.mono sz2)).trans (hb3.mono sz3)).trans (hb4.mono sz4)).trans (hb5.mono sz5)).trans (hb6.mono sz6)).trans (hb7.mono sz7)).size
  go_wp2
  go_ret
  exact ⟨rfl, (((((((hb1).trans (hb2.mono sz2)).trans (hb3.mono sz3)).trans (hb4.mono sz4)).trans (hb5.mono sz5)).trans (hb6.mono sz6)).trans (hb7.mono sz7)).trans (hb8.mono sz8)⟩

theorem sq_range' (x : Int) (h : -67108864 ≤ x ∧ x ≤ 67108864) : 0 ≤ x * x ∧ x * x ≤ 4503599627370496 := by
  have h1 : x * x = x.natAbs * x.natAbs := by rw [← Int.natAbs_mul_self' x]
  have h2 := sq_le (show x.natAbs ≤ 67108864 by omega)
  have h3 : ((x.natAbs * x.natAbs : Nat) : Int) = (x.natAbs : Int) * x.natAbs := by simp
  omega

set_option maxRecDepth 100000 in
set_option maxHeartbeats 2000000 in
theorem circle04 (w : World) :
    Calls Try.prog 7 #[] w fun e w' => e = .returned (.bool true) ∧ Below w.heap.size w w' := by
  go_enter Try.func7, Try.ntmps7
  go_wp2_with fail
  refine (alive04 _).mono ?_
  skip
  rintro e w1 ⟨rfl, hb1⟩
  go_wp2
  go_loopw [2] (fun i wr => ∃ k : Nat, i = .int .i64 k ∧ k ≤ 2048 ∧ Below w.heap.size w wr) (fun i _ => 2048 - (intOf i).toNat)
  case atStart => exact ⟨0, rfl, by decide, hb1⟩
  case round =>
    obtain ⟨k, rfl, hk, hb⟩ := hrel
    by_cases hlt : k < 2048
    · have hc := circle k hlt
      simp only [circleAt, Bool.and_eq_true, Bool.or_eq_true, decide_eq_true_eq] at hc
      obtain ⟨⟨c1, c2⟩, c3⟩ := hc
      obtain ⟨r1, r2⟩ := cos_range k
      obtain ⟨s1, s2⟩ := sin_range k
      obtain ⟨p1, p2⟩ := sq_range' (cosL k) ⟨r1, r2⟩
      obtain ⟨p3, p4⟩ := sq_range' (sinL k) ⟨s1, s2⟩
      have sz0 := hb.size
      by_cases hh : k < 1024
      · have c4 : cosL (k + 1) < cosL k := c3.resolve_left (by omega)
        clear c3
        have hd0 : decide ((k : Int) < 1024) = true := by simp; omega
        go_wp2_with fail
        refine (cos_ok k _).mono ?_
        rintro e w2 ⟨rfl, hb2⟩
        go_wp2_with fail
        refine (sin_ok k _).mono ?_
        rintro e w3 ⟨rfl, hb3⟩
        have hd : decide (cosL k ≤ cosL ((k : Int) + 1)) = false := by simp only [decide_eq_false_iff_not]; omega
        generalize cosL k = x at *
        generalize sinL k = y at *
        trace "1"
        have b3 := (hb.trans (hb2.mono sz0))
        have b4 := b3.trans (hb3.mono b3.size)
        clear hb2 hb3 hb b3
        go_wp2_with fail
        trace "3"
        go_goals
        refine (cos_ok ((k : Int) + 1) _).mono ?_
        trace "4"
        rintro e w4 ⟨rfl, hb4⟩
        generalize cosL ((k : Int) + 1) = z at *
        have b5 := b4.trans (hb4.mono b4.size)
        clear hb4 b4
        trace "2"
        go_wp2
        exact ⟨⟨k + 1, by go_num, hlt, b5⟩, by simp [intOf]; omega⟩
      · clear c3
        have hd0 : decide ((k : Int) < 1024) = false := by simp; omega
        go_wp2_with fail
        refine (cos_ok k _).mono ?_
        rintro e w2 ⟨rfl, hb2⟩
        go_wp2_with fail
        refine (sin_ok k _).mono ?_
        rintro e w3 ⟨rfl, hb3⟩
        generalize cosL k = x at *
        generalize sinL k = y at *
        trace "1"
        have b3 := (hb.trans (hb2.mono sz0))
        have b4 := b3.trans (hb3.mono b3.size)
        clear hb2 hb3 hb b3
        go_wp2
        exact ⟨⟨k + 1, by go_num, hlt, b4⟩, by simp [intOf]; omega⟩
    · go_wp2
      go_ret
      exact ⟨rfl, hb⟩
end Go.Proofs.Ytginhdfmpkhhiaa
