import Derived.Test.YtginhdfmpkhhiaaTrigLaws
import Derived.Test.YtginhdfmpkhhiaaTrigSumsPlain
set_option linter.unusedVariables false
namespace Go.Proofs.Ytginhdfmpkhhiaa
open Go.ChangeShapes Go.WideShapes Go.ChangeAt Go.RowKit

theorem prod_range (x y : Int) (hx : -67108864 ≤ x ∧ x ≤ 67108864) (hy : -67108864 ≤ y ∧ y ≤ 67108864) : -4503599627370496 ≤ x * y ∧ x * y ≤ 4503599627370496 := by
  have h1 : (x * y).natAbs = x.natAbs * y.natAbs := Int.natAbs_mul x y
  have h2 : x.natAbs * y.natAbs ≤ 67108864 * 67108864 := Nat.mul_le_mul (by omega) (by omega)
  omega

set_option maxRecDepth 100000 in
set_option maxHeartbeats 2000000 in
theorem sums04 (n m : Int) (w : World) :
    Calls Try.prog 8 #[.int .i64 n, .int .i64 m] w fun e w' => e = .returned (.bool true) ∧ Below w.heap.size w w' := by
  obtain ⟨N, hN⟩ : ∃ N, n.tmod 2048 = N := ⟨_, rfl⟩
  obtain ⟨M, hM⟩ : ∃ N, m.tmod 2048 = N := ⟨_, rfl⟩
  have hN1 : -2048 < N ∧ N < 2048 := by rw [← hN]; exact tmod_range2 n
  have hM1 : -2048 < M ∧ M < 2048 := by rw [← hM]; exact tmod_range2 m
  obtain ⟨⟨o1, o2⟩, _⟩ := sums_ok N M
  obtain ⟨r1, r2⟩ := cos_range (N + M)
  obtain ⟨p1, p2⟩ := prod_range (cosL N) (cosL M) (cos_range N) (cos_range M)
  obtain ⟨p3, p4⟩ := prod_range (sinL N) (sinL M) (sin_range N) (sin_range M)
  have C1 := fun W => cos_ok N W
  have C2 := fun W => cos_ok M W
  have C3 := fun W => cos_ok (N + M) W
  have S1 := fun W => sin_ok N W
  have S2 := fun W => sin_ok M W
  generalize cosL N = a at *
  generalize cosL M = b at *
  generalize sinL N = c at *
  generalize sinL M = d at *
  generalize cosL (N + M) = x at *
  have D1 := Lib.hid C1
  have D2 := Lib.hid C2
  have D3 := Lib.hid C3
  have D4 := Lib.hid S1
  have D5 := Lib.hid S2
  clear C1 C2 C3 S1 S2
  go_enter Try.func8, Try.ntmps8
  go_wp2_with fail
  refine (alive04 _).mono ?_
  skip
  rintro e w1 ⟨rfl, hb1⟩
  go_wp2_with fail
  refine (D1.out _).mono ?_
  skip
  rintro e w2 ⟨rfl, hb2⟩
  go_wp2_with fail
  refine (D2.out _).mono ?_
  skip
  rintro e w3 ⟨rfl, hb3⟩
  go_wp2_with fail
  refine (D4.out _).mono ?_
  skip
  rintro e w4 ⟨rfl, hb4⟩
  go_wp2_with fail
  refine (D5.out _).mono ?_
  skip
  rintro e w5 ⟨rfl, hb5⟩
  go_wp2_with fail
  refine (D3.out _).mono ?_
  skip
  rintro e w6 ⟨rfl, hb6⟩
  have sz2 : w.heap.size ≤ w1.heap.size := (hb1).size
  have sz3 : w.heap.size ≤ w2.heap.size := ((hb1).trans (hb2.mono sz2)).size
  have sz4 : w.heap.size ≤ w3.heap.size := (((hb1).trans (hb2.mono sz2)).trans (hb3.mono sz3)).size
  have sz5 : w.heap.size ≤ w4.heap.size := ((((hb1).trans (hb2.mono sz2)).trans (hb3.mono sz3)).trans (hb4.mono sz4)).size
  have sz6 : w.heap.size ≤ w5.heap.size := (((((hb1).trans (hb2.mono sz2)).trans (hb3.mono sz3)).trans (hb4.mono sz4)).trans (hb5.mono sz5)).size
  go_wp2
  go_ret
  exact ⟨rfl, (((((hb1).trans (hb2.mono sz2)).trans (hb3.mono sz3)).trans (hb4.mono sz4)).trans (hb5.mono sz5)).trans (hb6.mono sz6)⟩

end Go.Proofs.Ytginhdfmpkhhiaa
