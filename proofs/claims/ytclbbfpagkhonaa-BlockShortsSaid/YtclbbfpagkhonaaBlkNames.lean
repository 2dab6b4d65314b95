/- The law's alive; the examples. -/
import Derived.Test.YtclbbfpagkhonaaG5
import Derived.Test.YtclbbfpagkhonaaNoughts12
import Derived.Test.YtclbbfpagkhonaaG1
set_option linter.unusedVariables false
set_option linter.unusedSimpArgs false
namespace Go.Proofs.Ytclbbfpagkhonaa
open Go.ChangeShapes Go.WideShapes Go.ChangeAt Go.RowKit

theorem win_100 : winN 1 0 0 = (winL 1 0 0, 0) := by
  unfold winN
  rw [if_neg (by simp [shapedB])]
set_option maxRecDepth 100000 in
set_option maxHeartbeats 2000000 in
theorem alive12 (w : World) : Calls Try.prog 8 #[] w fun e w' => e = .returned (.bool true) ∧ Below w.heap.size w w' := by
  have HW := Lib.hid (fun W => win_any 1 0 0 (by omega) (by omega) (by omega) W)
  have HWL := Lib.hid (winL_len 1 0 0 (.inr (.inl rfl)))
  have H1 := Lib.hid start_300
  have H2 := Lib.hid start_511
  have H3 := Lib.hid start_0
  rw [win_100] at HW
  generalize winL 1 0 0 = WL at *
  have HA := Lib.hid (fun p W (h : IsInts W p (zeroL 512)) => ana_any 2 0 1 (by omega) (by omega) (by omega) (zeroL 512) (by rw [zero_len]; omega) p 512 (by rw [zero_len]; omega) W h)
  rw [ana_zero 2 0 1 (by omega) (by omega) (by omega), zero_len] at HA
  have HN := Lib.hid (fun p c W (h : IsInts W p (zeroL 256)) => noughts_ok (zeroL 256) p c 256 W h (by rw [zero_len]; omega))
  rw [zero_all, zero_len] at HN
  unfold RRowE at HW HA
  dsimp only at HW HA
  have HZ := Lib.hid (zero_map 512)
  have LZ := Lib.hid (zero_len 512)
  have LZ2 := Lib.hid (zero_len 256)
  generalize zeroL 512 = Z at *
  generalize zeroL 256 = Z2 at *
  go_enter Try.func8, Try.ntmps8
  go_wp2_with fail
  refine (HW.out _).mono ?_
  rintro e w1 ⟨v1, rfl, hO1, hB1⟩
  obtain ⟨g1, cap1, rfl, hg1, hlt1, hc1⟩ := owns_at hO1 (by intro e; have := HWL.out; rw [e] at this; simp only [List.length_nil] at this; omega)
  have c300 := hc1 300 (by rw [HWL.out]; omega)
  have c511 := hc1 511 (by rw [HWL.out]; omega)
  have c0 := hc1 0 (by rw [HWL.out]; omega)
  rw [H1.out] at c300
  rw [H2.out] at c511
  obtain ⟨z0, hz0'⟩ : ∃ z, WL.getD 0 0 = z := ⟨_, rfl⟩
  have hp0 := H3.out
  rw [hz0'] at c0 hp0
  rw [HWL.out]
  clear hO1 hc1 HW
  go_wp2_with (at_make; refine make_row rfl _ _ rfl 512 (by omega) rfl rfl ?_; intro w2 hlt2 hO2 hB2)
  rw [← HZ.out] at hO2
  have HI2 := Lib.hid (full_ints hO2 LZ.out hlt2)
  have hz1 := hB1.size
  have hz2 := hB2.size
  have d300 := Lib.hid ((hB2.cell (p := ⟨g1, 300, none⟩) hlt1).trans c300)
  have d511 := Lib.hid ((hB2.cell (p := ⟨g1, 511, none⟩) hlt1).trans c511)
  have d0 := Lib.hid ((hB2.cell (p := ⟨g1, 0, none⟩) hlt1).trans c0)
  have HB2 := Lib.hid (hB1.trans (hB2.mono hz1))
  clear c300 c511 c0 hO2 hB1 hB2
  refine (HA.out _ _ HI2.out).mono ?_
  rintro e w3 ⟨v3, rfl, hO3, hB3⟩
  obtain ⟨g3, cap3, rfl, hg3, hlt3, hc3⟩ := owns_at hO3 (by intro e; have := LZ2.out; rw [e] at this; simp only [List.length_nil] at this; omega)
  rw [LZ2.out]
  have c300 := (hB3.cell (p := ⟨g1, 300, none⟩) (by show g1 < _; omega)).trans d300.out
  have c511 := (hB3.cell (p := ⟨g1, 511, none⟩) (by show g1 < _; omega)).trans d511.out
  have c0 := (hB3.cell (p := ⟨g1, 0, none⟩) (by show g1 < _; omega)).trans d0.out
  have HI3 := Lib.hid (isInts_of hlt3 hc3)
  have HB3 := Lib.hid (HB2.out.trans (hB3.mono (by omega)))
  have dp : decide (0 < z0) = true := decide_eq_true hp0
  clear hO3 hc3 hB3 d300 d511 d0
  go_wp2_with fail
  refine (HN.out _ _ _ HI3.out).mono ?_
  rintro e w4 ⟨rfl, hw⟩
  rw [← hw]
  clear hw w4
  go_wp2
  go_ret
  exact ⟨rfl, HB3.out⟩
theorem win_200 : winN 2 0 0 = ([], 2) := by
  unfold winN
  rw [if_pos (.inr (.inr rfl))]
theorem syn_400 (l : List Int) : synN 4 0 0 l = ([], 2) := by
  have e : synE 4 0 0 l = 2 := by unfold synE askedE; rw [if_pos (by omega)]
  unfold synN; rw [e, if_neg (by omega)]
theorem ana_002 (l : List Int) : anaN 0 0 2 l = ([], 2) := by
  have e : anaE 0 0 2 l = 2 := by unfold anaE askedE; rw [if_neg (by omega), if_pos (by decide)]
  unfold anaN; rw [e, if_neg (by omega)]
theorem ana_511 : anaN 0 0 0 (zeroL 511) = ([], 4) := by
  have e : anaE 0 0 0 (zeroL 511) = 4 := by unfold anaE askedE; rw [if_neg (by omega), if_neg (by decide), if_pos (by rw [zero_len]; omega)]
  unfold anaN; rw [e, if_neg (by omega)]
set_option maxRecDepth 100000 in
set_option maxHeartbeats 2000000 in
theorem names12 (w : World) : Calls Try.prog 4 #[] w fun e w' => e = .returned (.bool true) ∧ Below w.heap.size w w' := by
  have HW := Lib.hid (fun W => win_any 2 0 0 (by omega) (by omega) (by omega) W)
  rw [win_200] at HW
  have HS4 := Lib.hid (fun p W (h : IsInts W p (zeroL 256)) => syn_any 4 0 0 (by omega) (by omega) (by omega) (zeroL 256) (by rw [zero_len]; omega) p 256 (by rw [zero_len]; omega) W h)
  rw [syn_400, zero_len] at HS4
  have HA2 := Lib.hid (fun p W (h : IsInts W p (zeroL 512)) => ana_any 0 0 2 (by omega) (by omega) (by omega) (zeroL 512) (by rw [zero_len]; omega) p 512 (by rw [zero_len]; omega) W h)
  rw [ana_002, zero_len] at HA2
  have HA5 := Lib.hid (fun p W (h : IsInts W p (zeroL 511)) => ana_any 0 0 0 (by omega) (by omega) (by omega) (zeroL 511) (by rw [zero_len]; omega) p 511 (by rw [zero_len]; omega) W h)
  rw [ana_511, zero_len] at HA5
  have HS := Lib.hid (fun p W (h : IsInts W p (zeroL 256)) => syn_any 2 1 1 (by omega) (by omega) (by omega) (zeroL 256) (by rw [zero_len]; omega) p 256 (by rw [zero_len]; omega) W h)
  rw [syn_zero 2 1 1 (by omega) (by omega) (by omega), zero_len] at HS
  have HN := Lib.hid (fun p c W (h : IsInts W p (zeroL 512)) => noughts_ok (zeroL 512) p c 512 W h (by rw [zero_len]; omega))
  rw [zero_all, zero_len] at HN
  have HAL := Lib.hid (fun W => alive12 W)
  unfold RRowE at HW HS4 HA2 HA5 HS
  dsimp only at HW HS4 HA2 HA5 HS
  have Z1 := Lib.hid (zero_map 512)
  have Z2 := Lib.hid (zero_map 511)
  have Z3 := Lib.hid (zero_map 256)
  have L1 := Lib.hid (zero_len 512)
  have L2 := Lib.hid (zero_len 511)
  have L3 := Lib.hid (zero_len 256)
  generalize zeroL 512 = Y1 at *
  generalize zeroL 511 = Y2 at *
  generalize zeroL 256 = Y3 at *
  go_enter Try.func4, Try.ntmps4
  go_wp2_with fail
  refine (HW.out _).mono ?_
  rintro e w1 ⟨v1, rfl, hO1, hB1⟩
  obtain ⟨p1, c1, rfl, _⟩ := owns_any hO1
  have HB1 := Lib.hid hB1
  clear hO1 hB1 HW
  go_wp2_with (at_make; refine make_row rfl _ _ rfl 256 (by omega) rfl rfl ?_; intro w2 hlt2 hO2 hB2)
  rw [← Z3.out] at hO2
  have HI2 := Lib.hid (full_ints hO2 L3.out hlt2)
  have hz1 := HB1.out.size
  have HB2 := Lib.hid (HB1.out.trans (hB2.mono hz1))
  clear hO2 hB2 HB1
  refine (HS4.out _ _ HI2.out).mono ?_
  rintro e w3 ⟨v3, rfl, hO3, hB3⟩
  obtain ⟨p3, c3, rfl, _⟩ := owns_any hO3
  have hz2 := HB2.out.size
  have HB3 := Lib.hid (HB2.out.trans (hB3.mono hz2))
  clear hO3 hB3 HB2 HS4 HI2
  go_wp2_with (at_make; refine make_row rfl _ _ rfl 512 (by omega) rfl rfl ?_; intro w4 hlt4 hO4 hB4)
  rw [← Z1.out] at hO4
  have HI4 := Lib.hid (full_ints hO4 L1.out hlt4)
  have hz3 := HB3.out.size
  have HB4 := Lib.hid (HB3.out.trans (hB4.mono hz3))
  clear hO4 hB4 HB3
  refine (HA2.out _ _ HI4.out).mono ?_
  rintro e w5 ⟨v5, rfl, hO5, hB5⟩
  obtain ⟨p5, c5, rfl, _⟩ := owns_any hO5
  have hz4 := HB4.out.size
  have HB5 := Lib.hid (HB4.out.trans (hB5.mono hz4))
  clear hO5 hB5 HB4 HA2 HI4
  go_wp2_with (at_make; refine make_row rfl _ _ rfl 511 (by omega) rfl rfl ?_; intro w6 hlt6 hO6 hB6)
  rw [← Z2.out] at hO6
  have HI6 := Lib.hid (full_ints hO6 L2.out hlt6)
  have hz5 := HB5.out.size
  have HB6 := Lib.hid (HB5.out.trans (hB6.mono hz5))
  clear hO6 hB6 HB5
  refine (HA5.out _ _ HI6.out).mono ?_
  rintro e w7 ⟨v7, rfl, hO7, hB7⟩
  obtain ⟨p7, c7, rfl, _⟩ := owns_any hO7
  have hz6 := HB6.out.size
  have HB7 := Lib.hid (HB6.out.trans (hB7.mono hz6))
  clear hO7 hB7 HB6 HA5 HI6
  go_wp2_with (at_make; refine make_row rfl _ _ rfl 256 (by omega) rfl rfl ?_; intro w8 hlt8 hO8 hB8)
  rw [← Z3.out] at hO8
  have HI8 := Lib.hid (full_ints hO8 L3.out hlt8)
  have hz7 := HB7.out.size
  have HB8 := Lib.hid (HB7.out.trans (hB8.mono hz7))
  clear hO8 hB8 HB7
  refine (HS.out _ _ HI8.out).mono ?_
  rintro e w9 ⟨v9, rfl, hO9, hB9⟩
  obtain ⟨g9, c9, rfl, hg9, hlt9, hc9⟩ := owns_at hO9 (by intro e; have := L1.out; rw [e] at this; simp only [List.length_nil] at this; omega)
  rw [L1.out]
  have HI9 := Lib.hid (isInts_of hlt9 hc9)
  have hz8 := HB8.out.size
  have HB9 := Lib.hid (HB8.out.trans (hB9.mono hz8))
  clear hO9 hB9 HB8 HS HI8 hc9
  go_wp2_with fail
  refine (HAL.out _).mono ?_
  rintro e w10 ⟨rfl, hBa⟩
  have HIa := Lib.hid (HI9.out.keep hBa)
  have hz9 := HB9.out.size
  have HBa := Lib.hid (HB9.out.trans (hBa.mono hz9))
  clear hBa HB9 HI9
  go_wp2_with fail
  refine (HN.out _ _ _ HIa.out).mono ?_
  rintro e w11 ⟨rfl, hw⟩
  rw [← hw]
  clear hw w11
  go_wp2
  go_ret
  exact ⟨rfl, HBa.out⟩
end Go.Proofs.Ytclbbfpagkhonaa
