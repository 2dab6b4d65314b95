/- BandLines, BandNames. -/
import Derived.Test.YtahoeggjldhneaaRefBand2
import Derived.Test.YtahoeggjldhneaaAlive
set_option linter.unusedVariables false
namespace Go.Proofs.Ytahoeggjldhneaa
open Go.ChangeShapes Go.WideShapes Go.ChangeAt Go.RowKit

theorem lines_bad (rate : Int) (short : Bool) (x : Int) (h : rate < 0 ∨ 11 < rate) (w : World) :
    Calls Try.prog 5 #[.int .i64 rate, .bool short, .int .i64 x] w fun e w' => e = .returned (.bool true) ∧ Below w.heap.size w w' := by
  go_enter Try.func5, Try.ntmps5
  go_wp2_with fail
  refine (alive_any _).mono ?_
  rintro e w1 ⟨rfl, hb1⟩
  go_wp2_with fail
  refine (offsets_bad rate short h _).mono ?_
  rintro e w2 ⟨rfl, rfl⟩
  go_wp2_with fail
  refine (of_bad rate short x h _).mono ?_
  rintro e w2 ⟨rfl, rfl⟩
  go_wp2
  go_ret
  exact ⟨rfl, hb1⟩
theorem lines_out (rate : Int) (short : Bool) (x : Int) (h0 : 0 ≤ rate) (h1 : rate ≤ 11) (hx : x < 0 ∨ linesOf short ≤ x) (w : World) :
    Calls Try.prog 5 #[.int .i64 rate, .bool short, .int .i64 x] w fun e w' => e = .returned (.bool true) ∧ Below w.heap.size w w' := by
  obtain ⟨k1, k2, k3, k4, k5⟩ := band_len rate short h0 h1
  have k2' : (bandL rate short).length ≤ 41 := Nat.le_trans k2 (by split <;> omega)
  have k4' : (bandL rate short).getD ((bandL rate short).length - 1) 0 = linesOf short := k4
  have OF := fun W => of_out rate short x h0 h1 hx W
  have HOF := Lib.hid OF
  clear k2 k3 k4 k5 OF
  go_enter Try.func5, Try.ntmps5
  go_wp2_with fail
  refine (alive_any _).mono ?_
  rintro e w1 ⟨rfl, hb1⟩
  go_wp2_with fail
  refine (offsets_row rate short h0 h1 _).mono ?_
  rintro e w2 ⟨g, cap, rfl, hi, hb2, hg⟩
  have HI := Lib.hid hi
  have HK := Lib.hid k4'
  clear hi k4'
  have hL : 0 ≤ linesOf short := by unfold linesOf; split <;> decide
  generalize hLL : linesOf short = L at *
  have HLL := Lib.hid hLL
  clear hLL
  go_wp2_with fail
  refine (HOF.out _).mono ?_
  rintro e w3 ⟨rfl, hb3⟩
  have hi3 := HI.out.keep hb3
  obtain ⟨b, off, he, _, hc⟩ := hi3.at (show (bandL rate short).length - 1 < (bandL rate short).length by omega)
  obtain ⟨rfl, rfl⟩ : g = b ∧ 0 = off := by simpa using he
  have c1 := hc _ (show (bandL rate short).length - 1 < (bandL rate short).length by omega)
  rw [HK.out] at c1
  simp only [Nat.zero_add] at c1
  have b12 := hb1.trans (hb2.mono hb1.size)
  have b13 := b12.trans (hb3.mono b12.size)
  clear hc hi3 he
  generalize (bandL rate short).length = n at *
  rcases hx with hx | hx
  · go_wp2
    go_ret
    exact ⟨rfl, b13⟩
  · have hd : decide (x < 0) = false := by simp; omega
    have hd2 : decide (L ≤ x) = true := decide_eq_true hx
    go_wp2
    go_ret
    exact ⟨rfl, b13⟩
set_option maxHeartbeats 1000000 in
theorem lines_in (rate : Int) (short : Bool) (x : Int) (h0 : 0 ≤ rate) (h1 : rate ≤ 11) (hx0 : 0 ≤ x) (hx1 : x < linesOf short) (w : World) :
    Calls Try.prog 5 #[.int .i64 rate, .bool short, .int .i64 x] w fun e w' => e = .returned (.bool true) ∧ Below w.heap.size w w' := by
  obtain ⟨k1, k2, k3, k4, k5⟩ := band_len rate short h0 h1
  have k2' : (bandL rate short).length ≤ 41 := Nat.le_trans k2 (by split <;> omega)
  have OF := fun W => of_ok rate short x h0 h1 hx0 hx1 W
  have HOF := Lib.hid OF
  clear k2 k3 k4 k5 OF
  go_enter Try.func5, Try.ntmps5
  go_wp2_with fail
  refine (alive_any _).mono ?_
  rintro e w1 ⟨rfl, hb1⟩
  go_wp2_with fail
  refine (offsets_row rate short h0 h1 _).mono ?_
  rintro e w2 ⟨g, cap, rfl, hi, hb2, hg⟩
  have HI := Lib.hid hi
  clear hi
  go_wp2_with fail
  refine (HOF.out _).mono ?_
  rintro e w3 ⟨j, hin, rfl, hb3⟩
  obtain ⟨j1, j2, j3⟩ := hin
  have hi3 := HI.out.keep hb3
  obtain ⟨b, off, he, _, hc⟩ := hi3.at (show j < (bandL rate short).length by omega)
  obtain ⟨rfl, rfl⟩ : g = b ∧ 0 = off := by simpa using he
  have c1 := hc j (by omega)
  have c2 := hc (j + 1) j1
  simp only [Nat.zero_add] at c1 c2
  have b12 := hb1.trans (hb2.mono hb1.size)
  have b13 := b12.trans (hb3.mono b12.size)
  have hd0 : decide ((j : Int) + 1 < (bandL rate short).length) = true := by simp; omega
  have hd1 : decide ((bandL rate short).getD j 0 ≤ x) = true := decide_eq_true j2
  have hd2 : decide (x < (bandL rate short).getD (j + 1) 0) = true := decide_eq_true j3
  clear hc hi3 he j2 j3
  generalize (bandL rate short).getD j 0 = y at *
  generalize (bandL rate short).getD (j + 1) 0 = z at *
  generalize (bandL rate short).length = n at *
  go_wp2
  go_ret
  exact ⟨rfl, b13⟩
theorem lines_any (rate : Int) (short : Bool) (x : Int) (w : World) :
    Calls Try.prog 5 #[.int .i64 rate, .bool short, .int .i64 x] w fun e w' => e = .returned (.bool true) ∧ Below w.heap.size w w' := by
  by_cases h : rate < 0 ∨ 11 < rate
  · exact lines_bad rate short x h w
  · by_cases hx : x < 0 ∨ linesOf short ≤ x
    · exact lines_out rate short x (by omega) (by omega) hx w
    · exact lines_in rate short x (by omega) (by omega) (by omega) (by omega) w

theorem band_names : (bandL 11 false).length = 41 ∧ InBand 0 true 15 2 := by
  constructor
  · decide +kernel
  · unfold InBand; decide +kernel
set_option maxHeartbeats 1000000 in
theorem names06 (w : World) :
    Calls Try.prog 6 #[] w fun e w' => e = .returned (.bool true) ∧ Below w.heap.size w w' := by
  have hn := band_names.1
  go_enter Try.func6, Try.ntmps6
  go_wp2_with fail
  refine (of_ok 0 true 15 (by decide) (by decide) (by decide) (by decide) _).mono ?_
  rintro e w1 ⟨j, hin, rfl, hb1⟩
  obtain rfl : j = 2 := inBand_unique (by decide) (by decide) hin band_names.2
  clear hin
  go_wp2_with fail
  refine (of_out 0 true 32 (by decide) (by decide) (.inr (by decide)) _).mono ?_
  rintro e w2 ⟨rfl, hb2⟩
  go_wp2_with fail
  refine (many_ok 11 false (by decide) (by decide) _).mono ?_
  rintro e w3 ⟨he, hb3⟩
  rw [hn] at he
  subst he
  go_wp2_with fail
  refine (many_bad 12 false (.inr (by decide)) _).mono ?_
  rintro e w4 ⟨rfl, rfl⟩
  go_wp2_with fail
  refine (alive_any _).mono ?_
  rintro e w5 ⟨rfl, hb5⟩
  have b12 := hb1.trans (hb2.mono hb1.size)
  have b13 := b12.trans (hb3.mono b12.size)
  have b15 := b13.trans (hb5.mono b13.size)
  go_wp2
  go_ret
  exact ⟨rfl, b15⟩
end Go.Proofs.Ytahoeggjldhneaa
