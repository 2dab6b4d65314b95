/- band.Of. -/
import Derived.Test.YtppfbfiigfjncaaGP
import Derived.Test.YtppfbfiigfjncaaBSearch
set_option linter.unusedVariables false
namespace Go.Proofs.Ytppfbfiigfjncaa
open Go.ChangeShapes Go.WideShapes Go.ChangeAt Go.RowKit

theorem of_bad (rate : Int) (short : Bool) (x : Int) (h : rate < 0 ∨ 11 < rate) (w : World) :
    Calls Try.prog 20 #[.int .i64 rate, .bool short, .int .i64 x] w fun e w' => e = .returned (.tuple #[.int .i64 0, .int .i64 2]) ∧ w = w' := by
  go_enter Try.func20, Try.ntmps20
  go_wp2_with fail
  refine (offsets_bad rate short h _).mono ?_
  rintro e w1 ⟨rfl, rfl⟩
  go_wp2
  go_ret2
  exact ⟨rfl, rfl⟩
theorem of_out (rate : Int) (short : Bool) (x : Int) (h0 : 0 ≤ rate) (h1 : rate ≤ 11) (hx : x < 0 ∨ linesOf short ≤ x) (w : World) :
    Calls Try.prog 20 #[.int .i64 rate, .bool short, .int .i64 x] w fun e w' => e = .returned (.tuple #[.int .i64 0, .int .i64 2]) ∧ Below w.heap.size w w' := by
  obtain ⟨k1, k2, k3, k4, k5⟩ := band_len rate short h0 h1
  have k2' : (bandL rate short).length ≤ 41 := Nat.le_trans k2 (by split <;> omega)
  have k4' : (bandL rate short).getD ((bandL rate short).length - 1) 0 = linesOf short := k4
  clear k2 k3 k4 k5
  go_enter Try.func20, Try.ntmps20
  go_wp2_with fail
  refine (offsets_row rate short h0 h1 _).mono ?_
  rintro e w1 ⟨g, cap, rfl, hi, hb, hg⟩
  obtain ⟨b, off, he, _, hc⟩ := hi.at (show (bandL rate short).length - 1 < (bandL rate short).length by omega)
  obtain ⟨rfl, rfl⟩ : g = b ∧ 0 = off := by simpa using he
  have c1 := hc _ (show (bandL rate short).length - 1 < (bandL rate short).length by omega)
  rw [k4'] at c1
  simp only [Nat.zero_add] at c1
  have hL : 0 ≤ linesOf short := by unfold linesOf; split <;> decide
  generalize linesOf short = L at *
  generalize (bandL rate short).length = n at *
  clear hc hi he k4'
  rcases hx with hx | hx
  · go_wp2
    go_ret2
    exact ⟨rfl, hb⟩
  · have hd : decide (x < 0) = false := by simp; omega
    have hd2 : decide (L ≤ x) = true := decide_eq_true hx
    go_wp2
    go_ret2
    exact ⟨rfl, hb⟩

def ROf (rate : Int) (short : Bool) (x : Int) (w : World) (e : Ending) (w' : World) : Prop := ∃ j : Nat, InBand rate short x j ∧ e = .returned (.tuple #[.int .i64 j, .int .i64 0]) ∧ Below w.heap.size w w'
set_option maxHeartbeats 1000000 in
theorem of_ok (rate : Int) (short : Bool) (x : Int) (h0 : 0 ≤ rate) (h1 : rate ≤ 11) (hx0 : 0 ≤ x) (hx1 : x < linesOf short) (w : World) :
    Calls Try.prog 20 #[.int .i64 rate, .bool short, .int .i64 x] w (ROf rate short x w) := by
  obtain ⟨k1, k2, k3, k4, k5⟩ := band_len rate short h0 h1
  have k2' : (bandL rate short).length ≤ 41 := Nat.le_trans k2 (by split <;> omega)
  have k4' : (bandL rate short).getD ((bandL rate short).length - 1) 0 = linesOf short := k4
  have hsort := Lib.hid (band_le rate short h0 h1)
  have K3 := Lib.hid k3
  clear k2 k3 k4 k5
  go_enter Try.func20, Try.ntmps20
  go_wp2_with fail
  refine (offsets_row rate short h0 h1 _).mono ?_
  rintro e w1 ⟨g, cap, rfl, hi, hb, hg⟩
  obtain ⟨b, off, he, _, hc⟩ := hi.at (show (bandL rate short).length - 1 < (bandL rate short).length by omega)
  obtain ⟨rfl, rfl⟩ : g = b ∧ 0 = off := by simpa using he
  have c1 := hc _ (show (bandL rate short).length - 1 < (bandL rate short).length by omega)
  have K4 := Lib.hid k4'
  rw [k4'] at c1
  simp only [Nat.zero_add] at c1
  have HI := Lib.hid hi
  generalize linesOf short = L at *
  clear hc hi he k4'
  go_wp2_with fail
  refine (bsearch_ok (bandL rate short) _ _ x (by omega) hsort.out _ HI.out).mono ?_
  rintro e w' ⟨i, hil, hlo, hhi, rfl, rfl⟩
  have hin : i < (bandL rate short).length := by
    rcases Nat.lt_or_ge i (bandL rate short).length with h | h
    · exact h
    · exfalso
      have := hlo ((bandL rate short).length - 1) (by omega)
      rw [K4.out] at this
      omega
  by_cases hf : (bandL rate short).getD i 0 = x
  · have hi1 : i + 1 < (bandL rate short).length := by
      rcases Nat.lt_or_ge (i + 1) (bandL rate short).length with h | h
      · exact h
      · exfalso
        have e1 : i = (bandL rate short).length - 1 := by omega
        have := K4.out
        rw [← e1] at this
        omega
    have hlt := Lib.hid (band_lt rate short h0 h1 (i + 1) i (by omega) hi1)
    have hfin : Hid (InBand rate short x i) := ⟨hi1, by omega, by have := hlt.out; omega⟩
    have hd : decide (i < (bandL rate short).length ∧ (bandL rate short).getD i 0 = x) = true := decide_eq_true ⟨hin, hf⟩
    rw [hd]
    clear hlo hhi hd hf hi1 hin
    go_wp2
    go_ret2
    exact ⟨i, hfin.out, rfl, hb⟩
  · have hi0 : 1 ≤ i := by
      rcases Nat.eq_zero_or_pos i with h | h
      · exfalso
        subst h
        have := hhi 0 (Nat.le_refl _) hin
        have := K3.out
        omega
      · exact h
    have hfin : Hid (InBand rate short x (i - 1)) := by
      refine ⟨by omega, ?_, ?_⟩
      · have := hlo (i - 1) (by omega); omega
      · have := hhi i (Nat.le_refl _) hin
        rw [show i - 1 + 1 = i by omega]
        omega
    have hd : decide (i < (bandL rate short).length ∧ (bandL rate short).getD i 0 = x) = false := decide_eq_false (fun h => hf h.2)
    rw [hd]
    clear hlo hhi hd hf
    go_wp2
    go_ret2
    exact ⟨i - 1, hfin.out, ret_ints (by omega) rfl, hb⟩
end Go.Proofs.Ytppfbfiigfjncaa
