/- band.Many, band.Offsets by rows. -/
import Derived.Test.YteijlbblmdclaaaBandPlain
set_option linter.unusedVariables false
namespace Go.Proofs.Yteijlbblmdclaaa
open Go.ChangeShapes Go.WideShapes Go.ChangeAt Go.RowKit

theorem band_lt (rate : Int) (short : Bool) (h0 : 0 ≤ rate) (h1 : rate ≤ 11) : ∀ j i, i < j → j < (bandL rate short).length → (bandL rate short).getD i 0 < (bandL rate short).getD j 0 := by
  obtain ⟨k1, k2, k3, k4, k5⟩ := band_len rate short h0 h1
  intro j
  induction j with
  | zero => intro i hi; omega
  | succ j ih =>
    intro i hi hj
    have hr := k5 (j + 1) (by omega) hj
    simp only [risesAt, Bool.and_eq_true, decide_eq_true_eq] at hr
    have h := hr.1.1.1.1
    rw [Nat.add_sub_cancel] at h
    by_cases e : i = j
    · rw [e]; exact h
    · exact Int.lt_trans (ih i (by omega) (by omega)) h
theorem band_le (rate : Int) (short : Bool) (h0 : 0 ≤ rate) (h1 : rate ≤ 11) (i j : Nat) (hi : i ≤ j) (hj : j < (bandL rate short).length) : (bandL rate short).getD i 0 ≤ (bandL rate short).getD j 0 := by
  rcases Nat.lt_or_ge i j with h | h
  · exact Int.le_of_lt (band_lt rate short h0 h1 j i h hj)
  · rw [show i = j by omega]; exact Int.le_refl _

/-- A line's band. -/
def InBand (rate : Int) (short : Bool) (x : Int) (j : Nat) : Prop := j + 1 < (bandL rate short).length ∧ (bandL rate short).getD j 0 ≤ x ∧ x < (bandL rate short).getD (j + 1) 0
theorem inBand_unique {rate : Int} {short : Bool} {x : Int} {i j : Nat} (h0 : 0 ≤ rate) (h1 : rate ≤ 11) (hi : InBand rate short x i) (hj : InBand rate short x j) : i = j := by
  obtain ⟨a1, a2, a3⟩ := hi
  obtain ⟨b1, b2, b3⟩ := hj
  rcases Nat.lt_trichotomy i j with h | h | h
  · have := band_le rate short h0 h1 (i + 1) j (by omega) (by omega); omega
  · exact h
  · have := band_le rate short h0 h1 (j + 1) i (by omega) (by omega); omega
def linesOf (short : Bool) : Int := if short then 32 else 256

theorem offsets_row (rate : Int) (short : Bool) (h0 : 0 ≤ rate) (h1 : rate ≤ 11) (w : World) :
    Calls Try.prog 15 #[.int .i64 rate, .bool short] w fun e w' => ∃ g cap, e = .returned (.tuple #[.slice (some ⟨g, 0, none⟩) (bandL rate short).length cap, .int .i64 0]) ∧ IsInts w' (some ⟨g, 0, none⟩) (bandL rate short) ∧ Below w.heap.size w w' ∧ w.heap.size ≤ g :=
  (offsets_ok rate short h0 h1 w).mono fun e w' ⟨v, he, ho, hb⟩ => by
    obtain ⟨g, cap, rfl, hg, hlt, hc⟩ := owns_at ho (by intro e; have := (band_len rate short h0 h1).1; simp [e] at this)
    exact ⟨g, cap, he, isInts_of hlt hc, hb, hg⟩

def RMany (rate : Int) (short : Bool) (w : World) (e : Ending) (w' : World) : Prop := e = .returned (.tuple #[.int .i64 ((bandL rate short).length - 1), .int .i64 0]) ∧ Below w.heap.size w w'
theorem many_ok (rate : Int) (short : Bool) (h0 : 0 ≤ rate) (h1 : rate ≤ 11) (w : World) :
    Calls Try.prog 64 #[.int .i64 rate, .bool short] w (RMany rate short w) := by
  obtain ⟨k1, k2, _, _, _⟩ := band_len rate short h0 h1
  have k2' : (bandL rate short).length ≤ 41 := Nat.le_trans k2 (by split <;> omega)
  clear k2
  go_enter Try.func64, Try.ntmps64
  go_wp2_with fail
  refine (offsets_row rate short h0 h1 _).mono ?_
  rintro e w1 ⟨g, cap, rfl, hi, hb, hg⟩
  clear hi
  go_wp2
  go_ret2
  exact ⟨rfl, hb⟩
theorem many_bad (rate : Int) (short : Bool) (h : rate < 0 ∨ 11 < rate) (w : World) :
    Calls Try.prog 64 #[.int .i64 rate, .bool short] w fun e w' => e = .returned (.tuple #[.int .i64 0, .int .i64 2]) ∧ w = w' := by
  go_enter Try.func64, Try.ntmps64
  go_wp2_with fail
  refine (offsets_bad rate short h _).mono ?_
  rintro e w1 ⟨rfl, rfl⟩
  go_wp2
  go_ret2
  exact ⟨rfl, rfl⟩

end Go.Proofs.Yteijlbblmdclaaa
