/- reedpiperef06: Told, Many. -/
import Derived.Test.YteijlbblmdclaaaRefBand
set_option linter.unusedVariables false
namespace Go.Proofs.Yteijlbblmdclaaa
open Go.ChangeShapes Go.WideShapes Go.ChangeAt Go.RowKit

def RRow (rate : Int) (short : Bool) (w : World) (e : Ending) (w' : World) : Prop :=
  ∃ g cap, e = .returned (.tuple #[.slice (some ⟨g, 0, none⟩) (bandL rate short).length cap, .int .i64 0]) ∧ IsInts w' (some ⟨g, 0, none⟩) (bandL rate short) ∧ Below w.heap.size w w' ∧ w.heap.size ≤ g

theorem refoff_row (rate : Int) (short : Bool) (h0 : 0 ≤ rate) (h1 : rate ≤ 11) (w : World) :
    Calls Try.prog 42 #[.int .i64 rate, .bool short] w fun e w' => ∃ g cap, e = .returned (.slice (some ⟨g, 0, none⟩) (bandL rate short).length cap) ∧ IsInts w' (some ⟨g, 0, none⟩) (bandL rate short) ∧ Below w.heap.size w w' ∧ w.heap.size ≤ g := by
  have h : Calls Try.prog 42 #[.int .i64 rate, .bool short] w fun e w' => ∃ v, e = .returned v ∧ w'.ownsRow w.heap.size 3 1 v (bandL rate short).length ((bandL rate short).map (Value.int .i64)) ∧ Below w.heap.size w w' := by
    cases short
    · exact refoff_L rate h0 h1 w
    · exact refoff_S rate h0 h1 w
  exact h.mono fun e w' ⟨v, he, ho, hb⟩ => by
    obtain ⟨g, cap, rfl, hg, hlt, hc⟩ := owns_at ho (by intro e; have := (band_len rate short h0 h1).1; simp [e] at this)
    exact ⟨g, cap, he, isInts_of hlt hc, hb, hg⟩

theorem told_ok (rate : Int) (short : Bool) (h0 : 0 ≤ rate) (h1 : rate ≤ 11) (w : World) :
    Calls Try.prog 74 #[.int .i64 rate, .bool short] w (RRow rate short w) := by
  go_enter Try.func74, Try.ntmps74
  go_wp2_with fail
  refine (refoff_row rate short h0 h1 _).mono ?_
  rintro e w1 ⟨g, cap, rfl, hi, hb, hg⟩
  have HI := Lib.hid hi
  clear hi
  go_wp2
  go_ret2
  exact ⟨g, cap, rfl, HI.out, hb, hg⟩
theorem told_bad (rate : Int) (short : Bool) (h : rate < 0 ∨ 11 < rate) (w : World) :
    Calls Try.prog 74 #[.int .i64 rate, .bool short] w fun e w' => e = .returned (.tuple #[.slice none 0 0, .int .i64 2]) ∧ w = w' := by
  rcases h with h | h
  all_goals
    go_enter Try.func74, Try.ntmps74
    go_wp2
    go_ret2
    exact ⟨rfl, rfl⟩

theorem refmany_ok (rate : Int) (short : Bool) (h0 : 0 ≤ rate) (h1 : rate ≤ 11) (w : World) :
    Calls Try.prog 69 #[.int .i64 rate, .bool short] w (RMany rate short w) := by
  obtain ⟨k1, k2, _, _, _⟩ := band_len rate short h0 h1
  have k2' : (bandL rate short).length ≤ 41 := Nat.le_trans k2 (by split <;> omega)
  clear k2
  go_enter Try.func69, Try.ntmps69
  go_wp2_with fail
  refine (told_ok rate short h0 h1 _).mono ?_
  rintro e w1 ⟨g, cap, rfl, hi, hb, hg⟩
  clear hi
  go_wp2
  go_ret2
  exact ⟨rfl, hb⟩
theorem refmany_bad (rate : Int) (short : Bool) (h : rate < 0 ∨ 11 < rate) (w : World) :
    Calls Try.prog 69 #[.int .i64 rate, .bool short] w fun e w' => e = .returned (.tuple #[.int .i64 0, .int .i64 2]) ∧ w = w' := by
  go_enter Try.func69, Try.ntmps69
  go_wp2_with fail
  refine (told_bad rate short h _).mono ?_
  rintro e w1 ⟨rfl, rfl⟩
  go_wp2
  go_ret2
  exact ⟨rfl, rfl⟩
end Go.Proofs.Yteijlbblmdclaaa
