/- reedpiperef06: Told, Many, Of. -/
import Derived.Test.YtahoeggjldhneaaRefBand
set_option linter.unusedVariables false
namespace Go.Proofs.Ytahoeggjldhneaa
open Go.ChangeShapes Go.WideShapes Go.ChangeAt Go.RowKit

def RRow (rate : Int) (short : Bool) (w : World) (e : Ending) (w' : World) : Prop :=
  ∃ g cap, e = .returned (.tuple #[.slice (some ⟨g, 0, none⟩) (bandL rate short).length cap, .int .i64 0]) ∧ IsInts w' (some ⟨g, 0, none⟩) (bandL rate short) ∧ Below w.heap.size w w' ∧ w.heap.size ≤ g

theorem refoff_row (rate : Int) (short : Bool) (h0 : 0 ≤ rate) (h1 : rate ≤ 11) (w : World) :
    Calls Try.prog 17 #[.int .i64 rate, .bool short] w fun e w' => ∃ g cap, e = .returned (.slice (some ⟨g, 0, none⟩) (bandL rate short).length cap) ∧ IsInts w' (some ⟨g, 0, none⟩) (bandL rate short) ∧ Below w.heap.size w w' ∧ w.heap.size ≤ g := by
  have h : Calls Try.prog 17 #[.int .i64 rate, .bool short] w fun e w' => ∃ v, e = .returned v ∧ w'.ownsRow w.heap.size 3 1 v (bandL rate short).length ((bandL rate short).map (Value.int .i64)) ∧ Below w.heap.size w w' := by
    cases short
    · exact refoff_L rate h0 h1 w
    · exact refoff_S rate h0 h1 w
  exact h.mono fun e w' ⟨v, he, ho, hb⟩ => by
    obtain ⟨g, cap, rfl, hg, hlt, hc⟩ := owns_at ho (by intro e; have := (band_len rate short h0 h1).1; simp [e] at this)
    exact ⟨g, cap, he, isInts_of hlt hc, hb, hg⟩

theorem told_ok (rate : Int) (short : Bool) (h0 : 0 ≤ rate) (h1 : rate ≤ 11) (w : World) :
    Calls Try.prog 12 #[.int .i64 rate, .bool short] w (RRow rate short w) := by
  go_enter Try.func12, Try.ntmps12
  go_wp2_with fail
  refine (refoff_row rate short h0 h1 _).mono ?_
  rintro e w1 ⟨g, cap, rfl, hi, hb, hg⟩
  have HI := Lib.hid hi
  clear hi
  go_wp2
  go_ret2
  exact ⟨g, cap, rfl, HI.out, hb, hg⟩
theorem told_bad (rate : Int) (short : Bool) (h : rate < 0 ∨ 11 < rate) (w : World) :
    Calls Try.prog 12 #[.int .i64 rate, .bool short] w fun e w' => e = .returned (.tuple #[.slice none 0 0, .int .i64 2]) ∧ w = w' := by
  rcases h with h | h
  all_goals
    go_enter Try.func12, Try.ntmps12
    go_wp2
    go_ret2
    exact ⟨rfl, rfl⟩

theorem refmany_ok (rate : Int) (short : Bool) (h0 : 0 ≤ rate) (h1 : rate ≤ 11) (w : World) :
    Calls Try.prog 13 #[.int .i64 rate, .bool short] w (RMany rate short w) := by
  obtain ⟨k1, k2, _, _, _⟩ := band_len rate short h0 h1
  have k2' : (bandL rate short).length ≤ 41 := Nat.le_trans k2 (by split <;> omega)
  clear k2
  go_enter Try.func13, Try.ntmps13
  go_wp2_with fail
  refine (told_ok rate short h0 h1 _).mono ?_
  rintro e w1 ⟨g, cap, rfl, hi, hb, hg⟩
  clear hi
  go_wp2
  go_ret2
  exact ⟨rfl, hb⟩
theorem refmany_bad (rate : Int) (short : Bool) (h : rate < 0 ∨ 11 < rate) (w : World) :
    Calls Try.prog 13 #[.int .i64 rate, .bool short] w fun e w' => e = .returned (.tuple #[.int .i64 0, .int .i64 2]) ∧ w = w' := by
  go_enter Try.func13, Try.ntmps13
  go_wp2_with fail
  refine (told_bad rate short h _).mono ?_
  rintro e w1 ⟨rfl, rfl⟩
  go_wp2
  go_ret2
  exact ⟨rfl, rfl⟩
theorem refof_bad (rate : Int) (short : Bool) (x : Int) (h : rate < 0 ∨ 11 < rate) (w : World) :
    Calls Try.prog 14 #[.int .i64 rate, .bool short, .int .i64 x] w fun e w' => e = .returned (.tuple #[.int .i64 0, .int .i64 2]) ∧ w = w' := by
  go_enter Try.func14, Try.ntmps14
  go_wp2_with fail
  refine (told_bad rate short h _).mono ?_
  rintro e w1 ⟨rfl, rfl⟩
  go_wp2
  go_ret2
  exact ⟨rfl, rfl⟩

/-- Either the line's band, or no band is the line's. -/
def RRefOf (rate : Int) (short : Bool) (x : Int) (w : World) (e : Ending) (w' : World) : Prop :=
  ((∃ j : Nat, InBand rate short x j ∧ e = .returned (.tuple #[.int .i64 j, .int .i64 0])) ∨ ((∀ j, ¬ InBand rate short x j) ∧ e = .returned (.tuple #[.int .i64 0, .int .i64 2]))) ∧ Below w.heap.size w w'
set_option maxRecDepth 100000 in
set_option maxHeartbeats 1000000 in
theorem refof_ok (rate : Int) (short : Bool) (x : Int) (h0 : 0 ≤ rate) (h1 : rate ≤ 11) (w : World) :
    Calls Try.prog 14 #[.int .i64 rate, .bool short, .int .i64 x] w (RRefOf rate short x w) := by
  obtain ⟨k1, k2, _, _, _⟩ := band_len rate short h0 h1
  have k2' : (bandL rate short).length ≤ 41 := Nat.le_trans k2 (by split <;> omega)
  clear k2
  go_enter Try.func14, Try.ntmps14
  go_wp2_with fail
  refine (told_ok rate short h0 h1 _).mono ?_
  rintro e w1 ⟨g, cap, rfl, hi, hb, hg⟩
  have HI := Lib.hid hi
  have HB : Hid (∀ j, InBand rate short x j = (j + 1 < (bandL rate short).length ∧ (bandL rate short).getD j 0 ≤ x ∧ x < (bandL rate short).getD (j + 1) 0)) := fun _ => rfl
  clear hi
  have fin : ∀ (e : Ending) (w' : World), RRefOf rate short x w e w' = RRefOf rate short x w e w' := fun _ _ => rfl
  clear fin
  generalize hL : bandL rate short = l at *
  have HL := Lib.hid hL
  clear hL
  go_wp2
  go_loop [10] (fun I => ∃ k : Nat, I = .int .i64 k ∧ k + 1 ≤ l.length ∧ Hid (∀ j, j < k → ¬ InBand rate short x j)) (fun i => l.length - (intOf i).toNat)
  case atStart => exact ⟨0, rfl, by omega, fun _ h => by omega⟩
  case round =>
    obtain ⟨k, rfl, hk, hno⟩ := hrel
    by_cases hlt : k + 1 < l.length
    · obtain ⟨b, off, he, _, hc⟩ := HI.out.at (show k < l.length by omega)
      obtain ⟨rfl, rfl⟩ : g = b ∧ 0 = off := by simpa using he
      have c1 := hc k (by omega)
      have c2 := hc (k + 1) hlt
      simp only [Nat.zero_add] at c1 c2
      have hbk := Lib.hid (HB.out k)
      clear hc he
      have hd0 : decide ((k : Int) + 1 < l.length) = true := by simp; omega
      by_cases hlo : l.getD k 0 ≤ x
      · have hd1 : decide (l.getD k 0 ≤ x) = true := decide_eq_true hlo
        by_cases hhi : x < l.getD (k + 1) 0
        · have hd2 : decide (x < l.getD (k + 1) 0) = true := decide_eq_true hhi
          have hfin : Hid (InBand rate short x k) := by show InBand rate short x k; rw [hbk.out]; exact ⟨hlt, hlo, hhi⟩
          generalize l.getD k 0 = y at *
          generalize l.getD (k + 1) 0 = z at *
          clear hlo hhi
          go_wp2
          go_ret2
          exact ⟨.inl ⟨k, hfin.out, rfl⟩, hb⟩
        · have hd2 : decide (x < l.getD (k + 1) 0) = false := decide_eq_false hhi
          have hfin : Hid (¬ InBand rate short x k) := by show ¬ _; rw [hbk.out]; exact fun h => hhi h.2.2
          generalize l.getD k 0 = y at *
          generalize l.getD (k + 1) 0 = z at *
          clear hlo hhi
          go_wp2
          exact ⟨⟨k + 1, by go_num, by omega, fun j hj => by
            by_cases e : j = k
            · rw [e]; exact hfin.out
            · exact hno.out j (by omega)⟩, by simp [intOf]; omega⟩
      · have hd1 : decide (l.getD k 0 ≤ x) = false := decide_eq_false hlo
        have hfin : Hid (¬ InBand rate short x k) := by show ¬ _; rw [hbk.out]; exact fun h => hlo h.2.1
        generalize l.getD k 0 = y at *
        clear hlo c2
        go_wp2
        exact ⟨⟨k + 1, by go_num, by omega, fun j hj => by
            by_cases e : j = k
            · rw [e]; exact hfin.out
            · exact hno.out j (by omega)⟩, by simp [intOf]; omega⟩
    · have hd0 : decide ((k : Int) + 1 < l.length) = false := by simp; omega
      have hfin : Hid (∀ j, ¬ InBand rate short x j) := fun j => by
        by_cases e : j < k
        · exact hno.out j e
        · rw [HB.out]; exact fun h => by omega
      go_wp2
      go_ret2
      exact ⟨.inr ⟨hfin.out, rfl⟩, hb⟩
end Go.Proofs.Ytahoeggjldhneaa
