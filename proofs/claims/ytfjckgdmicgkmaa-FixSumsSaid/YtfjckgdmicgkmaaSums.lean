import Derived.Test.YtfjckgdmicgkmaaFixAll
import Derived.Test.YtfjckgdmicgkmaaSumsPlain
set_option linter.unusedVariables false
namespace Go.Proofs.Ytfjckgdmicgkmaa
open Go.ChangeShapes Go.WideShapes Go.ChangeAt Go.RowKit

set_option maxRecDepth 100000 in
set_option maxHeartbeats 1000000 in
theorem sums_far (n m one two : Int) (h : 1152921504606846976 < n ∨ n < -1152921504606846976 ∨ 1152921504606846976 < m ∨ m < -1152921504606846976) (w : World) :
    Calls Try.prog 4 #[.int .i64 n, .int .i64 m, .int .i64 one, .int .i64 two] w fun e w' => e = .returned (.bool true) ∧ Below w.heap.size w w' := by
  go_enter Try.func4, Try.ntmps4
  go_wp2_with fail
  refine (alive03 _).mono ?_
  skip
  rintro e w1 ⟨rfl, hb1⟩
  go_wp2
  all_goals go_ret
  all_goals exact ⟨rfl, hb1⟩

set_option maxRecDepth 100000 in
set_option maxHeartbeats 1000000 in
theorem sums_one (n m one two : Int) (h1 : -1152921504606846976 ≤ n) (h2 : n ≤ 1152921504606846976) (h3 : -1152921504606846976 ≤ m) (h4 : m ≤ 1152921504606846976) (h : one < 0 ∨ 62 < one) (w : World) :
    Calls Try.prog 4 #[.int .i64 n, .int .i64 m, .int .i64 one, .int .i64 two] w fun e w' => e = .returned (.bool true) ∧ Below w.heap.size w w' := by
  have e1 : rndV n one = (0, 2) := if_pos (by omega)
  have e2 : rndV m one = (0, 2) := if_pos (by omega)
  have e3 : rndV (n + m) one = (0, 2) := if_pos (by omega)
  have e4 : rndV (-n) one = (0, 2) := if_pos (by omega)
  go_enter Try.func4, Try.ntmps4
  go_wp2_with fail
  refine (alive03 _).mono ?_
  skip
  rintro e w1 ⟨rfl, hb1⟩
  go_wp2_with fail
  refine (round_any n one _).mono ?_
  rw [e1]
  rintro e w2 ⟨rfl, hb2⟩
  go_wp2_with fail
  refine (round_any m one _).mono ?_
  rw [e2]
  rintro e w3 ⟨rfl, hb3⟩
  go_wp2_with fail
  refine (round_any (n + m) one _).mono ?_
  rw [e3]
  rintro e w4 ⟨rfl, hb4⟩
  go_wp2_with fail
  refine (round_any (-n) one _).mono ?_
  rw [e4]
  rintro e w5 ⟨rfl, hb5⟩
  have sz2 : w.heap.size ≤ w1.heap.size := (hb1).size
  have sz3 : w.heap.size ≤ w2.heap.size := ((hb1).trans (hb2.mono sz2)).size
  have sz4 : w.heap.size ≤ w3.heap.size := (((hb1).trans (hb2.mono sz2)).trans (hb3.mono sz3)).size
  have sz5 : w.heap.size ≤ w4.heap.size := ((((hb1).trans (hb2.mono sz2)).trans (hb3.mono sz3)).trans (hb4.mono sz4)).size
  clear e1 e2 e3 e4 h
  go_wp2
  all_goals go_ret
  all_goals exact ⟨rfl, ((((hb1).trans (hb2.mono sz2)).trans (hb3.mono sz3)).trans (hb4.mono sz4)).trans (hb5.mono sz5)⟩

set_option maxRecDepth 100000 in
set_option maxHeartbeats 2000000 in
theorem sums_two (n m two : Int) (o : Nat) (h1 : -1152921504606846976 ≤ n) (h2 : n ≤ 1152921504606846976) (h3 : -1152921504606846976 ≤ m) (h4 : m ≤ 1152921504606846976) (ho : o ≤ 62) (h : two < 0 ∨ 62 < two) (w : World) :
    Calls Try.prog 4 #[.int .i64 n, .int .i64 m, .int .i64 o, .int .i64 two] w fun e w' => e = .returned (.bool true) ∧ Below w.heap.size w w' := by
  have e1 : rndV n o = (rnd n o, 0) := if_neg (by omega)
  have e2 : rndV m o = (rnd m o, 0) := if_neg (by omega)
  have e3 : rndV (n + m) o = (rnd (n + m) o, 0) := if_neg (by omega)
  have e4 : rndV (-n) o = (rnd (-n) o, 0) := if_neg (by omega)
  obtain ⟨b1, b2⟩ := rnd_bound (B := 1152921504606846976) o (by decide) h1 h2
  obtain ⟨b3, b4⟩ := rnd_bound (B := 1152921504606846976) o (by decide) h3 h4
  obtain ⟨b5, b6⟩ := rnd_bound (n := n + m) (B := 2305843009213693952) o (by decide) (by omega) (by omega)
  obtain ⟨b7, b8⟩ := rnd_bound (n := -n) (B := 1152921504606846976) o (by decide) (by omega) (by omega)
  obtain ⟨s1, s2⟩ := rnd_add n m o
  obtain ⟨t1, t2⟩ := rnd_turn n o
  have e5 : rndV (rnd n o) two = (0, 2) := if_pos (by omega)
  generalize rnd n o = a at *
  generalize rnd m o = b at *
  generalize rnd (n + m) o = c at *
  generalize rnd (-n) o = d at *
  have td : a + d = 0 ∨ a + d = 1 := by omega
  rcases td with td | td
  all_goals
    go_enter Try.func4, Try.ntmps4
    go_wp2_with fail
    refine (alive03 _).mono ?_
    skip
    rintro e w1 ⟨rfl, hb1⟩
    go_wp2_with fail
    refine (round_any n o _).mono ?_
    rw [e1]
    rintro e w2 ⟨rfl, hb2⟩
    go_wp2_with fail
    refine (round_any m o _).mono ?_
    rw [e2]
    rintro e w3 ⟨rfl, hb3⟩
    go_wp2_with fail
    refine (round_any (n + m) o _).mono ?_
    rw [e3]
    rintro e w4 ⟨rfl, hb4⟩
    go_wp2_with fail
    refine (round_any (-n) o _).mono ?_
    rw [e4]
    rintro e w5 ⟨rfl, hb5⟩
    clear e1 e2 e3 e4
    go_wp2_with fail
    (refine (round_any a two _).mono ?_; rw [e5]; rintro e w6 ⟨rfl, hb6⟩)
    have sz2 : w.heap.size ≤ w1.heap.size := (hb1).size
    have sz3 : w.heap.size ≤ w2.heap.size := ((hb1).trans (hb2.mono sz2)).size
    have sz4 : w.heap.size ≤ w3.heap.size := (((hb1).trans (hb2.mono sz2)).trans (hb3.mono sz3)).size
    have sz5 : w.heap.size ≤ w4.heap.size := ((((hb1).trans (hb2.mono sz2)).trans (hb3.mono sz3)).trans (hb4.mono sz4)).size
    have sz6 : w.heap.size ≤ w5.heap.size := (((((hb1).trans (hb2.mono sz2)).trans (hb3.mono sz3)).trans (hb4.mono sz4)).trans (hb5.mono sz5)).size
    all_goals go_wp2
    all_goals go_ret
    all_goals exact ⟨rfl, (((((hb1).trans (hb2.mono sz2)).trans (hb3.mono sz3)).trans (hb4.mono sz4)).trans (hb5.mono sz5)).trans (hb6.mono sz6)⟩

set_option maxRecDepth 100000 in
set_option maxHeartbeats 2000000 in
theorem sums_over (n m : Int) (o t : Nat) (h1 : -1152921504606846976 ≤ n) (h2 : n ≤ 1152921504606846976) (h3 : -1152921504606846976 ≤ m) (h4 : m ≤ 1152921504606846976) (ho : o ≤ 62) (ht : t ≤ 62) (h : 62 < o + t) (w : World) :
    Calls Try.prog 4 #[.int .i64 n, .int .i64 m, .int .i64 o, .int .i64 t] w fun e w' => e = .returned (.bool true) ∧ Below w.heap.size w w' := by
  have e1 : rndV n o = (rnd n o, 0) := if_neg (by omega)
  have e2 : rndV m o = (rnd m o, 0) := if_neg (by omega)
  have e3 : rndV (n + m) o = (rnd (n + m) o, 0) := if_neg (by omega)
  have e4 : rndV (-n) o = (rnd (-n) o, 0) := if_neg (by omega)
  obtain ⟨b1, b2⟩ := rnd_bound (B := 1152921504606846976) o (by decide) h1 h2
  obtain ⟨b3, b4⟩ := rnd_bound (B := 1152921504606846976) o (by decide) h3 h4
  obtain ⟨b5, b6⟩ := rnd_bound (n := n + m) (B := 2305843009213693952) o (by decide) (by omega) (by omega)
  obtain ⟨b7, b8⟩ := rnd_bound (n := -n) (B := 1152921504606846976) o (by decide) (by omega) (by omega)
  obtain ⟨s1, s2⟩ := rnd_add n m o
  obtain ⟨t1, t2⟩ := rnd_turn n o
  have e5 : rndV (rnd n o) t = (rnd (rnd n o) t, 0) := if_neg (by omega)
  generalize rnd n o = a at *
  generalize rnd m o = b at *
  generalize rnd (n + m) o = c at *
  generalize rnd (-n) o = d at *
  have td : a + d = 0 ∨ a + d = 1 := by omega
  rcases td with td | td
  all_goals
    go_enter Try.func4, Try.ntmps4
    go_wp2_with fail
    refine (alive03 _).mono ?_
    skip
    rintro e w1 ⟨rfl, hb1⟩
    go_wp2_with fail
    refine (round_any n o _).mono ?_
    rw [e1]
    rintro e w2 ⟨rfl, hb2⟩
    go_wp2_with fail
    refine (round_any m o _).mono ?_
    rw [e2]
    rintro e w3 ⟨rfl, hb3⟩
    go_wp2_with fail
    refine (round_any (n + m) o _).mono ?_
    rw [e3]
    rintro e w4 ⟨rfl, hb4⟩
    go_wp2_with fail
    refine (round_any (-n) o _).mono ?_
    rw [e4]
    rintro e w5 ⟨rfl, hb5⟩
    clear e1 e2 e3 e4
    go_wp2_with fail
    (refine (round_any a t _).mono ?_; rw [e5]; rintro e w6 ⟨rfl, hb6⟩)
    have sz2 : w.heap.size ≤ w1.heap.size := (hb1).size
    have sz3 : w.heap.size ≤ w2.heap.size := ((hb1).trans (hb2.mono sz2)).size
    have sz4 : w.heap.size ≤ w3.heap.size := (((hb1).trans (hb2.mono sz2)).trans (hb3.mono sz3)).size
    have sz5 : w.heap.size ≤ w4.heap.size := ((((hb1).trans (hb2.mono sz2)).trans (hb3.mono sz3)).trans (hb4.mono sz4)).size
    have sz6 : w.heap.size ≤ w5.heap.size := (((((hb1).trans (hb2.mono sz2)).trans (hb3.mono sz3)).trans (hb4.mono sz4)).trans (hb5.mono sz5)).size
    all_goals go_wp2
    all_goals go_ret
    all_goals exact ⟨rfl, (((((hb1).trans (hb2.mono sz2)).trans (hb3.mono sz3)).trans (hb4.mono sz4)).trans (hb5.mono sz5)).trans (hb6.mono sz6)⟩

set_option maxRecDepth 100000 in
set_option maxHeartbeats 2000000 in
theorem sums_both (n m : Int) (o t : Nat) (h1 : -1152921504606846976 ≤ n) (h2 : n ≤ 1152921504606846976) (h3 : -1152921504606846976 ≤ m) (h4 : m ≤ 1152921504606846976) (ho : o + t ≤ 62) (w : World) :
    Calls Try.prog 4 #[.int .i64 n, .int .i64 m, .int .i64 o, .int .i64 t] w fun e w' => e = .returned (.bool true) ∧ Below w.heap.size w w' := by
  have e1 : rndV n o = (rnd n o, 0) := if_neg (by omega)
  have e2 : rndV m o = (rnd m o, 0) := if_neg (by omega)
  have e3 : rndV (n + m) o = (rnd (n + m) o, 0) := if_neg (by omega)
  have e4 : rndV (-n) o = (rnd (-n) o, 0) := if_neg (by omega)
  obtain ⟨b1, b2⟩ := rnd_bound (B := 1152921504606846976) o (by decide) h1 h2
  obtain ⟨b3, b4⟩ := rnd_bound (B := 1152921504606846976) o (by decide) h3 h4
  obtain ⟨b5, b6⟩ := rnd_bound (n := n + m) (B := 2305843009213693952) o (by decide) (by omega) (by omega)
  obtain ⟨b7, b8⟩ := rnd_bound (n := -n) (B := 1152921504606846976) o (by decide) (by omega) (by omega)
  obtain ⟨s1, s2⟩ := rnd_add n m o
  obtain ⟨t1, t2⟩ := rnd_turn n o
  have e5 : rndV (rnd n o) t = (rnd (rnd n o) t, 0) := if_neg (by omega)
  have e6 : rndV n ((o : Int) + t) = (rnd n (o + t), 0) := if_neg (by omega)
  have tw := rnd_twice n o t
  obtain ⟨b9, b10⟩ := rnd_bound (n := n) (B := 1152921504606846976) (o + t) (by decide) (by omega) (by omega)
  have xy : rnd (rnd n o) t - rnd n (o + t) = 0 ∨ rnd (rnd n o) t - rnd n (o + t) = 1 := by omega
  clear tw
  generalize rnd n o = a at *
  generalize rnd m o = b at *
  generalize rnd (n + m) o = c at *
  generalize rnd (-n) o = d at *
  generalize rnd a t = x at *
  generalize rnd n (o + t) = y at *
  have td : a + d = 0 ∨ a + d = 1 := by omega
  rcases td with td | td
  all_goals
    go_enter Try.func4, Try.ntmps4
    go_wp2_with fail
    refine (alive03 _).mono ?_
    skip
    rintro e w1 ⟨rfl, hb1⟩
    go_wp2_with fail
    refine (round_any n o _).mono ?_
    rw [e1]
    rintro e w2 ⟨rfl, hb2⟩
    go_wp2_with fail
    refine (round_any m o _).mono ?_
    rw [e2]
    rintro e w3 ⟨rfl, hb3⟩
    go_wp2_with fail
    refine (round_any (n + m) o _).mono ?_
    rw [e3]
    rintro e w4 ⟨rfl, hb4⟩
    go_wp2_with fail
    refine (round_any (-n) o _).mono ?_
    rw [e4]
    rintro e w5 ⟨rfl, hb5⟩
    clear e1 e2 e3 e4
    go_wp2_with fail
    (refine (round_any a t _).mono ?_; rw [e5]; rintro e w6 ⟨rfl, hb6⟩)
    go_wp2_with fail
    (refine (round_any n ((o : Int) + t) _).mono ?_; rw [e6]; rintro e w7 ⟨rfl, hb7⟩)
    have sz2 : w.heap.size ≤ w1.heap.size := (hb1).size
    have sz3 : w.heap.size ≤ w2.heap.size := ((hb1).trans (hb2.mono sz2)).size
    have sz4 : w.heap.size ≤ w3.heap.size := (((hb1).trans (hb2.mono sz2)).trans (hb3.mono sz3)).size
    have sz5 : w.heap.size ≤ w4.heap.size := ((((hb1).trans (hb2.mono sz2)).trans (hb3.mono sz3)).trans (hb4.mono sz4)).size
    have sz6 : w.heap.size ≤ w5.heap.size := (((((hb1).trans (hb2.mono sz2)).trans (hb3.mono sz3)).trans (hb4.mono sz4)).trans (hb5.mono sz5)).size
    have sz7 : w.heap.size ≤ w6.heap.size := ((((((hb1).trans (hb2.mono sz2)).trans (hb3.mono sz3)).trans (hb4.mono sz4)).trans (hb5.mono sz5)).trans (hb6.mono sz6)).size
    clear e5 e6
    all_goals go_wp2
    all_goals go_ret
    all_goals exact ⟨ret_bool (by first | rfl | (simp; omega)), ((((((hb1).trans (hb2.mono sz2)).trans (hb3.mono sz3)).trans (hb4.mono sz4)).trans (hb5.mono sz5)).trans (hb6.mono sz6)).trans (hb7.mono sz7)⟩

theorem sums_any (n m one two : Int) (w : World) :
    Calls Try.prog 4 #[.int .i64 n, .int .i64 m, .int .i64 one, .int .i64 two] w fun e w' => e = .returned (.bool true) ∧ Below w.heap.size w w' := by
  by_cases h : 1152921504606846976 < n ∨ n < -1152921504606846976 ∨ 1152921504606846976 < m ∨ m < -1152921504606846976
  · exact sums_far n m one two h w
  · by_cases h1 : one < 0 ∨ 62 < one
    · exact sums_one n m one two (by omega) (by omega) (by omega) (by omega) h1 w
    · obtain ⟨o, rfl⟩ : ∃ B : Nat, one = B := ⟨one.toNat, by omega⟩
      by_cases h2 : two < 0 ∨ 62 < two
      · exact sums_two n m two o (by omega) (by omega) (by omega) (by omega) (by omega) h2 w
      · obtain ⟨t, rfl⟩ : ∃ B : Nat, two = B := ⟨two.toNat, by omega⟩
        by_cases h3 : 62 < o + t
        · exact sums_over n m o t (by omega) (by omega) (by omega) (by omega) (by omega) (by omega) h3 w
        · exact sums_both n m o t (by omega) (by omega) (by omega) (by omega) (by omega) w
end Go.Proofs.Ytfjckgdmicgkmaa
