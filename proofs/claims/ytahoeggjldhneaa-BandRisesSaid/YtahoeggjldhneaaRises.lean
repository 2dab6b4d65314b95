import Derived.Test.YtahoeggjldhneaaAlive
import Derived.Test.YtahoeggjldhneaaBandPlain
namespace Go.Proofs.Ytahoeggjldhneaa
open Go.ChangeShapes Go.WideShapes Go.ChangeAt Go.RowKit

set_option maxRecDepth 100000 in
set_option maxHeartbeats 2000000 in
theorem rises_bad (rate : Int) (short : Bool) (h : rate < 0 ∨ 11 < rate) (w : World) :
    Calls Try.prog 3 #[.int .i64 rate, .bool short] w fun e w' => e = .returned (.bool true) ∧ Below w.heap.size w w' := by
  rcases h with h | h
  all_goals
    go_enter Try.func3, Try.ntmps3
    go_wp2_with fail
    refine (alive_any _).mono ?_
    rintro e w1 ⟨rfl, hb1⟩
    go_wp2_with fail
    refine (offsets_bad rate short (by omega) _).mono ?_
    rintro e w2 ⟨rfl, rfl⟩
    go_wp2
    go_ret
    exact ⟨rfl, hb1⟩

set_option maxRecDepth 100000 in
set_option maxHeartbeats 2000000 in
theorem rises_l (rate : Int) (h0 : 0 ≤ rate) (h1 : rate ≤ 11) (w : World) :
    Calls Try.prog 3 #[.int .i64 rate, .bool false] w fun e w' => e = .returned (.bool true) ∧ Below w.heap.size w w' := by
  obtain ⟨k1, k2, k3, k4, k5⟩ := band_len rate false h0 h1
  have K5 := Lib.hid k5
  clear k5
  go_enter Try.func3, Try.ntmps3
  go_wp2_with fail
  refine (alive_any _).mono ?_
  rintro e w1 ⟨rfl, hb1⟩
  go_wp2_with fail
  refine (offsets_ok rate false h0 h1 _).mono ?_
  rintro e w2 ⟨v, rfl, ho, hb2⟩
  obtain ⟨g, cap, rfl, hg, hlt, hc⟩ := owns_at ho (by intro e; simp [e] at k1)
  have H := Lib.hid hc
  have hb12 := hb1.trans (hb2.mono hb1.size)
  have c0 := hc 0 (by omega)
  have c1 := hc ((bandL rate false).length - 1) (by omega)
  rw [k3] at c0
  rw [k4] at c1
  simp only [Bool.false_eq_true, if_false] at k2 c1
  generalize bandL rate false = l at *
  clear hc k3 k4 ho
  generalize hn : l.length = n at *
  have HN := Lib.hid hn
  clear hn
  go_wp2
  go_loopw [10] (fun i wr => ∃ k m : Nat, i = .int .i64 k ∧ 1 ≤ k ∧ k ≤ n ∧ wr = w2.drewN m) (fun i _ => n - (intOf i).toNat)
  case atStart => exact ⟨1, 0, rfl, Nat.le_refl _, by omega, rfl⟩
  case round =>
    obtain ⟨k, m, rfl, hk1, hkn, rfl⟩ := hrel
    by_cases hk : k < n
    · have hr := K5.out k hk1 hk
      simp only [risesAt, HN.out, Bool.and_eq_true, Bool.or_eq_true, decide_eq_true_eq] at hr
      obtain ⟨⟨⟨⟨r1, r2⟩, r3⟩, r4⟩, r5⟩ := hr
      have e0 := H.out k hk
      have e1 := H.out (k - 1) (by omega)
      have e2 := H.out (k - 2) (by omega)
      clear c0 c1
      by_cases h2 : 1 < k ∧ k < n - 1
      · have r6 := (r5.resolve_left (by omega))
        clear r5
        have hd1 : decide ((1 : Int) < k) = true := by simp; omega
        have hd2 : decide ((k : Int) < n - 1) = true := by simp; omega
        generalize l.getD k 0 = x at *
        generalize l.getD (k - 1) 0 = y at *
        generalize l.getD (k - 2) 0 = z at *
        have hd0 : decide (x ≤ y) = false := by simp; omega
        have hd3 : decide (x - y < y - z) = false := by simp; omega
        have q1 : IntKind.i64.wrap ((k : Int) - 1) = (k : Int) - 1 := IntWalk.i64_in _ (by omega)
        have q2 : ((k : Int) - 1).toNat = k - 1 := by omega
        have q3 : (0 : Int) ≤ (k : Int) - 1 := by omega
        have q4 : (k : Int) - 1 < n := by omega
        have q5 : IntKind.i64.wrap ((k : Int) - 2) = (k : Int) - 2 := IntWalk.i64_in _ (by omega)
        have q6 : ((k : Int) - 2).toNat = k - 2 := by omega
        have q7 : (0 : Int) ≤ (k : Int) - 2 := by omega
        have q8 : (k : Int) - 2 < n := by omega
        have q9 : IntKind.i64.wrap (x - y) = x - y := IntWalk.i64_in _ (by omega)
        have q10 : IntKind.i64.wrap (y - z) = y - z := IntWalk.i64_in _ (by omega)
        have q11 : IntKind.i64.wrap ((n : Int) - 1) = (n : Int) - 1 := IntWalk.i64_in _ (by omega)
        go_wp2
        go_quiet (fail)
        go_wp2
        go_quiet (fail)
        go_wp2
        exact ⟨⟨k + 1, _, by go_num, by omega, by omega, rfl⟩, by simp [intOf]; omega⟩
      · clear r5
        generalize l.getD k 0 = x at *
        generalize l.getD (k - 1) 0 = y at *
        have hd0 : decide (x ≤ y) = false := by simp; omega
        have q1 : IntKind.i64.wrap ((k : Int) - 1) = (k : Int) - 1 := IntWalk.i64_in _ (by omega)
        have q2 : ((k : Int) - 1).toNat = k - 1 := by omega
        have q3 : (0 : Int) ≤ (k : Int) - 1 := by omega
        have q4 : (k : Int) - 1 < n := by omega
        have q11 : IntKind.i64.wrap ((n : Int) - 1) = (n : Int) - 1 := IntWalk.i64_in _ (by omega)
        by_cases h1 : 1 < k
        · have hd1 : decide ((1 : Int) < k) = true := by simp; omega
          have hd2 : decide ((k : Int) < n - 1) = false := by simp; omega
          clear h2
          go_wp2
          go_quiet (fail)
          go_wp2
          go_quiet (fail)
          go_wp2
          exact ⟨⟨k + 1, _, by go_num, by omega, by omega, rfl⟩, by simp [intOf]; omega⟩
        · have hd1 : decide ((1 : Int) < k) = false := by simp; omega
          clear h2
          go_wp2
          go_quiet (fail)
          go_wp2
          go_quiet (fail)
          go_wp2
          exact ⟨⟨k + 1, _, by go_num, by omega, by omega, rfl⟩, by simp [intOf]; omega⟩
    · go_wp2
      go_ret
      exact ⟨rfl, below_drewN hb12 _⟩
set_option maxRecDepth 100000 in
set_option maxHeartbeats 2000000 in
theorem rises_s (rate : Int) (h0 : 0 ≤ rate) (h1 : rate ≤ 11) (w : World) :
    Calls Try.prog 3 #[.int .i64 rate, .bool true] w fun e w' => e = .returned (.bool true) ∧ Below w.heap.size w w' := by
  obtain ⟨k1, k2, k3, k4, k5⟩ := band_len rate true h0 h1
  have K5 := Lib.hid k5
  clear k5
  go_enter Try.func3, Try.ntmps3
  go_wp2_with fail
  refine (alive_any _).mono ?_
  rintro e w1 ⟨rfl, hb1⟩
  go_wp2_with fail
  refine (offsets_ok rate true h0 h1 _).mono ?_
  rintro e w2 ⟨v, rfl, ho, hb2⟩
  obtain ⟨g, cap, rfl, hg, hlt, hc⟩ := owns_at ho (by intro e; simp [e] at k1)
  have H := Lib.hid hc
  have hb12 := hb1.trans (hb2.mono hb1.size)
  have c0 := hc 0 (by omega)
  have c1 := hc ((bandL rate true).length - 1) (by omega)
  rw [k3] at c0
  rw [k4] at c1
  simp only [if_true] at k2 c1
  generalize bandL rate true = l at *
  clear hc k3 k4 ho
  generalize hn : l.length = n at *
  have HN := Lib.hid hn
  clear hn
  go_wp2
  go_loopw [10] (fun i wr => ∃ k m : Nat, i = .int .i64 k ∧ 1 ≤ k ∧ k ≤ n ∧ wr = w2.drewN m) (fun i _ => n - (intOf i).toNat)
  case atStart => exact ⟨1, 0, rfl, Nat.le_refl _, by omega, rfl⟩
  case round =>
    obtain ⟨k, m, rfl, hk1, hkn, rfl⟩ := hrel
    by_cases hk : k < n
    · have hr := K5.out k hk1 hk
      simp only [risesAt, HN.out, Bool.and_eq_true, Bool.or_eq_true, decide_eq_true_eq] at hr
      obtain ⟨⟨⟨⟨r1, r2⟩, r3⟩, r4⟩, r5⟩ := hr
      have e0 := H.out k hk
      have e1 := H.out (k - 1) (by omega)
      have e2 := H.out (k - 2) (by omega)
      clear c0 c1
      by_cases h2 : 1 < k ∧ k < n - 1
      · have r6 := (r5.resolve_left (by omega))
        clear r5
        have hd1 : decide ((1 : Int) < k) = true := by simp; omega
        have hd2 : decide ((k : Int) < n - 1) = true := by simp; omega
        generalize l.getD k 0 = x at *
        generalize l.getD (k - 1) 0 = y at *
        generalize l.getD (k - 2) 0 = z at *
        have hd0 : decide (x ≤ y) = false := by simp; omega
        have hd3 : decide (x - y < y - z) = false := by simp; omega
        have q1 : IntKind.i64.wrap ((k : Int) - 1) = (k : Int) - 1 := IntWalk.i64_in _ (by omega)
        have q2 : ((k : Int) - 1).toNat = k - 1 := by omega
        have q3 : (0 : Int) ≤ (k : Int) - 1 := by omega
        have q4 : (k : Int) - 1 < n := by omega
        have q5 : IntKind.i64.wrap ((k : Int) - 2) = (k : Int) - 2 := IntWalk.i64_in _ (by omega)
        have q6 : ((k : Int) - 2).toNat = k - 2 := by omega
        have q7 : (0 : Int) ≤ (k : Int) - 2 := by omega
        have q8 : (k : Int) - 2 < n := by omega
        have q9 : IntKind.i64.wrap (x - y) = x - y := IntWalk.i64_in _ (by omega)
        have q10 : IntKind.i64.wrap (y - z) = y - z := IntWalk.i64_in _ (by omega)
        have q11 : IntKind.i64.wrap ((n : Int) - 1) = (n : Int) - 1 := IntWalk.i64_in _ (by omega)
        go_wp2
        go_quiet (fail)
        go_wp2
        go_quiet (fail)
        go_wp2
        exact ⟨⟨k + 1, _, by go_num, by omega, by omega, rfl⟩, by simp [intOf]; omega⟩
      · clear r5
        generalize l.getD k 0 = x at *
        generalize l.getD (k - 1) 0 = y at *
        have hd0 : decide (x ≤ y) = false := by simp; omega
        have q1 : IntKind.i64.wrap ((k : Int) - 1) = (k : Int) - 1 := IntWalk.i64_in _ (by omega)
        have q2 : ((k : Int) - 1).toNat = k - 1 := by omega
        have q3 : (0 : Int) ≤ (k : Int) - 1 := by omega
        have q4 : (k : Int) - 1 < n := by omega
        have q11 : IntKind.i64.wrap ((n : Int) - 1) = (n : Int) - 1 := IntWalk.i64_in _ (by omega)
        by_cases h1 : 1 < k
        · have hd1 : decide ((1 : Int) < k) = true := by simp; omega
          have hd2 : decide ((k : Int) < n - 1) = false := by simp; omega
          clear h2
          go_wp2
          go_quiet (fail)
          go_wp2
          go_quiet (fail)
          go_wp2
          exact ⟨⟨k + 1, _, by go_num, by omega, by omega, rfl⟩, by simp [intOf]; omega⟩
        · have hd1 : decide ((1 : Int) < k) = false := by simp; omega
          clear h2
          go_wp2
          go_quiet (fail)
          go_wp2
          go_quiet (fail)
          go_wp2
          exact ⟨⟨k + 1, _, by go_num, by omega, by omega, rfl⟩, by simp [intOf]; omega⟩
    · go_wp2
      go_ret
      exact ⟨rfl, below_drewN hb12 _⟩

theorem rises_any (rate : Int) (short : Bool) (w : World) :
    Calls Try.prog 3 #[.int .i64 rate, .bool short] w fun e w' => e = .returned (.bool true) ∧ Below w.heap.size w w' := by
  by_cases h : 0 ≤ rate ∧ rate ≤ 11
  · cases short
    · exact rises_l rate h.1 h.2 w
    · exact rises_s rate h.1 h.2 w
  · exact rises_bad rate short (by omega) w
end Go.Proofs.Ytahoeggjldhneaa
