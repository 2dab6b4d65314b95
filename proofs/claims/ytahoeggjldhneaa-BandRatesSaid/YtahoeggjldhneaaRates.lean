import Derived.Test.YtahoeggjldhneaaAlive
import Derived.Test.YtahoeggjldhneaaBandPlain
namespace Go.Proofs.Ytahoeggjldhneaa
open Go.ChangeShapes Go.WideShapes Go.ChangeAt Go.RowKit

set_option maxRecDepth 100000 in
set_option maxHeartbeats 2000000 in
theorem rates_le (a b : Int) (short : Bool) (hab : a < b) (w : World) :
    Calls Try.prog 4 #[.int .i64 a, .int .i64 b, .bool short] w fun e w' => e = .returned (.bool true) ∧ Below w.heap.size w w' := by
  skip
  by_cases h1 : a < 0 ∨ 11 < a
  · by_cases h2 : b < 0 ∨ 11 < b
    · go_enter Try.func4, Try.ntmps4
      go_wp2_with fail
      refine (alive_any _).mono ?_
      rintro e w1 ⟨rfl, hb1⟩
      go_wp2_with fail
      refine (offsets_bad a short h1 _).mono ?_
      rintro e w2 ⟨rfl, rfl⟩
      go_wp2_with fail
      refine (offsets_bad b short h2 _).mono ?_
      rintro e w2 ⟨rfl, rfl⟩
      go_wp2
      go_ret
      exact ⟨rfl, hb1⟩
    · go_enter Try.func4, Try.ntmps4
      go_wp2_with fail
      refine (alive_any _).mono ?_
      rintro e w1 ⟨rfl, hb1⟩
      go_wp2_with fail
      refine (offsets_bad a short h1 _).mono ?_
      rintro e w2 ⟨rfl, rfl⟩
      go_wp2_with fail
      refine (offsets_ok b short (by omega) (by omega) _).mono ?_
      rintro e w2 ⟨v, rfl, ho, hb2⟩
      clear ho
      go_wp2
      go_ret
      exact ⟨rfl, hb1.trans (hb2.mono hb1.size)⟩
  · by_cases h2 : b < 0 ∨ 11 < b
    · go_enter Try.func4, Try.ntmps4
      go_wp2_with fail
      refine (alive_any _).mono ?_
      rintro e w1 ⟨rfl, hb1⟩
      go_wp2_with fail
      refine (offsets_ok a short (by omega) (by omega) _).mono ?_
      rintro e w2 ⟨v, rfl, ho, hb2⟩
      clear ho
      go_wp2_with fail
      refine (offsets_bad b short h2 _).mono ?_
      rintro e w3 ⟨rfl, rfl⟩
      go_wp2
      go_ret
      exact ⟨rfl, hb1.trans (hb2.mono hb1.size)⟩
    · have hx := band_len a short (by omega) (by omega)
      have hy := band_len b short (by omega) (by omega)
      obtain ⟨r1, r2⟩ := band_rates a b short (by omega) (by omega) (by omega)
      have bx : (bandL a short).length ≤ 41 := Nat.le_trans hx.2.1 (by split <;> omega)
      have bY : (bandL b short).length ≤ 41 := Nat.le_trans hy.2.1 (by split <;> omega)
      have nx := hx.1
      have ny := hy.1
      have R2 := Lib.hid r2
      clear hx hy r2
      go_enter Try.func4, Try.ntmps4
      go_wp2_with fail
      refine (alive_any _).mono ?_
      rintro e w1 ⟨rfl, hb1⟩
      go_wp2_with fail
      refine (offsets_ok a short (by omega) (by omega) _).mono ?_
      rintro e w2 ⟨v, rfl, ho, hb2⟩
      obtain ⟨g, cap, rfl, hg, hlt, hc⟩ := owns_at ho (by intro e; simp [e] at nx)
      have I1 := Lib.hid (isInts_of hlt hc)
      clear ho hc
      go_wp2_with fail
      refine (offsets_ok b short (by omega) (by omega) _).mono ?_
      rintro e w3 ⟨v, rfl, ho, hb3⟩
      obtain ⟨g', cap', rfl, hg', hlt', hc⟩ := owns_at ho (by intro e; simp [e] at ny)
      have I2 := Lib.hid (isInts_of hlt' hc)
      have I3 := Lib.hid (I1.out.keep hb3)
      have hb13 := (hb1.trans (hb2.mono hb1.size)).trans (hb3.mono (Nat.le_trans hb1.size hb2.size))
      clear ho hc I1
      generalize bandL a short = l at *
      generalize bandL b short = l' at *
      go_wp2
      go_loopw [12] (fun i wr => ∃ k m : Nat, i = .int .i64 k ∧ k ≤ l.length ∧ wr = w3.drewN m) (fun i _ => l.length - (intOf i).toNat)
      case atStart => exact ⟨0, 0, rfl, Nat.zero_le _, rfl⟩
      case round =>
        obtain ⟨k, m, rfl, hkn, rfl⟩ := hrel
        by_cases hk : k < l.length
        · obtain ⟨b1, o1, he1, _, hc1⟩ := I3.out.at hk
          obtain ⟨b2, o2, he2, _, hc2⟩ := I2.out.at (show k < l'.length by omega)
          obtain ⟨rfl, rfl⟩ : g = b1 ∧ 0 = o1 := by simpa using he1
          obtain ⟨rfl, rfl⟩ : g' = b2 ∧ 0 = o2 := by simpa using he2
          have e1 := hc1 k hk
          have e2 := hc2 k (by omega)
          simp only [Nat.zero_add] at e1 e2
          have hr := R2.out k hk
          have hd : decide (l.getD k 0 < l'.getD k 0) = false := by simp only [decide_eq_false_iff_not]; omega
          have hk' : k < l'.length := by omega
          clear hc1 hc2 he1 he2
          generalize l.getD k 0 = x at *
          generalize l'.getD k 0 = y at *
          go_wp2
          go_quiet (fail)
          go_wp2
          exact ⟨⟨k + 1, _, by go_num, hk, rfl⟩, by simp [intOf]; omega⟩
        · go_wp2
          go_ret
          exact ⟨rfl, below_drewN hb13 _⟩

set_option maxRecDepth 100000 in
set_option maxHeartbeats 2000000 in
theorem rates_eq (a b : Int) (short : Bool) (hab : a = b) (w : World) :
    Calls Try.prog 4 #[.int .i64 a, .int .i64 b, .bool short] w fun e w' => e = .returned (.bool true) ∧ Below w.heap.size w w' := by
  subst hab
  by_cases h1 : a < 0 ∨ 11 < a
  · by_cases h2 : a < 0 ∨ 11 < a
    · go_enter Try.func4, Try.ntmps4
      go_wp2_with fail
      refine (alive_any _).mono ?_
      rintro e w1 ⟨rfl, hb1⟩
      go_wp2_with fail
      refine (offsets_bad a short h1 _).mono ?_
      rintro e w2 ⟨rfl, rfl⟩
      go_wp2_with fail
      refine (offsets_bad a short h2 _).mono ?_
      rintro e w2 ⟨rfl, rfl⟩
      go_wp2
      go_ret
      exact ⟨rfl, hb1⟩
    · go_enter Try.func4, Try.ntmps4
      go_wp2_with fail
      refine (alive_any _).mono ?_
      rintro e w1 ⟨rfl, hb1⟩
      go_wp2_with fail
      refine (offsets_bad a short h1 _).mono ?_
      rintro e w2 ⟨rfl, rfl⟩
      go_wp2_with fail
      refine (offsets_ok a short (by omega) (by omega) _).mono ?_
      rintro e w2 ⟨v, rfl, ho, hb2⟩
      clear ho
      go_wp2
      go_ret
      exact ⟨rfl, hb1.trans (hb2.mono hb1.size)⟩
  · by_cases h2 : a < 0 ∨ 11 < a
    · go_enter Try.func4, Try.ntmps4
      go_wp2_with fail
      refine (alive_any _).mono ?_
      rintro e w1 ⟨rfl, hb1⟩
      go_wp2_with fail
      refine (offsets_ok a short (by omega) (by omega) _).mono ?_
      rintro e w2 ⟨v, rfl, ho, hb2⟩
      clear ho
      go_wp2_with fail
      refine (offsets_bad a short h2 _).mono ?_
      rintro e w3 ⟨rfl, rfl⟩
      go_wp2
      go_ret
      exact ⟨rfl, hb1.trans (hb2.mono hb1.size)⟩
    · have hx := band_len a short (by omega) (by omega)
      have hy := band_len a short (by omega) (by omega)
      obtain ⟨r1, r2⟩ := band_rates a a short (by omega) (by omega) (by omega)
      have bx : (bandL a short).length ≤ 41 := Nat.le_trans hx.2.1 (by split <;> omega)
      have bY : (bandL a short).length ≤ 41 := Nat.le_trans hy.2.1 (by split <;> omega)
      have nx := hx.1
      have ny := hy.1
      have R2 := Lib.hid r2
      clear hx hy r2
      go_enter Try.func4, Try.ntmps4
      go_wp2_with fail
      refine (alive_any _).mono ?_
      rintro e w1 ⟨rfl, hb1⟩
      go_wp2_with fail
      refine (offsets_ok a short (by omega) (by omega) _).mono ?_
      rintro e w2 ⟨v, rfl, ho, hb2⟩
      obtain ⟨g, cap, rfl, hg, hlt, hc⟩ := owns_at ho (by intro e; simp [e] at nx)
      have I1 := Lib.hid (isInts_of hlt hc)
      clear ho hc
      go_wp2_with fail
      refine (offsets_ok a short (by omega) (by omega) _).mono ?_
      rintro e w3 ⟨v, rfl, ho, hb3⟩
      obtain ⟨g', cap', rfl, hg', hlt', hc⟩ := owns_at ho (by intro e; simp [e] at ny)
      have I2 := Lib.hid (isInts_of hlt' hc)
      have I3 := Lib.hid (I1.out.keep hb3)
      have hb13 := (hb1.trans (hb2.mono hb1.size)).trans (hb3.mono (Nat.le_trans hb1.size hb2.size))
      clear ho hc I1
      generalize bandL a short = l at *
      skip
      go_wp2
      go_loopw [12] (fun i wr => ∃ k m : Nat, i = .int .i64 k ∧ k ≤ l.length ∧ wr = w3.drewN m) (fun i _ => l.length - (intOf i).toNat)
      case atStart => exact ⟨0, 0, rfl, Nat.zero_le _, rfl⟩
      case round =>
        obtain ⟨k, m, rfl, hkn, rfl⟩ := hrel
        by_cases hk : k < l.length
        · obtain ⟨b1, o1, he1, _, hc1⟩ := I3.out.at hk
          obtain ⟨b2, o2, he2, _, hc2⟩ := I2.out.at (show k < l.length by omega)
          obtain ⟨rfl, rfl⟩ : g = b1 ∧ 0 = o1 := by simpa using he1
          obtain ⟨rfl, rfl⟩ : g' = b2 ∧ 0 = o2 := by simpa using he2
          have e1 := hc1 k hk
          have e2 := hc2 k (by omega)
          simp only [Nat.zero_add] at e1 e2
          have hr := R2.out k hk
          have hd : decide (l.getD k 0 < l.getD k 0) = false := by simp only [decide_eq_false_iff_not]; omega
          have hk' : k < l.length := by omega
          clear hc1 hc2 he1 he2
          generalize l.getD k 0 = x at *
          skip
          go_wp2
          go_quiet (fail)
          go_wp2
          exact ⟨⟨k + 1, _, by go_num, hk, rfl⟩, by simp [intOf]; omega⟩
        · go_wp2
          go_ret
          exact ⟨rfl, below_drewN hb13 _⟩

set_option maxRecDepth 100000 in
set_option maxHeartbeats 2000000 in
theorem rates_gt (a b : Int) (short : Bool) (hab : b < a) (w : World) :
    Calls Try.prog 4 #[.int .i64 a, .int .i64 b, .bool short] w fun e w' => e = .returned (.bool true) ∧ Below w.heap.size w w' := by
  skip
  by_cases h1 : b < 0 ∨ 11 < b
  · by_cases h2 : a < 0 ∨ 11 < a
    · go_enter Try.func4, Try.ntmps4
      go_wp2_with fail
      refine (alive_any _).mono ?_
      rintro e w1 ⟨rfl, hb1⟩
      go_wp2_with fail
      refine (offsets_bad b short h1 _).mono ?_
      rintro e w2 ⟨rfl, rfl⟩
      go_wp2_with fail
      refine (offsets_bad a short h2 _).mono ?_
      rintro e w2 ⟨rfl, rfl⟩
      go_wp2
      go_ret
      exact ⟨rfl, hb1⟩
    · go_enter Try.func4, Try.ntmps4
      go_wp2_with fail
      refine (alive_any _).mono ?_
      rintro e w1 ⟨rfl, hb1⟩
      go_wp2_with fail
      refine (offsets_bad b short h1 _).mono ?_
      rintro e w2 ⟨rfl, rfl⟩
      go_wp2_with fail
      refine (offsets_ok a short (by omega) (by omega) _).mono ?_
      rintro e w2 ⟨v, rfl, ho, hb2⟩
      clear ho
      go_wp2
      go_ret
      exact ⟨rfl, hb1.trans (hb2.mono hb1.size)⟩
  · by_cases h2 : a < 0 ∨ 11 < a
    · go_enter Try.func4, Try.ntmps4
      go_wp2_with fail
      refine (alive_any _).mono ?_
      rintro e w1 ⟨rfl, hb1⟩
      go_wp2_with fail
      refine (offsets_ok b short (by omega) (by omega) _).mono ?_
      rintro e w2 ⟨v, rfl, ho, hb2⟩
      clear ho
      go_wp2_with fail
      refine (offsets_bad a short h2 _).mono ?_
      rintro e w3 ⟨rfl, rfl⟩
      go_wp2
      go_ret
      exact ⟨rfl, hb1.trans (hb2.mono hb1.size)⟩
    · have hx := band_len b short (by omega) (by omega)
      have hy := band_len a short (by omega) (by omega)
      obtain ⟨r1, r2⟩ := band_rates b a short (by omega) (by omega) (by omega)
      have bx : (bandL b short).length ≤ 41 := Nat.le_trans hx.2.1 (by split <;> omega)
      have bY : (bandL a short).length ≤ 41 := Nat.le_trans hy.2.1 (by split <;> omega)
      have nx := hx.1
      have ny := hy.1
      have R2 := Lib.hid r2
      clear hx hy r2
      go_enter Try.func4, Try.ntmps4
      go_wp2_with fail
      refine (alive_any _).mono ?_
      rintro e w1 ⟨rfl, hb1⟩
      go_wp2_with fail
      refine (offsets_ok b short (by omega) (by omega) _).mono ?_
      rintro e w2 ⟨v, rfl, ho, hb2⟩
      obtain ⟨g, cap, rfl, hg, hlt, hc⟩ := owns_at ho (by intro e; simp [e] at nx)
      have I1 := Lib.hid (isInts_of hlt hc)
      clear ho hc
      go_wp2_with fail
      refine (offsets_ok a short (by omega) (by omega) _).mono ?_
      rintro e w3 ⟨v, rfl, ho, hb3⟩
      obtain ⟨g', cap', rfl, hg', hlt', hc⟩ := owns_at ho (by intro e; simp [e] at ny)
      have I2 := Lib.hid (isInts_of hlt' hc)
      have I3 := Lib.hid (I1.out.keep hb3)
      have hb13 := (hb1.trans (hb2.mono hb1.size)).trans (hb3.mono (Nat.le_trans hb1.size hb2.size))
      clear ho hc I1
      generalize bandL b short = l at *
      generalize bandL a short = l' at *
      go_wp2
      go_loopw [12] (fun i wr => ∃ k m : Nat, i = .int .i64 k ∧ k ≤ l.length ∧ wr = w3.drewN m) (fun i _ => l.length - (intOf i).toNat)
      case atStart => exact ⟨0, 0, rfl, Nat.zero_le _, rfl⟩
      case round =>
        obtain ⟨k, m, rfl, hkn, rfl⟩ := hrel
        by_cases hk : k < l.length
        · obtain ⟨b1, o1, he1, _, hc1⟩ := I3.out.at hk
          obtain ⟨b2, o2, he2, _, hc2⟩ := I2.out.at (show k < l'.length by omega)
          obtain ⟨rfl, rfl⟩ : g = b1 ∧ 0 = o1 := by simpa using he1
          obtain ⟨rfl, rfl⟩ : g' = b2 ∧ 0 = o2 := by simpa using he2
          have e1 := hc1 k hk
          have e2 := hc2 k (by omega)
          simp only [Nat.zero_add] at e1 e2
          have hr := R2.out k hk
          have hd : decide (l.getD k 0 < l'.getD k 0) = false := by simp only [decide_eq_false_iff_not]; omega
          have hk' : k < l'.length := by omega
          clear hc1 hc2 he1 he2
          generalize l.getD k 0 = x at *
          generalize l'.getD k 0 = y at *
          go_wp2
          go_quiet (fail)
          go_wp2
          exact ⟨⟨k + 1, _, by go_num, hk, rfl⟩, by simp [intOf]; omega⟩
        · go_wp2
          go_ret
          exact ⟨rfl, below_drewN hb13 _⟩

theorem rates_any (a b : Int) (short : Bool) (w : World) :
    Calls Try.prog 4 #[.int .i64 a, .int .i64 b, .bool short] w fun e w' => e = .returned (.bool true) ∧ Below w.heap.size w w' := by
  rcases Int.lt_trichotomy a b with h | h | h
  · exact rates_le a b short h w
  · exact rates_eq a b short h w
  · exact rates_gt a b short h w
end Go.Proofs.Ytahoeggjldhneaa
