/- reedpiperef07: powers and lines: what each call answers. -/
import Derived.Test.YtppfbfiigfjncaaPower
import Derived.Test.YtppfbfiigfjncaaDown
import Derived.Test.YtppfbfiigfjncaaRefThird
set_option linter.unusedVariables false
namespace Go.Proofs.Ytppfbfiigfjncaa
open Go.ChangeShapes Go.WideShapes Go.ChangeAt Go.RowKit

theorem refpower_ok (q : Nat) (h : q ≤ 8191) (w : World) :
    Calls Try.prog 49 #[.int .i64 q] w fun e w' => e = .returned (.int .i64 (powN q)) ∧ w = w' := by
  have hc := cb_le_82567 q h
  have hp := powN_le q h
  have e1 : ((q : Int) * cbN (q * 68719476736)) = ((powN q : Nat) : Int) := by unfold powN; simp
  have C := fun W => refthird_ok (q * 68719476736) (by omega) W
  have e2 : ((q * 68719476736 : Nat) : Int) = (q : Int) * 68719476736 := by simp
  rw [e2] at C
  generalize cbN (q * 68719476736) = c at *
  generalize powN q = p at *
  have HC := Lib.hid C
  have q0 : 0 ≤ (q : Int) * c := by rw [e1]; omega
  have q1 : (q : Int) * c ≤ 676306297 := by rw [e1]; omega
  have H1 := Lib.hid e1
  clear C e1 e2
  go_enter Try.func49, Try.ntmps49
  go_wp2_with fail
  refine (HC.out _).mono ?_
  rintro e w1 ⟨rfl, rfl⟩
  go_wp2
  go_ret
  exact ⟨ret_int H1.out, rfl⟩

theorem refquarter_ok (n : Nat) (h : n < 4) (w : World) :
    Calls Try.prog 50 #[.int .i64 n] w fun e w' => e = .returned (.int .i64 (qrt n)) ∧ w = w' := by
  rcases (show n = 0 ∨ n = 1 ∨ n = 2 ∨ n = 3 by omega) with rfl | rfl | rfl | rfl
  all_goals
    go_enter Try.func50, Try.ntmps50
    go_wp2
    go_ret
    exact ⟨rfl, rfl⟩

set_option maxHeartbeats 1000000 in
theorem refvalue_pos (q s : Nat) (h : q ≤ 8191) (hs : s ≤ 255) (w : World) :
    Calls Try.prog 29 #[.int .i64 q, .int .i64 s] w fun e w' => e = .returned (.int .i64 (lineN q s)) ∧ w = w' := by
  obtain ⟨p0, p1⟩ := prod_le q (s % 4) h
  obtain ⟨r0, r1⟩ := raw_range q s h
  have hr : Hid (rnd ((powN q : Int) * qrt (s % 4)) (61 - s / 4) = rawL q s) := rfl
  have hl : Hid (lineN q s = min (rawL q s) 268435455) := rfl
  have F1 := Lib.hid (fun W => refpower_ok q h W)
  have F2 := fun W => refquarter_ok (s % 4) (by omega) W
  have em : ((s % 4 : Nat) : Int) = (s : Int) % 4 := by simp
  rw [em] at F2
  have G2 := Lib.hid F2
  clear F2 em
  generalize lineN q s = L at *
  generalize rawL q s = R at *
  generalize qrt (s % 4) = k at *
  generalize (powN q : Int) = p at *
  by_cases hsh : s / 4 ≤ 61
  · have F3 := Lib.hid (fun W => down_lit (p * k) (61 - (s : Int) / 4) (61 - s / 4) (by omega) (by omega) (by omega) (by omega) W)
    have hmax : (61 - (s : Int) / 4 < 0) = False := by simp; omega
    go_enter Try.func29, Try.ntmps29
    go_wp2_with fail
    refine (F1.out _).mono ?_
    rintro e w1 ⟨rfl, rfl⟩
    go_wp2_with fail
    refine (G2.out _).mono ?_
    rintro e w1 ⟨rfl, rfl⟩
    go_wp2_with fail
    refine (F3.out _).mono ?_
    rw [hr.out]
    rintro e w1 ⟨rfl, rfl⟩
    go_wp2
    all_goals go_ret
    all_goals exact ⟨ret_int (by have h2 := hl.out; omega), rfl⟩
  · have F3 := Lib.hid (fun W => down_lit (p * k) 0 (61 - s / 4) (by omega) (by omega) (by omega) (by omega) W)
    have hmax : (61 - (s : Int) / 4 < 0) = True := by simp; omega
    go_enter Try.func29, Try.ntmps29
    go_wp2_with fail
    refine (F1.out _).mono ?_
    rintro e w1 ⟨rfl, rfl⟩
    go_wp2_with fail
    refine (G2.out _).mono ?_
    rintro e w1 ⟨rfl, rfl⟩
    go_wp2_with fail
    refine (F3.out _).mono ?_
    rw [hr.out]
    rintro e w1 ⟨rfl, rfl⟩
    go_wp2
    all_goals go_ret
    all_goals exact ⟨ret_int (by have h2 := hl.out; omega), rfl⟩
theorem refvalue_neg (q s : Nat) (h0 : 1 ≤ q) (h : q ≤ 8191) (hs : s ≤ 255) (w : World) :
    Calls Try.prog 29 #[.int .i64 (-(q : Int)), .int .i64 s] w fun e w' => e = .returned (.int .i64 (-lineN q s)) ∧ w = w' := by
  obtain ⟨r0, r1⟩ := lineN_range q s h
  have F := Lib.hid (fun W => refvalue_pos q s h hs W)
  generalize lineN q s = L at *
  go_enter Try.func29, Try.ntmps29
  go_wp2_with (go_at_call 29; refine (F.out _).mono ?_; rintro e w1 ⟨rfl, rfl⟩)
  go_ret
  exact ⟨rfl, rfl⟩
theorem refvalue_ok (q : Int) (s : Nat) (h0 : -8191 ≤ q) (h1 : q ≤ 8191) (hs : s ≤ 255) (w : World) :
    Calls Try.prog 29 #[.int .i64 q, .int .i64 s] w fun e w' => e = .returned (.int .i64 (lineL q s)) ∧ w = w' := by
  by_cases h : 0 ≤ q
  · obtain ⟨n, rfl⟩ : ∃ n : Nat, q = n := ⟨q.toNat, by omega⟩
    rw [lineL_nat]
    exact refvalue_pos n s (by omega) hs w
  · obtain ⟨n, rfl⟩ : ∃ n : Nat, q = -(n : Int) := ⟨(-q).toNat, by omega⟩
    rw [lineL_neg, lineL_nat]
    exact refvalue_neg n s (by omega) (by omega) hs w

end Go.Proofs.Ytppfbfiigfjncaa
