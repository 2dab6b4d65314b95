/- reedpiperef07: what each call answers. -/
import Derived.Test.YtdagcihkdndonaaQuantAll
import Derived.Test.YtdagcihkdndonaaPowerFour
import Derived.Test.YtdagcihkdndonaaDown
import Derived.Test.YtdagcihkdndonaaRefThird
set_option linter.unusedVariables false
namespace Go.Proofs.Ytdagcihkdndonaa
open Go.ChangeShapes Go.WideShapes Go.ChangeAt Go.RowKit

theorem refpower_ok (q : Nat) (h : q ≤ 8191) (w : World) :
    Calls Try.prog 21 #[.int .i64 q] w fun e w' => e = .returned (.int .i64 (powN q)) ∧ w = w' := by
  have hc := cb_le_82567 q h
  have hp := powN_le q h
  have e1 : ((q : Int) * cbN (q * 68719476736)) = ((powN q : Nat) : Int) := by unfold powN; simp
  have C := fun W => refthird_ok (q * 68719476736) (by omega) W
  have e2 : ((q * 68719476736 : Nat) : Int) = (q : Int) * 68719476736 := by simp
  rw [e2] at C
  generalize cbN (q * 68719476736) = c at *
  generalize powN q = p at *
  have HC := Lib.hid C
  have q0 : 0 ≤ (q : Int) * c := by rw [e1]; omega
  have q1 : (q : Int) * c ≤ 676306297 := by rw [e1]; omega
  have H1 := Lib.hid e1
  clear C e1 e2
  go_enter Try.func21, Try.ntmps21
  go_wp2_with fail
  refine (HC.out _).mono ?_
  rintro e w1 ⟨rfl, rfl⟩
  go_wp2
  go_ret
  exact ⟨ret_int H1.out, rfl⟩

theorem refquarter_ok (n : Nat) (h : n < 4) (w : World) :
    Calls Try.prog 29 #[.int .i64 n] w fun e w' => e = .returned (.int .i64 (qrt n)) ∧ w = w' := by
  rcases (show n = 0 ∨ n = 1 ∨ n = 2 ∨ n = 3 by omega) with rfl | rfl | rfl | rfl
  all_goals
    go_enter Try.func29, Try.ntmps29
    go_wp2
    go_ret
    exact ⟨rfl, rfl⟩

set_option maxHeartbeats 1000000 in
theorem refvalue_pos (q s : Nat) (h : q ≤ 8191) (hs : s ≤ 255) (w : World) :
    Calls Try.prog 22 #[.int .i64 q, .int .i64 s] w fun e w' => e = .returned (.int .i64 (lineN q s)) ∧ w = w' := by
  obtain ⟨p0, p1⟩ := prod_le q (s % 4) h
  obtain ⟨r0, r1⟩ := raw_range q s h
  have hr : Hid (rnd ((powN q : Int) * qrt (s % 4)) (61 - s / 4) = rawL q s) := rfl
  have hl : Hid (lineN q s = min (rawL q s) 268435455) := rfl
  have F1 := Lib.hid (fun W => refpower_ok q h W)
  have F2 := fun W => refquarter_ok (s % 4) (by omega) W
  have em : ((s % 4 : Nat) : Int) = (s : Int) % 4 := by simp
  rw [em] at F2
  have G2 := Lib.hid F2
  clear F2 em
  generalize lineN q s = L at *
  generalize rawL q s = R at *
  generalize qrt (s % 4) = k at *
  generalize (powN q : Int) = p at *
  by_cases hsh : s / 4 ≤ 61
  · have F3 := Lib.hid (fun W => down_lit (p * k) (61 - (s : Int) / 4) (61 - s / 4) (by omega) (by omega) (by omega) (by omega) W)
    have hmax : (61 - (s : Int) / 4 < 0) = False := by simp; omega
    go_enter Try.func22, Try.ntmps22
    go_wp2_with fail
    refine (F1.out _).mono ?_
    rintro e w1 ⟨rfl, rfl⟩
    go_wp2_with fail
    refine (G2.out _).mono ?_
    rintro e w1 ⟨rfl, rfl⟩
    go_wp2_with fail
    refine (F3.out _).mono ?_
    rw [hr.out]
    rintro e w1 ⟨rfl, rfl⟩
    go_wp2
    all_goals go_ret
    all_goals exact ⟨ret_int (by have h2 := hl.out; omega), rfl⟩
  · have F3 := Lib.hid (fun W => down_lit (p * k) 0 (61 - s / 4) (by omega) (by omega) (by omega) (by omega) W)
    have hmax : (61 - (s : Int) / 4 < 0) = True := by simp; omega
    go_enter Try.func22, Try.ntmps22
    go_wp2_with fail
    refine (F1.out _).mono ?_
    rintro e w1 ⟨rfl, rfl⟩
    go_wp2_with fail
    refine (G2.out _).mono ?_
    rintro e w1 ⟨rfl, rfl⟩
    go_wp2_with fail
    refine (F3.out _).mono ?_
    rw [hr.out]
    rintro e w1 ⟨rfl, rfl⟩
    go_wp2
    all_goals go_ret
    all_goals exact ⟨ret_int (by have h2 := hl.out; omega), rfl⟩
theorem refvalue_neg (q s : Nat) (h0 : 1 ≤ q) (h : q ≤ 8191) (hs : s ≤ 255) (w : World) :
    Calls Try.prog 22 #[.int .i64 (-(q : Int)), .int .i64 s] w fun e w' => e = .returned (.int .i64 (-lineN q s)) ∧ w = w' := by
  obtain ⟨r0, r1⟩ := lineN_range q s h
  have F := Lib.hid (fun W => refvalue_pos q s h hs W)
  generalize lineN q s = L at *
  go_enter Try.func22, Try.ntmps22
  go_wp2_with (go_at_call 22; refine (F.out _).mono ?_; rintro e w1 ⟨rfl, rfl⟩)
  go_ret
  exact ⟨rfl, rfl⟩
theorem refvalue_ok (q : Int) (s : Nat) (h0 : -8191 ≤ q) (h1 : q ≤ 8191) (hs : s ≤ 255) (w : World) :
    Calls Try.prog 22 #[.int .i64 q, .int .i64 s] w fun e w' => e = .returned (.int .i64 (lineL q s)) ∧ w = w' := by
  by_cases h : 0 ≤ q
  · obtain ⟨n, rfl⟩ : ∃ n : Nat, q = n := ⟨q.toNat, by omega⟩
    rw [lineL_nat]
    exact refvalue_pos n s (by omega) hs w
  · obtain ⟨n, rfl⟩ : ∃ n : Nat, q = -(n : Int) := ⟨(-q).toNat, by omega⟩
    rw [lineL_neg, lineL_nat]
    exact refvalue_neg n s (by omega) (by omega) hs w

set_option maxRecDepth 100000 in
set_option maxHeartbeats 1000000 in
theorem refnear_pos (x : Int) (s : Nat) (x0 : 0 ≤ x) (x1 : x ≤ 268435455) (hs : s ≤ 255) (w : World) :
    Calls Try.prog 23 #[.int .i64 x, .int .i64 s] w fun e w' => e = .returned (.int .i64 (quantN x s)) ∧ w = w' := by
  have HM := Lib.hid (halfway_mono x s)
  go_enter Try.func23, Try.ntmps23
  go_wp2
  go_loop [5, 6] (fun I J => ∃ (i j : Nat), I = .int .i64 i ∧ J = .int .i64 j ∧ i ≤ j ∧ j ≤ 8191 ∧ Hid (∀ k, k < i → halfway x s k = false) ∧ Hid (j < 8191 → halfway x s j = true)) (fun i j => (intOf j - intOf i).toNat)
  case atStart => exact ⟨0, 8191, rfl, rfl, by decide, by decide, fun _ h => by omega, fun h => by omega⟩
  case round =>
    obtain ⟨i, j, rfl, rfl, hij, hj, hlo, hhi⟩ := hrel
    by_cases hlt : i < j
    · have hm : (i + j) / 2 < 8191 := by omega
      obtain ⟨r0, r1⟩ := lineN_range ((i + j) / 2) s (by omega)
      obtain ⟨t0, t1⟩ := lineN_range ((i + j) / 2 + 1) s (by omega)
      have F1 := fun W => refvalue_pos ((i + j) / 2) s (by omega) hs W
      have F2 := fun W => refvalue_pos ((i + j) / 2 + 1) s (by omega) hs W
      have e1 : (((i + j) / 2 : Nat) : Int) = ((i : Int) + j) / 2 := by simp
      have e2 : (((i + j) / 2 + 1 : Nat) : Int) = ((i : Int) + j) / 2 + 1 := by simp
      rw [e1] at F1
      rw [e2] at F2
      have G1 := Lib.hid F1
      have G2 := Lib.hid F2
      have hg0 : Hid (halfway x s ((i + j) / 2) = decide (2 * x ≤ lineN ((i + j) / 2) s + lineN ((i + j) / 2 + 1) s)) := rfl
      clear F1 F2 e1 e2
      by_cases hc : 2 * x ≤ lineN ((i + j) / 2) s + lineN ((i + j) / 2 + 1) s
      · have hg : halfway x s ((i + j) / 2) = true := by rw [hg0.out]; exact decide_eq_true hc
        have hd := decide_eq_true hc
        have HX : Hid ((i + j) / 2 < 8191 → halfway x s ((i + j) / 2) = true) := fun _ => hg
        clear hg hg0 hc
        generalize lineN ((i + j) / 2) s = L1 at *
        generalize lineN ((i + j) / 2 + 1) s = L2 at *
        go_wp2_with fail
        refine (G1.out _).mono ?_
        rintro e w1 ⟨rfl, rfl⟩
        go_wp2_with fail
        refine (G2.out _).mono ?_
        rintro e w1 ⟨rfl, rfl⟩
        clear G1 G2
        go_wp2
        go_round
        case rel => exact ⟨i, (i + j) / 2, rfl, by go_num, by omega, by omega, hlo, HX⟩
        case measure => simp [intOf]; omega
      · have hg : halfway x s ((i + j) / 2) = false := by rw [hg0.out]; exact decide_eq_false hc
        have hd := decide_eq_false hc
        have HX : Hid (∀ k, k < (i + j) / 2 + 1 → halfway x s k = false) := fun k hk => by
          cases hk2 : halfway x s k
          · rfl
          · have := HM.out k ((i + j) / 2) (by omega) hm hk2; rw [hg] at this; cases this
        clear hg hg0 hc
        generalize lineN ((i + j) / 2) s = L1 at *
        generalize lineN ((i + j) / 2 + 1) s = L2 at *
        go_wp2_with fail
        refine (G1.out _).mono ?_
        rintro e w1 ⟨rfl, rfl⟩
        go_wp2_with fail
        refine (G2.out _).mono ?_
        rintro e w1 ⟨rfl, rfl⟩
        clear G1 G2
        go_wp2
        go_round
        case rel => exact ⟨(i + j) / 2 + 1, j, by go_num, rfl, by omega, hj, HX, hhi⟩
        case measure => simp [intOf]; omega
    · obtain rfl : i = j := by omega
      have hf : Hid (quantN x s = i) := least_eq hj hhi.out hlo.out
      go_wp2
      go_ret
      exact ⟨ret_int (by rw [hf.out]), rfl⟩
theorem refnear_ok (x : Int) (s : Nat) (x0 : -268435455 ≤ x) (x1 : x ≤ 268435455) (hs : s ≤ 255) (w : World) :
    Calls Try.prog 23 #[.int .i64 x, .int .i64 s] w fun e w' => e = .returned (.int .i64 (quantL x s)) ∧ w = w' := by
  by_cases h : x < 0
  · have hq := quantN_le (-x) s
    have F := Lib.hid (fun W => refnear_pos (-x) s (by omega) (by omega) hs W)
    have e : quantL x s = -(quantN (-x) s : Int) := by unfold quantL; rw [if_pos h]
    rw [e]
    generalize quantN (-x) s = Q at *
    clear e
    go_enter Try.func23, Try.ntmps23
    go_wp2_with (go_at_call 23; refine (F.out _).mono ?_; rintro e w1 ⟨rfl, rfl⟩)
    go_ret
    exact ⟨rfl, rfl⟩
  · have e : quantL x s = (quantN x s : Int) := by unfold quantL; rw [if_neg h]
    rw [e]
    exact refnear_pos x s (by omega) x1 hs w
end Go.Proofs.Ytdagcihkdndonaa
