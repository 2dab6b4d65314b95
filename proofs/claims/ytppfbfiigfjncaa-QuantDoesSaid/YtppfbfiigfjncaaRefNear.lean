/- reedpiperef07: what each call answers. -/
import Derived.Test.YtppfbfiigfjncaaQuantAll

import Derived.Test.YtppfbfiigfjncaaRefValue
set_option linter.unusedVariables false
namespace Go.Proofs.Ytppfbfiigfjncaa
open Go.ChangeShapes Go.WideShapes Go.ChangeAt Go.RowKit

set_option maxRecDepth 100000 in
set_option maxHeartbeats 1000000 in
theorem refnear_pos (x : Int) (s : Nat) (x0 : 0 ≤ x) (x1 : x ≤ 268435455) (hs : s ≤ 255) (w : World) :
    Calls Try.prog 30 #[.int .i64 x, .int .i64 s] w fun e w' => e = .returned (.int .i64 (quantN x s)) ∧ w = w' := by
  have HM := Lib.hid (halfway_mono x s)
  go_enter Try.func30, Try.ntmps30
  go_wp2
  go_loop [5, 6] (fun I J => ∃ (i j : Nat), I = .int .i64 i ∧ J = .int .i64 j ∧ i ≤ j ∧ j ≤ 8191 ∧ Hid (∀ k, k < i → halfway x s k = false) ∧ Hid (j < 8191 → halfway x s j = true)) (fun i j => (intOf j - intOf i).toNat)
  case atStart => exact ⟨0, 8191, rfl, rfl, by decide, by decide, fun _ h => by omega, fun h => by omega⟩
  case round =>
    obtain ⟨i, j, rfl, rfl, hij, hj, hlo, hhi⟩ := hrel
    by_cases hlt : i < j
    · have hm : (i + j) / 2 < 8191 := by omega
      obtain ⟨r0, r1⟩ := lineN_range ((i + j) / 2) s (by omega)
      obtain ⟨t0, t1⟩ := lineN_range ((i + j) / 2 + 1) s (by omega)
      have F1 := fun W => refvalue_pos ((i + j) / 2) s (by omega) hs W
      have F2 := fun W => refvalue_pos ((i + j) / 2 + 1) s (by omega) hs W
      have e1 : (((i + j) / 2 : Nat) : Int) = ((i : Int) + j) / 2 := by simp
      have e2 : (((i + j) / 2 + 1 : Nat) : Int) = ((i : Int) + j) / 2 + 1 := by simp
      rw [e1] at F1
      rw [e2] at F2
      have G1 := Lib.hid F1
      have G2 := Lib.hid F2
      have hg0 : Hid (halfway x s ((i + j) / 2) = decide (2 * x ≤ lineN ((i + j) / 2) s + lineN ((i + j) / 2 + 1) s)) := rfl
      clear F1 F2 e1 e2
      by_cases hc : 2 * x ≤ lineN ((i + j) / 2) s + lineN ((i + j) / 2 + 1) s
      · have hg : halfway x s ((i + j) / 2) = true := by rw [hg0.out]; exact decide_eq_true hc
        have hd := decide_eq_true hc
        have HX : Hid ((i + j) / 2 < 8191 → halfway x s ((i + j) / 2) = true) := fun _ => hg
        clear hg hg0 hc
        generalize lineN ((i + j) / 2) s = L1 at *
        generalize lineN ((i + j) / 2 + 1) s = L2 at *
        go_wp2_with fail
        refine (G1.out _).mono ?_
        rintro e w1 ⟨rfl, rfl⟩
        go_wp2_with fail
        refine (G2.out _).mono ?_
        rintro e w1 ⟨rfl, rfl⟩
        clear G1 G2
        go_wp2
        go_round
        case rel => exact ⟨i, (i + j) / 2, rfl, by go_num, by omega, by omega, hlo, HX⟩
        case measure => simp [intOf]; omega
      · have hg : halfway x s ((i + j) / 2) = false := by rw [hg0.out]; exact decide_eq_false hc
        have hd := decide_eq_false hc
        have HX : Hid (∀ k, k < (i + j) / 2 + 1 → halfway x s k = false) := fun k hk => by
          cases hk2 : halfway x s k
          · rfl
          · have := HM.out k ((i + j) / 2) (by omega) hm hk2; rw [hg] at this; cases this
        clear hg hg0 hc
        generalize lineN ((i + j) / 2) s = L1 at *
        generalize lineN ((i + j) / 2 + 1) s = L2 at *
        go_wp2_with fail
        refine (G1.out _).mono ?_
        rintro e w1 ⟨rfl, rfl⟩
        go_wp2_with fail
        refine (G2.out _).mono ?_
        rintro e w1 ⟨rfl, rfl⟩
        clear G1 G2
        go_wp2
        go_round
        case rel => exact ⟨(i + j) / 2 + 1, j, by go_num, rfl, by omega, hj, HX, hhi⟩
        case measure => simp [intOf]; omega
    · obtain rfl : i = j := by omega
      have hf : Hid (quantN x s = i) := least_eq hj hhi.out hlo.out
      go_wp2
      go_ret
      exact ⟨ret_int (by rw [hf.out]), rfl⟩
theorem refnear_ok (x : Int) (s : Nat) (x0 : -268435455 ≤ x) (x1 : x ≤ 268435455) (hs : s ≤ 255) (w : World) :
    Calls Try.prog 30 #[.int .i64 x, .int .i64 s] w fun e w' => e = .returned (.int .i64 (quantL x s)) ∧ w = w' := by
  by_cases h : x < 0
  · have hq := quantN_le (-x) s
    have F := Lib.hid (fun W => refnear_pos (-x) s (by omega) (by omega) hs W)
    have e : quantL x s = -(quantN (-x) s : Int) := by unfold quantL; rw [if_pos h]
    rw [e]
    generalize quantN (-x) s = Q at *
    clear e
    go_enter Try.func30, Try.ntmps30
    go_wp2_with (go_at_call 30; refine (F.out _).mono ?_; rintro e w1 ⟨rfl, rfl⟩)
    go_ret
    exact ⟨rfl, rfl⟩
  · have e : quantL x s = (quantN x s : Int) := by unfold quantL; rw [if_neg h]
    rw [e]
    exact refnear_pos x s (by omega) x1 hs w
end Go.Proofs.Ytppfbfiigfjncaa
