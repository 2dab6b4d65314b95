/- reedpiperef03.Third: what each call answers. -/
import Derived.Test.YtppfbfiigfjncaaFixPlain
set_option linter.unusedVariables false
namespace Go.Proofs.Ytppfbfiigfjncaa
open Go.ChangeShapes Go.WideShapes Go.ChangeAt Go.RowKit

theorem refthird_ok (n : Nat) (hn : n ≤ 4611686018427387904) (w : World) :
    Calls Try.prog 67 #[.int .i64 n] w fun e w' => e = .returned (.int .i64 (cbN n)) ∧ w = w' := by
  go_enter Try.func67, Try.ntmps67
  go_wp2
  go_loop [3, 4] (fun r i => ∃ (rn k m : Nat), r = .int .i64 rn ∧ i = .int .i64 m ∧ m = 2 ^ k / 2 ∧ k ≤ 21 ∧ rn + 2 ^ k ≤ 2 ^ 21 ∧ Hid (rootN (fun r => decide (n < r * r * r)) k rn = cbN n)) (fun _ i => (intOf i).toNat)
  case atStart => exact ⟨0, 21, 1048576, rfl, rfl, rfl, Nat.le_refl _, by decide, Lib.hid rfl⟩
  case round =>
    obtain ⟨rn, k, m, rfl, rfl, hz, hk, hs, hroot⟩ := hrel
    by_cases hk0 : k = 0
    · subst hk0
      have hz1 : ¬ (0 : Int) < m := by omega
      clear hz hs
      go_wp2
      go_ret
      exact ⟨ret_int (by have := hroot.out; simp only [rootN] at this; omega), rfl⟩
    · obtain ⟨j, rfl⟩ : ∃ j, k = j + 1 := ⟨k - 1, by omega⟩
      have hmj : m = 2 ^ j := by rw [hz, Nat.pow_succ]; omega
      have hp : 0 < (2 : Nat) ^ j := Nat.pow_pos (by decide)
      rw [Nat.pow_succ] at hs
      have m0 : 1 ≤ m := by omega
      have m1 : rn + m ≤ 2097152 := by omega
      have q0 : (0 : Int) ≤ n / ((rn : Int) + m) := Int.ediv_nonneg (by omega) (by omega)
      have q1 : (n : Int) / ((rn : Int) + m) ≤ 4611686018427387904 := Int.le_trans (Int.ediv_le_self _ (by omega)) (by omega)
      have HJ := Lib.hid hmj
      have HS := Lib.hid hs
      have HK := Lib.hid hk
      obtain ⟨f1, f2⟩ : (0 : Int) ≤ ((rn : Int) + m) * ((rn : Int) + m) ∧ ((rn : Int) + m) * ((rn : Int) + m) ≤ 4398046511104 := by
        have e : ((rn : Int) + m) * ((rn : Int) + m) = (((rn + m) * (rn + m) : Nat) : Int) := by simp
        have := sq_le m1
        rw [e]; omega
      by_cases hg : n < (rn + m) * (rn + m) * (rn + m)
      · have hd : decide (((rn : Int) + m) * ((rn : Int) + m) ≤ n / ((rn : Int) + m)) = false := by
          refine decide_eq_false (fun h => ?_)
          have h' : (((rn + m) * (rn + m) : Nat) : Int) ≤ ((n / (rn + m) : Nat) : Int) := by simpa using h
          have := (Nat.le_div_iff_mul_le (by omega)).1 (Int.ofNat_le.1 h')
          omega
        have HR : Hid (rootN (fun r => decide (n < r * r * r)) j rn = cbN n) := by
          have := hroot.out; rw [rootN, ← hmj, decide_eq_true hg] at this; exact this
        clear hroot hz hk0 hmj hp hs hk hg
        go_wp2
        go_round
        case rel => exact ⟨rn, j, m / 2, rfl, by go_num, by rw [HJ.out], by have := HK.out; omega, by have := HS.out; omega, HR⟩
        case measure => simp [intOf]; omega
      · have hd : decide (((rn : Int) + m) * ((rn : Int) + m) ≤ n / ((rn : Int) + m)) = true := by
          refine decide_eq_true ?_
          have := (Nat.le_div_iff_mul_le (show 0 < rn + m by omega)).2 (show (rn + m) * (rn + m) * (rn + m) ≤ n by omega)
          have h' : (((rn + m) * (rn + m) : Nat) : Int) ≤ ((n / (rn + m) : Nat) : Int) := Int.ofNat_le.2 this
          simpa using h'
        have HR : Hid (rootN (fun r => decide (n < r * r * r)) j (rn + m) = cbN n) := by
          have := hroot.out; rw [rootN, ← hmj, decide_eq_false hg] at this; exact this
        clear hroot hz hk0 hmj hp hs hk hg
        go_wp2
        go_round
        case rel => exact ⟨rn + m, j, m / 2, by go_num, by go_num, by rw [HJ.out], by have := HK.out; omega, by have := HS.out; have := HJ.out; omega, HR⟩
        case measure => simp [intOf]; omega
end Go.Proofs.Ytppfbfiigfjncaa
