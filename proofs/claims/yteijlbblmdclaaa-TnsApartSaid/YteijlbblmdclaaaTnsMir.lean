/- tns: what a coefficient stands for: the program's and the document's. -/
import Derived.Test.YteijlbblmdclaaaTrigSin
import Derived.Test.YteijlbblmdclaaaRefSin
import Derived.Test.YteijlbblmdclaaaRound
set_option linter.unusedVariables false
namespace Go.Proofs.Yteijlbblmdclaaa
open Go.ChangeShapes Go.WideShapes Go.ChangeAt Go.RowKit

/-- The half of a circle's parts that a coefficient is told of. -/
def mirD (c : Int) (fine : Bool) : Int := (if fine then 15 else 7) + (if c < 0 then 2 else 0)
def mirL (c : Int) (fine : Bool) : Int := rnd (sinL ((2048 * c + mirD c fine) / (2 * mirD c fine))) 6
theorem mirL_range (c : Int) (fine : Bool) : -1048576 ≤ mirL c fine ∧ mirL c fine ≤ 1048576 := by
  unfold mirL
  have h := sin_range ((2048 * c + mirD c fine) / (2 * mirD c fine))
  generalize sinL ((2048 * c + mirD c fine) / (2 * mirD c fine)) = s at *
  have a := rnd_mono 6 h.1
  have b := rnd_mono 6 h.2
  have e1 : rnd (-67108864) 6 = -1048576 := by decide
  have e2 : rnd 67108864 6 = 1048576 := by decide
  rw [e1] at a
  rw [e2] at b
  exact ⟨a, b⟩
theorem quot_down (n d : Int) (hd : 0 < d) : (n.tmod d < 0 → n.tdiv d - 1 = n / d) ∧ (¬ n.tmod d < 0 → n.tdiv d = n / d) := by
  have a := Int.mul_tdiv_add_tmod n d
  have b := Int.lt_tmod_of_pos n hd
  have c := Int.tmod_lt_of_pos n hd
  have hdz : d ≠ 0 := by omega
  constructor
  · intro h
    have e : n = (n.tmod d + d) + d * (n.tdiv d - 1) := by rw [Int.mul_sub]; omega
    have z : (n.tmod d + d) / d = 0 := Int.ediv_eq_zero_of_lt (by omega) (by omega)
    have : n / d = n.tdiv d - 1 := by
      conv => lhs; rw [e]
      rw [Int.add_mul_ediv_left _ _ hdz, z]; omega
    exact this.symm
  · intro h
    have e : n = n.tmod d + d * n.tdiv d := by omega
    have z : n.tmod d / d = 0 := Int.ediv_eq_zero_of_lt (by omega) (by omega)
    have : n / d = n.tdiv d := by
      conv => lhs; rw [e]
      rw [Int.add_mul_ediv_left _ _ hdz, z]; omega
    exact this.symm
theorem tns_rounded (n B : Int) (b : Nat) (hB : B = b) (h1 : -4611686018427387904 ≤ n) (h2 : n ≤ 4611686018427387904) (hb : b ≤ 62) (w : World) :
    Calls Try.prog 31 #[.int .i64 n, .int .i64 B] w fun e w' => e = .returned (.int .i64 (rnd n b)) ∧ ∃ k, w' = w.drewN k := by
  have hR := Lib.hid (fun w => round_lit n B b hB h1 h2 hb w)
  unfold RRound at hR
  obtain ⟨r, hr⟩ : ∃ r, rnd n b = r := ⟨_, rfl⟩
  rw [hr] at hR ⊢
  clear hB h1 h2 hb hr
  go_enter Try.func31, Try.ntmps31
  go_wp2_with fail
  refine (hR.out _).mono ?_
  rintro e w1 ⟨rfl, k, rfl⟩
  go_wp2
  go_ret
  exact ⟨rfl, _, rfl⟩
theorem tns_sine (n d : Int) (h1 : -100000 ≤ n) (h2 : n ≤ 100000) (hd : 0 < d) (hd2 : d ≤ 1000) (w : World) : Calls Try.prog 46 #[.int .i64 n, .int .i64 d] w (RInt (sinL (n / d)) w) := by
  have hq := quot_down n d hd
  have b1 := Int.lt_tmod_of_pos n hd
  have b2 := Int.tmod_lt_of_pos n hd
  have b3 : -100000 ≤ n.tdiv d ∧ n.tdiv d ≤ 100000 := by
    have a := Int.mul_tdiv_add_tmod n d
    constructor
    · rcases Int.lt_or_le (n.tdiv d) (-100000) with h | h
      · exfalso
        have : d * n.tdiv d ≤ d * (-100001) := Int.mul_le_mul_of_nonneg_left (by omega) (by omega)
        omega
      · exact h
    · rcases Int.lt_or_le 100000 (n.tdiv d) with h | h
      · exfalso
        have : d * 100001 ≤ d * n.tdiv d := Int.mul_le_mul_of_nonneg_left (by omega) (by omega)
        omega
      · exact h
  obtain ⟨q, hqq⟩ : ∃ q, n.tdiv d = q := ⟨_, rfl⟩
  obtain ⟨r, hrr⟩ : ∃ r, n.tmod d = r := ⟨_, rfl⟩
  rw [hqq] at hq b3
  rw [hrr] at hq b1 b2
  have hS := Lib.hid (fun p w => sin_ok p w)
  by_cases hr : r < 0
  · have hd1 : decide (r < 0) = true := decide_eq_true hr
    rw [← hq.1 hr]
    clear hq
    go_enter Try.func46, Try.ntmps46
    go_wp2_with fail
    refine (hS.out _ _).mono ?_
    rintro e w1 ⟨rfl, hB⟩
    go_wp2
    go_ret
    exact ⟨rfl, hB⟩
  · have hd1 : decide (r < 0) = false := decide_eq_false hr
    rw [← hq.2 hr]
    clear hq
    go_enter Try.func46, Try.ntmps46
    go_wp2_with fail
    refine (hS.out _ _).mono ?_
    rintro e w1 ⟨rfl, hB⟩
    go_wp2
    go_ret
    exact ⟨rfl, hB⟩
/-- The program's mirror. -/
theorem tns_mirror (c : Int) (fine : Bool) (h1 : -8 ≤ c) (h2 : c ≤ 7) (w : World) : Calls Try.prog 30 #[.int .i64 c, .bool fine] w (RInt (mirL c fine) w) := by
  have hS := Lib.hid (fun n d a b c d' w => tns_sine n d a b c d' w)
  have hR := Lib.hid (fun k w => tns_rounded (sinL k) 6 6 rfl (by have := sin_range k; omega) (by have := sin_range k; omega) (by decide) w)
  cases fine <;> by_cases hc : c < 0
  all_goals
    first | have hd : decide (c < 0) = true := decide_eq_true hc | have hd : decide (c < 0) = false := decide_eq_false hc
    unfold mirL mirD
    simp only [hc, if_true, if_false, Bool.false_eq_true, Int.reduceAdd, Int.reduceMul]
    go_enter Try.func30, Try.ntmps30
    go_wp2_with fail
    refine (hS.out _ _ (by omega) (by omega) (by omega) (by omega) _).mono ?_
    rintro e w1 ⟨rfl, hB1⟩
    go_wp2_with fail
    refine (hR.out _ _).mono ?_
    rintro e w2 ⟨rfl, k, rfl⟩
    go_wp2
    go_ret
    exact ⟨rfl, below_drewN hB1 k⟩
/-- The document's mirror. -/
theorem ref_mirror (c : Int) (fine : Bool) (h1 : -8 ≤ c) (h2 : c ≤ 7) (w : World) : Calls Try.prog 32 #[.int .i64 c, .bool fine] w fun e w' => e = .returned (.int .i64 (mirL c fine)) ∧ w = w' := by
  have hS := Lib.hid (fun n w => refsin_ok n w)
  have hR := Lib.hid (fun k w => down_lit (sinL k) 6 6 rfl (by have := sin_range k; omega) (by have := sin_range k; omega) (by decide) w)
  have hq := quot_down (2048 * c + mirD c fine) (2 * mirD c fine) (by unfold mirD; split <;> split <;> decide)
  unfold mirL
  generalize hQ : (2048 * c + mirD c fine) / (2 * mirD c fine) = Q at *
  obtain ⟨q, hqq⟩ : ∃ q, (2048 * c + mirD c fine).tdiv (2 * mirD c fine) = q := ⟨_, rfl⟩
  have hm := Int.mul_tdiv_add_tmod (2048 * c + mirD c fine) (2 * mirD c fine)
  rw [hqq] at hq hm
  generalize (2048 * c + mirD c fine).tmod (2 * mirD c fine) = r at *
  unfold mirD at *
  cases fine <;> by_cases hc : c < 0
  all_goals
    first | have hd : decide (c < 0) = true := decide_eq_true hc | have hd : decide (c < 0) = false := decide_eq_false hc
    simp only [hc, if_true, if_false, Bool.false_eq_true, Int.reduceAdd, Int.reduceMul] at hQ hqq hm
    have hQ2 : -100000 ≤ Q ∧ Q ≤ 100000 := by omega
    by_cases hr : r < 0
    · have e1 := hq.1 hr
      have HM := Lib.hid hm
      have HR := Lib.hid hr
      have hqb : -200000 ≤ q ∧ q ≤ 200000 := by omega
      clear hq hm hQ hr hQ2
      go_enter Try.func32, Try.ntmps32
      go_wp2_with fail
      all_goals (have hm' := HM.out; have hr' := HR.out; first | (exfalso; omega) | skip)
      all_goals (try rw [e1]
                 refine (hS.out _ _).mono ?_)
      all_goals
        rintro e w1 ⟨rfl, rfl⟩
        go_wp2_with fail
        refine (hR.out _ _).mono ?_
        rintro e w2 ⟨rfl, rfl⟩
        go_wp2
        go_ret
        exact ⟨rfl, rfl⟩
    · have e1 := hq.2 hr
      have HM := Lib.hid hm
      have HR := Lib.hid hr
      have hqb : -200000 ≤ q ∧ q ≤ 200000 := by omega
      clear hq hm hQ hr hQ2
      go_enter Try.func32, Try.ntmps32
      go_wp2_with fail
      all_goals (have hm' := HM.out; have hr' := HR.out; first | (exfalso; omega) | skip)
      all_goals (try rw [e1]
                 refine (hS.out _ _).mono ?_)
      all_goals
        rintro e w1 ⟨rfl, rfl⟩
        go_wp2_with fail
        refine (hR.out _ _).mono ?_
        rintro e w2 ⟨rfl, rfl⟩
        go_wp2
        go_ret
        exact ⟨rfl, rfl⟩
end Go.Proofs.Yteijlbblmdclaaa
