/- NoiseLoud: the walk. -/
import Derived.Test.YtpbjifohgfpeoaaNoiseLoudP
import Derived.Outline
set_option linter.unusedVariables false
namespace Go.Proofs.Ytpbjifohgfpeoaa
open Go.ChangeShapes Go.WideShapes Go.ChangeAt Go.RowKit

theorem sq_small (x : Int) (h0 : -16777300 ≤ x) (h1 : x ≤ 17000000) : 0 ≤ x * x ∧ x * x ≤ 1125899906842624 := by
  refine ⟨sq_nonneg' x, ?_⟩
  rcases Int.le_total 0 x with h | h
  · have := Int.mul_le_mul h1 h1 h (by omega); omega
  · have := Int.mul_le_mul (show -x ≤ 17000000 by omega) (show -x ≤ 17000000 by omega) (by omega) (by omega)
    rw [Int.neg_mul_neg] at this; omega
set_option maxRecDepth 100000 in
set_option maxHeartbeats 2000000 in
theorem loud16_bad (s step many : Int) (s0 : 0 ≤ s) (s1 : s < 4294967296) (h : ¬ (0 ≤ step ∧ step ≤ 511 ∧ 0 ≤ many ∧ many ≤ 256)) (w : World) :
    Calls Try.prog 3 #[.int .u32 s, .int .i64 step, .int .i64 many] w fun e w' => e = .returned (.bool true) ∧ Below w.heap.size w w' := by
  have F := Lib.hid (fun W => Band_any s step many s0 s1 W)
  obtain ⟨err, he, hb⟩ : ∃ err, bandN s step many = ([], err) ∧ (err == 0) = false := by
    unfold bandN
    split
    · exact ⟨2, rfl, rfl⟩
    · split
      · exact ⟨4, rfl, rfl⟩
      · omega
  rw [he] at F
  unfold RRowE at F
  dsimp only at F
  have hb2 : (err != 0) = true := by simp [bne, hb]
  clear he
  go_enter Try.func3, Try.ntmps3
  go_wp2_with fail
  refine (alive16 _).mono ?_
  rintro e w1 ⟨rfl, hb1⟩
  go_wp2_with fail
  refine (F.out _).mono ?_
  rintro e w2 ⟨v1, rfl, hO1, hb2⟩
  obtain ⟨p1, c1, rfl, -⟩ := owns_any hO1
  clear hO1
  go_wp2
  all_goals first | (go_ret; exact ⟨ret_bool (by first | rfl | (simp; done) | (simp; omega)), hb1.trans (hb2.mono hb1.size)⟩) | (exfalso; simp at *; omega) | trace_state
set_option maxRecDepth 100000 in
set_option maxHeartbeats 2000000 in
theorem loud16_ok (s step : Int) (n : Nat) (s0 : 0 ≤ s) (s1 : s < 4294967296) (p0 : 0 ≤ step) (p1 : step ≤ 511) (hn : n ≤ 256) (w : World) :
    Calls Try.prog 3 #[.int .u32 s, .int .i64 step, .int .i64 n] w fun e w' => e = .returned (.bool true) ∧ Below w.heap.size w w' := by
  have F := Lib.hid (fun W => Band_any s step n s0 s1 W)
  rw [band_good s step n (by omega) (by omega) (by omega) (by omega), Int.toNat_natCast] at F
  unfold RRowE at F
  dsimp only at F
  have HL := Lib.hid (noise_len s step n)
  have A1 := Lib.hid (fun j (hj : j < n) => noise_at s step n j hj)
  have N1 := Lib.hid (fun j (hj : j < n) => noise_range s step n j hj hn)
  have Q1 := Lib.hid (fun r hr => loud_final s step n r hn hr)
  have O1 := one_range step
  have HLF : Hid (∀ m W, m = min step 255 → Calls Try.prog 10 #[.int .i64 1, .int .i64 m] W (RP2 (oneV step, 0) W)) := by intro m W hm; have := Line_any 1 m W; rwa [line_one m step hm (by omega)] at this
  generalize noiseV s step n = f at *
  generalize noiseL s step n = l at *
  generalize oneV step = a at *
  obtain ⟨o0, o1⟩ := O1
  have SR := Lib.hid (sumQ_range o1 n N1.out)
  go_enter Try.func3, Try.ntmps3
  go_wp2_with fail
  refine (alive16 _).mono ?_
  rintro e w1 ⟨rfl, hb1⟩
  go_wp2_with fail
  refine (F.out _).mono ?_
  rintro e w2 ⟨v1, rfl, hO1, hb2⟩
  obtain ⟨q1, c1, rfl, I1⟩ := owns_any hO1
  have HI1 := Lib.hid I1
  have hb12 := hb1.trans (hb2.mono hb1.size)
  clear hO1 I1 hb1 hb2
  go_wp2_with fail
  all_goals
    refine (HLF.out _ _ (by omega)).mono ?_
    rintro e w3 ⟨rfl, hb3⟩
    have HI2 := Lib.hid (HI1.out.keep hb3 (Nat.le_refl _))
    have hb13 := hb12.trans (hb3.mono hb12.size)
    clear HI1 hb12 hb3 HLF
    rw [HL.out]
    go_wp2
    go_loopw [12, 13, 14] (fun S B I wr => ∃ k m : Nat, S = .int .i64 (sumQ f k) ∧ B = .bool (anyN f k) ∧ I = .int .i64 k ∧ k ≤ n ∧ wr = w3.drewN m) (fun _ _ I _ => n - (intOf I).toNat)
    case atStart => exact ⟨0, 0, rfl, rfl, rfl, Nat.zero_le _, rfl⟩
    case round =>
      obtain ⟨k, m, rfl, rfl, rfl, hk, rfl⟩ := hrel
      by_cases hlt : k < n
      · obtain ⟨b', off, rfl, h1⟩ := HI2.out.at (j := k) (by rw [HL.out]; exact hlt)
        rw [A1.out k hlt] at h1
        obtain ⟨n1, n2⟩ := N1.out k hlt
        obtain ⟨t0, t1⟩ := SR.out k hk
        have hst := Lib.hid (sumQ_succ f k)
        have hsb : Hid (anyN f (k + 1) = (anyN f k || !(f k == 0))) := rfl
        have x0 := sq_nonneg' (f k)
        have x1 := mul_sq (f k) (by omega) (by omega)
        generalize f k = x at h1 n1 n2 hst hsb x0 x1
        generalize sumQ f k = S at t0 t1 hst ⊢
        generalize anyN f k = B at hsb ⊢
        have d1 : decide (268435455 < x) = false := by simp; omega
        have d2 : decide (x < -268435455) = false := by simp; omega
        have e1 : IntKind.i64.wrap (x * x) = x * x := IntWalk.i64_in _ (by omega)
        have e2 : IntKind.i64.wrap (x * x / 256) = x * x / 256 := IntWalk.i64_in _ (by omega)
        have e3 : IntKind.i64.wrap (S + x * x / 256) = S + x * x / 256 := IntWalk.i64_in _ (by omega)
        by_cases hx : x = 0
        · have z1 : (x == 0) = true := by simp [hx]
          have z2 : (x != 0) = false := by simp [hx]
          have HB : Hid (anyN f (k + 1) = B) := by have := hsb.out; rw [z1] at this; show _ = _; simpa using this
          clear hsb hx
          cases B
          all_goals
            go_wp2
            go_quiet (fail)
            go_wp2
            exact ⟨⟨k + 1, m + nq, congrArg (Value.int .i64) hst.out.symm, congrArg Value.bool HB.out.symm, by go_num, hlt, rfl⟩, by simp [intOf]; omega⟩
        · have z1 : (x == 0) = false := by simp [hx]
          have z2 : (x != 0) = true := by simp [hx]
          have HB : Hid (anyN f (k + 1) = true) := by have := hsb.out; rw [z1] at this; show _ = _; simpa using this
          clear hsb hx
          cases B
          all_goals
            go_wp2
            go_quiet (fail)
            go_wp2
            exact ⟨⟨k + 1, m + nq, congrArg (Value.int .i64) hst.out.symm, congrArg Value.bool HB.out.symm, by go_num, hlt, rfl⟩, by simp [intOf]; omega⟩
      · have hkn : k = n := by omega
        subst hkn
        clear HI2 F HL A1 N1
        obtain ⟨T0, T1⟩ := SR.out k (Nat.le_refl _)
        go_wp2
        go_loop [15] (fun R => ∃ r : Nat, R = .int .i64 r ∧ r ≤ 16) (fun R => 17 - (intOf R).toNat)
        case atStart => exact ⟨0, rfl, by decide⟩
        case round =>
          obtain ⟨r, rfl, hr⟩ := hrel
          have hm := Nat.mul_le_mul hr hr
          have em : (r : Int) * r = ((r * r : Nat) : Int) := by simp
          by_cases hlt3 : r * r < k
          · have hd3 : decide ((r : Int) * r < k) = true := by rw [em]; simp; omega
            have hr15 : r ≤ 15 := by
              rcases Nat.lt_or_ge r 16 with h | h
              · omega
              · have := Nat.mul_le_mul h h; omega
            have hm2 : (r : Int) * r ≤ 256 ∧ 0 ≤ (r : Int) * r := by rw [em]; omega
            obtain ⟨hm3, hm4⟩ := hm2
            clear hm em hlt3
            go_wp2
            go_round
            case rel => exact ⟨r + 1, by go_num, by omega⟩
            case measure => simp [intOf]; omega
          · have hd3 : decide ((r : Int) * r < k) = false := by rw [em]; simp; omega
            have hm2 : (r : Int) * r ≤ 256 ∧ 0 ≤ (r : Int) * r := by rw [em]; omega
            obtain ⟨hm3, hm4⟩ := hm2
            obtain ⟨y1, y2⟩ := Q1.out r (by omega)
            clear hm em hlt3 Q1
            clear SR
            obtain ⟨ff0, ff1⟩ := sq_small (a / 16 + a / 1600 + r + 2) (by omega) (by omega)
            obtain ⟨nn0, nn1⟩ := sq_small (a / 16 - a / 1600 - r - 2) (by omega) (by omega)
            generalize hSv : sumQ f k = S at T0 T1 y1 y2 ⊢
            generalize hBv : anyN f k = B at y2 ⊢
            clear hSv hBv
            have g1 : decide (S ≤ (a / 16 + a / 1600 + r + 2) * (a / 16 + a / 1600 + r + 2)) = true := decide_eq_true y1
            clear y1
            cases B
            · clear y2
              by_cases hk0 : k = 0
              · have hk1 : ((k : Int) == 0) = true := by simp [hk0]
                clear hk0
                go_wp2
                all_goals go_ret
                all_goals exact ⟨rfl, below_drewN hb13 _⟩
              · have hk1 : ((k : Int) == 0) = false := by simp [hk0]
                clear hk0
                go_wp2
                all_goals go_ret
                all_goals exact ⟨rfl, below_drewN hb13 _⟩
            · have y3 := y2 rfl
              clear y2
              by_cases hneg : a / 16 - a / 1600 - r - 2 < 0
              · have g2 : decide (a / 16 - a / 1600 - (r : Int) - 2 < 0) = true := decide_eq_true hneg
                clear y3 hneg
                by_cases hk0 : k = 0
                · have hk1 : ((k : Int) == 0) = true := by simp [hk0]
                  clear hk0
                  go_wp2
                  all_goals go_ret
                  all_goals exact ⟨rfl, below_drewN hb13 _⟩
                · have hk1 : ((k : Int) == 0) = false := by simp [hk0]
                  clear hk0
                  go_wp2
                  all_goals go_ret
                  all_goals exact ⟨rfl, below_drewN hb13 _⟩
              · have g2 : decide (a / 16 - a / 1600 - (r : Int) - 2 < 0) = false := decide_eq_false hneg
                have g3 : decide ((a / 16 - a / 1600 - (r : Int) - 2) * (a / 16 - a / 1600 - r - 2) ≤ S + k) = true := decide_eq_true (by rcases y3 with h | h; exact absurd h hneg; exact h)
                clear y3 hneg
                by_cases hk0 : k = 0
                · have hk1 : ((k : Int) == 0) = true := by simp [hk0]
                  clear hk0
                  go_wp2
                  all_goals go_ret
                  all_goals exact ⟨rfl, below_drewN hb13 _⟩
                · have hk1 : ((k : Int) == 0) = false := by simp [hk0]
                  clear hk0
                  go_wp2
                  all_goals go_ret
                  all_goals exact ⟨rfl, below_drewN hb13 _⟩
theorem loud16 (s step many : Int) (s0 : 0 ≤ s) (s1 : s < 4294967296) (w : World) :
    Calls Try.prog 3 #[.int .u32 s, .int .i64 step, .int .i64 many] w fun e w' => e = .returned (.bool true) ∧ Below w.heap.size w w' := by
  by_cases h : 0 ≤ step ∧ step ≤ 511 ∧ 0 ≤ many ∧ many ≤ 256
  · obtain ⟨a, b, c, d⟩ := h
    obtain ⟨n, rfl⟩ := Int.eq_ofNat_of_zero_le c
    exact loud16_ok s step n s0 s1 a b (by omega) w
  · exact loud16_bad s step many s0 s1 h w
end Go.Proofs.Ytpbjifohgfpeoaa
