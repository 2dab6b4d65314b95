/- NoiseDoubles. -/
import Derived.Test.YtpbjifohgfpeoaaNoiseAlive
import Derived.Test.YtpbjifohgfpeoaaNoisePlain
import Derived.Test.YtpbjifohgfpeoaaDoublesPlain
import Derived.Outline
set_option linter.unusedVariables false
namespace Go.Proofs.Ytpbjifohgfpeoaa
open Go.ChangeShapes Go.WideShapes Go.ChangeAt Go.RowKit

theorem one_wide (step : Int) (h : 255 ≤ step) : oneV step = oneV 255 := by
  unfold oneV; rw [show min step 255 = 255 by omega, show min (255 : Int) 255 = 255 by omega]
theorem noise_wide (s step : Int) (n : Nat) (h : 255 ≤ step) : noiseL s step n = noiseL s 255 n := by
  unfold noiseL
  refine List.map_congr_left (fun k _ => ?_)
  unfold noiseV
  rw [one_wide step h]
theorem band_good (s step many : Int) (p0 : 0 ≤ step) (p1 : step ≤ 511) (h0 : 0 ≤ many) (h1 : many ≤ 256) : bandN s step many = (noiseL s step many.toNat, 0) := by
  rw [bandN, if_neg (by omega), if_neg (by omega)]
theorem draw_root (s : Int) (n k : Nat) (hk : k < n) (hn : n ≤ 256) : 256 * drawV (seedAt s k) ≤ rootV s n ∧ -rootV s n ≤ 256 * drawV (seedAt s k) := by
  have h1 : drawV (seedAt s k) * drawV (seedAt s k) ≤ sumT s n := by
    have : ∀ m, k < m → drawV (seedAt s k) * drawV (seedAt s k) ≤ sumT s m := by
      intro m hm
      induction m with
      | zero => omega
      | succ m ih =>
        have q := (draw_sq (seedAt s m)).1
        have t := (sumT_range s m).1
        rw [sumT]
        rcases Nat.lt_or_ge k m with h | h
        · have := ih h; omega
        · obtain rfl : k = m := by omega
          omega
    exact this n hk
  obtain ⟨t0, t1⟩ := sumT_range s n
  obtain ⟨r1, r2⟩ := sqN_spec (sumT s n * 65536).toNat (by omega)
  have r0 : 0 ≤ rootV s n := (root_range s n hn).1
  have r3 : sumT s n * 65536 < (rootV s n + 1) * (rootV s n + 1) := by
    have e : ((sumT s n * 65536).toNat : Int) = sumT s n * 65536 := Int.toNat_of_nonneg (by omega)
    rw [← e]
    unfold rootV
    have h := Int.ofNat_lt.2 r2
    rw [Int.natCast_mul, Int.natCast_add] at h
    exact h
  have key : ∀ v : Int, v * v ≤ sumT s n → 256 * v ≤ rootV s n := by
    intro v hv
    rcases Int.lt_or_le (rootV s n) (256 * v) with h | h
    · exfalso
      have := Int.mul_le_mul (show rootV s n + 1 ≤ 256 * v by omega) (show rootV s n + 1 ≤ 256 * v by omega) (by omega) (by omega)
      have e : 256 * v * (256 * v) = 65536 * (v * v) := by grind
      omega
    · exact h
  have a := key _ h1
  have b := key (-drawV (seedAt s k)) (by rw [Int.neg_mul_neg]; exact h1)
  omega
theorem noise_range (s step : Int) (n k : Nat) (hk : k < n) (hn : n ≤ 256) : -oneV step ≤ noiseV s step n k ∧ noiseV s step n k ≤ oneV step := by
  have o := one_range step
  unfold noiseV
  split
  · rename_i h
    obtain ⟨a, b⟩ := draw_root s n k hk hn
    exact noise_size _ _ _ h o.1 a b
  · omega
theorem one_line (m : Nat) (h : m ≤ 255) : oneV (m : Int) = lineN 1 m := by
  have e : min (m : Int) 255 = m := by omega
  have h1 := lineL_nat 1 m
  unfold oneV
  rw [e, Int.toNat_natCast]
  exact h1
theorem noise_twice (s step : Int) (n k : Nat) (hk : k < n) (hn : n ≤ 256) (p0 : 0 ≤ step) (p1 : step ≤ 251) (hm : oneV (step + 4) ≠ 268435455) :
    -2 ≤ noiseV s (step + 4) n k - 2 * noiseV s step n k ∧ noiseV s (step + 4) n k - 2 * noiseV s step n k ≤ 2 := by
  obtain ⟨m, rfl⟩ := Int.eq_ofNat_of_zero_le p0
  have o := one_range ((m : Int) + 4)
  have e1 : oneV (m : Int) = lineN 1 m := one_line m (by omega)
  have e2 := one_line (m + 4) (by omega)
  have ec : ((m + 4 : Nat) : Int) = (m : Int) + 4 := by omega
  rw [ec] at e2
  rw [e2] at hm o
  have hd := double_nat 1 m (by decide) (by omega)
  unfold noiseV
  split
  · rename_i h
    obtain ⟨a, b⟩ := draw_root s n k hk hn
    rw [e1, e2]
    exact noise_double _ _ _ _ h a b hd.1 hd.2
  · omega
theorem range_at (f : Nat → Int) (n k : Nat) (hk : k < n) : ((List.range n).map f).getD k 0 = f k := by simp [List.getD_eq_getElem?_getD, hk]
theorem noise_at (s step : Int) (n k : Nat) (hk : k < n) : (noiseL s step n).getD k 0 = noiseV s step n k := range_at _ n k hk

set_option maxRecDepth 100000 in
set_option maxHeartbeats 2000000 in
theorem dbl16_bad (s step many : Int) (s0 : 0 ≤ s) (s1 : s < 4294967296) (h : ¬ (0 ≤ step ∧ step ≤ 511 ∧ 0 ≤ many ∧ many ≤ 256)) (w : World) :
    Calls Try.prog 4 #[.int .u32 s, .int .i64 step, .int .i64 many] w fun e w' => e = .returned (.bool true) ∧ Below w.heap.size w w' := by
  have F := Lib.hid (fun W => Band_any s step many s0 s1 W)
  obtain ⟨err, he, hb⟩ : ∃ err, bandN s step many = ([], err) ∧ (err == 0) = false := by
    unfold bandN
    split
    · exact ⟨2, rfl, rfl⟩
    · split
      · exact ⟨4, rfl, rfl⟩
      · omega
  rw [he] at F
  unfold RRowE at F
  dsimp only at F
  have hb2 : (err != 0) = true := by simp [bne, hb]
  clear he
  go_enter Try.func4, Try.ntmps4
  go_wp2_with fail
  refine (alive16 _).mono ?_
  rintro e w1 ⟨rfl, hb1⟩
  go_wp2_with fail
  refine (F.out _).mono ?_
  rintro e w2 ⟨v1, rfl, hO1, hb2⟩
  obtain ⟨p1, c1, rfl, -⟩ := owns_any hO1
  clear hO1
  go_wp2
  go_ret
  exact ⟨rfl, hb1.trans (hb2.mono hb1.size)⟩

set_option maxRecDepth 100000 in
set_option maxHeartbeats 2000000 in
theorem dbl16_wide (s step : Int) (n : Nat) (s0 : 0 ≤ s) (s1 : s < 4294967296) (p0 : 255 ≤ step) (p1 : step ≤ 511) (hn : n ≤ 256) (w : World) :
    Calls Try.prog 4 #[.int .u32 s, .int .i64 step, .int .i64 n] w fun e w' => e = .returned (.bool true) ∧ Below w.heap.size w w' := by
  have F := Lib.hid (fun W => Band_any s step n s0 s1 W)
  have G := Lib.hid (fun W => Band_any s 255 n s0 s1 W)
  rw [band_good s step n (by omega) p1 (by omega) (by omega), Int.toNat_natCast, noise_wide s step n p0] at F
  rw [band_good s 255 n (by omega) (by omega) (by omega) (by omega), Int.toNat_natCast] at G
  unfold RRowE at F G
  dsimp only at F G
  have HL := Lib.hid (noise_len s 255 n)
  generalize noiseL s 255 n = l at *
  have hd : decide (255 ≤ step) = true := decide_eq_true p0
  go_enter Try.func4, Try.ntmps4
  go_wp2_with fail
  refine (alive16 _).mono ?_
  rintro e w1 ⟨rfl, hb1⟩
  go_wp2_with fail
  refine (F.out _).mono ?_
  rintro e w2 ⟨v1, rfl, hO1, hb2⟩
  obtain ⟨p1, c1, rfl, I1⟩ := owns_any hO1
  have HI1 := Lib.hid I1
  have hb12 := hb1.trans (hb2.mono hb1.size)
  clear hO1 I1 hb1 hb2
  go_wp2_with fail
  refine (G.out _).mono ?_
  rintro e w3 ⟨v2, rfl, hO2, hb3⟩
  obtain ⟨p2, c2, rfl, I2⟩ := owns_any hO2
  have HI2 := Lib.hid I2
  have HI3 := Lib.hid (HI1.out.keep hb3 (Nat.le_refl _))
  have hb13 := hb12.trans (hb3.mono hb12.size)
  clear hO2 I2 HI1 hb12 hb3
  go_wp2
  rw [HL.out]
  go_wp2
  go_loopw [12] (fun I wr => ∃ k m : Nat, I = .int .i64 k ∧ k ≤ n ∧ wr = w3.drewN m) (fun I _ => n - (intOf I).toNat)
  case atStart => exact ⟨0, 0, rfl, Nat.zero_le _, rfl⟩
  case round =>
    obtain ⟨k, m, rfl, hk, rfl⟩ := hrel
    by_cases hlt : k < n
    · obtain ⟨b, off, rfl, h1⟩ := HI3.out.at (j := k) (by rw [HL.out]; exact hlt)
      obtain ⟨b', off', rfl, h2⟩ := HI2.out.at (j := k) (by rw [HL.out]; exact hlt)
      generalize l.getD k 0 = x at h1 h2
      go_wp2
      go_quiet (fail)
      go_wp2
      exact ⟨⟨k + 1, m + nq, by go_num, hlt, rfl⟩, by simp [intOf]; omega⟩
    · go_wp2
      go_ret
      exact ⟨rfl, below_drewN hb13 _⟩
set_option maxRecDepth 100000 in
set_option maxHeartbeats 2000000 in
theorem dbl16_near (s step : Int) (n : Nat) (s0 : 0 ≤ s) (s1 : s < 4294967296) (p0 : 0 ≤ step) (p1 : step < 255) (hn : n ≤ 256) (w : World) :
    Calls Try.prog 4 #[.int .u32 s, .int .i64 step, .int .i64 n] w fun e w' => e = .returned (.bool true) ∧ Below w.heap.size w w' := by
  have F := Lib.hid (fun W => Band_any s step n s0 s1 W)
  have G := Lib.hid (fun W => Band_any s (step + 4) n s0 s1 W)
  rw [band_good s step n (by omega) (by omega) (by omega) (by omega), Int.toNat_natCast] at F
  rw [band_good s (step + 4) n (by omega) (by omega) (by omega) (by omega), Int.toNat_natCast] at G
  unfold RRowE at F G
  dsimp only at F G
  have HL := Lib.hid (noise_len s step n)
  have HM := Lib.hid (noise_len s (step + 4) n)
  have A1 := Lib.hid (fun j (hj : j < n) => noise_at s step n j hj)
  have A2 := Lib.hid (fun j (hj : j < n) => noise_at s (step + 4) n j hj)
  have N1 := Lib.hid (fun j (hj : j < n) => noise_range s step n j hj hn)
  have N2 := Lib.hid (fun j (hj : j < n) => noise_range s (step + 4) n j hj hn)
  have N3 := Lib.hid (fun j (hj : j < n) => noise_twice s step n j hj hn p0)
  have O1 := one_range step
  have O2 := one_range (step + 4)
  have E1 := Lib.hid (line_one step step (by omega) p0)
  have HLE : Hid (∀ W, Calls Try.prog 10 #[.int .i64 1, .int .i64 step] W (RP2 (oneV step, 0) W)) := by intro W; have := Line_any 1 step W; rwa [E1.out] at this
  have HLF : Hid (∀ m W, m = min (step + 4) 255 → Calls Try.prog 10 #[.int .i64 1, .int .i64 m] W (RP2 (oneV (step + 4), 0) W)) := by intro m W hm; have := Line_any 1 m W; rwa [line_one m (step + 4) hm (by omega)] at this
  generalize noiseV s step n = f1 at *
  generalize noiseV s (step + 4) n = f2 at *
  generalize noiseL s step n = l1 at *
  generalize noiseL s (step + 4) n = l2 at *
  generalize oneV step = a at *
  generalize oneV (step + 4) = b at *
  obtain ⟨o0, o1⟩ := O1
  obtain ⟨o2, o3⟩ := O2
  clear E1
  have hd : decide (255 ≤ step) = false := by simp; omega
  go_enter Try.func4, Try.ntmps4
  go_wp2_with fail
  refine (alive16 _).mono ?_
  rintro e w1 ⟨rfl, hb1⟩
  go_wp2_with fail
  refine (F.out _).mono ?_
  rintro e w2 ⟨v1, rfl, hO1, hb2⟩
  obtain ⟨p1, c1, rfl, I1⟩ := owns_any hO1
  have HI1 := Lib.hid I1
  have hb12 := hb1.trans (hb2.mono hb1.size)
  clear hO1 I1 hb1 hb2
  go_wp2_with fail
  refine (HLE.out _).mono ?_
  rintro e w3 ⟨rfl, hb3⟩
  have HI2 := Lib.hid (HI1.out.keep hb3 (Nat.le_refl _))
  have hb13 := hb12.trans (hb3.mono hb12.size)
  have hz3 := hb3.size
  clear HI1 hb12 hb3
  go_wp2_with fail
  all_goals
    refine (HLF.out _ _ (by omega)).mono ?_
    rintro e w4 ⟨rfl, hb4⟩
    have HI3 := Lib.hid (HI2.out.keep hb4 hz3)
    have hb14 := hb13.trans (hb4.mono hb13.size)
    have hz4 : w2.heap.size ≤ w4.heap.size := Nat.le_trans hz3 hb4.size
    clear HI2 hb13 hb4
    go_wp2_with fail
    refine (G.out _).mono ?_
    rintro e w5 ⟨v2, rfl, hO2, hb5⟩
    obtain ⟨p2, c2, rfl, I2⟩ := owns_any hO2
    have HI4 := Lib.hid I2
    have HI5 := Lib.hid (HI3.out.keep hb5 hz4)
    have hb15 := hb14.trans (hb5.mono hb14.size)
    clear hO2 I2 HI3 hb14 hb5
    rw [HL.out, HM.out]
    by_cases h251 : 251 < step
    · go_wp2
      all_goals go_ret
      all_goals exact ⟨rfl, hb15⟩
    · have hd251 : decide (251 < step) = false := decide_eq_false h251
      by_cases htop : b = 268435455
      · have ht : (b == 268435455) = true := by simp [htop]
        clear htop
        go_wp2
        all_goals go_ret
        all_goals exact ⟨rfl, hb15⟩
      · have ht : (b == 268435455) = false := by simp [htop]
        have N4 := Lib.hid (fun j (hj : j < n) => N3.out j hj (by omega) htop)
        clear htop N3
        by_cases hab : b < a
        · have hd2 : decide (b < a) = true := decide_eq_true hab
          go_wp2
          all_goals go_ret
          all_goals exact ⟨rfl, hb15⟩
        · have hd2 : decide (b < a) = false := decide_eq_false hab
          go_wp2
          all_goals
            go_loopw [19] (fun I wr => ∃ k m : Nat, I = .int .i64 k ∧ k ≤ n ∧ wr = w5.drewN m) (fun I _ => n - (intOf I).toNat)
            case atStart => exact ⟨0, 0, rfl, Nat.zero_le _, rfl⟩
            case round =>
              obtain ⟨k, m, rfl, hk, rfl⟩ := hrel
              by_cases hlt : k < n
              · obtain ⟨b', off, rfl, h1⟩ := HI5.out.at (j := k) (by rw [HL.out]; exact hlt)
                obtain ⟨b2, off', rfl, h2⟩ := HI4.out.at (j := k) (by rw [HM.out]; exact hlt)
                rw [A1.out k hlt] at h1
                rw [A2.out k hlt] at h2
                obtain ⟨n1, n2⟩ := N1.out k hlt
                obtain ⟨n3, n4⟩ := N2.out k hlt
                obtain ⟨n5, n6⟩ := N4.out k hlt
                generalize f1 k = x at h1 n1 n2 n5 n6
                generalize f2 k = y at h2 n3 n4 n5 n6
                have e1 : IntKind.i64.wrap (2 * x) = 2 * x := IntWalk.i64_in _ (by omega)
                have e2 : IntKind.i64.wrap (y - 2 * x) = y - 2 * x := IntWalk.i64_in _ (by omega)
                have d1 : decide (2 < y - 2 * x) = false := by simp; omega
                have d2 : decide (y - 2 * x < -2) = false := by simp; omega
                go_wp2
                go_quiet (fail)
                go_wp2
                exact ⟨⟨k + 1, m + nq, by go_num, hlt, rfl⟩, by simp [intOf]; omega⟩
              · go_wp2
                go_ret
                exact ⟨rfl, below_drewN hb15 _⟩
theorem dbl16 (s step many : Int) (s0 : 0 ≤ s) (s1 : s < 4294967296) (w : World) :
    Calls Try.prog 4 #[.int .u32 s, .int .i64 step, .int .i64 many] w fun e w' => e = .returned (.bool true) ∧ Below w.heap.size w w' := by
  by_cases h : 0 ≤ step ∧ step ≤ 511 ∧ 0 ≤ many ∧ many ≤ 256
  · obtain ⟨a, b, c, d⟩ := h
    obtain ⟨n, rfl⟩ := Int.eq_ofNat_of_zero_le c
    by_cases h2 : 255 ≤ step
    · exact dbl16_wide s step n s0 s1 h2 b (by omega) w
    · exact dbl16_near s step n s0 s1 a (by omega) (by omega) w
  · exact dbl16_bad s step many s0 s1 h w
end Go.Proofs.Ytpbjifohgfpeoaa
