/- BlockPower: the walk. -/
import Derived.Test.YtclbbfpagkhonaaPowPlain
import Derived.Test.YtclbbfpagkhonaaBlkNames
import Derived.Deep.QuietTactic
set_option linter.unusedVariables false
namespace Go.Proofs.Ytclbbfpagkhonaa
open Go.ChangeShapes Go.WideShapes Go.ChangeAt Go.RowKit

/-- What is known of two windows: their lists, and squares. -/
theorem win_ok' (one was mid : Int) (h : one = 0 ∨ one = 1 ∨ one = 3) (h0 : was = 0 ∨ was = 1) (h1 : mid = 0 ∨ mid = 1) (w : World) :
    Calls Try.prog 9 #[.int .u8 one, .int .u8 was, .int .u8 mid] w fun e w' => ∃ g c, e = .returned (.tuple #[.slice (some ⟨g, 0, none⟩) 512 c, .int .i64 0]) ∧ (∀ j, j < 512 → w'.cell? ⟨g, j, none⟩ = some (.int .i64 ((winL one was mid).getD j 0))) ∧ g < w'.heap.size ∧ Below w.heap.size w w' := by
  refine (win_ok one was mid h h0 h1 w).mono ?_
  rintro e w' ⟨v, rfl, hO, hB⟩
  have hl := winL_len one was mid h
  obtain ⟨g, c, rfl, hg, hlt, hc⟩ := owns_at hO (by intro e; simp only at e; rw [e] at hl; simp at hl)
  simp only at hc ⊢
  rw [hl] at hc ⊢
  exact ⟨g, c, rfl, hc, hlt, hB⟩
set_option maxRecDepth 100000 in
set_option maxHeartbeats 4000000 in
theorem power12 (w : World) : Calls Try.prog 3 #[] w fun e w' => e = .returned (.bool true) ∧ Below w.heap.size w w' := by
  go_enter Try.func3, Try.ntmps3
  go_wp2_with fail
  refine (alive12 _).mono ?_
  rintro e w2 ⟨rfl, hb2⟩
  go_wp2
  go_loopw [2] (fun I wr => ∃ i : Nat, I = .int .i64 i ∧ i ≤ 72 ∧ Hid (Below w.heap.size w wr)) (fun I _ => 72 - (intOf I).toNat)
  case atStart => exact ⟨0, rfl, by decide, Lib.hid hb2⟩
  case round =>
    obtain ⟨i, rfl, hi, hbw⟩ := hrel
    clear hb2
    by_cases hlt : i < 72
    · have hd : decide ((i : Int) < 72) = true := decide_eq_true (by omega)
      have nn : (0 : Int) ≤ (i : Int) := by omega
      obtain ⟨n0, t1, a0⟩ : ∃ n : Int, (i : Int).tmod 3 = n ∧ (n = 0 ∨ n = 1 ∨ n = 2) := ⟨_, rfl, by rw [Int.tmod_eq_emod_of_nonneg nn]; omega⟩
      obtain ⟨y1, t2, y1n⟩ : ∃ n : Int, (i : Int).tdiv 3 = n ∧ 0 ≤ n := ⟨_, rfl, by rw [Int.tdiv_eq_ediv_of_nonneg nn]; omega⟩
      obtain ⟨n1, t3, a1⟩ : ∃ n : Int, y1.tmod 3 = n ∧ (n = 0 ∨ n = 1 ∨ n = 2) := ⟨_, rfl, by rw [Int.tmod_eq_emod_of_nonneg y1n]; omega⟩
      obtain ⟨y2, t4, y2n⟩ : ∃ n : Int, (i : Int).tdiv 9 = n ∧ 0 ≤ n := ⟨_, rfl, by rw [Int.tdiv_eq_ediv_of_nonneg nn]; omega⟩
      obtain ⟨n2, t5, a2⟩ : ∃ n : Int, y2.tmod 2 = n ∧ (n = 0 ∨ n = 1) := ⟨_, rfl, by rw [Int.tmod_eq_emod_of_nonneg y2n]; omega⟩
      obtain ⟨y3, t6, y3n⟩ : ∃ n : Int, (i : Int).tdiv 18 = n ∧ 0 ≤ n := ⟨_, rfl, by rw [Int.tdiv_eq_ediv_of_nonneg nn]; omega⟩
      obtain ⟨n3, t7, a3⟩ : ∃ n : Int, y3.tmod 2 = n ∧ (n = 0 ∨ n = 1) := ⟨_, rfl, by rw [Int.tmod_eq_emod_of_nonneg y3n]; omega⟩
      obtain ⟨y4, t8, y4n⟩ : ∃ n : Int, (i : Int).tdiv 36 = n ∧ 0 ≤ n := ⟨_, rfl, by rw [Int.tdiv_eq_ediv_of_nonneg nn]; omega⟩
      obtain ⟨n4, t9, a4⟩ : ∃ n : Int, y4.tmod 2 = n ∧ (n = 0 ∨ n = 1) := ⟨_, rfl, by rw [Int.tmod_eq_emod_of_nonneg y4n]; omega⟩
      have y1b : y1 ≤ 100 := by rw [← t2, Int.tdiv_eq_ediv_of_nonneg nn]; omega
      have y2b : y2 ≤ 100 := by rw [← t4, Int.tdiv_eq_ediv_of_nonneg nn]; omega
      have y3b : y3 ≤ 100 := by rw [← t6, Int.tdiv_eq_ediv_of_nonneg nn]; omega
      have y4b : y4 ≤ 100 := by rw [← t8, Int.tdiv_eq_ediv_of_nonneg nn]; omega
      have u2 : IntKind.u8.wrap n2 = n2 := by rcases a2 with rfl | rfl <;> decide
      have u3 : IntKind.u8.wrap n3 = n3 := by rcases a3 with rfl | rfl <;> decide
      have u4 : IntKind.u8.wrap n4 = n4 := by rcases a4 with rfl | rfl <;> decide
      rcases a0 with rfl | rfl | rfl
      · rcases a1 with rfl | rfl | rfl
        · go_wp2_with fail
          refine (win_ok' 0 n2 n3 (by omega) a2 a3 _).mono ?_
          rintro e wA ⟨g1, c1, rfl, hc1, hl1, hB1⟩
          have HC1 := Lib.hid hc1
          have HB1 := Lib.hid (hbw.out.trans (hB1.mono hbw.out.size))
          clear hc1 hB1
          go_wp2_with fail
          refine (win_ok' 0 n3 n4 (by omega) a3 a4 _).mono ?_
          rintro e wB ⟨g2, c2, rfl, hc2, hl2, hB2⟩
          have HC2 := Lib.hid hc2
          have HC1' := Lib.hid (show ∀ j, j < 512 → wB.cell? ⟨g1, j, none⟩ = some (.int .i64 ((winL 0 n2 n3).getD j 0)) from fun j hj => (hB2.cell (p := ⟨g1, j, none⟩) hl1).trans (HC1.out j hj))
          have HB2 := Lib.hid (HB1.out.trans (hB2.mono HB1.out.size))
          have HPW := Lib.hid (power_at 0 0 n2 n3 n4 (by omega) (by omega) a3 (by omega))
          clear hc2 hB2 HC1 HB1
          go_wp2
          go_loopw [12] (fun I wq => ∃ k m : Nat, I = .int .i64 k ∧ k ≤ 256 ∧ wq = wB.drewN m) (fun I _ => 256 - (intOf I).toNat)
          case atStart => exact ⟨0, 0, rfl, by decide, rfl⟩
          case round =>
            obtain ⟨k, m, rfl, hk, rfl⟩ := hrel
            by_cases hlk : k < 256
            · have hdk : decide ((k : Int) < 256) = true := decide_eq_true (by omega)
              have z1 := HC1'.out (256 + k) (by omega)
              have z2 := HC2.out k (by omega)
              obtain ⟨⟨x0, x1⟩, ⟨y0, y1⟩, p0, p1⟩ := HPW.out k hlk
              generalize (winL 0 n2 n3).getD (256 + k) 0 = x at *
              generalize (winL 0 n3 n4).getD k 0 = y at *
              have xx0 : 0 ≤ x * x := Int.mul_nonneg x0 x0
              have xx1 : x * x ≤ 17592186044416 := by have := Int.mul_le_mul x1 x1 x0 (by omega); omega
              have yy0 : 0 ≤ y * y := Int.mul_nonneg y0 y0
              have yy1 : y * y ≤ 17592186044416 := by have := Int.mul_le_mul y1 y1 y0 (by omega); omega
              have q0 : IntKind.i64.wrap (256 + (k : Int)) = 256 + (k : Int) := IntWalk.i64_in _ (by omega)
              have q7 : ((256 : Int) + (k : Int)).toNat = 256 + k := by omega
              have q8 : (0 : Int) ≤ 256 + (k : Int) := by omega
              have q9 : (256 : Int) + (k : Int) < 512 := by omega
              have q1 : IntKind.i64.wrap (x * x) = x * x := IntWalk.i64_in _ (by omega)
              have q2 : IntKind.i64.wrap (y * y) = y * y := IntWalk.i64_in _ (by omega)
              have q3 : IntKind.i64.wrap (x * x + y * y) = x * x + y * y := IntWalk.i64_in _ (by omega)
              have q4 : IntKind.i64.wrap (x * x + y * y - 17592186044416) = x * x + y * y - 17592186044416 := IntWalk.i64_in _ (by omega)
              have q5 : 256 + k < 512 := by omega
              have q6 : k < 512 := by omega
              have d3 : decide (33554432 < x * x + y * y - 17592186044416) = false := by simp; omega
              have d4 : decide (x * x + y * y - 17592186044416 < -33554432) = false := by simp; omega
              go_wp2
              go_quiet (fail)
              go_wp2
              exact ⟨⟨k + 1, _, by go_num, by omega, rfl⟩, by simp [intOf]; omega⟩
            · have hdk : decide ((k : Int) < 256) = false := decide_eq_false (by omega)
              go_wp2
              exact ⟨⟨i + 1, by go_num, by omega, Lib.hid (below_drewN HB2.out _)⟩, by simp [intOf]; omega⟩
        · go_wp2_with fail
          refine (win_ok' 0 n2 n3 (by omega) a2 a3 _).mono ?_
          rintro e wA ⟨g1, c1, rfl, hc1, hl1, hB1⟩
          have HC1 := Lib.hid hc1
          have HB1 := Lib.hid (hbw.out.trans (hB1.mono hbw.out.size))
          clear hc1 hB1
          go_wp2_with fail
          refine (win_ok' 1 n3 n4 (by omega) a3 a4 _).mono ?_
          rintro e wB ⟨g2, c2, rfl, hc2, hl2, hB2⟩
          have HC2 := Lib.hid hc2
          have HC1' := Lib.hid (show ∀ j, j < 512 → wB.cell? ⟨g1, j, none⟩ = some (.int .i64 ((winL 0 n2 n3).getD j 0)) from fun j hj => (hB2.cell (p := ⟨g1, j, none⟩) hl1).trans (HC1.out j hj))
          have HB2 := Lib.hid (HB1.out.trans (hB2.mono HB1.out.size))
          have HPW := Lib.hid (power_at 0 1 n2 n3 n4 (by omega) (by omega) a3 (by omega))
          clear hc2 hB2 HC1 HB1
          go_wp2
          go_loopw [12] (fun I wq => ∃ k m : Nat, I = .int .i64 k ∧ k ≤ 256 ∧ wq = wB.drewN m) (fun I _ => 256 - (intOf I).toNat)
          case atStart => exact ⟨0, 0, rfl, by decide, rfl⟩
          case round =>
            obtain ⟨k, m, rfl, hk, rfl⟩ := hrel
            by_cases hlk : k < 256
            · have hdk : decide ((k : Int) < 256) = true := decide_eq_true (by omega)
              have z1 := HC1'.out (256 + k) (by omega)
              have z2 := HC2.out k (by omega)
              obtain ⟨⟨x0, x1⟩, ⟨y0, y1⟩, p0, p1⟩ := HPW.out k hlk
              generalize (winL 0 n2 n3).getD (256 + k) 0 = x at *
              generalize (winL 1 n3 n4).getD k 0 = y at *
              have xx0 : 0 ≤ x * x := Int.mul_nonneg x0 x0
              have xx1 : x * x ≤ 17592186044416 := by have := Int.mul_le_mul x1 x1 x0 (by omega); omega
              have yy0 : 0 ≤ y * y := Int.mul_nonneg y0 y0
              have yy1 : y * y ≤ 17592186044416 := by have := Int.mul_le_mul y1 y1 y0 (by omega); omega
              have q0 : IntKind.i64.wrap (256 + (k : Int)) = 256 + (k : Int) := IntWalk.i64_in _ (by omega)
              have q7 : ((256 : Int) + (k : Int)).toNat = 256 + k := by omega
              have q8 : (0 : Int) ≤ 256 + (k : Int) := by omega
              have q9 : (256 : Int) + (k : Int) < 512 := by omega
              have q1 : IntKind.i64.wrap (x * x) = x * x := IntWalk.i64_in _ (by omega)
              have q2 : IntKind.i64.wrap (y * y) = y * y := IntWalk.i64_in _ (by omega)
              have q3 : IntKind.i64.wrap (x * x + y * y) = x * x + y * y := IntWalk.i64_in _ (by omega)
              have q4 : IntKind.i64.wrap (x * x + y * y - 17592186044416) = x * x + y * y - 17592186044416 := IntWalk.i64_in _ (by omega)
              have q5 : 256 + k < 512 := by omega
              have q6 : k < 512 := by omega
              have d3 : decide (33554432 < x * x + y * y - 17592186044416) = false := by simp; omega
              have d4 : decide (x * x + y * y - 17592186044416 < -33554432) = false := by simp; omega
              go_wp2
              go_quiet (fail)
              go_wp2
              exact ⟨⟨k + 1, _, by go_num, by omega, rfl⟩, by simp [intOf]; omega⟩
            · have hdk : decide ((k : Int) < 256) = false := decide_eq_false (by omega)
              go_wp2
              exact ⟨⟨i + 1, by go_num, by omega, Lib.hid (below_drewN HB2.out _)⟩, by simp [intOf]; omega⟩
        · go_wp2
          exact ⟨⟨i + 1, by go_num, by omega, hbw⟩, by simp [intOf]; omega⟩
      · rcases a1 with rfl | rfl | rfl
        · go_wp2
          exact ⟨⟨i + 1, by go_num, by omega, hbw⟩, by simp [intOf]; omega⟩
        · go_wp2
          exact ⟨⟨i + 1, by go_num, by omega, hbw⟩, by simp [intOf]; omega⟩
        · go_wp2_with fail
          refine (win_ok' 1 n2 n3 (by omega) a2 a3 _).mono ?_
          rintro e wA ⟨g1, c1, rfl, hc1, hl1, hB1⟩
          have HC1 := Lib.hid hc1
          have HB1 := Lib.hid (hbw.out.trans (hB1.mono hbw.out.size))
          clear hc1 hB1
          go_wp2_with fail
          refine (win_ok' 3 n3 n4 (by omega) a3 a4 _).mono ?_
          rintro e wB ⟨g2, c2, rfl, hc2, hl2, hB2⟩
          have HC2 := Lib.hid hc2
          have HC1' := Lib.hid (show ∀ j, j < 512 → wB.cell? ⟨g1, j, none⟩ = some (.int .i64 ((winL 1 n2 n3).getD j 0)) from fun j hj => (hB2.cell (p := ⟨g1, j, none⟩) hl1).trans (HC1.out j hj))
          have HB2 := Lib.hid (HB1.out.trans (hB2.mono HB1.out.size))
          have HPW := Lib.hid (power_at 1 3 n2 n3 n4 (by omega) (by omega) a3 (by omega))
          clear hc2 hB2 HC1 HB1
          go_wp2
          go_loopw [12] (fun I wq => ∃ k m : Nat, I = .int .i64 k ∧ k ≤ 256 ∧ wq = wB.drewN m) (fun I _ => 256 - (intOf I).toNat)
          case atStart => exact ⟨0, 0, rfl, by decide, rfl⟩
          case round =>
            obtain ⟨k, m, rfl, hk, rfl⟩ := hrel
            by_cases hlk : k < 256
            · have hdk : decide ((k : Int) < 256) = true := decide_eq_true (by omega)
              have z1 := HC1'.out (256 + k) (by omega)
              have z2 := HC2.out k (by omega)
              obtain ⟨⟨x0, x1⟩, ⟨y0, y1⟩, p0, p1⟩ := HPW.out k hlk
              generalize (winL 1 n2 n3).getD (256 + k) 0 = x at *
              generalize (winL 3 n3 n4).getD k 0 = y at *
              have xx0 : 0 ≤ x * x := Int.mul_nonneg x0 x0
              have xx1 : x * x ≤ 17592186044416 := by have := Int.mul_le_mul x1 x1 x0 (by omega); omega
              have yy0 : 0 ≤ y * y := Int.mul_nonneg y0 y0
              have yy1 : y * y ≤ 17592186044416 := by have := Int.mul_le_mul y1 y1 y0 (by omega); omega
              have q0 : IntKind.i64.wrap (256 + (k : Int)) = 256 + (k : Int) := IntWalk.i64_in _ (by omega)
              have q7 : ((256 : Int) + (k : Int)).toNat = 256 + k := by omega
              have q8 : (0 : Int) ≤ 256 + (k : Int) := by omega
              have q9 : (256 : Int) + (k : Int) < 512 := by omega
              have q1 : IntKind.i64.wrap (x * x) = x * x := IntWalk.i64_in _ (by omega)
              have q2 : IntKind.i64.wrap (y * y) = y * y := IntWalk.i64_in _ (by omega)
              have q3 : IntKind.i64.wrap (x * x + y * y) = x * x + y * y := IntWalk.i64_in _ (by omega)
              have q4 : IntKind.i64.wrap (x * x + y * y - 17592186044416) = x * x + y * y - 17592186044416 := IntWalk.i64_in _ (by omega)
              have q5 : 256 + k < 512 := by omega
              have q6 : k < 512 := by omega
              have d3 : decide (33554432 < x * x + y * y - 17592186044416) = false := by simp; omega
              have d4 : decide (x * x + y * y - 17592186044416 < -33554432) = false := by simp; omega
              go_wp2
              go_quiet (fail)
              go_wp2
              exact ⟨⟨k + 1, _, by go_num, by omega, rfl⟩, by simp [intOf]; omega⟩
            · have hdk : decide ((k : Int) < 256) = false := decide_eq_false (by omega)
              go_wp2
              exact ⟨⟨i + 1, by go_num, by omega, Lib.hid (below_drewN HB2.out _)⟩, by simp [intOf]; omega⟩
      · rcases a1 with rfl | rfl | rfl
        · go_wp2_with fail
          refine (win_ok' 3 n2 n3 (by omega) a2 a3 _).mono ?_
          rintro e wA ⟨g1, c1, rfl, hc1, hl1, hB1⟩
          have HC1 := Lib.hid hc1
          have HB1 := Lib.hid (hbw.out.trans (hB1.mono hbw.out.size))
          clear hc1 hB1
          go_wp2_with fail
          refine (win_ok' 0 n3 n4 (by omega) a3 a4 _).mono ?_
          rintro e wB ⟨g2, c2, rfl, hc2, hl2, hB2⟩
          have HC2 := Lib.hid hc2
          have HC1' := Lib.hid (show ∀ j, j < 512 → wB.cell? ⟨g1, j, none⟩ = some (.int .i64 ((winL 3 n2 n3).getD j 0)) from fun j hj => (hB2.cell (p := ⟨g1, j, none⟩) hl1).trans (HC1.out j hj))
          have HB2 := Lib.hid (HB1.out.trans (hB2.mono HB1.out.size))
          have HPW := Lib.hid (power_at 3 0 n2 n3 n4 (by omega) (by omega) a3 (by omega))
          clear hc2 hB2 HC1 HB1
          go_wp2
          go_loopw [12] (fun I wq => ∃ k m : Nat, I = .int .i64 k ∧ k ≤ 256 ∧ wq = wB.drewN m) (fun I _ => 256 - (intOf I).toNat)
          case atStart => exact ⟨0, 0, rfl, by decide, rfl⟩
          case round =>
            obtain ⟨k, m, rfl, hk, rfl⟩ := hrel
            by_cases hlk : k < 256
            · have hdk : decide ((k : Int) < 256) = true := decide_eq_true (by omega)
              have z1 := HC1'.out (256 + k) (by omega)
              have z2 := HC2.out k (by omega)
              obtain ⟨⟨x0, x1⟩, ⟨y0, y1⟩, p0, p1⟩ := HPW.out k hlk
              generalize (winL 3 n2 n3).getD (256 + k) 0 = x at *
              generalize (winL 0 n3 n4).getD k 0 = y at *
              have xx0 : 0 ≤ x * x := Int.mul_nonneg x0 x0
              have xx1 : x * x ≤ 17592186044416 := by have := Int.mul_le_mul x1 x1 x0 (by omega); omega
              have yy0 : 0 ≤ y * y := Int.mul_nonneg y0 y0
              have yy1 : y * y ≤ 17592186044416 := by have := Int.mul_le_mul y1 y1 y0 (by omega); omega
              have q0 : IntKind.i64.wrap (256 + (k : Int)) = 256 + (k : Int) := IntWalk.i64_in _ (by omega)
              have q7 : ((256 : Int) + (k : Int)).toNat = 256 + k := by omega
              have q8 : (0 : Int) ≤ 256 + (k : Int) := by omega
              have q9 : (256 : Int) + (k : Int) < 512 := by omega
              have q1 : IntKind.i64.wrap (x * x) = x * x := IntWalk.i64_in _ (by omega)
              have q2 : IntKind.i64.wrap (y * y) = y * y := IntWalk.i64_in _ (by omega)
              have q3 : IntKind.i64.wrap (x * x + y * y) = x * x + y * y := IntWalk.i64_in _ (by omega)
              have q4 : IntKind.i64.wrap (x * x + y * y - 17592186044416) = x * x + y * y - 17592186044416 := IntWalk.i64_in _ (by omega)
              have q5 : 256 + k < 512 := by omega
              have q6 : k < 512 := by omega
              have d3 : decide (33554432 < x * x + y * y - 17592186044416) = false := by simp; omega
              have d4 : decide (x * x + y * y - 17592186044416 < -33554432) = false := by simp; omega
              go_wp2
              go_quiet (fail)
              go_wp2
              exact ⟨⟨k + 1, _, by go_num, by omega, rfl⟩, by simp [intOf]; omega⟩
            · have hdk : decide ((k : Int) < 256) = false := decide_eq_false (by omega)
              go_wp2
              exact ⟨⟨i + 1, by go_num, by omega, Lib.hid (below_drewN HB2.out _)⟩, by simp [intOf]; omega⟩
        · go_wp2_with fail
          refine (win_ok' 3 n2 n3 (by omega) a2 a3 _).mono ?_
          rintro e wA ⟨g1, c1, rfl, hc1, hl1, hB1⟩
          have HC1 := Lib.hid hc1
          have HB1 := Lib.hid (hbw.out.trans (hB1.mono hbw.out.size))
          clear hc1 hB1
          go_wp2_with fail
          refine (win_ok' 1 n3 n4 (by omega) a3 a4 _).mono ?_
          rintro e wB ⟨g2, c2, rfl, hc2, hl2, hB2⟩
          have HC2 := Lib.hid hc2
          have HC1' := Lib.hid (show ∀ j, j < 512 → wB.cell? ⟨g1, j, none⟩ = some (.int .i64 ((winL 3 n2 n3).getD j 0)) from fun j hj => (hB2.cell (p := ⟨g1, j, none⟩) hl1).trans (HC1.out j hj))
          have HB2 := Lib.hid (HB1.out.trans (hB2.mono HB1.out.size))
          have HPW := Lib.hid (power_at 3 1 n2 n3 n4 (by omega) (by omega) a3 (by omega))
          clear hc2 hB2 HC1 HB1
          go_wp2
          go_loopw [12] (fun I wq => ∃ k m : Nat, I = .int .i64 k ∧ k ≤ 256 ∧ wq = wB.drewN m) (fun I _ => 256 - (intOf I).toNat)
          case atStart => exact ⟨0, 0, rfl, by decide, rfl⟩
          case round =>
            obtain ⟨k, m, rfl, hk, rfl⟩ := hrel
            by_cases hlk : k < 256
            · have hdk : decide ((k : Int) < 256) = true := decide_eq_true (by omega)
              have z1 := HC1'.out (256 + k) (by omega)
              have z2 := HC2.out k (by omega)
              obtain ⟨⟨x0, x1⟩, ⟨y0, y1⟩, p0, p1⟩ := HPW.out k hlk
              generalize (winL 3 n2 n3).getD (256 + k) 0 = x at *
              generalize (winL 1 n3 n4).getD k 0 = y at *
              have xx0 : 0 ≤ x * x := Int.mul_nonneg x0 x0
              have xx1 : x * x ≤ 17592186044416 := by have := Int.mul_le_mul x1 x1 x0 (by omega); omega
              have yy0 : 0 ≤ y * y := Int.mul_nonneg y0 y0
              have yy1 : y * y ≤ 17592186044416 := by have := Int.mul_le_mul y1 y1 y0 (by omega); omega
              have q0 : IntKind.i64.wrap (256 + (k : Int)) = 256 + (k : Int) := IntWalk.i64_in _ (by omega)
              have q7 : ((256 : Int) + (k : Int)).toNat = 256 + k := by omega
              have q8 : (0 : Int) ≤ 256 + (k : Int) := by omega
              have q9 : (256 : Int) + (k : Int) < 512 := by omega
              have q1 : IntKind.i64.wrap (x * x) = x * x := IntWalk.i64_in _ (by omega)
              have q2 : IntKind.i64.wrap (y * y) = y * y := IntWalk.i64_in _ (by omega)
              have q3 : IntKind.i64.wrap (x * x + y * y) = x * x + y * y := IntWalk.i64_in _ (by omega)
              have q4 : IntKind.i64.wrap (x * x + y * y - 17592186044416) = x * x + y * y - 17592186044416 := IntWalk.i64_in _ (by omega)
              have q5 : 256 + k < 512 := by omega
              have q6 : k < 512 := by omega
              have d3 : decide (33554432 < x * x + y * y - 17592186044416) = false := by simp; omega
              have d4 : decide (x * x + y * y - 17592186044416 < -33554432) = false := by simp; omega
              go_wp2
              go_quiet (fail)
              go_wp2
              exact ⟨⟨k + 1, _, by go_num, by omega, rfl⟩, by simp [intOf]; omega⟩
            · have hdk : decide ((k : Int) < 256) = false := decide_eq_false (by omega)
              go_wp2
              exact ⟨⟨i + 1, by go_num, by omega, Lib.hid (below_drewN HB2.out _)⟩, by simp [intOf]; omega⟩
        · go_wp2
          exact ⟨⟨i + 1, by go_num, by omega, hbw⟩, by simp [intOf]; omega⟩
    · have hd : decide ((i : Int) < 72) = false := decide_eq_false (by omega)
      go_wp2
      go_ret
      exact ⟨rfl, hbw.out⟩
end Go.Proofs.Ytclbbfpagkhonaa
