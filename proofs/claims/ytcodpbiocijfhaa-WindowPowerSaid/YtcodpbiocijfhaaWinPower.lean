/- The stage's theorem. -/
import Derived.Test.YtcodpbiocijfhaaWinLaws
set_option linter.unusedVariables false
namespace Go.Proofs.Ytcodpbiocijfhaa
open Go.ChangeShapes Go.WideShapes Go.ChangeAt Go.RowKit

/- POWER -/
theorem powT {l : List Int} {n : Nat} (h : powOk l n = true) : 0 < l.getD n 0 ∧ l.getD n 0 ≤ 4194304 ∧ (n = 0 ∨ l.getD (n - 1) 0 ≤ l.getD n 0) ∧
    l.getD n 0 * l.getD n 0 + l.getD (l.length - 1 - n) 0 * l.getD (l.length - 1 - n) 0 - 17592186044416 ≤ 33554432 ∧
    -33554432 ≤ l.getD n 0 * l.getD n 0 + l.getD (l.length - 1 - n) 0 * l.getD (l.length - 1 - n) 0 - 17592186044416 := by
  simp only [powOk, Bool.and_eq_true, Bool.or_eq_true, decide_eq_true_eq] at h
  obtain ⟨⟨⟨⟨a, b⟩, c⟩, d⟩, e⟩ := h
  exact ⟨a, b, c, d, e⟩
theorem sqx {x : Int} (h0 : 0 < x) (h1 : x ≤ 4194304) : 0 ≤ x * x ∧ x * x ≤ 17592186044416 :=
  ⟨Int.mul_nonneg (by omega) (by omega), Int.mul_le_mul h1 h1 (by omega) (by decide)⟩

set_option maxRecDepth 100000 in
set_option maxHeartbeats 4000000 in
theorem power05 (w : World) :
    Calls Try.prog 5 #[] w fun e w' => e = .returned (.bool true) ∧ Below w.heap.size w w' := by
  go_enter Try.func5, Try.ntmps5
  go_wp2_with fail
  refine (alive05 _).mono ?_
  rintro e w2 ⟨rfl, hb2⟩
  go_wp2
  go_loopw [2] (fun I wr => ∃ i : Int, I = .int .i64 i ∧ 0 ≤ i ∧ i ≤ 4 ∧ Below w.heap.size w wr) (fun I _ => 4 - (intOf I).toNat)
  case atStart => exact ⟨0, rfl, by decide, by decide, hb2⟩
  case round =>
    obtain ⟨i, rfl, i0, i1, hbw⟩ := hrel
    clear hb2
    have hi : i = 0 ∨ i = 1 ∨ i = 2 ∨ i = 3 ∨ i = 4 := by omega
    clear i0 i1
    rcases hi with rfl | rfl | rfl | rfl | rfl
    · go_wp2_with fail
      refine (half_sine_long _).mono ?_
      rintro e w1 ⟨g, rfl, hO, hb⟩
      rw [show hvL 0 false = sineTabL from hv_tab 0 false (by decide), show hvLen false = 256 from rfl] at hO
      rw [show hvLen false = 256 from rfl]
      have HC := Lib.hid (fun j (hj : j < 256) => row_at hO j _ hj (tab_at (l := sineTabL) hj))
      have HT := Lib.hid (fun j (hj : j < 256) => powT (List.all_eq_true.1 pow_sineL j (List.mem_range.2 hj)))
      have hb1 := hbw.trans (hb.mono hbw.size)
      clear hO hb
      go_wp2
      go_loopw [6] (fun I wq => ∃ k m : Nat, I = .int .i64 k ∧ k ≤ 256 ∧ wq = w1.drewN m) (fun I _ => 256 - (intOf I).toNat)
      case atStart => exact ⟨0, 0, rfl, by decide, rfl⟩
      case round =>
        obtain ⟨k, m, rfl, hk, rfl⟩ := hrel
        by_cases hlt : k < 256
        · have c0 := HC.out k hlt
          have c1 := HC.out (256 - 1 - k) (by omega)
          obtain ⟨x0, x1, x2, t1, t2⟩ := HT.out k hlt
          obtain ⟨y0, y1, _, _, _⟩ := HT.out (256 - 1 - k) (by omega)
          rw [show (sineTabL).length = 256 from rfl] at t1 t2
          generalize hX : (sineTabL).getD k 0 = x at *
          generalize hY : (sineTabL).getD (256 - 1 - k) 0 = y at *
          clear hX hY
          obtain ⟨xx0, xx1⟩ := sqx x0 x1
          obtain ⟨yy0, yy1⟩ := sqx y0 y1
          have q1 : IntKind.i64.wrap (x * x) = x * x := IntWalk.i64_in _ (by omega)
          have q2 : IntKind.i64.wrap (y * y) = y * y := IntWalk.i64_in _ (by omega)
          have q3 : IntKind.i64.wrap (x * x + y * y) = x * x + y * y := IntWalk.i64_in _ (by omega)
          have q4 : IntKind.i64.wrap (x * x + y * y - 17592186044416) = x * x + y * y - 17592186044416 := IntWalk.i64_in _ (by omega)
          have q5 : ((255 : Int) - (k : Int)).toNat = 256 - 1 - k := by omega
          have q6 : (0 : Int) ≤ 255 - (k : Int) := by omega
          have q7 : (255 : Int) - (k : Int) < 256 := by omega
          have d1 : decide (x ≤ 0) = false := by simp; omega
          have d2 : decide (4194304 < x) = false := by simp; omega
          have d3 : decide (33554432 < x * x + y * y - 17592186044416) = false := by simp; omega
          have d4 : decide (x * x + y * y - 17592186044416 < -33554432) = false := by simp; omega
          have d5 : decide (x * x + y * y - 17592186044416 ≤ 33554432) = true := by simp; omega
          by_cases hk0 : k = 0
          · subst hk0
            go_wp2
            go_quiet (fail)
            go_wp2
            go_quiet (fail)
            go_wp2
            exact ⟨⟨0 + 1, _, by go_num, by omega, rfl⟩, by simp [intOf]⟩
          · have x2 := x2.resolve_left hk0
            have c2 := HC.out (k - 1) (by omega)
            generalize hZ : (sineTabL).getD (k - 1) 0 = z at *
            clear hZ
            have d6 : decide (x < z) = false := by simp; omega
            have d7 : decide ((0 : Int) < k) = true := by simp; omega
            have d8 : decide (0 < k) = true := by simp; omega
            have q8 : IntKind.i64.wrap ((k : Int) - 1) = (k : Int) - 1 := IntWalk.i64_in _ (by omega)
            have q9 : ((k : Int) - 1).toNat = k - 1 := by omega
            have q10 : (0 : Int) ≤ (k : Int) - 1 := by omega
            have q11 : (k : Int) - 1 < 256 := by omega
            go_wp2
            go_quiet (fail)
            go_wp2
            go_quiet (fail)
            go_wp2
            exact ⟨⟨k + 1, _, by go_num, by omega, rfl⟩, by simp [intOf]; omega⟩
        · go_wp2
          exact ⟨⟨1, rfl, by decide, by decide, below_drewN hb1 _⟩, by simp [intOf]⟩
    · go_wp2_with fail
      refine (half_sine_short _).mono ?_
      rintro e w1 ⟨g, rfl, hO, hb⟩
      rw [show hvL 0 true = sineTabS from hv_tab 0 true (by decide), show hvLen true = 32 from rfl] at hO
      rw [show hvLen true = 32 from rfl]
      have HC := Lib.hid (fun j (hj : j < 32) => row_at hO j _ hj (tab_at (l := sineTabS) hj))
      have HT := Lib.hid (fun j (hj : j < 32) => powT (List.all_eq_true.1 pow_sineS j (List.mem_range.2 hj)))
      have hb1 := hbw.trans (hb.mono hbw.size)
      clear hO hb
      go_wp2
      go_loopw [6] (fun I wq => ∃ k m : Nat, I = .int .i64 k ∧ k ≤ 32 ∧ wq = w1.drewN m) (fun I _ => 32 - (intOf I).toNat)
      case atStart => exact ⟨0, 0, rfl, by decide, rfl⟩
      case round =>
        obtain ⟨k, m, rfl, hk, rfl⟩ := hrel
        by_cases hlt : k < 32
        · have c0 := HC.out k hlt
          have c1 := HC.out (32 - 1 - k) (by omega)
          obtain ⟨x0, x1, x2, t1, t2⟩ := HT.out k hlt
          obtain ⟨y0, y1, _, _, _⟩ := HT.out (32 - 1 - k) (by omega)
          rw [show (sineTabS).length = 32 from rfl] at t1 t2
          generalize hX : (sineTabS).getD k 0 = x at *
          generalize hY : (sineTabS).getD (32 - 1 - k) 0 = y at *
          clear hX hY
          obtain ⟨xx0, xx1⟩ := sqx x0 x1
          obtain ⟨yy0, yy1⟩ := sqx y0 y1
          have q1 : IntKind.i64.wrap (x * x) = x * x := IntWalk.i64_in _ (by omega)
          have q2 : IntKind.i64.wrap (y * y) = y * y := IntWalk.i64_in _ (by omega)
          have q3 : IntKind.i64.wrap (x * x + y * y) = x * x + y * y := IntWalk.i64_in _ (by omega)
          have q4 : IntKind.i64.wrap (x * x + y * y - 17592186044416) = x * x + y * y - 17592186044416 := IntWalk.i64_in _ (by omega)
          have q5 : ((31 : Int) - (k : Int)).toNat = 32 - 1 - k := by omega
          have q6 : (0 : Int) ≤ 31 - (k : Int) := by omega
          have q7 : (31 : Int) - (k : Int) < 32 := by omega
          have d1 : decide (x ≤ 0) = false := by simp; omega
          have d2 : decide (4194304 < x) = false := by simp; omega
          have d3 : decide (33554432 < x * x + y * y - 17592186044416) = false := by simp; omega
          have d4 : decide (x * x + y * y - 17592186044416 < -33554432) = false := by simp; omega
          have d5 : decide (x * x + y * y - 17592186044416 ≤ 33554432) = true := by simp; omega
          by_cases hk0 : k = 0
          · subst hk0
            go_wp2
            go_quiet (fail)
            go_wp2
            go_quiet (fail)
            go_wp2
            exact ⟨⟨0 + 1, _, by go_num, by omega, rfl⟩, by simp [intOf]⟩
          · have x2 := x2.resolve_left hk0
            have c2 := HC.out (k - 1) (by omega)
            generalize hZ : (sineTabS).getD (k - 1) 0 = z at *
            clear hZ
            have d6 : decide (x < z) = false := by simp; omega
            have d7 : decide ((0 : Int) < k) = true := by simp; omega
            have d8 : decide (0 < k) = true := by simp; omega
            have q8 : IntKind.i64.wrap ((k : Int) - 1) = (k : Int) - 1 := IntWalk.i64_in _ (by omega)
            have q9 : ((k : Int) - 1).toNat = k - 1 := by omega
            have q10 : (0 : Int) ≤ (k : Int) - 1 := by omega
            have q11 : (k : Int) - 1 < 32 := by omega
            go_wp2
            go_quiet (fail)
            go_wp2
            go_quiet (fail)
            go_wp2
            exact ⟨⟨k + 1, _, by go_num, by omega, rfl⟩, by simp [intOf]; omega⟩
        · go_wp2
          exact ⟨⟨2, rfl, by decide, by decide, below_drewN hb1 _⟩, by simp [intOf]⟩
    · go_wp2_with fail
      refine (half_kbd_long _).mono ?_
      rintro e w1 ⟨g, rfl, hO, hb⟩
      rw [show hvL 1 false = kbdTabL from hv_tab 1 false (by decide), show hvLen false = 256 from rfl] at hO
      rw [show hvLen false = 256 from rfl]
      have HC := Lib.hid (fun j (hj : j < 256) => row_at hO j _ hj (tab_at (l := kbdTabL) hj))
      have HT := Lib.hid (fun j (hj : j < 256) => powT (List.all_eq_true.1 pow_kbdL j (List.mem_range.2 hj)))
      have hb1 := hbw.trans (hb.mono hbw.size)
      clear hO hb
      go_wp2
      go_loopw [6] (fun I wq => ∃ k m : Nat, I = .int .i64 k ∧ k ≤ 256 ∧ wq = w1.drewN m) (fun I _ => 256 - (intOf I).toNat)
      case atStart => exact ⟨0, 0, rfl, by decide, rfl⟩
      case round =>
        obtain ⟨k, m, rfl, hk, rfl⟩ := hrel
        by_cases hlt : k < 256
        · have c0 := HC.out k hlt
          have c1 := HC.out (256 - 1 - k) (by omega)
          obtain ⟨x0, x1, x2, t1, t2⟩ := HT.out k hlt
          obtain ⟨y0, y1, _, _, _⟩ := HT.out (256 - 1 - k) (by omega)
          rw [show (kbdTabL).length = 256 from rfl] at t1 t2
          generalize hX : (kbdTabL).getD k 0 = x at *
          generalize hY : (kbdTabL).getD (256 - 1 - k) 0 = y at *
          clear hX hY
          obtain ⟨xx0, xx1⟩ := sqx x0 x1
          obtain ⟨yy0, yy1⟩ := sqx y0 y1
          have q1 : IntKind.i64.wrap (x * x) = x * x := IntWalk.i64_in _ (by omega)
          have q2 : IntKind.i64.wrap (y * y) = y * y := IntWalk.i64_in _ (by omega)
          have q3 : IntKind.i64.wrap (x * x + y * y) = x * x + y * y := IntWalk.i64_in _ (by omega)
          have q4 : IntKind.i64.wrap (x * x + y * y - 17592186044416) = x * x + y * y - 17592186044416 := IntWalk.i64_in _ (by omega)
          have q5 : ((255 : Int) - (k : Int)).toNat = 256 - 1 - k := by omega
          have q6 : (0 : Int) ≤ 255 - (k : Int) := by omega
          have q7 : (255 : Int) - (k : Int) < 256 := by omega
          have d1 : decide (x ≤ 0) = false := by simp; omega
          have d2 : decide (4194304 < x) = false := by simp; omega
          have d3 : decide (33554432 < x * x + y * y - 17592186044416) = false := by simp; omega
          have d4 : decide (x * x + y * y - 17592186044416 < -33554432) = false := by simp; omega
          have d5 : decide (x * x + y * y - 17592186044416 ≤ 33554432) = true := by simp; omega
          by_cases hk0 : k = 0
          · subst hk0
            go_wp2
            go_quiet (fail)
            go_wp2
            go_quiet (fail)
            go_wp2
            exact ⟨⟨0 + 1, _, by go_num, by omega, rfl⟩, by simp [intOf]⟩
          · have x2 := x2.resolve_left hk0
            have c2 := HC.out (k - 1) (by omega)
            generalize hZ : (kbdTabL).getD (k - 1) 0 = z at *
            clear hZ
            have d6 : decide (x < z) = false := by simp; omega
            have d7 : decide ((0 : Int) < k) = true := by simp; omega
            have d8 : decide (0 < k) = true := by simp; omega
            have q8 : IntKind.i64.wrap ((k : Int) - 1) = (k : Int) - 1 := IntWalk.i64_in _ (by omega)
            have q9 : ((k : Int) - 1).toNat = k - 1 := by omega
            have q10 : (0 : Int) ≤ (k : Int) - 1 := by omega
            have q11 : (k : Int) - 1 < 256 := by omega
            go_wp2
            go_quiet (fail)
            go_wp2
            go_quiet (fail)
            go_wp2
            exact ⟨⟨k + 1, _, by go_num, by omega, rfl⟩, by simp [intOf]; omega⟩
        · go_wp2
          exact ⟨⟨3, rfl, by decide, by decide, below_drewN hb1 _⟩, by simp [intOf]⟩
    · go_wp2_with fail
      refine (half_kbd_short _).mono ?_
      rintro e w1 ⟨g, rfl, hO, hb⟩
      rw [show hvL 1 true = kbdTabS from hv_tab 1 true (by decide), show hvLen true = 32 from rfl] at hO
      rw [show hvLen true = 32 from rfl]
      have HC := Lib.hid (fun j (hj : j < 32) => row_at hO j _ hj (tab_at (l := kbdTabS) hj))
      have HT := Lib.hid (fun j (hj : j < 32) => powT (List.all_eq_true.1 pow_kbdS j (List.mem_range.2 hj)))
      have hb1 := hbw.trans (hb.mono hbw.size)
      clear hO hb
      go_wp2
      go_loopw [6] (fun I wq => ∃ k m : Nat, I = .int .i64 k ∧ k ≤ 32 ∧ wq = w1.drewN m) (fun I _ => 32 - (intOf I).toNat)
      case atStart => exact ⟨0, 0, rfl, by decide, rfl⟩
      case round =>
        obtain ⟨k, m, rfl, hk, rfl⟩ := hrel
        by_cases hlt : k < 32
        · have c0 := HC.out k hlt
          have c1 := HC.out (32 - 1 - k) (by omega)
          obtain ⟨x0, x1, x2, t1, t2⟩ := HT.out k hlt
          obtain ⟨y0, y1, _, _, _⟩ := HT.out (32 - 1 - k) (by omega)
          rw [show (kbdTabS).length = 32 from rfl] at t1 t2
          generalize hX : (kbdTabS).getD k 0 = x at *
          generalize hY : (kbdTabS).getD (32 - 1 - k) 0 = y at *
          clear hX hY
          obtain ⟨xx0, xx1⟩ := sqx x0 x1
          obtain ⟨yy0, yy1⟩ := sqx y0 y1
          have q1 : IntKind.i64.wrap (x * x) = x * x := IntWalk.i64_in _ (by omega)
          have q2 : IntKind.i64.wrap (y * y) = y * y := IntWalk.i64_in _ (by omega)
          have q3 : IntKind.i64.wrap (x * x + y * y) = x * x + y * y := IntWalk.i64_in _ (by omega)
          have q4 : IntKind.i64.wrap (x * x + y * y - 17592186044416) = x * x + y * y - 17592186044416 := IntWalk.i64_in _ (by omega)
          have q5 : ((31 : Int) - (k : Int)).toNat = 32 - 1 - k := by omega
          have q6 : (0 : Int) ≤ 31 - (k : Int) := by omega
          have q7 : (31 : Int) - (k : Int) < 32 := by omega
          have d1 : decide (x ≤ 0) = false := by simp; omega
          have d2 : decide (4194304 < x) = false := by simp; omega
          have d3 : decide (33554432 < x * x + y * y - 17592186044416) = false := by simp; omega
          have d4 : decide (x * x + y * y - 17592186044416 < -33554432) = false := by simp; omega
          have d5 : decide (x * x + y * y - 17592186044416 ≤ 33554432) = true := by simp; omega
          by_cases hk0 : k = 0
          · subst hk0
            go_wp2
            go_quiet (fail)
            go_wp2
            go_quiet (fail)
            go_wp2
            exact ⟨⟨0 + 1, _, by go_num, by omega, rfl⟩, by simp [intOf]⟩
          · have x2 := x2.resolve_left hk0
            have c2 := HC.out (k - 1) (by omega)
            generalize hZ : (kbdTabS).getD (k - 1) 0 = z at *
            clear hZ
            have d6 : decide (x < z) = false := by simp; omega
            have d7 : decide ((0 : Int) < k) = true := by simp; omega
            have d8 : decide (0 < k) = true := by simp; omega
            have q8 : IntKind.i64.wrap ((k : Int) - 1) = (k : Int) - 1 := IntWalk.i64_in _ (by omega)
            have q9 : ((k : Int) - 1).toNat = k - 1 := by omega
            have q10 : (0 : Int) ≤ (k : Int) - 1 := by omega
            have q11 : (k : Int) - 1 < 32 := by omega
            go_wp2
            go_quiet (fail)
            go_wp2
            go_quiet (fail)
            go_wp2
            exact ⟨⟨k + 1, _, by go_num, by omega, rfl⟩, by simp [intOf]; omega⟩
        · go_wp2
          exact ⟨⟨4, rfl, by decide, by decide, below_drewN hb1 _⟩, by simp [intOf]⟩
    · go_wp2
      go_ret
      exact ⟨rfl, hbw⟩
end Go.Proofs.Ytcodpbiocijfhaa
