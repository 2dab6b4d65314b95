/- MdctBack, MdctFolds: the walks. -/
import Derived.Test.YtbokkfekenmjlaaMdctNamesW
import Derived.Test.YtbokkfekenmjlaaMdctFacts
import Derived.Deep.QuietTactic
set_option linter.unusedVariables false
set_option linter.unusedSimpArgs false
namespace Go.Proofs.Ytbokkfekenmjlaa
open Go.ChangeShapes Go.WideShapes Go.ChangeAt Go.RowKit

theorem lineF_fit (M : Nat) (h : M = 256 ∨ M = 32) (z : List Int) (hz : z.length = 2 * M) (hm : ∀ j, j < z.length → -8388608 ≤ z.getD j 0 ∧ z.getD j 0 ≤ 8388608) (k : Nat) : -33554433 ≤ lineF M z k ∧ lineF M z k ≤ 33554433 := by
  have s := sumX_range z (ffA M k) (ffB M k) 8388608 hm z.length (Nat.le_refl _)
  have e := rnd_spec (sumX z (ffA M k) (ffB M k) z.length) 33 (by decide)
  unfold lineF
  generalize sumX z (ffA M k) (ffB M k) z.length = S at *
  simp at e
  omega
theorem linesF_fit (M : Nat) (h : M = 256 ∨ M = 32) (z : List Int) (hz : z.length = 2 * M) (hm : ∀ j, j < z.length → -8388608 ≤ z.getD j 0 ∧ z.getD j 0 ≤ 8388608) : (linesF z).any (oddP 268435455) = false := by
  apply List.any_eq_false.2
  intro x hx
  have : ∃ k, x = lineF M z k := by
    unfold linesF at hx
    rw [hz, show 2 * M / 2 = M by omega] at hx
    obtain ⟨k, _, rfl⟩ := List.mem_map.1 hx
    exact ⟨k, rfl⟩
  obtain ⟨k, rfl⟩ := this
  have := lineF_fit M h z hz hm k
  simp [oddP]; omega
theorem inv_of_lines (M : Nat) (h : M = 256 ∨ M = 32) (z : List Int) (hz : z.length = 2 * M) (hm : ∀ j, j < z.length → -8388608 ≤ z.getD j 0 ∧ z.getD j 0 ≤ 8388608) : invN (linesF z) = (linesI (linesF z), 0) := by
  unfold invN
  rw [if_neg (by rw [linesF_len M z hz]; omega), if_neg (by rw [linesF_fit M h z hz hm]; decide)]
/-- What Forward answers, in two ways. -/
theorem fwd_ways (z : List Int) : (∃ M, (M = 256 ∨ M = 32) ∧ z.length = 2 * M ∧ (∀ j, j < z.length → -8388608 ≤ z.getD j 0 ∧ z.getD j 0 ≤ 8388608) ∧ fwdN z = (linesF z, 0)) ∨ ∃ e, fwdN z = ([], e) ∧ (e == 0) = false := by
  unfold fwdN
  by_cases h1 : z.length ≠ 512 ∧ z.length ≠ 64
  · rw [if_pos h1]; exact .inr ⟨4, rfl, rfl⟩
  · rw [if_neg h1]
    by_cases h2 : z.any (oddP 8388608) = true
    · rw [if_pos h2]; exact .inr ⟨2, rfl, rfl⟩
    · rw [if_neg h2]
      have h3 : z.any (oddP 8388608) = false := by simpa using h2
      by_cases h4 : z.length = 512
      · exact .inl ⟨256, .inl rfl, h4, not_odd h3, rfl⟩
      · exact .inl ⟨32, .inr rfl, by omega, not_odd h3, rfl⟩
theorem inv_ways (x : List Int) : (∃ M, (M = 256 ∨ M = 32) ∧ x.length = M ∧ (∀ j, j < x.length → -268435455 ≤ x.getD j 0 ∧ x.getD j 0 ≤ 268435455) ∧ invN x = (linesI x, 0)) ∨ ∃ e, invN x = ([], e) ∧ (e == 0) = false := by
  unfold invN
  by_cases h1 : x.length ≠ 256 ∧ x.length ≠ 32
  · rw [if_pos h1]; exact .inr ⟨4, rfl, rfl⟩
  · rw [if_neg h1]
    by_cases h2 : x.any (oddP 268435455) = true
    · rw [if_pos h2]; exact .inr ⟨2, rfl, rfl⟩
    · rw [if_neg h2]
      have h3 : x.any (oddP 268435455) = false := by simpa using h2
      by_cases h4 : x.length = 256
      · exact .inl ⟨256, .inl rfl, h4, not_odd h3, rfl⟩
      · exact .inl ⟨32, .inr rfl, by omega, not_odd h3, rfl⟩
theorem lineI_fit (M : Nat) (h : M = 256 ∨ M = 32) (x : List Int) (hx : x.length = M) (hm : ∀ j, j < x.length → -268435455 ≤ x.getD j 0 ∧ x.getD j 0 ≤ 268435455) (n : Nat) : -68719476736 ≤ lineI M x n ∧ lineI M x n ≤ 68719476736 := by
  have s := sumX_range x (fiA M n) (fiB M n) 268435455 hm x.length (Nat.le_refl _)
  unfold lineI
  generalize sumX x (fiA M n) (fiB M n) x.length = S at *
  rcases h with rfl | rfl
  · have e := rnd_spec S 26 (by decide)
    simp at e ⊢
    omega
  · have e := rnd_spec S 23 (by decide)
    simp at e ⊢
    omega

set_option maxRecDepth 100000 in
set_option maxHeartbeats 2000000 in
theorem back_bad (z : List Int) (p0 : Option Addr) (c0 : Nat) (w : World) (A0 : IsArg w p0 c0 z) (h : 1000 < z.length ∨ ∃ e, fwdN z = ([], e) ∧ (e == 0) = false) :
    Calls Try.prog 6 #[.slice p0 z.length c0] w fun e w' => e = .returned (.bool true) ∧ Below w.heap.size w w' := by
  have m0 := A0.2.2.1
  unfold maxLen at m0
  by_cases h0 : 1000 < z.length
  · have d0 : decide (1000 < (z.length : Int)) = true := by simp; omega
    clear h0 h
    go_enter Try.func6, Try.ntmps6
    go_wp2_with fail
    refine (alive11 _).mono ?_
    rintro e w1 ⟨rfl, hb1⟩
    go_wp2
    go_ret
    exact ⟨rfl, hb1⟩
  · have d0 : decide (1000 < (z.length : Int)) = false := by simp; omega
    obtain ⟨err, he, hb⟩ : ∃ e, fwdN z = ([], e) ∧ (e == 0) = false := by
      rcases h with h | h
      · exact absurd h h0
      · exact h
    have HF := Lib.hid (fun p c W (h : IsInts W p z) => fwd_any z p c (by omega) W h)
    rw [he] at HF
    unfold RRowE at HF
    dsimp only at HF
    have HZ := Lib.hid A0
    have hb2 : (err != 0) = true := by simp [bne, hb]
    clear h0 h A0 he
    go_enter Try.func6, Try.ntmps6
    go_wp2_with fail
    refine (alive11 _).mono ?_
    rintro e w1 ⟨rfl, hb1⟩
    have HZ1 := Lib.hid (HZ.out.1.keep hb1)
    go_wp2_with fail
    refine (HF.out _ _ _ HZ1.out).mono ?_
    rintro e w2 ⟨v, rfl, hO, hb2⟩
    obtain ⟨p, c, rfl, -⟩ := owns_any hO
    clear hO
    go_wp2
    go_ret
    exact ⟨rfl, hb1.trans (hb2.mono hb1.size)⟩

set_option maxRecDepth 100000 in
set_option maxHeartbeats 2000000 in
theorem folds_bad (z : List Int) (p0 : Option Addr) (c0 : Nat) (w : World) (A0 : IsArg w p0 c0 z) (h : 1000 < z.length ∨ ∃ e, invN z = ([], e) ∧ (e == 0) = false) :
    Calls Try.prog 7 #[.slice p0 z.length c0] w fun e w' => e = .returned (.bool true) ∧ Below w.heap.size w w' := by
  have m0 := A0.2.2.1
  unfold maxLen at m0
  by_cases h0 : 1000 < z.length
  · have d0 : decide (1000 < (z.length : Int)) = true := by simp; omega
    clear h0 h
    go_enter Try.func7, Try.ntmps7
    go_wp2_with fail
    refine (alive11 _).mono ?_
    rintro e w1 ⟨rfl, hb1⟩
    go_wp2
    go_ret
    exact ⟨rfl, hb1⟩
  · have d0 : decide (1000 < (z.length : Int)) = false := by simp; omega
    obtain ⟨err, he, hb⟩ : ∃ e, invN z = ([], e) ∧ (e == 0) = false := by
      rcases h with h | h
      · exact absurd h h0
      · exact h
    have HF := Lib.hid (fun p c W (h : IsInts W p z) => inv_any z p c (by omega) W h)
    rw [he] at HF
    unfold RRowE at HF
    dsimp only at HF
    have HZ := Lib.hid A0
    have hb2 : (err != 0) = true := by simp [bne, hb]
    clear h0 h A0 he
    go_enter Try.func7, Try.ntmps7
    go_wp2_with fail
    refine (alive11 _).mono ?_
    rintro e w1 ⟨rfl, hb1⟩
    have HZ1 := Lib.hid (HZ.out.1.keep hb1)
    go_wp2_with fail
    refine (HF.out _ _ _ HZ1.out).mono ?_
    rintro e w2 ⟨v, rfl, hO, hb2⟩
    obtain ⟨p, c, rfl, -⟩ := owns_any hO
    clear hO
    go_wp2
    go_ret
    exact ⟨rfl, hb1.trans (hb2.mono hb1.size)⟩

set_option maxRecDepth 100000 in
set_option maxHeartbeats 4000000 in
theorem folds_ok_256 (x : List Int) (p0 : Option Addr) (c0 : Nat) (w : World) (A0 : IsArg w p0 c0 x) (hx : x.length = 256) (hm : ∀ j, j < x.length → -268435455 ≤ x.getD j 0 ∧ x.getD j 0 ≤ 268435455) (hi : invN x = (linesI x, 0)) :
    Calls Try.prog 7 #[.slice p0 256 c0] w fun e w' => e = .returned (.bool true) ∧ Below w.heap.size w w' := by
  have HF := Lib.hid (fun p c W (h : IsInts W p x) => inv_any x p c (by omega) W h)
  rw [hi, hx] at HF
  unfold RRowE at HF
  dsimp only at HF
  have HL := Lib.hid (linesI_len 256 x hx)
  have HA := Lib.hid (fun n (hn : n < 512) => linesI_at 256 x hx n hn)
  have HR := Lib.hid (fun n => lineI_fit 256 (by decide) x hx hm n)
  have H1 := Lib.hid (fun n (hn : n < 256) => fold_high 256 (by decide) x n hn)
  have H2 := Lib.hid (fun n (hn : n < 256) => fold_low 256 (by decide) x n hn)
  generalize linesI x = y at *
  generalize lineI 256 x = f at *
  have HZ := Lib.hid A0
  clear A0 hm hi hx
  go_enter Try.func7, Try.ntmps7
  go_wp2_with fail
  refine (alive11 _).mono ?_
  rintro e w1 ⟨rfl, hb1⟩
  have HZ1 := Lib.hid (HZ.out.1.keep hb1)
  go_wp2_with fail
  refine (HF.out _ _ _ HZ1.out).mono ?_
  rintro e w2 ⟨v, rfl, hO, hb2⟩
  obtain ⟨p, c, rfl, I⟩ := owns_any hO
  rw [HL.out]
  have HI := Lib.hid I
  have b2 := hb1.trans (hb2.mono hb1.size)
  clear hO I hb1 hb2 HF HZ HZ1
  go_wp2
  go_loopw [7] (fun I wr => ∃ k m : Nat, I = .int .i64 k ∧ k ≤ 256 ∧ wr = w2.drewN m) (fun I _ => 256 - (intOf I).toNat)
  case atStart => exact ⟨0, 0, rfl, by decide, rfl⟩
  case round =>
    obtain ⟨k, m, rfl, hk, rfl⟩ := hrel
    by_cases hlt : k < 256
    · obtain ⟨b, off, rfl, h1⟩ := HI.out.at (j := k) (by rw [HL.out]; omega)
      obtain ⟨b2, off2, hp2, h2⟩ := HI.out.at (j := 256 - 1 - k) (by rw [HL.out]; omega)
      obtain ⟨rfl, rfl⟩ : b = b2 ∧ off = off2 := by simpa using hp2
      obtain ⟨b2, off2, hp3, h3⟩ := HI.out.at (j := 256 + k) (by rw [HL.out]; omega)
      obtain ⟨rfl, rfl⟩ : b = b2 ∧ off = off2 := by simpa using hp3
      obtain ⟨b2, off2, hp4, h4⟩ := HI.out.at (j := 2 * 256 - 1 - k) (by rw [HL.out]; omega)
      obtain ⟨rfl, rfl⟩ : b = b2 ∧ off = off2 := by simpa using hp4
      rw [HA.out _ (by omega)] at h1 h2 h3 h4
      rw [H1.out k hlt] at h3
      obtain ⟨y1, y2⟩ := H2.out k hlt
      obtain ⟨r1, r2⟩ := HR.out k
      obtain ⟨r3, r4⟩ := HR.out (256 - 1 - k)
      rw [show 256 - 1 - k = (255 - (k : Int)).toNat by omega] at h2 y1 y2 r3 r4
      rw [show 256 + k = (256 + (k : Int)).toNat by omega] at h3
      rw [show 2 * 256 - 1 - k = (511 - (k : Int)).toNat by omega] at h3 h4
      generalize f k = x1 at h1 y1 y2 r1 r2
      generalize f (255 - (k : Int)).toNat = x2 at h2 y1 y2 r3 r4
      generalize f (511 - (k : Int)).toNat = x3 at h3 h4
      have h2b := h2
      rw [show (255 - (k : Int)).toNat = 255 - k by omega] at h2b
      have h3b := h3
      rw [show (256 + (k : Int)).toNat = 256 + k by omega] at h3b
      have h4b := h4
      rw [show (511 - (k : Int)).toNat = 511 - k by omega] at h4b
      have e1 : IntKind.i64.wrap (255 - (k : Int)) = 255 - (k : Int) := IntWalk.i64_in _ (by omega)
      have e2 : IntKind.i64.wrap (256 + (k : Int)) = 256 + (k : Int) := IntWalk.i64_in _ (by omega)
      have e3 : IntKind.i64.wrap (511 - (k : Int)) = 511 - (k : Int) := IntWalk.i64_in _ (by omega)
      have e4 : IntKind.i64.wrap (x1 + x2) = x1 + x2 := IntWalk.i64_in _ (by omega)
      have i0 : (k : Int) < 512 := by omega
      have j0 : k < 512 := by omega
      have i1 : 0 ≤ 255 - (k : Int) := by omega
      have i2 : 255 - (k : Int) < 512 := by omega
      have i3 : 0 ≤ 256 + (k : Int) := by omega
      have i4 : 256 + (k : Int) < 512 := by omega
      have i5 : 0 ≤ 511 - (k : Int) := by omega
      have i6 : 511 - (k : Int) < 512 := by omega
      have hne : (x3 != x3) = false := by simp
      clear hp2 hp3 hp4 HI HL HA HR H1 H2
      by_cases hs0 : x1 + x2 = 0
      · have t1 : (x1 + x2 != 0) = false := by simp [hs0]
        clear hs0 y1 y2
        go_wp2
        go_quiet (fail)
        go_wp2
        go_quiet (fail)
        go_wp2
        exact ⟨⟨k + 1, _, by go_num, hlt, rfl⟩, by simp [intOf]; omega⟩
      · have t1 : (x1 + x2 != 0) = true := by simp [hs0]
        have t2 : (x1 + x2 != 1) = false := by simp; omega
        clear hs0 y1 y2
        go_wp2
        go_quiet (fail)
        go_wp2
        go_quiet (fail)
        go_wp2
        exact ⟨⟨k + 1, _, by go_num, hlt, rfl⟩, by simp [intOf]; omega⟩
    · clear HI HL HA HR H1 H2
      go_wp2
      go_ret
      exact ⟨rfl, below_drewN b2 _⟩

set_option maxRecDepth 100000 in
set_option maxHeartbeats 4000000 in
theorem folds_ok_32 (x : List Int) (p0 : Option Addr) (c0 : Nat) (w : World) (A0 : IsArg w p0 c0 x) (hx : x.length = 32) (hm : ∀ j, j < x.length → -268435455 ≤ x.getD j 0 ∧ x.getD j 0 ≤ 268435455) (hi : invN x = (linesI x, 0)) :
    Calls Try.prog 7 #[.slice p0 32 c0] w fun e w' => e = .returned (.bool true) ∧ Below w.heap.size w w' := by
  have HF := Lib.hid (fun p c W (h : IsInts W p x) => inv_any x p c (by omega) W h)
  rw [hi, hx] at HF
  unfold RRowE at HF
  dsimp only at HF
  have HL := Lib.hid (linesI_len 32 x hx)
  have HA := Lib.hid (fun n (hn : n < 64) => linesI_at 32 x hx n hn)
  have HR := Lib.hid (fun n => lineI_fit 32 (by decide) x hx hm n)
  have H1 := Lib.hid (fun n (hn : n < 32) => fold_high 32 (by decide) x n hn)
  have H2 := Lib.hid (fun n (hn : n < 32) => fold_low 32 (by decide) x n hn)
  generalize linesI x = y at *
  generalize lineI 32 x = f at *
  have HZ := Lib.hid A0
  clear A0 hm hi hx
  go_enter Try.func7, Try.ntmps7
  go_wp2_with fail
  refine (alive11 _).mono ?_
  rintro e w1 ⟨rfl, hb1⟩
  have HZ1 := Lib.hid (HZ.out.1.keep hb1)
  go_wp2_with fail
  refine (HF.out _ _ _ HZ1.out).mono ?_
  rintro e w2 ⟨v, rfl, hO, hb2⟩
  obtain ⟨p, c, rfl, I⟩ := owns_any hO
  rw [HL.out]
  have HI := Lib.hid I
  have b2 := hb1.trans (hb2.mono hb1.size)
  clear hO I hb1 hb2 HF HZ HZ1
  go_wp2
  go_loopw [7] (fun I wr => ∃ k m : Nat, I = .int .i64 k ∧ k ≤ 32 ∧ wr = w2.drewN m) (fun I _ => 32 - (intOf I).toNat)
  case atStart => exact ⟨0, 0, rfl, by decide, rfl⟩
  case round =>
    obtain ⟨k, m, rfl, hk, rfl⟩ := hrel
    by_cases hlt : k < 32
    · obtain ⟨b, off, rfl, h1⟩ := HI.out.at (j := k) (by rw [HL.out]; omega)
      obtain ⟨b2, off2, hp2, h2⟩ := HI.out.at (j := 32 - 1 - k) (by rw [HL.out]; omega)
      obtain ⟨rfl, rfl⟩ : b = b2 ∧ off = off2 := by simpa using hp2
      obtain ⟨b2, off2, hp3, h3⟩ := HI.out.at (j := 32 + k) (by rw [HL.out]; omega)
      obtain ⟨rfl, rfl⟩ : b = b2 ∧ off = off2 := by simpa using hp3
      obtain ⟨b2, off2, hp4, h4⟩ := HI.out.at (j := 2 * 32 - 1 - k) (by rw [HL.out]; omega)
      obtain ⟨rfl, rfl⟩ : b = b2 ∧ off = off2 := by simpa using hp4
      rw [HA.out _ (by omega)] at h1 h2 h3 h4
      rw [H1.out k hlt] at h3
      obtain ⟨y1, y2⟩ := H2.out k hlt
      obtain ⟨r1, r2⟩ := HR.out k
      obtain ⟨r3, r4⟩ := HR.out (32 - 1 - k)
      rw [show 32 - 1 - k = (31 - (k : Int)).toNat by omega] at h2 y1 y2 r3 r4
      rw [show 32 + k = (32 + (k : Int)).toNat by omega] at h3
      rw [show 2 * 32 - 1 - k = (63 - (k : Int)).toNat by omega] at h3 h4
      generalize f k = x1 at h1 y1 y2 r1 r2
      generalize f (31 - (k : Int)).toNat = x2 at h2 y1 y2 r3 r4
      generalize f (63 - (k : Int)).toNat = x3 at h3 h4
      have h2b := h2
      rw [show (31 - (k : Int)).toNat = 31 - k by omega] at h2b
      have h3b := h3
      rw [show (32 + (k : Int)).toNat = 32 + k by omega] at h3b
      have h4b := h4
      rw [show (63 - (k : Int)).toNat = 63 - k by omega] at h4b
      have e1 : IntKind.i64.wrap (31 - (k : Int)) = 31 - (k : Int) := IntWalk.i64_in _ (by omega)
      have e2 : IntKind.i64.wrap (32 + (k : Int)) = 32 + (k : Int) := IntWalk.i64_in _ (by omega)
      have e3 : IntKind.i64.wrap (63 - (k : Int)) = 63 - (k : Int) := IntWalk.i64_in _ (by omega)
      have e4 : IntKind.i64.wrap (x1 + x2) = x1 + x2 := IntWalk.i64_in _ (by omega)
      have i0 : (k : Int) < 64 := by omega
      have j0 : k < 64 := by omega
      have i1 : 0 ≤ 31 - (k : Int) := by omega
      have i2 : 31 - (k : Int) < 64 := by omega
      have i3 : 0 ≤ 32 + (k : Int) := by omega
      have i4 : 32 + (k : Int) < 64 := by omega
      have i5 : 0 ≤ 63 - (k : Int) := by omega
      have i6 : 63 - (k : Int) < 64 := by omega
      have hne : (x3 != x3) = false := by simp
      clear hp2 hp3 hp4 HI HL HA HR H1 H2
      by_cases hs0 : x1 + x2 = 0
      · have t1 : (x1 + x2 != 0) = false := by simp [hs0]
        clear hs0 y1 y2
        go_wp2
        go_quiet (fail)
        go_wp2
        go_quiet (fail)
        go_wp2
        exact ⟨⟨k + 1, _, by go_num, hlt, rfl⟩, by simp [intOf]; omega⟩
      · have t1 : (x1 + x2 != 0) = true := by simp [hs0]
        have t2 : (x1 + x2 != 1) = false := by simp; omega
        clear hs0 y1 y2
        go_wp2
        go_quiet (fail)
        go_wp2
        go_quiet (fail)
        go_wp2
        exact ⟨⟨k + 1, _, by go_num, hlt, rfl⟩, by simp [intOf]; omega⟩
    · clear HI HL HA HR H1 H2
      go_wp2
      go_ret
      exact ⟨rfl, below_drewN b2 _⟩

theorem back_low (M : Nat) (h : M = 256 ∨ M = 32) (z : List Int) (hz : z.length = 2 * M) (hm : ∀ j, j < z.length → -8388608 ≤ z.getD j 0 ∧ z.getD j 0 ≤ 8388608) (k : Nat) (hk : k < M) :
    -320 ≤ lineI M (linesF z) k - (z.getD k 0 - z.getD (M - 1 - k) 0) ∧ lineI M (linesF z) k - (z.getD k 0 - z.getD (M - 1 - k) 0) ≤ 320 := by
  have e := back_512 M h z hz hm k (by omega)
  unfold foldT at e
  rw [if_pos hk] at e
  exact e
theorem back_high (M : Nat) (h : M = 256 ∨ M = 32) (z : List Int) (hz : z.length = 2 * M) (hm : ∀ j, j < z.length → -8388608 ≤ z.getD j 0 ∧ z.getD j 0 ≤ 8388608) (k : Nat) (hk : k < M) :
    -320 ≤ lineI M (linesF z) (M + k) - (z.getD (M + k) 0 + z.getD (2 * M - 1 - k) 0) ∧ lineI M (linesF z) (M + k) - (z.getD (M + k) 0 + z.getD (2 * M - 1 - k) 0) ≤ 320 := by
  have e := back_512 M h z hz hm (M + k) (by omega)
  unfold foldT at e
  rw [if_neg (by omega), show 3 * M - 1 - (M + k) = 2 * M - 1 - k by omega] at e
  exact e

set_option maxRecDepth 100000 in
set_option maxHeartbeats 4000000 in
theorem back_ok_256 (z : List Int) (p0 : Option Addr) (c0 : Nat) (w : World) (A0 : IsArg w p0 c0 z) (hz : z.length = 512) (hm : ∀ j, j < z.length → -8388608 ≤ z.getD j 0 ∧ z.getD j 0 ≤ 8388608) (hi : fwdN z = (linesF z, 0)) :
    Calls Try.prog 6 #[.slice p0 512 c0] w fun e w' => e = .returned (.bool true) ∧ Below w.heap.size w w' := by
  have HF := Lib.hid (fun p c W (h : IsInts W p z) => fwd_any z p c (by omega) W h)
  rw [hi, hz] at HF
  have hlx := linesF_len 256 z hz
  have HG := Lib.hid (fun p c W (h : IsInts W p (linesF z)) => inv_any (linesF z) p c (by omega) W h)
  rw [inv_of_lines 256 (by decide) z hz hm, hlx] at HG
  unfold RRowE at HF HG
  dsimp only at HF HG
  have HLX := Lib.hid hlx
  have HL := Lib.hid (linesI_len 256 (linesF z) hlx)
  have HA := Lib.hid (fun n (hn : n < 512) => linesI_at 256 (linesF z) hlx n hn)
  have H1 := Lib.hid (fun k (hk : k < 256) => back_low 256 (by decide) z hz hm k hk)
  have H2 := Lib.hid (fun k (hk : k < 256) => back_high 256 (by decide) z hz hm k hk)
  have HM := Lib.hid hm
  have HZL := Lib.hid hz
  clear hlx
  generalize linesF z = x at *
  generalize linesI x = y at *
  generalize lineI 256 x = f at *
  have HZ := Lib.hid A0
  clear A0 hm hi hz
  go_enter Try.func6, Try.ntmps6
  go_wp2_with fail
  refine (alive11 _).mono ?_
  rintro e w1 ⟨rfl, hb1⟩
  have HZ1 := Lib.hid (HZ.out.1.keep hb1)
  go_wp2_with fail
  refine (HF.out _ _ _ HZ1.out).mono ?_
  rintro e w2 ⟨v, rfl, hO, hb2⟩
  obtain ⟨p, c, rfl, I⟩ := owns_any hO
  rw [HLX.out]
  have HI := Lib.hid I
  have HZ2 := Lib.hid (HZ1.out.keep hb2)
  have b2 := hb1.trans (hb2.mono hb1.size)
  clear hO I hb1 hb2 HF HZ HZ1
  go_wp2_with fail
  refine (HG.out _ _ _ HI.out.ints).mono ?_
  rintro e w3 ⟨v, rfl, hO, hb3⟩
  obtain ⟨p, c, rfl, I⟩ := owns_any hO
  rw [HL.out]
  have HY := Lib.hid I
  have HZ3 := Lib.hid (HZ2.out.keep hb3)
  have b3 := b2.trans (hb3.mono b2.size)
  clear hO I hb3 HG HZ2 HI b2
  go_wp2
  go_loopw [9] (fun I wr => ∃ k m : Nat, I = .int .i64 k ∧ k ≤ 256 ∧ wr = w3.drewN m) (fun I _ => 256 - (intOf I).toNat)
  case atStart => exact ⟨0, 0, rfl, by decide, rfl⟩
  case round =>
    obtain ⟨k, m, rfl, hk, rfl⟩ := hrel
    by_cases hlt : k < 256
    · obtain ⟨b, off, rfl, h1⟩ := HY.out.at (j := k) (by rw [HL.out]; omega)
      obtain ⟨b2, off2, hp3, h3⟩ := HY.out.at (j := 256 + k) (by rw [HL.out]; omega)
      obtain ⟨rfl, rfl⟩ : b = b2 ∧ off = off2 := by simpa using hp3
      obtain ⟨bz, oz, rfl, g1⟩ := HZ3.out.inB.at (j := k) (by rw [HZL.out]; omega)
      obtain ⟨b2, off2, hp2, g2⟩ := HZ3.out.inB.at (j := 256 - 1 - k) (by rw [HZL.out]; omega)
      obtain ⟨rfl, rfl⟩ : bz = b2 ∧ oz = off2 := by simpa using hp2
      obtain ⟨b2, off2, hp4, g3⟩ := HZ3.out.inB.at (j := 256 + k) (by rw [HZL.out]; omega)
      obtain ⟨rfl, rfl⟩ : bz = b2 ∧ oz = off2 := by simpa using hp4
      obtain ⟨b2, off2, hp5, g4⟩ := HZ3.out.inB.at (j := 2 * 256 - 1 - k) (by rw [HZL.out]; omega)
      obtain ⟨rfl, rfl⟩ : bz = b2 ∧ oz = off2 := by simpa using hp5
      rw [HA.out _ (by omega)] at h1 h3
      obtain ⟨y1, y2⟩ := H1.out k hlt
      obtain ⟨y3, y4⟩ := H2.out k hlt
      obtain ⟨q1, q2⟩ := HM.out k (by rw [HZL.out]; omega)
      obtain ⟨q3, q4⟩ := HM.out (256 - 1 - k) (by rw [HZL.out]; omega)
      obtain ⟨q5, q6⟩ := HM.out (256 + k) (by rw [HZL.out]; omega)
      obtain ⟨q7, q8⟩ := HM.out (2 * 256 - 1 - k) (by rw [HZL.out]; omega)
      generalize f k = x1 at h1 y1 y2
      generalize f (256 + k) = x3 at h3 y3 y4
      generalize z.getD k 0 = z1 at g1 q1 q2 y1 y2
      generalize z.getD (256 - 1 - k) 0 = z2 at g2 q3 q4 y1 y2
      generalize z.getD (256 + k) 0 = z3 at g3 q5 q6 y3 y4
      generalize z.getD (2 * 256 - 1 - k) 0 = z4 at g4 q7 q8 y3 y4
      have h3b := h3
      rw [show 256 + k = (256 + (k : Int)).toNat by omega] at h3b
      have g2b := g2
      rw [show 256 - 1 - k = (255 - (k : Int)).toNat by omega] at g2b
      rw [show 256 - 1 - k = 255 - k by omega] at g2
      have g3b := g3
      rw [show 256 + k = (256 + (k : Int)).toNat by omega] at g3b
      have g4b := g4
      rw [show 2 * 256 - 1 - k = (511 - (k : Int)).toNat by omega] at g4b
      rw [show 2 * 256 - 1 - k = 511 - k by omega] at g4
      have e1 : IntKind.i64.wrap (255 - (k : Int)) = 255 - (k : Int) := IntWalk.i64_in _ (by omega)
      have e2 : IntKind.i64.wrap (256 + (k : Int)) = 256 + (k : Int) := IntWalk.i64_in _ (by omega)
      have e3 : IntKind.i64.wrap (511 - (k : Int)) = 511 - (k : Int) := IntWalk.i64_in _ (by omega)
      have e4 : IntKind.i64.wrap (z1 - z2) = z1 - z2 := IntWalk.i64_in _ (by omega)
      have e5 : IntKind.i64.wrap (z3 + z4) = z3 + z4 := IntWalk.i64_in _ (by omega)
      have e6 : IntKind.i64.wrap (x1 - (z1 - z2)) = x1 - (z1 - z2) := IntWalk.i64_in _ (by omega)
      have e7 : IntKind.i64.wrap (x3 - (z3 + z4)) = x3 - (z3 + z4) := IntWalk.i64_in _ (by omega)
      have i0 : (k : Int) < 512 := by omega
      have j0 : k < 512 := by omega
      have i1 : 0 ≤ 255 - (k : Int) := by omega
      have i2 : 255 - (k : Int) < 512 := by omega
      have i3 : 0 ≤ 256 + (k : Int) := by omega
      have i4 : 256 + (k : Int) < 512 := by omega
      have i5 : 0 ≤ 511 - (k : Int) := by omega
      have i6 : 511 - (k : Int) < 512 := by omega
      have d1 : decide (512 < x1 - (z1 - z2)) = false := by simp; omega
      have d2 : decide (x1 - (z1 - z2) < -512) = false := by simp; omega
      have d3 : decide (512 < x3 - (z3 + z4)) = false := by simp; omega
      have d4 : decide (x3 - (z3 + z4) < -512) = false := by simp; omega
      clear hp2 hp3 hp4 hp5 HY HL HA H1 H2 HM HZ3 y1 y2 y3 y4 q1 q2 q3 q4 q5 q6 q7 q8
      go_wp2
      go_quiet (fail)
      go_wp2
      go_quiet (fail)
      go_wp2
      exact ⟨⟨k + 1, _, by go_num, hlt, rfl⟩, by simp [intOf]; omega⟩
    · clear HY HL HA H1 H2 HM HZ3
      go_wp2
      go_ret
      exact ⟨rfl, below_drewN b3 _⟩

set_option maxRecDepth 100000 in
set_option maxHeartbeats 4000000 in
theorem back_ok_32 (z : List Int) (p0 : Option Addr) (c0 : Nat) (w : World) (A0 : IsArg w p0 c0 z) (hz : z.length = 64) (hm : ∀ j, j < z.length → -8388608 ≤ z.getD j 0 ∧ z.getD j 0 ≤ 8388608) (hi : fwdN z = (linesF z, 0)) :
    Calls Try.prog 6 #[.slice p0 64 c0] w fun e w' => e = .returned (.bool true) ∧ Below w.heap.size w w' := by
  have HF := Lib.hid (fun p c W (h : IsInts W p z) => fwd_any z p c (by omega) W h)
  rw [hi, hz] at HF
  have hlx := linesF_len 32 z hz
  have HG := Lib.hid (fun p c W (h : IsInts W p (linesF z)) => inv_any (linesF z) p c (by omega) W h)
  rw [inv_of_lines 32 (by decide) z hz hm, hlx] at HG
  unfold RRowE at HF HG
  dsimp only at HF HG
  have HLX := Lib.hid hlx
  have HL := Lib.hid (linesI_len 32 (linesF z) hlx)
  have HA := Lib.hid (fun n (hn : n < 64) => linesI_at 32 (linesF z) hlx n hn)
  have H1 := Lib.hid (fun k (hk : k < 32) => back_low 32 (by decide) z hz hm k hk)
  have H2 := Lib.hid (fun k (hk : k < 32) => back_high 32 (by decide) z hz hm k hk)
  have HM := Lib.hid hm
  have HZL := Lib.hid hz
  clear hlx
  generalize linesF z = x at *
  generalize linesI x = y at *
  generalize lineI 32 x = f at *
  have HZ := Lib.hid A0
  clear A0 hm hi hz
  go_enter Try.func6, Try.ntmps6
  go_wp2_with fail
  refine (alive11 _).mono ?_
  rintro e w1 ⟨rfl, hb1⟩
  have HZ1 := Lib.hid (HZ.out.1.keep hb1)
  go_wp2_with fail
  refine (HF.out _ _ _ HZ1.out).mono ?_
  rintro e w2 ⟨v, rfl, hO, hb2⟩
  obtain ⟨p, c, rfl, I⟩ := owns_any hO
  rw [HLX.out]
  have HI := Lib.hid I
  have HZ2 := Lib.hid (HZ1.out.keep hb2)
  have b2 := hb1.trans (hb2.mono hb1.size)
  clear hO I hb1 hb2 HF HZ HZ1
  go_wp2_with fail
  refine (HG.out _ _ _ HI.out.ints).mono ?_
  rintro e w3 ⟨v, rfl, hO, hb3⟩
  obtain ⟨p, c, rfl, I⟩ := owns_any hO
  rw [HL.out]
  have HY := Lib.hid I
  have HZ3 := Lib.hid (HZ2.out.keep hb3)
  have b3 := b2.trans (hb3.mono b2.size)
  clear hO I hb3 HG HZ2 HI b2
  go_wp2
  go_loopw [9] (fun I wr => ∃ k m : Nat, I = .int .i64 k ∧ k ≤ 32 ∧ wr = w3.drewN m) (fun I _ => 32 - (intOf I).toNat)
  case atStart => exact ⟨0, 0, rfl, by decide, rfl⟩
  case round =>
    obtain ⟨k, m, rfl, hk, rfl⟩ := hrel
    by_cases hlt : k < 32
    · obtain ⟨b, off, rfl, h1⟩ := HY.out.at (j := k) (by rw [HL.out]; omega)
      obtain ⟨b2, off2, hp3, h3⟩ := HY.out.at (j := 32 + k) (by rw [HL.out]; omega)
      obtain ⟨rfl, rfl⟩ : b = b2 ∧ off = off2 := by simpa using hp3
      obtain ⟨bz, oz, rfl, g1⟩ := HZ3.out.inB.at (j := k) (by rw [HZL.out]; omega)
      obtain ⟨b2, off2, hp2, g2⟩ := HZ3.out.inB.at (j := 32 - 1 - k) (by rw [HZL.out]; omega)
      obtain ⟨rfl, rfl⟩ : bz = b2 ∧ oz = off2 := by simpa using hp2
      obtain ⟨b2, off2, hp4, g3⟩ := HZ3.out.inB.at (j := 32 + k) (by rw [HZL.out]; omega)
      obtain ⟨rfl, rfl⟩ : bz = b2 ∧ oz = off2 := by simpa using hp4
      obtain ⟨b2, off2, hp5, g4⟩ := HZ3.out.inB.at (j := 2 * 32 - 1 - k) (by rw [HZL.out]; omega)
      obtain ⟨rfl, rfl⟩ : bz = b2 ∧ oz = off2 := by simpa using hp5
      rw [HA.out _ (by omega)] at h1 h3
      obtain ⟨y1, y2⟩ := H1.out k hlt
      obtain ⟨y3, y4⟩ := H2.out k hlt
      obtain ⟨q1, q2⟩ := HM.out k (by rw [HZL.out]; omega)
      obtain ⟨q3, q4⟩ := HM.out (32 - 1 - k) (by rw [HZL.out]; omega)
      obtain ⟨q5, q6⟩ := HM.out (32 + k) (by rw [HZL.out]; omega)
      obtain ⟨q7, q8⟩ := HM.out (2 * 32 - 1 - k) (by rw [HZL.out]; omega)
      generalize f k = x1 at h1 y1 y2
      generalize f (32 + k) = x3 at h3 y3 y4
      generalize z.getD k 0 = z1 at g1 q1 q2 y1 y2
      generalize z.getD (32 - 1 - k) 0 = z2 at g2 q3 q4 y1 y2
      generalize z.getD (32 + k) 0 = z3 at g3 q5 q6 y3 y4
      generalize z.getD (2 * 32 - 1 - k) 0 = z4 at g4 q7 q8 y3 y4
      have h3b := h3
      rw [show 32 + k = (32 + (k : Int)).toNat by omega] at h3b
      have g2b := g2
      rw [show 32 - 1 - k = (31 - (k : Int)).toNat by omega] at g2b
      rw [show 32 - 1 - k = 31 - k by omega] at g2
      have g3b := g3
      rw [show 32 + k = (32 + (k : Int)).toNat by omega] at g3b
      have g4b := g4
      rw [show 2 * 32 - 1 - k = (63 - (k : Int)).toNat by omega] at g4b
      rw [show 2 * 32 - 1 - k = 63 - k by omega] at g4
      have e1 : IntKind.i64.wrap (31 - (k : Int)) = 31 - (k : Int) := IntWalk.i64_in _ (by omega)
      have e2 : IntKind.i64.wrap (32 + (k : Int)) = 32 + (k : Int) := IntWalk.i64_in _ (by omega)
      have e3 : IntKind.i64.wrap (63 - (k : Int)) = 63 - (k : Int) := IntWalk.i64_in _ (by omega)
      have e4 : IntKind.i64.wrap (z1 - z2) = z1 - z2 := IntWalk.i64_in _ (by omega)
      have e5 : IntKind.i64.wrap (z3 + z4) = z3 + z4 := IntWalk.i64_in _ (by omega)
      have e6 : IntKind.i64.wrap (x1 - (z1 - z2)) = x1 - (z1 - z2) := IntWalk.i64_in _ (by omega)
      have e7 : IntKind.i64.wrap (x3 - (z3 + z4)) = x3 - (z3 + z4) := IntWalk.i64_in _ (by omega)
      have i0 : (k : Int) < 64 := by omega
      have j0 : k < 64 := by omega
      have i1 : 0 ≤ 31 - (k : Int) := by omega
      have i2 : 31 - (k : Int) < 64 := by omega
      have i3 : 0 ≤ 32 + (k : Int) := by omega
      have i4 : 32 + (k : Int) < 64 := by omega
      have i5 : 0 ≤ 63 - (k : Int) := by omega
      have i6 : 63 - (k : Int) < 64 := by omega
      have d1 : decide (512 < x1 - (z1 - z2)) = false := by simp; omega
      have d2 : decide (x1 - (z1 - z2) < -512) = false := by simp; omega
      have d3 : decide (512 < x3 - (z3 + z4)) = false := by simp; omega
      have d4 : decide (x3 - (z3 + z4) < -512) = false := by simp; omega
      clear hp2 hp3 hp4 hp5 HY HL HA H1 H2 HM HZ3 y1 y2 y3 y4 q1 q2 q3 q4 q5 q6 q7 q8
      go_wp2
      go_quiet (fail)
      go_wp2
      go_quiet (fail)
      go_wp2
      exact ⟨⟨k + 1, _, by go_num, hlt, rfl⟩, by simp [intOf]; omega⟩
    · clear HY HL HA H1 H2 HM HZ3
      go_wp2
      go_ret
      exact ⟨rfl, below_drewN b3 _⟩

theorem back_any (z : List Int) (p0 : Option Addr) (c0 : Nat) (w : World) (A0 : IsArg w p0 c0 z) :
    Calls Try.prog 6 #[.slice p0 z.length c0] w fun e w' => e = .returned (.bool true) ∧ Below w.heap.size w w' := by
  rcases fwd_ways z with ⟨M, hM, hz, hm, hi⟩ | h
  · rcases hM with rfl | rfl
    · have hz' : z.length = 512 := hz
      rw [hz']; exact back_ok_256 z p0 c0 w A0 hz' hm hi
    · have hz' : z.length = 64 := hz
      rw [hz']; exact back_ok_32 z p0 c0 w A0 hz' hm hi
  · exact back_bad z p0 c0 w A0 (.inr h)
theorem folds_any (x : List Int) (p0 : Option Addr) (c0 : Nat) (w : World) (A0 : IsArg w p0 c0 x) :
    Calls Try.prog 7 #[.slice p0 x.length c0] w fun e w' => e = .returned (.bool true) ∧ Below w.heap.size w w' := by
  rcases inv_ways x with ⟨M, hM, hx, hm, hi⟩ | h
  · rcases hM with rfl | rfl
    · rw [hx]; exact folds_ok_256 x p0 c0 w A0 hx hm hi
    · rw [hx]; exact folds_ok_32 x p0 c0 w A0 hx hm hi
  · exact folds_bad x p0 c0 w A0 (.inr h)
end Go.Proofs.Ytbokkfekenmjlaa
