/- The document's answer of windows: what each call answers. -/
import Derived.Test.YtcmbbmilldhnnaaG4
import Derived.Test.YtcmbbmilldhnnaaRefCos
import Derived.Test.YtcmbbmilldhnnaaRefSin
import Derived.Test.YtcmbbmilldhnnaaRefRoot
import Derived.Test.YtcmbbmilldhnnaaDown
set_option linter.unusedVariables false
namespace Go.Proofs.Ytcmbbmilldhnnaa
open Go.ChangeShapes Go.WideShapes Go.ChangeAt Go.RowKit

set_option maxHeartbeats 1000000 in
theorem part_ok (n b : Int) (n0 : 0 ≤ n) (nb : n ≤ b) (b1 : b ≤ 1000000000000000000) (w : World) :
    Calls Try.prog 89 #[.int .i64 n, .int .i64 b] w fun e w' => e = .returned (.int .i64 (overL b 44 n 0)) ∧ w = w' := by
  go_enter Try.func89, Try.ntmps89
  go_wp2
  go_loop [0, 5, 6] (fun A Q I => ∃ (k : Nat) (m q : Int), A = .int .i64 m ∧ Q = .int .i64 q ∧ I = .int .i64 k ∧ k ≤ 44 ∧ 0 ≤ q ∧ q < 2 ^ k ∧ 0 ≤ m ∧ m ≤ b ∧ Hid (overL b (44 - k) m q = overL b 44 n 0)) (fun _ _ I => 44 - (intOf I).toNat)
  case atStart => exact ⟨0, n, 0, rfl, rfl, rfl, by decide, by decide, by decide, n0, nb, Lib.hid rfl⟩
  case round =>
    obtain ⟨k, m, q, rfl, rfl, rfl, hk, q0, q1, m0, m1, hov⟩ := hrel
    by_cases hlt : k < 44
    · have hp : (2 : Int) ^ k ≤ 2 ^ 43 := pow_le_pow' (by omega)
      have hp2 : (2 : Int) ^ (k + 1) = 2 ^ k * 2 := Int.pow_succ 2 k
      have HP := Lib.hid hp2
      have hstep := hov.out
      rw [show 44 - k = (44 - (k + 1)) + 1 by omega, overL] at hstep
      have HS := Lib.hid hstep
      clear hstep hov hp2
      by_cases hc : 2 * m < b
      · have hs := HS.out
        rw [if_pos hc] at hs
        have HS' := Lib.hid hs
        clear hs HS
        go_wp2
        exact ⟨⟨k + 1, 2 * m, 2 * q, rfl, rfl, by go_num, by omega, by omega, by have := HP.out; omega, by omega, by omega, HS'⟩, by simp [intOf]; omega⟩
      · have hs := HS.out
        rw [if_neg hc] at hs
        have HS' := Lib.hid hs
        clear hs HS
        go_wp2
        exact ⟨⟨k + 1, 2 * m - b, 2 * q + 1, rfl, rfl, by go_num, by omega, by omega, by have := HP.out; omega, by omega, by omega, HS'⟩, by simp [intOf]; omega⟩
    · have hk44 : k = 44 := by omega
      have hf : Hid (q = overL b 44 n 0) := by have := hov.out; rw [hk44] at this; exact this
      clear hov hk44
      go_wp2
      go_ret
      exact ⟨ret_int hf.out, rfl⟩

set_option maxRecDepth 100000 in
set_option maxHeartbeats 1000000 in
theorem weight_long (j : Nat) (hj : j ≤ 256) (w : World) :
    Calls Try.prog 87 #[.int .i64 j, .int .i64 256, .int .i64 4] w fun e w' => e = .returned (.int .i64 (bessL (uL 256 4 j))) ∧ w = w' := by
  obtain ⟨u0, uok⟩ := fit_long hj
  rw [uL_long hj] at u0 uok ⊢
  have p0 : (0 : Int) ≤ 678231308304 * (j : Int) * (256 - (j : Int)) := Int.mul_nonneg (by omega) (by omega)
  have p1 : 678231308304 * (j : Int) * (256 - (j : Int)) ≤ 678231308304 * 256 * 256 := Int.mul_le_mul (by omega) (by omega) (by omega) (by omega)
  have HK := Lib.hid uok
  clear uok
  obtain ⟨u, hu⟩ : ∃ u, 678231308304 * (j : Int) * (256 - (j : Int)) / 4294967296 = u := ⟨_, rfl⟩
  rw [hu] at u0 HK ⊢
  go_enter Try.func87, Try.ntmps87
  go_wp2
  rw [hu]
  clear p0 p1 hu
  go_loop [8, 9, 10] (fun T S K => ∃ (n k : Nat) (t s : Int), T = .int .i64 t ∧ S = .int .i64 s ∧ K = .int .i64 k ∧ n + k = 64 ∧ 1 ≤ k ∧ Hid (besL u n k t s = bessL u) ∧ Hid (besOk u n k t s = true)) (fun _ _ K => 64 - (intOf K).toNat)
  case atStart => exact ⟨63, 1, 16384, 16384, rfl, rfl, rfl, rfl, by decide, Lib.hid rfl, HK⟩
  case round =>
    obtain ⟨n, k, t, s, rfl, rfl, rfl, hnk, hk1, hb, ho⟩ := hrel
    obtain ⟨t0, s0, s1⟩ := besOk_bounds ho.out
    by_cases hn : n = 0
    · have hf : Hid (s = bessL u) := by have := hb.out; rw [hn] at this; exact this
      have hd : decide ((k : Int) ≤ 63) = false := by simp; omega
      clear hb ho hn
      go_wp2
      go_ret
      exact ⟨ret_int hf.out, rfl⟩
    · obtain ⟨n, rfl⟩ : ∃ m, n = m + 1 := ⟨n - 1, by omega⟩
      have hd : decide ((k : Int) ≤ 63) = true := by simp; omega
      have h1 := ho.out
      simp only [besOk, Bool.and_eq_true, decide_eq_true_eq] at h1
      obtain ⟨⟨⟨⟨_, b1⟩, _⟩, _⟩, h2⟩ := h1
      obtain ⟨t0', s0', s1'⟩ := besOk_bounds h2
      have b0 : 0 ≤ t * u := Int.mul_nonneg t0 u0
      have hkk := sq_le (show k ≤ 63 by omega)
      have hkk1 := sq_le hk1
      have e1 : ((k : Int) * k) = ((k * k : Nat) : Int) := by simp
      obtain ⟨k0, k2⟩ : (1 : Int) ≤ (k : Int) * k ∧ (k : Int) * k ≤ 3969 := by rw [e1]; omega
      have e2 : ((k * k * 65536 : Nat) : Int) = 65536 * (k : Int) * k := by rw [Int.natCast_mul, ← e1]; show (k : Int) * k * 65536 = _; rw [Int.mul_comm, Int.mul_assoc]
      have e3 : 65536 * (k : Int) * k = 65536 * ((k : Int) * k) := Int.mul_assoc _ _ _
      rw [e2] at h2 t0' s0' s1'
      obtain ⟨k3, k4⟩ : (1 : Int) ≤ 65536 * (k : Int) * k ∧ 65536 * (k : Int) * k ≤ 300000000 := by rw [e3]; omega
      have hq := Int.ediv_le_self (65536 * (k : Int) * k) b0
      have H2 := Lib.hid h2
      have HB : Hid (besL u n (k + 1) (t * u / (65536 * (k : Int) * k)) (s + t * u / (65536 * (k : Int) * k)) = bessL u) := by
        have := hb.out; rw [besL, e2] at this; exact this
      clear h2 hb ho hn e1 e2 e3 hkk hkk1 k0 k2
      go_wp2
      go_round
      case rel => exact ⟨n, k + 1, _, _, rfl, rfl, by go_num, by omega, by omega, HB, H2⟩
      case measure => simp [intOf]; omega

set_option maxRecDepth 100000 in
set_option maxHeartbeats 1000000 in
theorem weight_short (j : Nat) (hj : j ≤ 32) (w : World) :
    Calls Try.prog 87 #[.int .i64 j, .int .i64 32, .int .i64 6] w fun e w' => e = .returned (.int .i64 (bessL (uL 32 6 j))) ∧ w = w' := by
  obtain ⟨u0, uok⟩ := fit_short hj
  rw [uL_short hj] at u0 uok ⊢
  have p0 : (0 : Int) ≤ 1526020443684 * (j : Int) * (32 - (j : Int)) := Int.mul_nonneg (by omega) (by omega)
  have p1 : 1526020443684 * (j : Int) * (32 - (j : Int)) ≤ 1526020443684 * 32 * 32 := Int.mul_le_mul (by omega) (by omega) (by omega) (by omega)
  have HK := Lib.hid uok
  clear uok
  obtain ⟨u, hu⟩ : ∃ u, 1526020443684 * (j : Int) * (32 - (j : Int)) / 67108864 = u := ⟨_, rfl⟩
  rw [hu] at u0 HK ⊢
  go_enter Try.func87, Try.ntmps87
  go_wp2
  rw [hu]
  clear p0 p1 hu
  go_loop [8, 9, 10] (fun T S K => ∃ (n k : Nat) (t s : Int), T = .int .i64 t ∧ S = .int .i64 s ∧ K = .int .i64 k ∧ n + k = 64 ∧ 1 ≤ k ∧ Hid (besL u n k t s = bessL u) ∧ Hid (besOk u n k t s = true)) (fun _ _ K => 64 - (intOf K).toNat)
  case atStart => exact ⟨63, 1, 16384, 16384, rfl, rfl, rfl, rfl, by decide, Lib.hid rfl, HK⟩
  case round =>
    obtain ⟨n, k, t, s, rfl, rfl, rfl, hnk, hk1, hb, ho⟩ := hrel
    obtain ⟨t0, s0, s1⟩ := besOk_bounds ho.out
    by_cases hn : n = 0
    · have hf : Hid (s = bessL u) := by have := hb.out; rw [hn] at this; exact this
      have hd : decide ((k : Int) ≤ 63) = false := by simp; omega
      clear hb ho hn
      go_wp2
      go_ret
      exact ⟨ret_int hf.out, rfl⟩
    · obtain ⟨n, rfl⟩ : ∃ m, n = m + 1 := ⟨n - 1, by omega⟩
      have hd : decide ((k : Int) ≤ 63) = true := by simp; omega
      have h1 := ho.out
      simp only [besOk, Bool.and_eq_true, decide_eq_true_eq] at h1
      obtain ⟨⟨⟨⟨_, b1⟩, _⟩, _⟩, h2⟩ := h1
      obtain ⟨t0', s0', s1'⟩ := besOk_bounds h2
      have b0 : 0 ≤ t * u := Int.mul_nonneg t0 u0
      have hkk := sq_le (show k ≤ 63 by omega)
      have hkk1 := sq_le hk1
      have e1 : ((k : Int) * k) = ((k * k : Nat) : Int) := by simp
      obtain ⟨k0, k2⟩ : (1 : Int) ≤ (k : Int) * k ∧ (k : Int) * k ≤ 3969 := by rw [e1]; omega
      have e2 : ((k * k * 65536 : Nat) : Int) = 65536 * (k : Int) * k := by rw [Int.natCast_mul, ← e1]; show (k : Int) * k * 65536 = _; rw [Int.mul_comm, Int.mul_assoc]
      have e3 : 65536 * (k : Int) * k = 65536 * ((k : Int) * k) := Int.mul_assoc _ _ _
      rw [e2] at h2 t0' s0' s1'
      obtain ⟨k3, k4⟩ : (1 : Int) ≤ 65536 * (k : Int) * k ∧ 65536 * (k : Int) * k ≤ 300000000 := by rw [e3]; omega
      have hq := Int.ediv_le_self (65536 * (k : Int) * k) b0
      have H2 := Lib.hid h2
      have HB : Hid (besL u n (k + 1) (t * u / (65536 * (k : Int) * k)) (s + t * u / (65536 * (k : Int) * k)) = bessL u) := by
        have := hb.out; rw [besL, e2] at this; exact this
      clear h2 hb ho hn e1 e2 e3 hkk hkk1 k0 k2
      go_wp2
      go_round
      case rel => exact ⟨n, k + 1, _, _, rfl, rfl, by go_num, by omega, by omega, HB, H2⟩
      case measure => simp [intOf]; omega

def RRowV (l : List Int) (w : World) (e : Ending) (w' : World) : Prop := ∃ v, e = .returned v ∧ w'.ownsRow w.heap.size 3 1 v l.length (l.map (Value.int .i64)) ∧ Below w.heap.size w w'

set_option maxRecDepth 100000 in
set_option maxHeartbeats 2000000 in
theorem refkbd_long (w : World) :
    Calls Try.prog 78 #[.int .i64 256, .int .i64 4] w (RRowV (hvL 1 false) w) := by
  obtain ⟨i0, hi, hz0, hz1, hz2⟩ := info_parts Try.infoInt
  have hfit := fun j (h : j ≤ 256) => (fit_long h).2
  have HP := Lib.hid (psum_fit hfit)
  have HL := Lib.hid (psum_le hfit)
  clear hfit
  go_enter Try.func78, Try.ntmps78
  go_wp2
  go_loop [5, 6] (fun S I => ∃ (k : Nat), S = .int .i64 (psum 256 4 k) ∧ I = .int .i64 k ∧ k ≤ 257) (fun _ I => 257 - (intOf I).toNat)
  case atStart => exact ⟨0, rfl, rfl, by decide⟩
  case round =>
    obtain ⟨k, rfl, rfl, hk⟩ := hrel
    by_cases hlt : k ≤ 256
    · obtain ⟨s0, s1⟩ := HP.out k (by omega)
      obtain ⟨s2, s3⟩ := HP.out (k + 1) (by omega)
      have hst : psum 256 4 (k + 1) = psum 256 4 k + bessL (uL 256 4 k) := psum.eq_2 _ _ _
      have HW := Lib.hid (weight_long k hlt w)
      go_wp2_with fail
      refine HW.out.mono ?_
      rintro e w2 ⟨rfl, hwl⟩
      obtain rfl := hwl
      have HS := Lib.hid hst
      clear HW
      generalize bessL (uL 256 4 k) = bl at hst HS ⊢
      go_wp2
      go_round
      case rel => exact ⟨k + 1, congrArg (Value.int .i64) HS.out.symm, by go_num, by omega⟩
      case measure => simp [intOf]; omega
    · have hk1 : k = 257 := by omega
      subst hk1
      obtain ⟨s2, s3⟩ := HP.out 257 (by omega)
      generalize hT : psum 256 4 257 = T at s2 s3
      have HT := Lib.hid hT
      clear hT
      go_wp2
      go_loopw [7, 8, 9] (fun V S I wr => ∃ (k : Nat), wr.ownsRow w.heap.size 3 1 V (((List.range k).map (kbdV 256 4)).length) (((List.range k).map (kbdV 256 4)).map (Value.int .i64)) ∧ S = .int .i64 (psum 256 4 k) ∧ I = .int .i64 k ∧ k ≤ 256 ∧ Below w.heap.size w wr) (fun _ _ I _ => 256 - (intOf I).toNat)
      case atStart => exact ⟨0, World.ownsRow_nil _ _ _ _, rfl, rfl, by decide, Below.refl _ _⟩
      case round =>
        obtain ⟨k, hown, rfl, rfl, hk2, hb⟩ := hrel
        by_cases hlt : k < 256
        · obtain ⟨s0, s1⟩ := HP.out k (by omega)
          obtain ⟨s4, s5⟩ := HP.out (k + 1) (by omega)
          have hst : psum 256 4 (k + 1) = psum 256 4 k + bessL (uL 256 4 k) := psum.eq_2 _ _ _
          have HW := Lib.hid (weight_long k (by omega) wr)
          have hle := HL.out (k + 1) (257 - (k + 1)) (by omega)
          rw [show k + 1 + (257 - (k + 1)) = 257 by omega, HT.out] at hle
          obtain ⟨v0, v1⟩ := over_nat T (psum 256 4 (k + 1))
          have hp := part_ok (psum 256 4 (k + 1)) T s4 hle (by omega) wr
          have hv : kbdV 256 4 k = sqN (overL T 44 (psum 256 4 (k + 1)) 0).toNat := by rw [kbdV, HT.out]
          rw [← v0] at hp
          generalize (overL T 44 (psum 256 4 (k + 1)) 0).toNat = N at hp hv v1
          clear v0
          have HS := Lib.hid hst
          rw [hst] at hp
          have HPT := Lib.hid hp
          have HV := Lib.hid hv
          clear hp hv
          go_wp2_with fail
          refine HW.out.mono ?_
          rintro e w2 ⟨rfl, hwl⟩
          obtain rfl := hwl
          clear HW
          generalize bessL (uL 256 4 k) = bl at hst HS HPT ⊢
          go_wp2_with fail
          refine HPT.out.mono ?_
          rintro e w2 ⟨rfl, hwl⟩
          obtain rfl := hwl
          clear HPT
          have HR := Lib.hid (refroot_ok N (by omega) wr)
          have hl0 := Lib.hid hown.lt
          have hl1 : ((List.range k).map (kbdV 256 4)).length = k := by simp
          have hl2 := Lib.hid hl1
          clear hl1
          go_wp2_with fail
          refine HR.out.mono ?_
          rintro e w2 ⟨rfl, hwl⟩
          obtain rfl := hwl
          have hown1 := hown.alloc (.cells #[.int .i64 (sqN N)] 3)
          have hb1 := hb.alloc hb.size (.cells #[.int .i64 (sqN N)] 3)
          have hsz := hb.size
          clear hown HR hb
          go_wp2_with (at_builtin; refine wpList_append_own _ rfl _ _ 22 rfl w.heap.size 3 i0 (.int .i64 0) 1 8 Try.underlying22 hi hz0 hz1 hz2 rfl (by decide) _ _ _ rfl hown1 ⟨wr.heap.size, 0, none⟩ 1 1 [.int .i64 (sqN N)] rfl rfl (cell_one_new _ _ _) (one_int _) ?c3 ?c4 ?c5 ?_)
          case c3 => rw [hl2.out]; unfold maxLen; omega
          case c4 => rw [hl2.out]; omega
          case c5 => simp; omega
          intro v' w1 hown' hg _
          have hb2 : Below w.heap.size w w1 := hb1.grown hg (by simp; omega) (fun j hj => (hl0.out j hj).1)
          have hown2 : w1.ownsRow w.heap.size 3 1 v' (((List.range (k + 1)).map (kbdV 256 4)).length) (((List.range (k + 1)).map (kbdV 256 4)).map (Value.int .i64)) := by
            rw [List.range_succ, List.map_append, List.map_append, List.length_append]
            simpa [HV.out] using hown'
          clear hown' hg hb1 hown1
          go_wp2
          exact ⟨⟨k + 1, hown2, congrArg (Value.int .i64) HS.out.symm, by go_num, by omega, hb2⟩, by simp [intOf]; omega⟩
        · have hkM : k = 256 := by omega
          subst hkM
          go_wp2
          go_ret
          exact ⟨_, rfl, hown, hb⟩

set_option maxRecDepth 100000 in
set_option maxHeartbeats 2000000 in
theorem refkbd_short (w : World) :
    Calls Try.prog 78 #[.int .i64 32, .int .i64 6] w (RRowV (hvL 1 true) w) := by
  obtain ⟨i0, hi, hz0, hz1, hz2⟩ := info_parts Try.infoInt
  have hfit := fun j (h : j ≤ 32) => (fit_short h).2
  have HP := Lib.hid (psum_fit hfit)
  have HL := Lib.hid (psum_le hfit)
  clear hfit
  go_enter Try.func78, Try.ntmps78
  go_wp2
  go_loop [5, 6] (fun S I => ∃ (k : Nat), S = .int .i64 (psum 32 6 k) ∧ I = .int .i64 k ∧ k ≤ 33) (fun _ I => 33 - (intOf I).toNat)
  case atStart => exact ⟨0, rfl, rfl, by decide⟩
  case round =>
    obtain ⟨k, rfl, rfl, hk⟩ := hrel
    by_cases hlt : k ≤ 32
    · obtain ⟨s0, s1⟩ := HP.out k (by omega)
      obtain ⟨s2, s3⟩ := HP.out (k + 1) (by omega)
      have hst : psum 32 6 (k + 1) = psum 32 6 k + bessL (uL 32 6 k) := psum.eq_2 _ _ _
      have HW := Lib.hid (weight_short k hlt w)
      go_wp2_with fail
      refine HW.out.mono ?_
      rintro e w2 ⟨rfl, hwl⟩
      obtain rfl := hwl
      have HS := Lib.hid hst
      clear HW
      generalize bessL (uL 32 6 k) = bl at hst HS ⊢
      go_wp2
      go_round
      case rel => exact ⟨k + 1, congrArg (Value.int .i64) HS.out.symm, by go_num, by omega⟩
      case measure => simp [intOf]; omega
    · have hk1 : k = 33 := by omega
      subst hk1
      obtain ⟨s2, s3⟩ := HP.out 33 (by omega)
      generalize hT : psum 32 6 33 = T at s2 s3
      have HT := Lib.hid hT
      clear hT
      go_wp2
      go_loopw [7, 8, 9] (fun V S I wr => ∃ (k : Nat), wr.ownsRow w.heap.size 3 1 V (((List.range k).map (kbdV 32 6)).length) (((List.range k).map (kbdV 32 6)).map (Value.int .i64)) ∧ S = .int .i64 (psum 32 6 k) ∧ I = .int .i64 k ∧ k ≤ 32 ∧ Below w.heap.size w wr) (fun _ _ I _ => 32 - (intOf I).toNat)
      case atStart => exact ⟨0, World.ownsRow_nil _ _ _ _, rfl, rfl, by decide, Below.refl _ _⟩
      case round =>
        obtain ⟨k, hown, rfl, rfl, hk2, hb⟩ := hrel
        by_cases hlt : k < 32
        · obtain ⟨s0, s1⟩ := HP.out k (by omega)
          obtain ⟨s4, s5⟩ := HP.out (k + 1) (by omega)
          have hst : psum 32 6 (k + 1) = psum 32 6 k + bessL (uL 32 6 k) := psum.eq_2 _ _ _
          have HW := Lib.hid (weight_short k (by omega) wr)
          have hle := HL.out (k + 1) (33 - (k + 1)) (by omega)
          rw [show k + 1 + (33 - (k + 1)) = 33 by omega, HT.out] at hle
          obtain ⟨v0, v1⟩ := over_nat T (psum 32 6 (k + 1))
          have hp := part_ok (psum 32 6 (k + 1)) T s4 hle (by omega) wr
          have hv : kbdV 32 6 k = sqN (overL T 44 (psum 32 6 (k + 1)) 0).toNat := by rw [kbdV, HT.out]
          rw [← v0] at hp
          generalize (overL T 44 (psum 32 6 (k + 1)) 0).toNat = N at hp hv v1
          clear v0
          have HS := Lib.hid hst
          rw [hst] at hp
          have HPT := Lib.hid hp
          have HV := Lib.hid hv
          clear hp hv
          go_wp2_with fail
          refine HW.out.mono ?_
          rintro e w2 ⟨rfl, hwl⟩
          obtain rfl := hwl
          clear HW
          generalize bessL (uL 32 6 k) = bl at hst HS HPT ⊢
          go_wp2_with fail
          refine HPT.out.mono ?_
          rintro e w2 ⟨rfl, hwl⟩
          obtain rfl := hwl
          clear HPT
          have HR := Lib.hid (refroot_ok N (by omega) wr)
          have hl0 := Lib.hid hown.lt
          have hl1 : ((List.range k).map (kbdV 32 6)).length = k := by simp
          have hl2 := Lib.hid hl1
          clear hl1
          go_wp2_with fail
          refine HR.out.mono ?_
          rintro e w2 ⟨rfl, hwl⟩
          obtain rfl := hwl
          have hown1 := hown.alloc (.cells #[.int .i64 (sqN N)] 3)
          have hb1 := hb.alloc hb.size (.cells #[.int .i64 (sqN N)] 3)
          have hsz := hb.size
          clear hown HR hb
          go_wp2_with (at_builtin; refine wpList_append_own _ rfl _ _ 22 rfl w.heap.size 3 i0 (.int .i64 0) 1 8 Try.underlying22 hi hz0 hz1 hz2 rfl (by decide) _ _ _ rfl hown1 ⟨wr.heap.size, 0, none⟩ 1 1 [.int .i64 (sqN N)] rfl rfl (cell_one_new _ _ _) (one_int _) ?c3 ?c4 ?c5 ?_)
          case c3 => rw [hl2.out]; unfold maxLen; omega
          case c4 => rw [hl2.out]; omega
          case c5 => simp; omega
          intro v' w1 hown' hg _
          have hb2 : Below w.heap.size w w1 := hb1.grown hg (by simp; omega) (fun j hj => (hl0.out j hj).1)
          have hown2 : w1.ownsRow w.heap.size 3 1 v' (((List.range (k + 1)).map (kbdV 32 6)).length) (((List.range (k + 1)).map (kbdV 32 6)).map (Value.int .i64)) := by
            rw [List.range_succ, List.map_append, List.map_append, List.length_append]
            simpa [HV.out] using hown'
          clear hown' hg hb1 hown1
          go_wp2
          exact ⟨⟨k + 1, hown2, congrArg (Value.int .i64) HS.out.symm, by go_num, by omega, hb2⟩, by simp [intOf]; omega⟩
        · have hkM : k = 32 := by omega
          subst hkM
          go_wp2
          go_ret
          exact ⟨_, rfl, hown, hb⟩

set_option maxRecDepth 100000 in
set_option maxHeartbeats 2000000 in
theorem refvalues_sine_long (w : World) :
    Calls Try.prog 69 #[.int .u8 0, .bool false] w (RRowV (hvL 0 false) w) := by
  obtain ⟨i0, hi, hz0, hz1, hz2⟩ := info_parts Try.infoInt
  go_enter Try.func69, Try.ntmps69
  go_wp2
  go_loopw [8, 9] (fun V I wr => ∃ (k : Nat), wr.ownsRow w.heap.size 3 1 V (((List.range k).map (sineV 1)).length) (((List.range k).map (sineV 1)).map (Value.int .i64)) ∧ I = .int .i64 k ∧ k ≤ 256 ∧ Below w.heap.size w wr) (fun _ I _ => 256 - (intOf I).toNat)
  case atStart => exact ⟨0, World.ownsRow_nil _ _ _ _, rfl, by decide, Below.refl _ _⟩
  case round =>
    obtain ⟨k, hown, rfl, hk2, hb⟩ := hrel
    by_cases hlt : k < 256
    · have ha : (((2 * k + 1) * 1 : Nat) : Int) = 2 * (k : Int) + 1 := by simp
      have hs := refsin_ok (2 * (k : Int) + 1) wr
      have hv : sineV 1 k = rnd (sinL (2 * (k : Int) + 1)) 4 := by rw [sineV, ha]
      obtain ⟨v0, v1⟩ := sin_range (2 * (k : Int) + 1)
      generalize sinL (2 * (k : Int) + 1) = S at hs hv v0 v1
      have HS := Lib.hid hs
      have HV := Lib.hid hv
      have HD := Lib.hid (down_lit S 4 4 rfl (by omega) (by omega) (by decide) wr)
      generalize rnd S 4 = R at HV HD
      clear hs hv ha
      have hl0 := Lib.hid hown.lt
      have hl1 : ((List.range k).map (sineV 1)).length = k := by simp
      have hl2 := Lib.hid hl1
      clear hl1
      go_wp2_with fail
      refine HS.out.mono ?_
      rintro e w2 ⟨rfl, hwl⟩
      obtain rfl := hwl
      go_wp2_with fail
      refine HD.out.mono ?_
      rintro e w2 ⟨rfl, hwl⟩
      obtain rfl := hwl
      have hown1 := hown.alloc (.cells #[.int .i64 R] 3)
      have hb1 := hb.alloc hb.size (.cells #[.int .i64 R] 3)
      have hsz := hb.size
      clear hown HS HD hb
      go_wp2_with (at_builtin; refine wpList_append_own _ rfl _ _ 22 rfl w.heap.size 3 i0 (.int .i64 0) 1 8 Try.underlying22 hi hz0 hz1 hz2 rfl (by decide) _ _ _ rfl hown1 ⟨wr.heap.size, 0, none⟩ 1 1 [.int .i64 R] rfl rfl (cell_one_new _ _ _) (one_int _) ?c3 ?c4 ?c5 ?_)
      case c3 => rw [hl2.out]; unfold maxLen; omega
      case c4 => rw [hl2.out]; omega
      case c5 => simp; omega
      intro v' w1 hown' hg _
      have hb2 : Below w.heap.size w w1 := hb1.grown hg (by simp; omega) (fun j hj => (hl0.out j hj).1)
      have hown2 : w1.ownsRow w.heap.size 3 1 v' (((List.range (k + 1)).map (sineV 1)).length) (((List.range (k + 1)).map (sineV 1)).map (Value.int .i64)) := by
        rw [List.range_succ, List.map_append, List.map_append, List.length_append]
        simpa [HV.out] using hown'
      clear hown' hg hb1 hown1
      go_wp2
      exact ⟨⟨k + 1, hown2, by go_num, by omega, hb2⟩, by simp [intOf]; omega⟩
    · have hkM : k = 256 := by omega
      subst hkM
      go_wp2
      go_ret
      exact ⟨_, rfl, hown, hb⟩
set_option maxRecDepth 100000 in
theorem refvalues_kbd_long (w : World) :
    Calls Try.prog 69 #[.int .u8 1, .bool false] w (RRowV (hvL 1 false) w) := by
  go_enter Try.func69, Try.ntmps69
  go_wp2_with fail
  refine (refkbd_long _).mono ?_
  rintro e w2 ⟨v, rfl, h, hb⟩
  go_wp2
  go_ret
  exact ⟨_, rfl, h, hb⟩

set_option maxRecDepth 100000 in
set_option maxHeartbeats 2000000 in
theorem refvalues_sine_short (w : World) :
    Calls Try.prog 69 #[.int .u8 0, .bool true] w (RRowV (hvL 0 true) w) := by
  obtain ⟨i0, hi, hz0, hz1, hz2⟩ := info_parts Try.infoInt
  go_enter Try.func69, Try.ntmps69
  go_wp2
  go_loopw [8, 9] (fun V I wr => ∃ (k : Nat), wr.ownsRow w.heap.size 3 1 V (((List.range k).map (sineV 8)).length) (((List.range k).map (sineV 8)).map (Value.int .i64)) ∧ I = .int .i64 k ∧ k ≤ 32 ∧ Below w.heap.size w wr) (fun _ I _ => 32 - (intOf I).toNat)
  case atStart => exact ⟨0, World.ownsRow_nil _ _ _ _, rfl, by decide, Below.refl _ _⟩
  case round =>
    obtain ⟨k, hown, rfl, hk2, hb⟩ := hrel
    by_cases hlt : k < 32
    · have ha : (((2 * k + 1) * 8 : Nat) : Int) = (2 * (k : Int) + 1) * 8 := by simp
      have hs := refsin_ok ((2 * (k : Int) + 1) * 8) wr
      have hv : sineV 8 k = rnd (sinL ((2 * (k : Int) + 1) * 8)) 4 := by rw [sineV, ha]
      obtain ⟨v0, v1⟩ := sin_range ((2 * (k : Int) + 1) * 8)
      generalize sinL ((2 * (k : Int) + 1) * 8) = S at hs hv v0 v1
      have HS := Lib.hid hs
      have HV := Lib.hid hv
      have HD := Lib.hid (down_lit S 4 4 rfl (by omega) (by omega) (by decide) wr)
      generalize rnd S 4 = R at HV HD
      clear hs hv ha
      have hl0 := Lib.hid hown.lt
      have hl1 : ((List.range k).map (sineV 8)).length = k := by simp
      have hl2 := Lib.hid hl1
      clear hl1
      go_wp2_with fail
      refine HS.out.mono ?_
      rintro e w2 ⟨rfl, hwl⟩
      obtain rfl := hwl
      go_wp2_with fail
      refine HD.out.mono ?_
      rintro e w2 ⟨rfl, hwl⟩
      obtain rfl := hwl
      have hown1 := hown.alloc (.cells #[.int .i64 R] 3)
      have hb1 := hb.alloc hb.size (.cells #[.int .i64 R] 3)
      have hsz := hb.size
      clear hown HS HD hb
      go_wp2_with (at_builtin; refine wpList_append_own _ rfl _ _ 22 rfl w.heap.size 3 i0 (.int .i64 0) 1 8 Try.underlying22 hi hz0 hz1 hz2 rfl (by decide) _ _ _ rfl hown1 ⟨wr.heap.size, 0, none⟩ 1 1 [.int .i64 R] rfl rfl (cell_one_new _ _ _) (one_int _) ?c3 ?c4 ?c5 ?_)
      case c3 => rw [hl2.out]; unfold maxLen; omega
      case c4 => rw [hl2.out]; omega
      case c5 => simp; omega
      intro v' w1 hown' hg _
      have hb2 : Below w.heap.size w w1 := hb1.grown hg (by simp; omega) (fun j hj => (hl0.out j hj).1)
      have hown2 : w1.ownsRow w.heap.size 3 1 v' (((List.range (k + 1)).map (sineV 8)).length) (((List.range (k + 1)).map (sineV 8)).map (Value.int .i64)) := by
        rw [List.range_succ, List.map_append, List.map_append, List.length_append]
        simpa [HV.out] using hown'
      clear hown' hg hb1 hown1
      go_wp2
      exact ⟨⟨k + 1, hown2, by go_num, by omega, hb2⟩, by simp [intOf]; omega⟩
    · have hkM : k = 32 := by omega
      subst hkM
      go_wp2
      go_ret
      exact ⟨_, rfl, hown, hb⟩
set_option maxRecDepth 100000 in
theorem refvalues_kbd_short (w : World) :
    Calls Try.prog 69 #[.int .u8 1, .bool true] w (RRowV (hvL 1 true) w) := by
  go_enter Try.func69, Try.ntmps69
  go_wp2_with fail
  refine (refkbd_short _).mono ?_
  rintro e w2 ⟨v, rfl, h, hb⟩
  go_wp2
  go_ret
  exact ⟨_, rfl, h, hb⟩

theorem refvalues_ok (shape : Int) (short : Bool) (h0 : shape = 0 ∨ shape = 1) (w : World) : Calls Try.prog 69 #[.int .u8 shape, .bool short] w (RRowV (hvL shape short) w) := by
  rcases h0 with rfl | rfl <;> cases short
  · exact refvalues_sine_long w
  · exact refvalues_sine_short w
  · exact refvalues_kbd_long w
  · exact refvalues_kbd_short w
end Go.Proofs.Ytcmbbmilldhnnaa
