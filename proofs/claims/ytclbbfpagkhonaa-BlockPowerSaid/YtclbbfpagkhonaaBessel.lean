/- window.bessel, window.over: what each call answers. -/
import Derived.Test.YtclbbfpagkhonaaWinPlain
set_option linter.unusedVariables false
namespace Go.Proofs.Ytclbbfpagkhonaa
open Go.ChangeShapes Go.WideShapes Go.ChangeAt Go.RowKit

set_option maxRecDepth 100000 in
set_option maxHeartbeats 1000000 in
theorem bessel_ok (u : Int) (u0 : 0 ≤ u) (hok : besOk u 63 1 16384 16384 = true) (w : World) :
    Calls Try.prog 64 #[.int .i64 u] w fun e w' => e = .returned (.int .i64 (bessL u)) ∧ w = w' := by
  have HK := Lib.hid hok
  clear hok
  go_enter Try.func64, Try.ntmps64
  go_wp2
  go_loop [3, 4, 5] (fun T S K => ∃ (n k : Nat) (t s : Int), T = .int .i64 t ∧ S = .int .i64 s ∧ K = .int .i64 k ∧ n + k = 64 ∧ 1 ≤ k ∧ Hid (besL u n k t s = bessL u) ∧ Hid (besOk u n k t s = true)) (fun _ _ k => (64 - intOf k).toNat)
  case atStart => exact ⟨63, 1, 16384, 16384, rfl, rfl, rfl, rfl, by decide, Lib.hid rfl, HK⟩
  case round =>
    obtain ⟨n, k, t, s, rfl, rfl, rfl, hnk, hk1, hb, ho⟩ := hrel
    obtain ⟨t0, s0, s1⟩ := besOk_bounds ho.out
    by_cases hn : n = 0
    · have hf : Hid (s = bessL u) := by have := hb.out; rw [hn] at this; exact this
      have hd : decide ((k : Int) < 64) = false := by simp; omega
      clear hb ho hn
      go_wp2
      go_ret
      exact ⟨ret_int hf.out, rfl⟩
    · obtain ⟨n, rfl⟩ : ∃ m, n = m + 1 := ⟨n - 1, by omega⟩
      have hd : decide ((k : Int) < 64) = true := by simp; omega
      by_cases ht : t = 0
      · have hf : Hid (s = bessL u) := by have := hb.out; rw [ht, besL_zero] at this; exact this
        have hd2 : decide ((0 : Int) < t) = false := by simp; omega
        clear hb ho hn ht
        go_wp2
        go_ret
        exact ⟨ret_int hf.out, rfl⟩
      · have hd2 : decide ((0 : Int) < t) = true := by simp; omega
        have h1 := ho.out
        simp only [besOk, Bool.and_eq_true, decide_eq_true_eq] at h1
        obtain ⟨⟨⟨⟨_, b1⟩, _⟩, _⟩, h2⟩ := h1
        obtain ⟨t0', s0', s1'⟩ := besOk_bounds h2
        have b0 : 0 ≤ t * u := Int.mul_nonneg t0 u0
        have hkk := sq_le (show k ≤ 63 by omega)
        have hkk1 := sq_le hk1
        have e1 : ((k : Int) * k) = ((k * k : Nat) : Int) := by simp
        obtain ⟨k0, k2⟩ : (1 : Int) ≤ (k : Int) * k ∧ (k : Int) * k ≤ 3969 := by rw [e1]; omega
        have e2 : ((k * k * 65536 : Nat) : Int) = (k : Int) * k * 65536 := by simp
        rw [e2] at h2 t0' s0' s1'
        have hq := Int.ediv_le_self ((k : Int) * k * 65536) b0
        have H2 := Lib.hid h2
        have HB : Hid (besL u n (k + 1) (t * u / ((k : Int) * k * 65536)) (s + t * u / ((k : Int) * k * 65536)) = bessL u) := by
          have := hb.out; rw [besL, e2] at this; exact this
        clear h2 hb ho hn ht e1 e2 hkk hkk1
        go_wp2
        go_round
        case rel => exact ⟨n, k + 1, _, _, rfl, rfl, by go_num, by omega, by omega, HB, H2⟩
        case measure => simp [intOf]; omega
end Go.Proofs.Ytclbbfpagkhonaa
