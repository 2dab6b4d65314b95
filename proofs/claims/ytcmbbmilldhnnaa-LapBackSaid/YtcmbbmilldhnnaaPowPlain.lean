/- Squares of two windows' values over one place. -/
import Derived.Test.YtcmbbmilldhnnaaG5
set_option linter.unusedVariables false
namespace Go.Proofs.Ytcmbbmilldhnnaa

def PowIs (x y : Int) : Prop := (0 ≤ x ∧ x ≤ 4194304) ∧ (0 ≤ y ∧ y ≤ 4194304) ∧ -33554432 ≤ x * x + y * y - 17592186044416 ∧ x * x + y * y - 17592186044416 ≤ 33554432
theorem PowIs.turn {x y : Int} (h : PowIs x y) : PowIs y x := by
  obtain ⟨a, b, c, d⟩ := h
  exact ⟨b, a, by omega, by omega⟩
theorem pow_of_ok {l : List Int} {m n : Nat} (hm : l.length = m) (hall : (List.range m).all (powOk l) = true) (hn : n < m) : PowIs (l.getD n 0) (l.getD (m - 1 - n) 0) := by
  have h1 := List.all_eq_true.1 hall n (List.mem_range.2 hn)
  have h2 := List.all_eq_true.1 hall (m - 1 - n) (List.mem_range.2 (by omega))
  unfold powOk at h1 h2
  rw [hm] at h1
  simp only [Bool.and_eq_true, decide_eq_true_eq] at h1 h2
  exact ⟨⟨by omega, by omega⟩, ⟨by omega, by omega⟩, by omega, by omega⟩
theorem pow_hv (shape : Int) (h : shape = 0 ∨ shape = 1) (short : Bool) (m n : Nat) (hm : hvLen short = m) (hn : n < m) : PowIs ((hvL shape short).getD n 0) ((hvL shape short).getD (m - 1 - n) 0) := by
  have hl : (hvL shape short).length = m := by rw [half_length, hm]
  have ht := hv_tab shape short h
  rw [ht] at hl ⊢
  have e256 : hvLen false = 256 := rfl
  have e32 : hvLen true = 32 := rfl
  rcases h with rfl | rfl <;> cases short
  · obtain rfl : m = 256 := by omega
    exact pow_of_ok hl pow_sineL hn
  · obtain rfl : m = 32 := by omega
    exact pow_of_ok hl pow_sineS hn
  · obtain rfl : m = 256 := by omega
    exact pow_of_ok hl pow_kbdL hn
  · obtain rfl : m = 32 := by omega
    exact pow_of_ok hl pow_kbdS hn
theorem getD_rev {l : List Int} {m j : Nat} (hm : l.length = m) (hj : j < m) : l.reverse.getD j 0 = l.getD (m - 1 - j) 0 := by
  subst hm
  rw [List.getD_eq_getElem?_getD, List.getD_eq_getElem?_getD, List.getElem?_reverse hj]
theorem rep_get {j : Nat} (h : j < 112) : (repL 4194304).getD j 0 = 4194304 := getD_const (n := 112) rfl h
theorem nought_get (j : Nat) : noughtL.getD j 0 = 0 := getD_nought (fun x hx => List.eq_of_mem_replicate hx) j
/-- A long second half. -/
theorem fall_long (one was mid : Int) (h : one = 0 ∨ one = 3) {n : Nat} (hn : n < 256) : (winL one was mid).getD (256 + n) 0 = (hvL mid false).getD (255 - n) 0 := by
  rcases h with rfl | rfl
  · rw [win0, getD_right (hv_len256 was) (by omega), getD_rev (hv_len256 mid) (by omega), show 256 - 1 - (256 + n - 256) = 255 - n by omega]
  · rw [win3, getD_right noughtL_len (by omega), getD_right (hv_len32 was) (by omega), getD_right (repL_len _) (by omega), getD_rev (hv_len256 mid) (by omega), show 256 - 1 - (256 + n - 112 - 32 - 112) = 255 - n by omega]
theorem rise_long (two mid shape : Int) (h : two = 0 ∨ two = 1) {n : Nat} (hn : n < 256) : (winL two mid shape).getD n 0 = (hvL mid false).getD n 0 := by
  rcases h with rfl | rfl
  · rw [win0, getD_left (by rw [hv_len256]; omega)]
  · rw [win1, getD_left (by rw [hv_len256]; omega)]
theorem power_at (one two was mid shape : Int) (h1 : one = 0 ∨ one = 1 ∨ one = 3) (h2 : two = 0 ∨ two = 1 ∨ two = 3) (hm : mid = 0 ∨ mid = 1) (ha : one = 1 ↔ two = 3) (n : Nat) (hn : n < 256) :
    PowIs ((winL one was mid).getD (256 + n) 0) ((winL two mid shape).getD n 0) := by
  by_cases h : one = 1
  · obtain rfl := ha.1 h
    subst h
    rw [win1, win3, getD_right (hv_len256 was) (by omega)]
    by_cases c1 : n < 112
    · rw [getD_left (by rw [repL_len]; omega), getD_left (by rw [noughtL_len]; omega), rep_get (by omega), nought_get]
      exact ⟨by omega, by omega, by omega, by omega⟩
    rw [getD_right (repL_len _) (by omega), getD_right noughtL_len (by omega)]
    by_cases c2 : n < 144
    · rw [getD_left (by rw [List.length_reverse, hv_len32]; omega), getD_left (by rw [hv_len32]; omega), getD_rev (hv_len32 mid) (by omega)]
      have := (pow_hv mid hm true 32 (n - 112) rfl (by omega)).turn
      rw [show 256 + n - 256 - 112 = n - 112 by omega]
      exact this
    rw [getD_right (n := 32) (by rw [List.length_reverse, hv_len32]) (by omega), getD_right (hv_len32 mid) (by omega), nought_get, getD_left (by rw [repL_len]; omega), rep_get (by omega)]
    exact ⟨by omega, by omega, by omega, by omega⟩
  · have h3 : two ≠ 3 := fun e => h (ha.2 e)
    rw [fall_long one was mid (by omega) hn, rise_long two mid shape (by omega) hn]
    have := (pow_hv mid hm false 256 n rfl hn).turn
    rw [show 256 - 1 - n = 255 - n by omega] at this
    exact this
end Go.Proofs.Ytcmbbmilldhnnaa
