/- slices.Min, slices.Max of integers: what a call answers. -/
import Derived.Test.YteijlbblmdclaaaGP
set_option linter.unusedVariables false
set_option linter.unusedSimpArgs false
namespace Go.Proofs.Yteijlbblmdclaaa
open Go.ChangeShapes Go.WideShapes Go.ChangeAt Go.RowKit

def minTo (l : List Int) : Nat → Int
  | 0 => l.getD 0 0
  | k + 1 => min (minTo l k) (l.getD k 0)
set_option maxHeartbeats 1000000 in
theorem min_walk (p : Option Addr) (l : List Int) (c : Nat) (w : World) (hI : IsInts w p l) (h0 : 0 < l.length) (hl : l.length ≤ 4611686018427387904) :
    Calls Try.prog 54 #[.slice p l.length c] w (fun e w' => e = .returned (.int .i64 (minTo l l.length)) ∧ w' = w) := by
  obtain ⟨b, off, rfl, _, hc⟩ := hI.at h0
  have r0 := hc 0 h0
  rw [Nat.add_zero] at r0
  have HC := Lib.hid hc
  clear hI hc
  have hd0 : decide ((l.length : Int) < 1) = false := decide_eq_false (by omega)
  have h1 : minTo l 1 = l.getD 0 0 := by show min (l.getD 0 0) (l.getD 0 0) = _; omega
  have H1 := Lib.hid h1
  clear h1
  go_enter Try.func54, Try.ntmps54
  go_wp2_with fail
  go_loop [3, 4] (fun M K => ∃ k : Nat, K = .int .i64 k ∧ 1 ≤ k ∧ k ≤ l.length ∧ M = .int .i64 (minTo l k)) (fun _ K => l.length - (intOf K).toNat)
  case atStart => exact ⟨1, rfl, Nat.le_refl _, h0, by rw [H1.out]; simp [List.getD_eq_getElem?_getD, h0]⟩
  case round =>
    obtain ⟨k, rfl, hk1, hk, rfl⟩ := hrel
    by_cases hlt : k < l.length
    · have hd : decide ((k : Int) < (l.length : Int)) = true := decide_eq_true (by omega)
      have r1 := HC.out k hlt
      have HS := Lib.hid (show minTo l (k + 1) = min (minTo l k) (l.getD k 0) from rfl)
      clear r0
      generalize l.getD k 0 = y at r1 HS
      generalize minTo l k = x at HS ⊢
      by_cases hcase : y < x
      · have HS2 : Hid (minTo l (k + 1) = y) := by have := HS.out; show _ = _; omega
        clear HS
        go_wp2
        all_goals first
          | (exfalso; omega)
          | (go_round
             case rel => exact ⟨k + 1, by go_num, by omega, hlt, by rw [HS2.out]⟩
             case measure => simp [intOf]; omega)
      · have HS2 : Hid (minTo l (k + 1) = x) := by have := HS.out; show _ = _; omega
        clear HS
        go_wp2
        all_goals first
          | (exfalso; omega)
          | (go_round
             case rel => exact ⟨k + 1, by go_num, by omega, hlt, by rw [HS2.out]⟩
             case measure => simp [intOf]; omega)
    · have hkM : k = l.length := by omega
      subst hkM
      clear r0
      go_wp2
      go_ret
      exact ⟨rfl, rfl⟩

def maxTo (l : List Int) : Nat → Int
  | 0 => l.getD 0 0
  | k + 1 => max (maxTo l k) (l.getD k 0)
set_option maxHeartbeats 1000000 in
theorem max_walk (p : Option Addr) (l : List Int) (c : Nat) (w : World) (hI : IsInts w p l) (h0 : 0 < l.length) (hl : l.length ≤ 4611686018427387904) :
    Calls Try.prog 55 #[.slice p l.length c] w (fun e w' => e = .returned (.int .i64 (maxTo l l.length)) ∧ w' = w) := by
  obtain ⟨b, off, rfl, _, hc⟩ := hI.at h0
  have r0 := hc 0 h0
  rw [Nat.add_zero] at r0
  have HC := Lib.hid hc
  clear hI hc
  have hd0 : decide ((l.length : Int) < 1) = false := decide_eq_false (by omega)
  have h1 : maxTo l 1 = l.getD 0 0 := by show max (l.getD 0 0) (l.getD 0 0) = _; omega
  have H1 := Lib.hid h1
  clear h1
  go_enter Try.func55, Try.ntmps55
  go_wp2_with fail
  go_loop [3, 4] (fun M K => ∃ k : Nat, K = .int .i64 k ∧ 1 ≤ k ∧ k ≤ l.length ∧ M = .int .i64 (maxTo l k)) (fun _ K => l.length - (intOf K).toNat)
  case atStart => exact ⟨1, rfl, Nat.le_refl _, h0, by rw [H1.out]; simp [List.getD_eq_getElem?_getD, h0]⟩
  case round =>
    obtain ⟨k, rfl, hk1, hk, rfl⟩ := hrel
    by_cases hlt : k < l.length
    · have hd : decide ((k : Int) < (l.length : Int)) = true := decide_eq_true (by omega)
      have r1 := HC.out k hlt
      have HS := Lib.hid (show maxTo l (k + 1) = max (maxTo l k) (l.getD k 0) from rfl)
      clear r0
      generalize l.getD k 0 = y at r1 HS
      generalize maxTo l k = x at HS ⊢
      by_cases hcase : x < y
      · have HS2 : Hid (maxTo l (k + 1) = y) := by have := HS.out; show _ = _; omega
        clear HS
        go_wp2
        all_goals first
          | (exfalso; omega)
          | (go_round
             case rel => exact ⟨k + 1, by go_num, by omega, hlt, by rw [HS2.out]⟩
             case measure => simp [intOf]; omega)
      · have HS2 : Hid (maxTo l (k + 1) = x) := by have := HS.out; show _ = _; omega
        clear HS
        go_wp2
        all_goals first
          | (exfalso; omega)
          | (go_round
             case rel => exact ⟨k + 1, by go_num, by omega, hlt, by rw [HS2.out]⟩
             case measure => simp [intOf]; omega)
    · have hkM : k = l.length := by omega
      subst hkM
      clear r0
      go_wp2
      go_ret
      exact ⟨rfl, rfl⟩

theorem minTo_le (m : Int) (l : List Int) : ∀ k, 0 < k → (m ≤ minTo l k ↔ ∀ j, j < k → m ≤ l.getD j 0)
  | 0, h => by omega
  | 1, _ => by
    show m ≤ min (l.getD 0 0) (l.getD 0 0) ↔ _
    constructor
    · intro h j hj; obtain rfl : j = 0 := by omega
      omega
    · intro h; have := h 0 (by omega); omega
  | k + 2, _ => by
    have ih := minTo_le m l (k + 1) (by omega)
    show m ≤ min (minTo l (k + 1)) (l.getD (k + 1) 0) ↔ _
    constructor
    · intro h j hj
      by_cases e : j = k + 1
      · rw [e]; omega
      · exact ih.1 (by omega) j (by omega)
    · intro h
      have h1 := ih.2 (fun j hj => h j (by omega))
      have h2 := h (k + 1) (by omega)
      omega
theorem le_maxTo (m : Int) (l : List Int) : ∀ k, 0 < k → (maxTo l k ≤ m ↔ ∀ j, j < k → l.getD j 0 ≤ m)
  | 0, h => by omega
  | 1, _ => by
    show max (l.getD 0 0) (l.getD 0 0) ≤ m ↔ _
    constructor
    · intro h j hj; obtain rfl : j = 0 := by omega
      omega
    · intro h; have := h 0 (by omega); omega
  | k + 2, _ => by
    have ih := le_maxTo m l (k + 1) (by omega)
    show max (maxTo l (k + 1)) (l.getD (k + 1) 0) ≤ m ↔ _
    constructor
    · intro h j hj
      by_cases e : j = k + 1
      · rw [e]; omega
      · exact ih.1 (by omega) j (by omega)
    · intro h
      have h1 := ih.2 (fun j hj => h j (by omega))
      have h2 := h (k + 1) (by omega)
      omega
end Go.Proofs.Yteijlbblmdclaaa
