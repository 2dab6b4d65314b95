/- block.asked: what each call answers. -/
import Derived.Test.YtclbbfpagkhonaaMinMax
import Derived.Test.YtclbbfpagkhonaaHalves
set_option linter.unusedVariables false
namespace Go.Proofs.Ytclbbfpagkhonaa
open Go.ChangeShapes Go.WideShapes Go.ChangeAt Go.RowKit
def askedE (seq was shape : Int) (l : List Int) (many : Nat) (lo hi : Int) : Int :=
  if 3 < seq then 2 else if (decide (was ≤ 1) && decide (shape ≤ 1)) = false then 2 else if l.length ≠ many then 4 else if Lib.minOf l < lo then 2 else if hi < Lib.maxOf l then 2 else 0
def RAsked (v : Int) (w : World) (e : Ending) (w' : World) : Prop := e = .returned (.int .i64 v) ∧ w = w'
theorem askedE_zero {seq was shape : Int} {l : List Int} {many : Nat} {lo hi : Int} (hm : 0 < many) : askedE seq was shape l many lo hi = 0 ↔ seq ≤ 3 ∧ was ≤ 1 ∧ shape ≤ 1 ∧ l.length = many ∧ ∀ x ∈ l, lo ≤ x ∧ x ≤ hi := by
  unfold askedE
  by_cases h1 : 3 < seq
  · rw [if_pos h1]; constructor
    · intro h; omega
    · intro h; omega
  rw [if_neg h1]
  by_cases h2 : (decide (was ≤ 1) && decide (shape ≤ 1)) = false
  · rw [if_pos h2]; constructor
    · intro h; omega
    · rintro ⟨_, a, b, _⟩; simp [a, b] at h2
  rw [if_neg h2]
  have h2' : was ≤ 1 ∧ shape ≤ 1 := by simpa using h2
  by_cases h3 : l.length ≠ many
  · rw [if_pos h3]; constructor
    · intro h; omega
    · rintro ⟨_, _, _, a, _⟩; exact absurd a h3
  rw [if_neg h3]
  have h3' : l.length = many := by omega
  have hl : 0 < l.length := by omega
  have a := le_minOf hl lo
  have b := maxOf_le hl hi
  by_cases h4 : Lib.minOf l < lo
  · rw [if_pos h4]; constructor
    · intro h; omega
    · rintro ⟨_, _, _, _, e⟩
      have := a.2 (fun x hx => (e x hx).1)
      omega
  rw [if_neg h4]
  by_cases h5 : hi < Lib.maxOf l
  · rw [if_pos h5]; constructor
    · intro h; omega
    · rintro ⟨_, _, _, _, e⟩
      have := b.2 (fun x hx => (e x hx).2)
      omega
  rw [if_neg h5]
  have a' := a.1 (by omega)
  have b' := b.1 (by omega)
  constructor
  · intro _; exact ⟨by omega, h2'.1, h2'.2, h3', fun x hx => ⟨a' x hx, b' x hx⟩⟩
  · intro _; rfl
set_option maxHeartbeats 1000000 in
theorem askedA (seq was shape : Int) (p : Option Addr) (n c : Nat) (many mn mx lo hi : Int) (w : World) (h1 : decide (3 < seq) = true) : Calls Try.prog 22 #[.int .u8 seq, .int .u8 was, .int .u8 shape, .slice p n c, .int .i64 many, .int .i64 lo, .int .i64 hi] w (RAsked 2 w) := by
  unfold RAsked
  go_enter Try.func22, Try.ntmps22
  go_wp2
  go_ret
  exact ⟨rfl, rfl⟩
set_option maxHeartbeats 1000000 in
theorem askedB (seq was shape : Int) (p : Option Addr) (n c : Nat) (many mn mx lo hi : Int) (w : World) (h1 : decide (3 < seq) = false) (h2 : (decide (was ≤ 1) && decide (shape ≤ 1)) = false) : Calls Try.prog 22 #[.int .u8 seq, .int .u8 was, .int .u8 shape, .slice p n c, .int .i64 many, .int .i64 lo, .int .i64 hi] w (RAsked 2 w) := by
  have HSH := Lib.hid (fun W => shaped_ok was shape W)
  rw [h2] at HSH
  clear h2
  unfold RAsked
  go_enter Try.func22, Try.ntmps22
  go_wp2_with fail
  refine (HSH.out _).mono ?_
  rintro e w1 ⟨rfl, hw⟩
  rw [← hw]
  clear hw w1
  go_wp2
  go_ret
  exact ⟨rfl, rfl⟩
set_option maxHeartbeats 1000000 in
theorem askedC (seq was shape : Int) (p : Option Addr) (n c : Nat) (many mn mx lo hi : Int) (w : World) (h1 : decide (3 < seq) = false) (h2 : (decide (was ≤ 1) && decide (shape ≤ 1)) = true) (h3 : ((n : Int) == many) = false) : Calls Try.prog 22 #[.int .u8 seq, .int .u8 was, .int .u8 shape, .slice p n c, .int .i64 many, .int .i64 lo, .int .i64 hi] w (RAsked 4 w) := by
  have HSH := Lib.hid (fun W => shaped_ok was shape W)
  rw [h2] at HSH
  clear h2
  unfold RAsked
  go_enter Try.func22, Try.ntmps22
  go_wp2_with fail
  refine (HSH.out _).mono ?_
  rintro e w1 ⟨rfl, hw⟩
  rw [← hw]
  clear hw w1
  go_wp2
  go_ret
  exact ⟨rfl, rfl⟩
set_option maxHeartbeats 1000000 in
theorem askedD (seq was shape : Int) (p : Option Addr) (n c : Nat) (many mn mx lo hi : Int) (w : World) (h1 : decide (3 < seq) = false) (h2 : (decide (was ≤ 1) && decide (shape ≤ 1)) = true) (h3 : ((n : Int) == many) = true) (h4 : decide (mn < lo) = true) (HMIN : Hid (∀ W, W = w → Calls Try.prog 34 #[.slice p n c] W (fun e w' => e = .returned (.int .i64 mn) ∧ w' = W))) : Calls Try.prog 22 #[.int .u8 seq, .int .u8 was, .int .u8 shape, .slice p n c, .int .i64 many, .int .i64 lo, .int .i64 hi] w (RAsked 2 w) := by
  have HSH := Lib.hid (fun W => shaped_ok was shape W)
  rw [h2] at HSH
  clear h2
  unfold RAsked
  go_enter Try.func22, Try.ntmps22
  go_wp2_with fail
  refine (HSH.out _).mono ?_
  rintro e w1 ⟨rfl, hw⟩
  rw [← hw]
  clear hw w1
  go_wp2_with fail
  refine (HMIN.out _ rfl).mono ?_
  rintro e w1 ⟨rfl, hw⟩
  rw [hw]
  clear hw w1
  go_wp2
  go_ret
  exact ⟨rfl, rfl⟩
set_option maxHeartbeats 1000000 in
theorem askedE1 (seq was shape : Int) (p : Option Addr) (n c : Nat) (many mn mx lo hi : Int) (w : World) (h1 : decide (3 < seq) = false) (h2 : (decide (was ≤ 1) && decide (shape ≤ 1)) = true) (h3 : ((n : Int) == many) = true) (h4 : decide (mn < lo) = false) (h5 : decide (hi < mx) = true) (HMIN : Hid (∀ W, W = w → Calls Try.prog 34 #[.slice p n c] W (fun e w' => e = .returned (.int .i64 mn) ∧ w' = W))) (HMAX : Hid (∀ W, W = w → Calls Try.prog 35 #[.slice p n c] W (fun e w' => e = .returned (.int .i64 mx) ∧ w' = W))) : Calls Try.prog 22 #[.int .u8 seq, .int .u8 was, .int .u8 shape, .slice p n c, .int .i64 many, .int .i64 lo, .int .i64 hi] w (RAsked 2 w) := by
  have HSH := Lib.hid (fun W => shaped_ok was shape W)
  rw [h2] at HSH
  clear h2
  unfold RAsked
  go_enter Try.func22, Try.ntmps22
  go_wp2_with fail
  refine (HSH.out _).mono ?_
  rintro e w1 ⟨rfl, hw⟩
  rw [← hw]
  clear hw w1
  go_wp2_with fail
  refine (HMIN.out _ rfl).mono ?_
  rintro e w1 ⟨rfl, hw⟩
  rw [hw]
  clear hw w1
  go_wp2_with fail
  refine (HMAX.out _ rfl).mono ?_
  rintro e w1 ⟨rfl, hw⟩
  rw [hw]
  clear hw w1
  go_wp2
  go_ret
  exact ⟨rfl, rfl⟩
set_option maxHeartbeats 1000000 in
theorem askedF (seq was shape : Int) (p : Option Addr) (n c : Nat) (many mn mx lo hi : Int) (w : World) (h1 : decide (3 < seq) = false) (h2 : (decide (was ≤ 1) && decide (shape ≤ 1)) = true) (h3 : ((n : Int) == many) = true) (h4 : decide (mn < lo) = false) (h5 : decide (hi < mx) = false) (HMIN : Hid (∀ W, W = w → Calls Try.prog 34 #[.slice p n c] W (fun e w' => e = .returned (.int .i64 mn) ∧ w' = W))) (HMAX : Hid (∀ W, W = w → Calls Try.prog 35 #[.slice p n c] W (fun e w' => e = .returned (.int .i64 mx) ∧ w' = W))) : Calls Try.prog 22 #[.int .u8 seq, .int .u8 was, .int .u8 shape, .slice p n c, .int .i64 many, .int .i64 lo, .int .i64 hi] w (RAsked 0 w) := by
  have HSH := Lib.hid (fun W => shaped_ok was shape W)
  rw [h2] at HSH
  clear h2
  unfold RAsked
  go_enter Try.func22, Try.ntmps22
  go_wp2_with fail
  refine (HSH.out _).mono ?_
  rintro e w1 ⟨rfl, hw⟩
  rw [← hw]
  clear hw w1
  go_wp2_with fail
  refine (HMIN.out _ rfl).mono ?_
  rintro e w1 ⟨rfl, hw⟩
  rw [hw]
  clear hw w1
  go_wp2_with fail
  refine (HMAX.out _ rfl).mono ?_
  rintro e w1 ⟨rfl, hw⟩
  rw [hw]
  clear hw w1
  go_wp2
  go_ret
  exact ⟨rfl, rfl⟩
theorem asked_ok (seq was shape : Int) (p : Option Addr) (c : Nat) (l : List Int) (many : Nat) (hm : 0 < many) (hl : l.length ≤ 9223372036854775807) (lo hi : Int) (w : World) (hI : IsInts w p l) : Calls Try.prog 22 #[.int .u8 seq, .int .u8 was, .int .u8 shape, .slice p l.length c, .int .i64 many, .int .i64 lo, .int .i64 hi] w (RAsked (askedE seq was shape l many lo hi) w) := by
  unfold askedE
  by_cases h1 : 3 < seq
  · rw [if_pos h1]; exact askedA seq was shape p l.length c many 0 0 lo hi w (decide_eq_true h1)
  rw [if_neg h1]
  have h1' : decide (3 < seq) = false := decide_eq_false h1
  by_cases h2 : (decide (was ≤ 1) && decide (shape ≤ 1)) = false
  · rw [if_pos h2]; exact askedB seq was shape p l.length c many 0 0 lo hi w h1' h2
  rw [if_neg h2]
  have h2' : (decide (was ≤ 1) && decide (shape ≤ 1)) = true := by simpa using h2
  by_cases h3 : l.length ≠ many
  · rw [if_pos h3]; exact askedC seq was shape p l.length c many 0 0 lo hi w h1' h2' (beq_eq_false_iff_ne.2 (by omega))
  rw [if_neg h3]
  have h3' : ((l.length : Int) == (many : Int)) = true := beq_iff_eq.2 (by omega)
  have hp : 0 < l.length := by omega
  have HMIN := Lib.hid (show ∀ W, W = w → Calls Try.prog 34 #[.slice p l.length c] W (fun e w' => e = .returned (.int .i64 (Lib.minOf l)) ∧ w' = W) from fun W hW => by subst hW; exact min_ok hI c hp hl)
  have HMAX := Lib.hid (show ∀ W, W = w → Calls Try.prog 35 #[.slice p l.length c] W (fun e w' => e = .returned (.int .i64 (Lib.maxOf l)) ∧ w' = W) from fun W hW => by subst hW; exact max_ok hI c hp hl)
  by_cases h4 : Lib.minOf l < lo
  · rw [if_pos h4]; exact askedD seq was shape p l.length c many _ 0 lo hi w h1' h2' h3' (decide_eq_true h4) HMIN
  rw [if_neg h4]
  by_cases h5 : hi < Lib.maxOf l
  · rw [if_pos h5]; exact askedE1 seq was shape p l.length c many _ _ lo hi w h1' h2' h3' (decide_eq_false h4) (decide_eq_true h5) HMIN HMAX
  rw [if_neg h5]
  exact askedF seq was shape p l.length c many _ _ lo hi w h1' h2' h3' (decide_eq_false h4) (decide_eq_false h5) HMIN HMAX
end Go.Proofs.Ytclbbfpagkhonaa
