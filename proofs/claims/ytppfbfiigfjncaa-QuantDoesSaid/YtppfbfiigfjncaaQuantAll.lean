/- power.Quant, whatever the arguments. -/
import Derived.Test.YtppfbfiigfjncaaQuant
set_option linter.unusedVariables false
namespace Go.Proofs.Ytppfbfiigfjncaa
open Go.ChangeShapes Go.WideShapes Go.ChangeAt Go.RowKit

def quantL (x : Int) (s : Nat) : Int := if x < 0 then -(quantN (-x) s : Int) else quantN x s
def quantV (x s : Int) : Int × Int := if BadQ x 268435455 s then (0, 2) else (quantL x s.toNat, 0)
theorem quantN_le (x : Int) (s : Nat) : quantN x s ≤ 8191 := (least_spec 8191 _).1

set_option maxRecDepth 100000 in
set_option maxHeartbeats 1000000 in
theorem quant_pos (x : Int) (s : Nat) (x0 : 0 ≤ x) (x1 : x ≤ 268435455) (hs : s ≤ 255) (w : World) :
    Calls Try.prog 23 #[.int .i64 x, .int .i64 s] w (RP2 (quantN x s, 0) w) := by
  have hmf : ∀ (fn : Fn) (first cap : Array Value) (w : World), (Instr.makeFunc fn first cap).run Try.prog w = .ok (.func fn first cap) w := fun _ _ _ _ => rfl
  have S := Lib.hid (search_any x s x0 x1 hs ⟨w.heap.size, 0, none⟩ ⟨w.heap.size + 1, 0, none⟩ ((w.alloc (.cells #[.int .i64 x] 3)).alloc (.cells #[.int .i64 s] 3))
    (by rw [World.cell?_alloc_past _ _ _ (by simp), World.cell?_alloc_at _ _ _ _ rfl]; rfl) (by rw [World.cell?_alloc_at _ _ _ _ (by simp)]; rfl) (by simp; omega) (by simp))
  have hb0 : Below w.heap.size w ((w.alloc (.cells #[.int .i64 x] 3)).alloc (.cells #[.int .i64 s] 3)) := ((Below.refl _ _).alloc (Nat.le_refl _) _).alloc (by simp) _
  have x2 : decide (x < -268435455) = false := by simp; omega
  have x3 : decide (268435455 < x) = false := by simp; omega
  go_enter Try.func23, Try.ntmps23
  go_wp2_with fail
  refine (odd_ok x 268435455 (by decide) (by decide) _).mono ?_
  rw [x2, x3]
  rintro e w' ⟨rfl, rfl⟩
  go_wp2_with fail
  refine S.out.mono ?_
  rintro e w1 ⟨rfl, hb1⟩
  go_wp2
  go_ret2
  exact ⟨rfl, hb0.trans (hb1.mono hb0.size)⟩
set_option maxRecDepth 100000 in
set_option maxHeartbeats 1000000 in
theorem quant_neg (x : Int) (s : Nat) (x0 : x < 0) (x1 : -268435455 ≤ x) (hs : s ≤ 255) (w : World) :
    Calls Try.prog 23 #[.int .i64 x, .int .i64 s] w (RP2 (-(quantN (-x) s : Int), 0) w) := by
  have hq := quantN_le (-x) s
  have S := Lib.hid (fun W => quant_pos (-x) s (by omega) (by omega) hs W)
  have hb0 : Below w.heap.size w ((w.alloc (.cells #[.int .i64 x] 3)).alloc (.cells #[.int .i64 s] 3)) := ((Below.refl _ _).alloc (Nat.le_refl _) _).alloc (by simp) _
  have x2 : decide (x < -268435455) = false := by simp; omega
  have x3 : decide (268435455 < x) = false := by simp; omega
  generalize quantN (-x) s = Q at *
  go_enter Try.func23, Try.ntmps23
  go_wp2_with fail
  refine (odd_ok x 268435455 (by decide) (by decide) _).mono ?_
  rw [x2, x3]
  rintro e w' ⟨rfl, rfl⟩
  go_wp2_with fail
  refine (S.out _).mono ?_
  rintro e w1 ⟨rfl, hb1⟩
  go_wp2
  go_ret2
  exact ⟨rfl, hb0.trans (hb1.mono hb0.size)⟩
set_option maxRecDepth 100000 in
set_option maxHeartbeats 1000000 in
theorem quant_bad (x s : Int) (h : BadQ x 268435455 s) (w : World) :
    Calls Try.prog 23 #[.int .i64 x, .int .i64 s] w (RP2 (0, 2) w) := by
  have hb0 : Below w.heap.size w ((w.alloc (.cells #[.int .i64 x] 3)).alloc (.cells #[.int .i64 s] 3)) := ((Below.refl _ _).alloc (Nat.le_refl _) _).alloc (by simp) _
  unfold BadQ at h
  by_cases h1 : x < -268435455 ∨ 268435455 < x
  · have x2 : (decide (x < -268435455) || decide (268435455 < x)) = true := by simp; omega
    go_enter Try.func23, Try.ntmps23
    go_wp2_with fail
    refine (odd_ok x 268435455 (by decide) (by decide) _).mono ?_
    rw [x2]
    rintro e w' ⟨rfl, rfl⟩
    go_wp2
    go_ret2
    exact ⟨rfl, hb0⟩
  · have x2 : (decide (x < -268435455) || decide (268435455 < x)) = false := by simp; omega
    by_cases h2 : s < 0
    · go_enter Try.func23, Try.ntmps23
      go_wp2_with fail
      refine (odd_ok x 268435455 (by decide) (by decide) _).mono ?_
      rw [x2]
      rintro e w' ⟨rfl, rfl⟩
      go_wp2
      go_ret2
      exact ⟨rfl, hb0⟩
    · have h3 : 255 < s := by omega
      have hd : decide (s < 0) = false := by simp; omega
      go_enter Try.func23, Try.ntmps23
      go_wp2_with fail
      refine (odd_ok x 268435455 (by decide) (by decide) _).mono ?_
      rw [x2]
      rintro e w' ⟨rfl, rfl⟩
      go_wp2
      go_ret2
      exact ⟨rfl, hb0⟩
theorem Quant_any (x s : Int) (w : World) : Calls Try.prog 23 #[.int .i64 x, .int .i64 s] w (RP2 (quantV x s) w) := by
  by_cases h : BadQ x 268435455 s
  · rw [quantV, if_pos h]; exact quant_bad x s h w
  · rw [quantV, if_neg h]
    have h' : ¬ (x < -268435455 ∨ 268435455 < x ∨ s < 0 ∨ 255 < s) := h
    obtain ⟨n, rfl⟩ : ∃ n : Nat, s = n := ⟨s.toNat, by omega⟩
    rw [Int.toNat_natCast]
    unfold quantL
    by_cases hx : x < 0
    · rw [if_pos hx]; exact quant_neg x n hx (by omega) (by omega) w
    · rw [if_neg hx]; exact quant_pos x n (by omega) (by omega) (by omega) w
end Go.Proofs.Ytppfbfiigfjncaa
