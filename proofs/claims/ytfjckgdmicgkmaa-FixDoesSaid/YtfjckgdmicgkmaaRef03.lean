/- reedpiperef03: Kept, Round, Clip, Sqrt, Cbrt. -/
import Derived.Test.YtfjckgdmicgkmaaDown
import Derived.Test.YtfjckgdmicgkmaaClip
import Derived.Test.YtfjckgdmicgkmaaRefRoot
import Derived.Test.YtfjckgdmicgkmaaRefThird
set_option linter.unusedVariables false
namespace Go.Proofs.Ytfjckgdmicgkmaa
open Go.ChangeShapes Go.WideShapes Go.ChangeAt Go.RowKit

theorem kept_ok (n : Int) (b : Nat) (h1 : 1 ≤ b) (h2 : b ≤ 62) (w : World) :
    Calls Try.prog 22 #[.int .i64 n, .int .i64 b] w fun e w' => e = .returned (.int .i64 (clp n b)) ∧ w = w' := by
  have p1 := pow_pos' (b - 1)
  have p2 : (2 : Int) ^ (b - 1) ≤ 2 ^ 61 := pow_le_pow' (by omega)
  go_enter Try.func22, Try.ntmps22
  go_wp2
  all_goals go_ret
  all_goals exact ⟨ret_int (by unfold clp; omega), rfl⟩

def rndV (n b : Int) : Int × Int := if n < -4611686018427387904 ∨ 4611686018427387904 < n ∨ b < 0 ∨ 62 < b then (0, 2) else (rnd n b.toNat, 0)
def clpV (n b : Int) : Int × Int := if b < 1 ∨ 62 < b then (0, 2) else (clp n b.toNat, 0)
def sqV (n : Int) : Int × Int := if n < 0 ∨ 4611686018427387904 < n then (0, 2) else (sqN n.toNat, 0)
def cbV (n : Int) : Int × Int := if n < 0 ∨ 4611686018427387904 < n then (0, 2) else (cbN n.toNat, 0)
def R2 (p : Int × Int) (w : World) (e : Ending) (w' : World) : Prop := e = .returned (.tuple #[.int .i64 p.1, .int .i64 p.2]) ∧ Below w.heap.size w w'

theorem refround_any (n b : Int) (w : World) : Calls Try.prog 14 #[.int .i64 n, .int .i64 b] w (R2 (rndV n b) w) := by
  by_cases h : n < -4611686018427387904 ∨ 4611686018427387904 < n ∨ b < 0 ∨ 62 < b
  · rw [rndV, if_pos h]
    go_enter Try.func14, Try.ntmps14
    go_wp2
    all_goals go_ret2
    all_goals exact ⟨rfl, Below.refl _ _⟩
  · rw [rndV, if_neg h]
    obtain ⟨B, rfl⟩ : ∃ B : Nat, b = B := ⟨b.toNat, by omega⟩
    have k1 : -4611686018427387904 ≤ n := by omega
    have k2 : n ≤ 4611686018427387904 := by omega
    have k3 : (B : Int) ≤ 62 := by omega
    clear h
    go_enter Try.func14, Try.ntmps14
    go_wp2_with (go_at_call 21; refine (down_ok n B k1 k2 (by omega) _).mono ?_; rintro e w' ⟨rfl, rfl⟩)
    go_ret2
    exact ⟨rfl, Below.refl _ _⟩

theorem refclip_any (n b : Int) (w : World) : Calls Try.prog 15 #[.int .i64 n, .int .i64 b] w (R2 (clpV n b) w) := by
  by_cases h : b < 1 ∨ 62 < b
  · rw [clpV, if_pos h]
    go_enter Try.func15, Try.ntmps15
    go_wp2
    all_goals go_ret2
    all_goals exact ⟨rfl, Below.refl _ _⟩
  · rw [clpV, if_neg h]
    obtain ⟨B, rfl⟩ : ∃ B : Nat, b = B := ⟨b.toNat, by omega⟩
    have k3 : (B : Int) ≤ 62 := by omega
    have k4 : (1 : Int) ≤ B := by omega
    clear h
    go_enter Try.func15, Try.ntmps15
    go_wp2_with (go_at_call 22; refine (kept_ok n B (by omega) (by omega) _).mono ?_; rintro e w' ⟨rfl, rfl⟩)
    go_ret2
    exact ⟨rfl, Below.refl _ _⟩

theorem refsqrt_any (n : Int) (w : World) : Calls Try.prog 16 #[.int .i64 n] w (R2 (sqV n) w) := by
  by_cases h : n < 0 ∨ 4611686018427387904 < n
  · rw [sqV, if_pos h]
    go_enter Try.func16, Try.ntmps16
    go_wp2
    all_goals go_ret2
    all_goals exact ⟨rfl, Below.refl _ _⟩
  · rw [sqV, if_neg h]
    obtain ⟨B, rfl⟩ : ∃ B : Nat, n = B := ⟨n.toNat, by omega⟩
    have k3 : (B : Int) ≤ 4611686018427387904 := by omega
    clear h
    go_enter Try.func16, Try.ntmps16
    go_wp2_with (go_at_call 23; refine (refroot_ok B (by omega) _).mono ?_; rintro e w' ⟨rfl, rfl⟩)
    go_ret2
    exact ⟨rfl, Below.refl _ _⟩

theorem refcbrt_any (n : Int) (w : World) : Calls Try.prog 17 #[.int .i64 n] w (R2 (cbV n) w) := by
  by_cases h : n < 0 ∨ 4611686018427387904 < n
  · rw [cbV, if_pos h]
    go_enter Try.func17, Try.ntmps17
    go_wp2
    all_goals go_ret2
    all_goals exact ⟨rfl, Below.refl _ _⟩
  · rw [cbV, if_neg h]
    obtain ⟨B, rfl⟩ : ∃ B : Nat, n = B := ⟨n.toNat, by omega⟩
    have k3 : (B : Int) ≤ 4611686018427387904 := by omega
    clear h
    go_enter Try.func17, Try.ntmps17
    go_wp2_with (go_at_call 24; refine (refthird_ok B (by omega) _).mono ?_; rintro e w' ⟨rfl, rfl⟩)
    go_ret2
    exact ⟨rfl, Below.refl _ _⟩
end Go.Proofs.Ytfjckgdmicgkmaa
