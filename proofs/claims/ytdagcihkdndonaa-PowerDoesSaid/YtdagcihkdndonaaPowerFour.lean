/- power.Four: what each call answers. -/
import Derived.Test.YtdagcihkdndonaaPower
set_option linter.unusedVariables false
namespace Go.Proofs.Ytdagcihkdndonaa
open Go.ChangeShapes Go.WideShapes Go.ChangeAt Go.RowKit

def fourV (q : Int) : Int × Int := if q < 0 ∨ 8191 < q then (0, 2) else (powN q.toNat, 0)
theorem Four_any (q : Int) (w : World) : Calls Try.prog 11 #[.int .i64 q] w (RP2 (fourV q) w) := by
  by_cases hb : q < 0 ∨ 8191 < q
  · rw [fourV, if_pos hb]
    go_enter Try.func11, Try.ntmps11
    go_wp2
    all_goals go_ret2
    all_goals exact ⟨rfl, Below.refl _ _⟩
  · rw [fourV, if_neg hb]
    obtain ⟨n, rfl⟩ : ∃ n : Nat, q = n := ⟨q.toNat, by omega⟩
    rw [Int.toNat_natCast]
    have h3 : (n : Int) ≤ 8191 := by omega
    have F := Lib.hid (fun W => four_ok n (by omega) W)
    clear hb
    generalize powN n = L at *
    go_enter Try.func11, Try.ntmps11
    go_wp2_with (go_at_call 18; refine (F.out _).mono ?_; rintro e w1 ⟨rfl, hb⟩)
    go_ret2
    exact ⟨rfl, hb⟩
end Go.Proofs.Ytdagcihkdndonaa
