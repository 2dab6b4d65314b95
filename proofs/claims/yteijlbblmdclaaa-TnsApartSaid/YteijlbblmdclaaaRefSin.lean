/- reedpiperef04.Sin: what each call answers. -/
import Derived.Test.YteijlbblmdclaaaRefCos
set_option linter.unusedVariables false
namespace Go.Proofs.Yteijlbblmdclaaa
open Go.ChangeShapes Go.WideShapes Go.ChangeAt Go.RowKit

theorem refsin_ok (n : Int) (w : World) : Calls Try.prog 48 #[.int .i64 n] w fun e w' => e = .returned (.int .i64 (sinL n)) ∧ w = w' := by
  obtain ⟨N, hN⟩ : ∃ N, n.tmod 2048 = N := ⟨_, rfl⟩
  have ht := tmod_circle n
  rw [hN] at ht
  have hs : sinL n = cosL (N - 512) := cosL_congr (by omega)
  rw [hs]
  have h1 : -2048 < N := by omega
  have h2 : N < 2048 := by omega
  clear ht hs
  go_enter Try.func48, Try.ntmps48
  go_wp2_with fail
  refine (refcos_ok _ _).mono ?_
  rintro e w' ⟨rfl, rfl⟩
  go_wp2
  go_ret
  exact ⟨rfl, rfl⟩
end Go.Proofs.Yteijlbblmdclaaa
