/- The numbers of 'alive'. -/
import Derived.Test.YteijlbblmdclaaaTnsFwd
set_option linter.unusedVariables false
namespace Go.Proofs.Yteijlbblmdclaaa
open Go.ChangeShapes Go.WideShapes Go.ChangeAt Go.RowKit
def aliveX : List Int := 1000 :: List.replicate 255 0
abbrev aliveF (p : Option Addr) (c : Nat) : FV := ⟨2, 1, false, false, [3], p, c⟩
def aliveB (q : Option Addr) (cq : Nat) (p : Option Addr) (c : Nat) : List BV := [⟨q, cq, [aliveF p c]⟩]
def aliveN : List BV := [⟨none, 0, []⟩]
set_option maxRecDepth 100000
theorem alive_ready (q : Option Addr) (cq : Nat) (p : Option Addr) (c : Nat) : readyE 0 0 0 2 [1] (aliveB q cq p c) aliveX = 0 := by kernel_rfl
theorem alive_readyN : readyE 0 0 0 2 [1] aliveN aliveX = 0 := by kernel_rfl
theorem alive_y0 (q : Option Addr) (cq : Nat) (p : Option Addr) (c : Nat) : (allL 1 (bandL 0 ((0 : Int) == 2)) 2 (aliveB q cq p c) aliveX).getD 0 0 = 1000 := by kernel_rfl
theorem alive_y1 (q : Option Addr) (cq : Nat) (p : Option Addr) (c : Nat) : ∃ v, (allL 1 (bandL 0 ((0 : Int) == 2)) 2 (aliveB q cq p c) aliveX).getD 1 0 = v ∧ 0 < v := by
  refine ⟨_, rfl, ?_⟩
  have : decide (0 < (allL 1 (bandL 0 ((0 : Int) == 2)) 2 (aliveB q cq p c) aliveX).getD 1 0) = true := by kernel_rfl
  exact of_decide_eq_true this
theorem alive_z (k : Nat) : allL 1 (bandL 0 ((0 : Int) == 2)) 2 aliveN aliveX = aliveX := by kernel_rfl
end Go.Proofs.Yteijlbblmdclaaa
