/- Noughts, in plain numbers. -/
import Derived.Test.YtclbbfpagkhonaaMdct
import Derived.Test.YtclbbfpagkhonaaMdctPlain
import Derived.Test.YtclbbfpagkhonaaArgs
set_option linter.unusedVariables false
set_option linter.unusedSimpArgs false
namespace Go.Proofs.Ytclbbfpagkhonaa
open Go.ChangeShapes Go.WideShapes Go.ChangeAt Go.RowKit

def zeroL (n : Nat) : List Int := List.replicate n 0
theorem zero_len (n : Nat) : (zeroL n).length = n := by simp [zeroL]
theorem zero_get (n j : Nat) : (zeroL n).getD j 0 = 0 := by
  unfold zeroL
  simp [List.getD_eq_getElem?_getD, List.getElem?_replicate]
  split <;> rfl
theorem zero_map (n : Nat) : (zeroL n).map (Value.int .i64) = List.replicate n (.int .i64 0) := by simp [zeroL]
theorem zero_any (n : Nat) (m : Int) (hm : 0 ≤ m) : (zeroL n).any (oddP m) = false := by
  apply List.any_eq_false.2
  intro x hx
  have : x = 0 := by simp [zeroL] at hx; exact hx.2
  subst this
  simp [oddP]; omega
theorem sum_zero (n : Nat) (A B : Int) (k : Nat) : sumX (zeroL n) A B k = 0 := by
  unfold sumX
  rw [sumF_congr (g := fun _ => (0 : Int)) k (fun j _ => by rw [zero_get]; simp), sumF_const]
  simp
theorem rnd_zero33 : rnd 0 33 = 0 := by decide +kernel
theorem rnd_zero26 : rnd 0 26 = 0 := by decide +kernel
theorem rnd_zero23 : rnd 0 23 = 0 := by decide +kernel
theorem map_zero (f : Nat → Int) (n : Nat) (h : ∀ k, f k = 0) : (List.range n).map f = zeroL n := by
  apply List.ext_getElem?
  intro i
  unfold zeroL
  simp [List.getElem?_replicate, h]
  split <;> simp [*]
theorem linesF_zero (n : Nat) : linesF (zeroL n) = zeroL (n / 2) := by
  unfold linesF
  rw [zero_len]
  exact map_zero _ _ (fun k => by unfold lineF; rw [sum_zero, rnd_zero33])
theorem linesI_zero (n : Nat) : linesI (zeroL n) = zeroL (2 * n) := by
  unfold linesI
  rw [zero_len]
  exact map_zero _ _ (fun k => by
    unfold lineI; rw [sum_zero]
    split
    · exact rnd_zero23
    · exact rnd_zero26)
theorem zero_all (n : Nat) : (zeroL n).all (fun x => x == 0) = true := by simp [zeroL]

end Go.Proofs.Ytclbbfpagkhonaa
