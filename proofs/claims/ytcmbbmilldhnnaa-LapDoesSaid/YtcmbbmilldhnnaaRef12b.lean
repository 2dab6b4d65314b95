/- reedpiperef12: Values, Little, under. -/
import Derived.Test.YtcmbbmilldhnnaaRef12a
import Derived.Deep.AppendLies
import Derived.Deep.RegionLaw
set_option linter.unusedVariables false
set_option linter.unusedSimpArgs false
namespace Go.Proofs.Ytcmbbmilldhnnaa
open Go.ChangeShapes Go.WideShapes Go.ChangeAt Go.RowKit

theorem half_rev (shape : Int) (short : Bool) (m : Nat) (hm : (hvL shape short).length = m) : Hid (∀ (W : World) (q : Option Addr) (d : Nat), IsInts W q (hvL shape short) → Calls Try.prog 70 #[.slice q m d] W (RRow (hvL shape short).reverse W)) := Lib.hid (fun W q d h => by
  subst hm
  refine ref_back _ ?_ q d W h
  rw [half_length]
  cases short <;> decide)
theorem ref_vals (seq was shape : Int) (hs : seq = 0 ∨ seq = 1 ∨ seq = 3) (h0 : was = 0 ∨ was = 1) (h1 : shape = 0 ∨ shape = 1) (w : World) : Calls Try.prog 60 #[.int .u8 seq, .int .u8 was, .int .u8 shape] w (RRow (winL seq was shape) w) := by
  have e1 : ∀ s, (hvL s false).length = 256 := fun s => half_length s false
  have e2 : ∀ s, (hvL s true).length = 32 := fun s => half_length s true
  have V := fun s (h : s = 0 ∨ s = 1) b => Lib.hid (fun W => refvalues_ok s b h W)
  rcases hs with rfl | rfl | rfl
  · rw [win0]
    exact refv_0 was shape _ _ (Lib.hid (e1 was)) (Lib.hid (e1 shape)) (V was h0 false) (V shape h1 false) (half_rev shape false 256 (e1 shape)) w
  · rw [win1, ← List.append_assoc, ← List.append_assoc]
    exact refv_1 was shape _ _ (Lib.hid (e1 was)) (Lib.hid (e2 shape)) (V was h0 false) (V shape h1 true) (half_rev shape true 32 (e2 shape)) w
  · rw [win3, ← List.append_assoc, ← List.append_assoc]
    exact refv_3 was shape _ _ (Lib.hid (e2 was)) (Lib.hid (e1 shape)) (V was h0 true) (V shape h1 false) (half_rev shape false 256 (e1 shape)) w
theorem ref_little (i : Nat) (was shape : Int) (h0 : was = 0 ∨ was = 1) (h1 : shape = 0 ∨ shape = 1) (w : World) : Calls Try.prog 61 #[.int .i64 i, .int .u8 was, .int .u8 shape] w (RRow (littleL i was shape) w) := by
  have e2 : ∀ s, (hvL s true).length = 32 := fun s => half_length s true
  have V := fun s (h : s = 0 ∨ s = 1) b => Lib.hid (fun W => refvalues_ok s b h W)
  unfold littleL
  cases i with
  | zero =>
    rw [if_pos rfl]
    exact refl_0 was shape _ _ (Lib.hid (e2 was)) (Lib.hid (e2 shape)) (V was h0 true) (V shape h1 true) (half_rev shape true 32 (e2 shape)) w
  | succ i =>
    rw [if_neg (by omega)]
    exact refl_n _ (beq_eq_false_iff_ne.2 (by omega)) was shape _ _ (Lib.hid (e2 shape)) (Lib.hid (e2 shape)) (V shape h1 true) (V shape h1 true) (half_rev shape true 32 (e2 shape)) w
end Go.Proofs.Ytcmbbmilldhnnaa
