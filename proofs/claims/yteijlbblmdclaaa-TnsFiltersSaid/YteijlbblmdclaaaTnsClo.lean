/- tns.all's closures: which place, what lies there, what is put there. -/
import Derived.Test.YteijlbblmdclaaaGP
import Derived.Test.YteijlbblmdclaaaTnsCoef
import Derived.Deep.RegionWith
set_option linter.unusedVariables false
set_option linter.unusedSimpArgs false
namespace Go.Proofs.Yteijlbblmdclaaa
open Go.ChangeShapes Go.WideShapes Go.ChangeAt Go.RowKit

def idxN (down : Bool) (len n : Nat) : Nat := if down then len - 1 - n else n
theorem idx_lt {down : Bool} {len n : Nat} (h : n < len) : idxN down len n < len := by unfold idxN; cases down <;> simp <;> omega
abbrev ptrV (g : Nat) : Value := .pointer (some ⟨g, 0, none⟩)
abbrev atF (g20 g22 : Nat) : Value := .func (.func 36) #[] #[ptrV g20, ptrV g22]
abbrev getF (g22 g23 : Nat) : Value := .func (.func 38) #[] #[ptrV g22, ptrV g23]
abbrev putF (g22 g23 : Nat) : Value := .func (.func 39) #[] #[ptrV g22, ptrV g23]
theorem tns_at (down : Bool) (n len : Nat) (hn : n < len) (hl : len ≤ 256) (g20 g22 : Nat) (p : Option Addr) (c : Nat) (w : World) (h1 : w.cell? ⟨g20, 2, none⟩ = some (.bool down)) (h2 : w.cell? ⟨g22, 0, none⟩ = some (.slice p len c)) :
    Calls Try.prog 36 #[.int .i64 n, ptrV g20, ptrV g22] w fun e w' => e = .returned (.int .i64 (idxN down len n : Nat)) ∧ w = w' := by
  unfold idxN
  cases down
  · go_enter Try.func36, Try.ntmps36
    go_wp2
    go_ret
    exact ⟨rfl, rfl⟩
  · have e : ((len - 1 - n : Nat) : Int) = (len : Int) - 1 - (n : Int) := by omega
    simp only [if_true]
    rw [e]
    go_enter Try.func36, Try.ntmps36
    go_wp2
    go_ret
    exact ⟨rfl, rfl⟩
set_option maxRecDepth 100000 in
theorem tns_get (down : Bool) (n len : Nat) (hn : n < len) (hl : len ≤ 256) (g20 g22 g23 g off c : Nat) (x : Int) (w : World) (h1 : w.cell? ⟨g20, 2, none⟩ = some (.bool down)) (h2 : w.cell? ⟨g22, 0, none⟩ = some (.slice (some ⟨g, off, none⟩) len c)) (h3 : w.cell? ⟨g23, 0, none⟩ = some (atF g20 g22)) (h4 : w.cell? ⟨g, off + idxN down len n, none⟩ = some (.int .i64 x)) :
    Calls Try.prog 38 #[.int .i64 n, ptrV g22, ptrV g23] w fun e w' => e = .returned (.int .i64 x) ∧ ∃ k, w' = w.drewN k := by
  have hi := idx_lt (down := down) hn
  have HA := Lib.hid (fun m => (tns_at down n len hn hl g20 g22 _ c (w.drewN m) h1 h2))
  obtain ⟨i, hie⟩ : ∃ i, idxN down len n = i := ⟨_, rfl⟩
  rw [hie] at h4 hi HA
  have t1 : (i : Int) < (len : Int) := by omega
  clear h1 hie
  go_enter Try.func38, Try.ntmps38
  go_wp2_with fail
  go_region_with (go_at_call 36; refine (HA.out _).mono ?_; rintro e w' ⟨rfl, rfl⟩)
  all_goals
    go_wp2
    go_ret
    exact ⟨rfl, _, rfl⟩
set_option maxRecDepth 100000 in
theorem tns_put (down : Bool) (n len : Nat) (hn : n < len) (hl : len ≤ 256) (g20 g22 g23 g off c : Nat) (x v0 : Int) (w : World) (h1 : w.cell? ⟨g20, 2, none⟩ = some (.bool down)) (h2 : w.cell? ⟨g22, 0, none⟩ = some (.slice (some ⟨g, off, none⟩) len c)) (h3 : w.cell? ⟨g23, 0, none⟩ = some (atF g20 g22)) (h4 : w.cell? ⟨g, off + idxN down len n, none⟩ = some (.int .i64 v0)) (h5 : w.frozen? ⟨g, off + idxN down len n, none⟩ = false) :
    Calls Try.prog 39 #[.int .i64 n, .int .i64 x, ptrV g22, ptrV g23] w fun e w' => e = .returned (.tuple #[]) ∧ ∃ k, w' = (w.drewN k).setCell ⟨g, off + idxN down len n, none⟩ (.int .i64 x) := by
  have hi := idx_lt (down := down) hn
  have HA := Lib.hid (fun m => (tns_at down n len hn hl g20 g22 _ c (w.drewN m) h1 h2))
  obtain ⟨i, hie⟩ : ∃ i, idxN down len n = i := ⟨_, rfl⟩
  rw [hie] at h4 h5 hi HA ⊢
  have t1 : (i : Int) < (len : Int) := by omega
  clear h1 hie
  go_enter Try.func39, Try.ntmps39
  go_wp2_with fail
  go_region_with (go_at_call 36; refine (HA.out _).mono ?_; rintro e w' ⟨rfl, rfl⟩)
  all_goals
    go_wp2
    go_end0
    exact ⟨rfl, _, rfl⟩
end Go.Proofs.Yteijlbblmdclaaa
