/- slices.Min and slices.Max over integers: the shelf's contracts, laid. -/
import Derived.Test.YtclbbfpagkhonaaKeep
import Derived.Shelf.Slices.Turned
import Derived.Shelf.Lay
import Derived.Ground.NamesProg
set_option linter.unusedVariables false
namespace Go.Proofs.Ytclbbfpagkhonaa
open Go.Shelf Go.RowKit
shelf_lay Lays.n113 Nm 113 at Try as Try.laysMax
shelf_lay Lays.n114 Nm 114 at Try as Try.laysMin
theorem max_ok {w : World} {p : Option Addr} {l : List Int} (h : IsInts w p l) (c : Nat) (h0 : 0 < l.length) (hb : l.length ≤ 9223372036854775807) :
    Calls Try.prog 35 #[.slice p l.length c] w (fun e w' => e = .returned (.int .i64 (Lib.maxOf l)) ∧ w' = w) := by
  rcases h with rfl | ⟨b, off, rfl, hlt, hc⟩
  · simp at h0
  · have := Any.slices_Max_int Try.laysMax b off l.length c l w h0 (Nat.le_refl _) hb hc
    rw [List.take_length] at this
    exact this
theorem min_ok {w : World} {p : Option Addr} {l : List Int} (h : IsInts w p l) (c : Nat) (h0 : 0 < l.length) (hb : l.length ≤ 9223372036854775807) :
    Calls Try.prog 34 #[.slice p l.length c] w (fun e w' => e = .returned (.int .i64 (Lib.minOf l)) ∧ w' = w) := by
  rcases h with rfl | ⟨b, off, rfl, hlt, hc⟩
  · simp at h0
  · have := Any.slices_Min_int Try.laysMin b off l.length c l w h0 (Nat.le_refl _) hb hc
    rw [List.take_length] at this
    exact this
theorem foldl_max_le : ∀ (l : List Int) (a m : Int), l.foldl max a ≤ m ↔ a ≤ m ∧ ∀ x ∈ l, x ≤ m
  | [], a, m => by simp
  | y :: l, a, m => by
    rw [List.foldl_cons, foldl_max_le l (max a y) m]
    simp only [List.mem_cons, forall_eq_or_imp]
    constructor
    · rintro ⟨h, h2⟩; exact ⟨by omega, by omega, h2⟩
    · rintro ⟨h, h1, h2⟩; exact ⟨by omega, h2⟩
theorem le_foldl_min : ∀ (l : List Int) (a m : Int), m ≤ l.foldl min a ↔ m ≤ a ∧ ∀ x ∈ l, m ≤ x
  | [], a, m => by simp
  | y :: l, a, m => by
    rw [List.foldl_cons, le_foldl_min l (min a y) m]
    simp only [List.mem_cons, forall_eq_or_imp]
    constructor
    · rintro ⟨h, h2⟩; exact ⟨by omega, by omega, h2⟩
    · rintro ⟨h, h1, h2⟩; exact ⟨by omega, h2⟩
theorem maxOf_le {l : List Int} (h : 0 < l.length) (m : Int) : Lib.maxOf l ≤ m ↔ ∀ x ∈ l, x ≤ m := by
  unfold Lib.maxOf
  rw [foldl_max_le]
  cases l with
  | nil => simp at h
  | cons a l => simp
theorem le_minOf {l : List Int} (h : 0 < l.length) (m : Int) : m ≤ Lib.minOf l ↔ ∀ x ∈ l, m ≤ x := by
  unfold Lib.minOf
  rw [le_foldl_min]
  cases l with
  | nil => simp at h
  | cons a l => simp
end Go.Proofs.Ytclbbfpagkhonaa
