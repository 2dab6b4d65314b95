/- block's three functions at whatever arguments; noughts. -/
import Derived.Test.YtclbbfpagkhonaaSynth
import Derived.Test.YtclbbfpagkhonaaAnaBad
import Derived.Test.YtclbbfpagkhonaaWinBad
import Derived.Test.YtclbbfpagkhonaaZero
set_option linter.unusedVariables false
set_option linter.unusedSimpArgs false
namespace Go.Proofs.Ytclbbfpagkhonaa
open Go.ChangeShapes Go.WideShapes Go.ChangeAt Go.RowKit

def shapedB (was shape : Int) : Bool := decide (was ≤ 1) && decide (shape ≤ 1)
def winN (seq was shape : Int) : List Int × Int := if shapedB was shape = false ∨ 3 < seq ∨ seq = 2 then ([], 2) else (winL seq was shape, 0)
def anaE (seq was shape : Int) (pcm : List Int) : Int := askedE seq was shape pcm 512 (-32768) 32767
def synE (seq was shape : Int) (lines : List Int) : Int := askedE seq was shape lines 256 (-268435455) 268435455
def anaN (seq was shape : Int) (pcm : List Int) : List Int × Int := if anaE seq was shape pcm = 0 then (anaL (winsL seq was shape) pcm, 0) else ([], anaE seq was shape pcm)
def synN (seq was shape : Int) (lines : List Int) : List Int × Int := if synE seq was shape lines = 0 then (synL (winsL seq was shape) lines, 0) else ([], synE seq was shape lines)
theorem bad_row {E : Int} {w : World} {e : Ending} {w' : World} (h : e = .returned (.tuple #[.slice none 0 0, .int .i64 E]) ∧ w = w') : RRowE ([], E) w e w' := by
  obtain ⟨rfl, rfl⟩ := h
  exact ⟨_, rfl, World.ownsRow_nil _ _ _ _, Below.refl _ _⟩
theorem win_any (seq was shape : Int) (hs : 0 ≤ seq) (h0 : 0 ≤ was) (h1 : 0 ≤ shape) (w : World) : Calls Try.prog 9 #[.int .u8 seq, .int .u8 was, .int .u8 shape] w (RRowE (winN seq was shape) w) := by
  unfold winN
  by_cases h : shapedB was shape = false
  · rw [if_pos (.inl h)]; exact (win_bad1 seq was shape h w).mono (fun e w' h => bad_row h)
  have h' : shapedB was shape = true := by simpa using h
  by_cases h3 : 3 < seq
  · rw [if_pos (.inr (.inl h3))]; exact (win_bad2 seq was shape h' h3 w).mono (fun e w' h => bad_row h)
  by_cases h2 : seq = 2
  · rw [if_pos (.inr (.inr h2))]; subst h2; exact (win_bad3 was shape h' w).mono (fun e w' h => bad_row h)
  rw [if_neg (by rintro (a | a | a); exact h a; exact h3 a; exact h2 a)]
  unfold shapedB at h'
  simp only [Bool.and_eq_true, decide_eq_true_eq] at h'
  exact win_ok seq was shape (by omega) (by omega) (by omega) w
theorem ana_any (seq was shape : Int) (hs : 0 ≤ seq) (h0 : 0 ≤ was) (h1 : 0 ≤ shape) (pcm : List Int) (hl : pcm.length ≤ 9223372036854775807) (p : Option Addr) (c : Nat) (hc : pcm.length ≤ c) (w : World) (hI : IsInts w p pcm) :
    Calls Try.prog 11 #[.int .u8 seq, .int .u8 was, .int .u8 shape, .slice p pcm.length c] w (RRowE (anaN seq was shape pcm) w) := by
  unfold anaN
  by_cases h : anaE seq was shape pcm = 0
  · rw [if_pos h]
    obtain ⟨a1, a2, a3, a4, a5⟩ := (askedE_zero (by omega)).1 h
    rw [a4]
    refine ana_ok seq was shape (by omega) (by omega) (by omega) pcm a4 (fun j => getD_range a5 (by omega) (by omega) j) p c (by omega) w hI h
  · rw [if_neg h]
    exact ana_bad seq was shape _ pcm.length c p w h (fun W hW => asked_ok seq was shape p c pcm 512 (by omega) hl (-32768) 32767 W (hI.keep hW))
theorem syn_any (seq was shape : Int) (hs : 0 ≤ seq) (h0 : 0 ≤ was) (h1 : 0 ≤ shape) (lines : List Int) (hl : lines.length ≤ 9223372036854775807) (p : Option Addr) (c : Nat) (hc : lines.length ≤ c) (w : World) (hI : IsInts w p lines) :
    Calls Try.prog 10 #[.int .u8 seq, .int .u8 was, .int .u8 shape, .slice p lines.length c] w (RRowE (synN seq was shape lines) w) := by
  unfold synN
  by_cases h : synE seq was shape lines = 0
  · rw [if_pos h]
    obtain ⟨a1, a2, a3, a4, a5⟩ := (askedE_zero (by omega)).1 h
    rw [a4]
    refine syn_ok seq was shape (by omega) (by omega) (by omega) lines a4 (fun j => getD_range a5 (by omega) (by omega) j) p c (by omega) w hI h
  · rw [if_neg h]
    exact syn_bad seq was shape _ lines.length c p w h (fun W hW => asked_ok seq was shape p c lines 256 (by omega) hl (-268435455) 268435455 W (hI.keep hW))
end Go.Proofs.Ytclbbfpagkhonaa
