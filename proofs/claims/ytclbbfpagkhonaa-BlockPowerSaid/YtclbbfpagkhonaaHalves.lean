/- block.half, fall, shaped: what each call answers. -/
import Derived.Test.YtclbbfpagkhonaaHalf
import Derived.Test.YtclbbfpagkhonaaReverse
set_option linter.unusedVariables false
namespace Go.Proofs.Ytclbbfpagkhonaa
open Go.ChangeShapes Go.WideShapes Go.ChangeAt Go.RowKit

/-- A row of the call's own, full. -/
def RRowF (l : List Int) (w : World) (e : Ending) (w' : World) : Prop :=
  ∃ g : Nat, e = .returned (.slice (some ⟨g, 0, none⟩) l.length l.length) ∧ w'.ownsRow w.heap.size 3 1 (.slice (some ⟨g, 0, none⟩) l.length l.length) l.length (l.map (Value.int .i64)) ∧ w.heap.size ≤ g ∧ g < w'.heap.size ∧ Below w.heap.size w w'
theorem hv_pos (shape : Int) (short : Bool) : 32 ≤ (hvL shape short).length ∧ (hvL shape short).length ≤ 256 := by
  rw [half_length]
  cases short <;> decide
theorem bhalf_ok (shape : Int) (short : Bool) (h0 : shape = 0 ∨ shape = 1) (w : World) : Calls Try.prog 19 #[.int .u8 shape, .bool short] w (RRowF (hvL shape short) w) := by
  have HF := Lib.hid (fun W => half_ok shape short h0 W)
  have HL := Lib.hid (half_length shape short)
  obtain ⟨n0, n1⟩ := hv_pos shape short
  have e1 := half_length shape short
  unfold RHalf at HF
  rw [← e1] at HF
  generalize hvL shape short = l at *
  clear e1 h0
  go_enter Try.func19, Try.ntmps19
  go_wp2_with fail
  refine (HF.out _).mono ?_
  rintro e w1 ⟨g, rfl, hO, hb⟩
  obtain ⟨g', cap, hv, hg, hlt⟩ := owns_shape hO (by omega)
  obtain ⟨rfl, rfl⟩ : g = g' ∧ _ = cap := by simpa using hv
  have HO := Lib.hid hO
  clear hO hv
  go_wp2
  go_ret
  exact ⟨g, rfl, HO.out, hg, hlt, hb⟩
theorem bfall_ok (shape : Int) (short : Bool) (h0 : shape = 0 ∨ shape = 1) (w : World) : Calls Try.prog 20 #[.int .u8 shape, .bool short] w (RRowF (hvL shape short).reverse w) := by
  have HF := Lib.hid (fun W => bhalf_ok shape short h0 W)
  obtain ⟨n0, n1⟩ := hv_pos shape short
  generalize hvL shape short = l at *
  unfold RRowF
  rw [List.length_reverse]
  clear h0
  go_enter Try.func20, Try.ntmps20
  go_wp2_with fail
  refine (HF.out _).mono ?_
  rintro e w1 ⟨g, rfl, hO, hg, hlt, hb⟩
  have HR := Lib.hid (reverse_ok l (some ⟨g, 0, none⟩) l.length w.heap.size w1.heap.size w1 (Spoil.of hO) (by omega))
  clear hO HF
  go_wp2_with fail
  refine HR.out.mono ?_
  rintro e w2 ⟨rfl, hS, hb2⟩
  have hO : w2.ownsRow w.heap.size 3 1 (.slice (some ⟨g, 0, none⟩) l.length l.length) l.length (l.reverse.map (Value.int .i64)) := by
    obtain ⟨_, _, h⟩ := hS
    obtain ⟨g', hp, _, _, h2⟩ := h (by omega)
    obtain rfl : g = g' := by simpa using hp
    exact h2
  have HO := Lib.hid hO
  have hs := hb2.size
  clear hO hS
  go_wp2
  go_ret
  exact ⟨g, rfl, HO.out, hg, Nat.lt_of_lt_of_le hlt hs, hb.trans hb2⟩
theorem shaped_ok (was shape : Int) (w : World) : Calls Try.prog 17 #[.int .u8 was, .int .u8 shape] w fun e w' => e = .returned (.bool (decide (was ≤ 1) && decide (shape ≤ 1))) ∧ w = w' := by
  by_cases h1 : was ≤ 1 <;> by_cases h2 : shape ≤ 1
  · have d1 : decide (was ≤ 1) = true := decide_eq_true h1
    have d2 : decide (shape ≤ 1) = true := decide_eq_true h2
    clear h1 h2
    go_enter Try.func17, Try.ntmps17
    go_wp2
    go_ret
    exact ⟨ret_bool (by rw [d1, d2]; rfl), rfl⟩
  · have d1 : decide (was ≤ 1) = true := decide_eq_true h1
    have d2 : decide (shape ≤ 1) = false := decide_eq_false h2
    clear h1 h2
    go_enter Try.func17, Try.ntmps17
    go_wp2
    go_ret
    exact ⟨ret_bool (by rw [d1, d2]; rfl), rfl⟩
  · have d1 : decide (was ≤ 1) = false := decide_eq_false h1
    have d2 : decide (shape ≤ 1) = true := decide_eq_true h2
    clear h1 h2
    go_enter Try.func17, Try.ntmps17
    go_wp2
    go_ret
    exact ⟨ret_bool (by rw [d1, d2]; rfl), rfl⟩
  · have d1 : decide (was ≤ 1) = false := decide_eq_false h1
    have d2 : decide (shape ≤ 1) = false := decide_eq_false h2
    clear h1 h2
    go_enter Try.func17, Try.ntmps17
    go_wp2
    go_ret
    exact ⟨ret_bool (by rw [d1, d2]; rfl), rfl⟩
end Go.Proofs.Ytclbbfpagkhonaa
