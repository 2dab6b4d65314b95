/- The law's noughts. -/
import Derived.Test.YtclbbfpagkhonaaG5
set_option linter.unusedVariables false
set_option linter.unusedSimpArgs false
namespace Go.Proofs.Ytclbbfpagkhonaa
open Go.ChangeShapes Go.WideShapes Go.ChangeAt Go.RowKit

/-- All of a list noughts? -/
theorem noughts_ok (l : List Int) (p : Option Addr) (c : Nat) (many : Int) (w : World) (hI : IsInts w p l) (hl : l.length ≤ 4611686018427387904) :
    Calls Try.prog 12 #[.slice p l.length c, .int .i64 many] w fun e w' => e = .returned (.bool (l.all (fun x => x == 0) && ((l.length : Int) == many))) ∧ w = w' := by
  have HI := Lib.hid hI
  clear hI
  go_enter Try.func12, Try.ntmps12
  go_wp2
  go_loop [5] (fun I => ∃ k : Nat, I = .int .i64 k ∧ k ≤ l.length ∧ Hid (l.all (fun x => x == 0) = (l.drop k).all (fun x => x == 0))) (fun I => l.length - (intOf I).toNat)
  case atStart => exact ⟨0, rfl, Nat.zero_le _, Lib.hid (by simp)⟩
  case round =>
    obtain ⟨k, rfl, hk, hany⟩ := hrel
    by_cases hlt : k < l.length
    · obtain ⟨b, off, rfl, _, hc⟩ := HI.out.at hlt
      have h1 := hc k hlt
      have hd : l.drop k = l.getD k 0 :: l.drop (k + 1) := by rw [List.drop_eq_getElem_cons hlt]; simp [List.getD_eq_getElem?_getD, hlt]
      have hst : Hid (l.all (fun x => x == 0) = ((l.getD k 0 == 0) && (l.drop (k + 1)).all (fun x => x == 0))) := by
        have := hany.out; rw [hd, List.all_cons] at this; exact this
      generalize l.getD k 0 = x at h1 hst
      clear hc hd hany HI
      by_cases hx1 : x = 0
      · have d1 : (x == 0) = true := by simp [hx1]
        have d2 : (x != 0) = false := by simp [hx1]
        have HR : Hid (l.all (fun x => x == 0) = (l.drop (k + 1)).all (fun x => x == 0)) := by
          have := hst.out
          rw [d1, Bool.true_and] at this; exact this
        clear hst hx1
        go_wp2
        go_round
        case rel => exact ⟨k + 1, by go_num, hlt, HR⟩
        case measure => simp [intOf]; omega
      · have d1 : (x == 0) = false := by simp [hx1]
        have d2 : (x != 0) = true := by simp [hx1]
        have HR : Hid (l.all (fun x => x == 0) = false) := by
          have := hst.out
          rw [d1, Bool.false_and] at this; exact this
        clear hst hx1
        go_wp2
        go_ret
        exact ⟨ret_bool (by rw [HR.out]; rfl), rfl⟩
    · have hkl : k = l.length := by omega
      have HR : Hid (l.all (fun x => x == 0) = true) := by have := hany.out; rw [hkl, List.drop_length, List.all_nil] at this; exact this
      clear hany hkl HI
      go_wp2
      go_ret
      exact ⟨ret_bool (by rw [HR.out]; rfl), rfl⟩
end Go.Proofs.Ytclbbfpagkhonaa
