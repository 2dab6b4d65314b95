/- slices.ContainsFunc of windows' filters: is one's number too great? -/
import Derived.Test.YteijlbblmdclaaaTnsBank
set_option linter.unusedVariables false
set_option linter.unusedSimpArgs false
namespace Go.Proofs.Yteijlbblmdclaaa
open Go.ChangeShapes Go.WideShapes Go.ChangeAt Go.RowKit

def longB (m : Int) (bv : BV) : Bool := decide ((bv.fs.length : Int) > m)
theorem ready_one (q : Option Addr) (n c : Nat) (m : Int) (a : Addr) (w : World) (hc : w.cell? a = some (.int .i64 m)) :
    Calls Try.prog 52 #[.slice q n c, .pointer (some a)] w fun e w' => e = .returned (.bool (decide ((n : Int) > m))) ∧ w = w' := by
  go_enter Try.func52, Try.ntmps52
  go_wp2
  go_ret
  exact ⟨rfl, rfl⟩
set_option maxHeartbeats 1000000 in
theorem idx_long (B : List BV) (q : Option Addr) (c : Nat) (m : Int) (a : Addr) (w : World) (hI : IsBank w q B) (hl : B.length ≤ 8) (hm : w.cell? a = some (.int .i64 m)) :
    Calls Try.prog 67 #[.slice q B.length c, .func (.func 52) #[] #[.pointer (some a)]] w (RIdx (B.any (longB m)) w) := by
  have HI := Lib.hid hI
  have HC := Lib.hid (fun (bv : BV) => ready_one bv.q bv.fs.length bv.c m a w hm)
  clear hI hm
  go_enter Try.func67, Try.ntmps67
  go_wp2
  go_loop [8] (fun I => ∃ k : Nat, I = .int .i64 k ∧ k ≤ B.length ∧ Hid (B.any (longB m) = (B.drop k).any (longB m))) (fun I => B.length - (intOf I).toNat)
  case atStart => exact ⟨0, rfl, Nat.zero_le _, Lib.hid (by simp)⟩
  case round =>
    obtain ⟨k, rfl, hk, hany⟩ := hrel
    by_cases hlt : k < B.length
    · have hd0 : decide ((k : Int) < (B.length : Int)) = true := decide_eq_true (by omega)
      obtain ⟨b, off, rfl, _, hc⟩ := HI.out.at hlt
      have h1 := hc k hlt
      have HK := Lib.hid (HC.out (B.getD k default))
      have hd : B.drop k = B.getD k default :: B.drop (k + 1) := by rw [List.drop_eq_getElem_cons hlt]; simp [List.getD_eq_getElem?_getD, hlt]
      have hst : Hid (B.any (longB m) = (longB m (B.getD k default) || (B.drop (k + 1)).any (longB m))) := by
        have := hany.out; rw [hd, List.any_cons] at this; exact this
      generalize B.getD k default = bv at h1 HK hst
      clear hc hd hany HI HC
      have hP0 : longB m bv = decide ((bv.fs.length : Int) > m) := rfl
      go_wp2_with fail
      refine HK.out.mono ?_
      rintro e w' ⟨rfl, hw⟩
      obtain rfl := hw
      rw [← hP0]
      clear hP0
      cases hP : longB m bv
      · have HR : Hid (B.any (longB m) = (B.drop (k + 1)).any (longB m)) := by have := hst.out; rw [hP, Bool.false_or] at this; exact this
        have hP2 := Lib.hid hP
        clear hst hP
        go_wp2
        go_round
        case rel => exact ⟨k + 1, by go_num, hlt, HR⟩
        case measure => simp [intOf]; omega
      · have HR : Hid (B.any (longB m) = true) := by have := hst.out; rw [hP, Bool.true_or] at this; exact this
        have hP2 := Lib.hid hP
        clear hst hP
        go_wp2
        go_ret
        exact ⟨_, rfl, by rw [HR.out]; simp, rfl⟩
    · have hkl : k = B.length := by omega
      have HR : Hid (B.any (longB m) = false) := by have := hany.out; rw [hkl, List.drop_length, List.any_nil] at this; exact this
      clear hany hkl HI HC
      go_wp2
      go_ret
      exact ⟨_, rfl, by rw [HR.out]; simp, rfl⟩
theorem contains_long (B : List BV) (q : Option Addr) (c : Nat) (m : Int) (a : Addr) (w : World) (hI : IsBank w q B) (hl : B.length ≤ 8) (hm : w.cell? a = some (.int .i64 m)) :
    Calls Try.prog 51 #[.slice q B.length c, .func (.func 52) #[] #[.pointer (some a)]] w fun e w' => e = .returned (.bool (B.any (longB m))) ∧ w = w' := by
  have HX := Lib.hid (idx_long B q c m a w hI hl hm)
  clear hI hm
  go_enter Try.func51, Try.ntmps51
  go_wp2_with fail
  refine HX.out.mono ?_
  rintro e w' ⟨r, rfl, hr, hw⟩
  obtain rfl := hw
  have HR := Lib.hid hr
  clear hr
  go_wp2
  go_ret
  exact ⟨ret_bool HR.out, rfl⟩
end Go.Proofs.Yteijlbblmdclaaa
