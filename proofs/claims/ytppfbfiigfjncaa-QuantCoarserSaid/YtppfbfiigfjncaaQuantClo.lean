/- quant: small calls, and slices.ContainsFunc over them. -/
import Derived.Test.YtppfbfiigfjncaaQuantPl3
import Derived.Test.YtppfbfiigfjncaaCells
set_option linter.unusedVariables false
set_option linter.unusedSimpArgs false
namespace Go.Proofs.Ytppfbfiigfjncaa
open Go.ChangeShapes Go.WideShapes Go.ChangeAt Go.RowKit

theorem q_sent (k : Int) (w : World) : Calls Try.prog 42 #[.int .i64 k] w fun e w' => e = .returned (.bool (sentB k)) ∧ w = w' := by
  by_cases h1 : 1 ≤ k
  · have d1 : decide (k ≥ 1) = true := decide_eq_true h1
    have HS : Hid (sentB k = decide (k ≤ 11)) := Lib.hid (by unfold sentB; simp [h1])
    clear h1
    go_enter Try.func42, Try.ntmps42
    go_wp2
    go_ret
    exact ⟨ret_bool HS.out.symm, rfl⟩
  · have d1 : decide (k ≥ 1) = false := decide_eq_false h1
    have HS : Hid (sentB k = false) := Lib.hid (by unfold sentB; simp [h1])
    clear h1
    go_enter Try.func42, Try.ntmps42
    go_wp2
    go_ret
    exact ⟨ret_bool HS.out.symm, rfl⟩
theorem q_short (q : Option Addr) (n c : Nat) (m : Int) (b : Nat) (w : World) (hc : w.cell? ⟨b, 2, none⟩ = some (.int .i64 m)) :
    Calls Try.prog 39 #[.slice q n c, .pointer (some ⟨b, 0, none⟩)] w fun e w' => e = .returned (.bool (!decide ((n : Int) = m))) ∧ w = w' := by
  go_enter Try.func39, Try.ntmps39
  go_wp2
  go_ret
  exact ⟨ret_bool (by rw [bne]; congr 1), rfl⟩
theorem q_far (n m : Int) (hm : 0 ≤ m) (hm2 : m ≤ 4611686018427387904) (a : Addr) (w : World) (hc : w.cell? a = some (.int .i64 m)) :
    Calls Try.prog 40 #[.int .i64 n, .pointer (some a)] w fun e w' => e = .returned (.bool (farB m n)) ∧ w = w' := by
  have hw : IntKind.i64.wrap (-m) = -m := IntWalk.i64_in _ (by omega)
  by_cases h1 : n < -m
  · have d1 : decide (n < -m) = true := decide_eq_true h1
    have HS : Hid (farB m n = true) := Lib.hid (by unfold farB; simp [h1])
    clear h1 hm hm2
    go_enter Try.func40, Try.ntmps40
    go_wp2
    go_ret
    exact ⟨ret_bool HS.out.symm, rfl⟩
  · have d1 : decide (n < -m) = false := decide_eq_false h1
    have HS : Hid (farB m n = decide (m < n)) := Lib.hid (by unfold farB; simp [h1])
    clear h1 hm hm2
    go_enter Try.func40, Try.ntmps40
    go_wp2
    go_ret
    exact ⟨ret_bool HS.out.symm, rfl⟩
def RIdx (b : Bool) (w : World) (e : Ending) (w' : World) : Prop := ∃ r : Int, e = .returned (.int .i64 r) ∧ decide (r ≥ 0) = b ∧ w = w'
set_option maxHeartbeats 1000000 in
theorem idx_rows (R : List RV) (q : Option Addr) (c : Nat) (m : Int) (bx : Nat) (w : World) (hI : IsRows w q R) (hl : R.length ≤ 100) (hm : w.cell? ⟨bx, 2, none⟩ = some (.int .i64 m)) :
    Calls Try.prog 58 #[.slice q R.length c, .func (.func 39) #[] #[.pointer (some ⟨bx, 0, none⟩)]] w (RIdx (R.any (shortB m)) w) := by
  have HI := Lib.hid hI
  have HC := Lib.hid (fun (bv : RV) => q_short bv.q bv.l.length bv.c m bx w hm)
  clear hI hm
  go_enter Try.func58, Try.ntmps58
  go_wp2
  go_loop [8] (fun I => ∃ k : Nat, I = .int .i64 k ∧ k ≤ R.length ∧ Hid (R.any (shortB m) = (R.drop k).any (shortB m))) (fun I => R.length - (intOf I).toNat)
  case atStart => exact ⟨0, rfl, Nat.zero_le _, Lib.hid (by simp)⟩
  case round =>
    obtain ⟨k, rfl, hk, hany⟩ := hrel
    by_cases hlt : k < R.length
    · have hd0 : decide ((k : Int) < (R.length : Int)) = true := decide_eq_true (by omega)
      obtain ⟨b, off, rfl, _, h1, _⟩ := HI.out.at hlt
      have HK := Lib.hid (HC.out (R.getD k default))
      have hd : R.drop k = R.getD k default :: R.drop (k + 1) := by rw [List.drop_eq_getElem_cons hlt]; simp [List.getD_eq_getElem?_getD, hlt]
      have hst : Hid (R.any (shortB m) = (shortB m (R.getD k default) || (R.drop (k + 1)).any (shortB m))) := by
        have := hany.out; rw [hd, List.any_cons] at this; exact this
      generalize R.getD k default = bv at h1 HK hst
      clear hd hany HI HC
      have hP0 : shortB m bv = !decide ((bv.l.length : Int) = m) := rfl
      go_wp2_with fail
      refine HK.out.mono ?_
      rintro e w' ⟨rfl, hw⟩
      obtain rfl := hw
      rw [← hP0]
      clear hP0
      cases hP : shortB m bv
      · have HR : Hid (R.any (shortB m) = (R.drop (k + 1)).any (shortB m)) := by have := hst.out; rw [hP, Bool.false_or] at this; exact this
        have hP2 := Lib.hid hP
        clear hst hP
        go_wp2
        go_round
        case rel => exact ⟨k + 1, by go_num, hlt, HR⟩
        case measure => simp [intOf]; omega
      · have HR : Hid (R.any (shortB m) = true) := by have := hst.out; rw [hP, Bool.true_or] at this; exact this
        have hP2 := Lib.hid hP
        clear hst hP
        go_wp2
        go_ret
        exact ⟨_, rfl, by rw [HR.out]; simp, rfl⟩
    · have hkl : k = R.length := by omega
      have HR : Hid (R.any (shortB m) = false) := by have := hany.out; rw [hkl, List.drop_length, List.any_nil] at this; exact this
      clear hany hkl HI HC
      go_wp2
      go_ret
      exact ⟨_, rfl, by rw [HR.out]; simp, rfl⟩
theorem contains_rows (R : List RV) (q : Option Addr) (c : Nat) (m : Int) (bx : Nat) (w : World) (hI : IsRows w q R) (hl : R.length ≤ 100) (hm : w.cell? ⟨bx, 2, none⟩ = some (.int .i64 m)) :
    Calls Try.prog 41 #[.slice q R.length c, .func (.func 39) #[] #[.pointer (some ⟨bx, 0, none⟩)]] w fun e w' => e = .returned (.bool (R.any (shortB m))) ∧ w = w' := by
  have HX := Lib.hid (idx_rows R q c m bx w hI hl hm)
  clear hI hm
  go_enter Try.func41, Try.ntmps41
  go_wp2_with fail
  refine HX.out.mono ?_
  rintro e w' ⟨r, rfl, hr, hw⟩
  obtain rfl := hw
  have HR := Lib.hid hr
  clear hr
  go_wp2
  go_ret
  exact ⟨ret_bool HR.out, rfl⟩
set_option maxHeartbeats 1000000 in
theorem idx_far (l : List Int) (q : Option Addr) (c : Nat) (m : Int) (a : Addr) (w : World) (hI : IsInts w q l) (hl : l.length ≤ 1000) (h0 : 0 ≤ m) (h2 : m ≤ 4611686018427387904) (hm : w.cell? a = some (.int .i64 m)) :
    Calls Try.prog 59 #[.slice q l.length c, .func (.func 40) #[] #[.pointer (some a)]] w (RIdx (l.any (farB m)) w) := by
  have HI := Lib.hid hI
  have HC := Lib.hid (fun (bv : Int) => q_far bv m h0 h2 a w hm)
  clear hI h0 h2 hm
  go_enter Try.func59, Try.ntmps59
  go_wp2
  go_loop [8] (fun I => ∃ k : Nat, I = .int .i64 k ∧ k ≤ l.length ∧ Hid (l.any (farB m) = (l.drop k).any (farB m))) (fun I => l.length - (intOf I).toNat)
  case atStart => exact ⟨0, rfl, Nat.zero_le _, Lib.hid (by simp)⟩
  case round =>
    obtain ⟨k, rfl, hk, hany⟩ := hrel
    by_cases hlt : k < l.length
    · have hd0 : decide ((k : Int) < (l.length : Int)) = true := decide_eq_true (by omega)
      obtain ⟨b, off, rfl, _, hc⟩ := HI.out.at hlt
      have h1 := hc k hlt
      clear hc
      have HK := Lib.hid (HC.out (l.getD k 0))
      have hd : l.drop k = l.getD k 0 :: l.drop (k + 1) := by rw [List.drop_eq_getElem_cons hlt]; simp [List.getD_eq_getElem?_getD, hlt]
      have hst : Hid (l.any (farB m) = (farB m (l.getD k 0) || (l.drop (k + 1)).any (farB m))) := by
        have := hany.out; rw [hd, List.any_cons] at this; exact this
      generalize l.getD k 0 = bv at h1 HK hst
      clear hd hany HI HC
      skip
      go_wp2_with fail
      refine HK.out.mono ?_
      rintro e w' ⟨rfl, hw⟩
      obtain rfl := hw
      skip
      cases hP : farB m bv
      · have HR : Hid (l.any (farB m) = (l.drop (k + 1)).any (farB m)) := by have := hst.out; rw [hP, Bool.false_or] at this; exact this
        have hP2 := Lib.hid hP
        clear hst hP
        go_wp2
        go_round
        case rel => exact ⟨k + 1, by go_num, hlt, HR⟩
        case measure => simp [intOf]; omega
      · have HR : Hid (l.any (farB m) = true) := by have := hst.out; rw [hP, Bool.true_or] at this; exact this
        have hP2 := Lib.hid hP
        clear hst hP
        go_wp2
        go_ret
        exact ⟨_, rfl, by rw [HR.out]; simp, rfl⟩
    · have hkl : k = l.length := by omega
      have HR : Hid (l.any (farB m) = false) := by have := hany.out; rw [hkl, List.drop_length, List.any_nil] at this; exact this
      clear hany hkl HI HC
      go_wp2
      go_ret
      exact ⟨_, rfl, by rw [HR.out]; simp, rfl⟩
theorem contains_far (l : List Int) (q : Option Addr) (c : Nat) (m : Int) (a : Addr) (w : World) (hI : IsInts w q l) (hl : l.length ≤ 1000) (h0 : 0 ≤ m) (h2 : m ≤ 4611686018427387904) (hm : w.cell? a = some (.int .i64 m)) :
    Calls Try.prog 43 #[.slice q l.length c, .func (.func 40) #[] #[.pointer (some a)]] w fun e w' => e = .returned (.bool (l.any (farB m))) ∧ w = w' := by
  have HX := Lib.hid (idx_far l q c m a w hI hl h0 h2 hm)
  clear hI h0 h2 hm
  go_enter Try.func43, Try.ntmps43
  go_wp2_with fail
  refine HX.out.mono ?_
  rintro e w' ⟨r, rfl, hr, hw⟩
  obtain rfl := hw
  have HR := Lib.hid hr
  clear hr
  go_wp2
  go_ret
  exact ⟨ret_bool HR.out, rfl⟩
end Go.Proofs.Ytppfbfiigfjncaa
