/- lap.New, lap.Check: what each call answers. -/
import Derived.Test.YtcmbbmilldhnnaaG3
import Derived.Test.YtcmbbmilldhnnaaG5
import Derived.Test.YtcmbbmilldhnnaaG1
set_option linter.unusedVariables false
namespace Go.Proofs.Ytcmbbmilldhnnaa
open Go.ChangeShapes Go.WideShapes Go.ChangeAt Go.RowKit

def farP (x : Int) : Bool := decide (x < -1099511627776) || decide (1099511627776 < x)
theorem far_ok (x : Int) (w : World) : Calls Try.prog 28 #[.int .i64 x] w fun e w' => e = .returned (.bool (farP x)) ∧ w = w' := by
  unfold farP
  by_cases h1 : x < -1099511627776
  · have d1 : decide (x < -1099511627776) = true := decide_eq_true h1
    rw [d1]
    clear h1
    go_enter Try.func28, Try.ntmps28
    go_wp2
    go_ret
    exact ⟨rfl, rfl⟩
  · have d1 : decide (x < -1099511627776) = false := decide_eq_false h1
    rw [d1]
    clear h1
    go_enter Try.func28, Try.ntmps28
    go_wp2
    go_ret
    exact ⟨by simp, rfl⟩

theorem idx_far (l : List Int) (p : Option Addr) (c : Nat) (P : Int → Bool) (w : World) (hI : IsInts w p l) (hl : l.length ≤ 4611686018427387904)
    (hcall : ∀ x : Int, x ∈ l → Calls Try.prog 28 #[.int .i64 x] w fun e w' => e = .returned (.bool (P x)) ∧ w = w') :
    Calls Try.prog 46 #[.slice p l.length c, .func (.func 28) #[] #[]] w (RIdx (l.any P) w) := by
  have HI := Lib.hid hI
  have HC := Lib.hid hcall
  clear hI hcall
  go_enter Try.func46, Try.ntmps46
  go_wp2
  go_loop [8] (fun I => ∃ k : Nat, I = .int .i64 k ∧ k ≤ l.length ∧ Hid (l.any P = (l.drop k).any P)) (fun I => l.length - (intOf I).toNat)
  case atStart => exact ⟨0, rfl, Nat.zero_le _, Lib.hid (by simp)⟩
  case round =>
    obtain ⟨k, rfl, hk, hany⟩ := hrel
    by_cases hlt : k < l.length
    · obtain ⟨b, off, rfl, _, hc⟩ := HI.out.at hlt
      have h1 := hc k hlt
      have hmem : l.getD k 0 ∈ l := by simp [List.getD_eq_getElem?_getD, hlt]
      have HK := Lib.hid (HC.out _ hmem)
      have hd : l.drop k = l.getD k 0 :: l.drop (k + 1) := by rw [List.drop_eq_getElem_cons hlt]; simp [List.getD_eq_getElem?_getD, hlt]
      have hst : Hid (l.any P = (P (l.getD k 0) || (l.drop (k + 1)).any P)) := by
        have := hany.out; rw [hd, List.any_cons] at this; exact this
      generalize l.getD k 0 = x at h1 HK hst
      clear hc hmem hd hany HI HC
      go_wp2_with fail
      refine HK.out.mono ?_
      rintro e w' ⟨rfl, hw⟩
      obtain rfl := hw
      cases hP : P x
      · have HR : Hid (l.any P = (l.drop (k + 1)).any P) := by have := hst.out; rw [hP, Bool.false_or] at this; exact this
        have hP2 := Lib.hid hP
        clear hst hP
        go_wp2
        go_round
        case rel => exact ⟨k + 1, by go_num, hlt, HR⟩
        case measure => simp [intOf]; omega
      · have HR : Hid (l.any P = true) := by have := hst.out; rw [hP, Bool.true_or] at this; exact this
        have hP2 := Lib.hid hP
        clear hst hP
        go_wp2
        go_ret
        exact ⟨_, rfl, by rw [HR.out]; simp, rfl⟩
    · have hkl : k = l.length := by omega
      have HR : Hid (l.any P = false) := by have := hany.out; rw [hkl, List.drop_length, List.any_nil] at this; exact this
      clear hany hkl HI HC
      go_wp2
      go_ret
      exact ⟨_, rfl, by rw [HR.out]; simp, rfl⟩
theorem contains_far (l : List Int) (p : Option Addr) (c : Nat) (P : Int → Bool) (w : World) (hI : IsInts w p l) (hl : l.length ≤ 4611686018427387904)
    (hcall : ∀ x : Int, x ∈ l → Calls Try.prog 28 #[.int .i64 x] w fun e w' => e = .returned (.bool (P x)) ∧ w = w') :
    Calls Try.prog 29 #[.slice p l.length c, .func (.func 28) #[] #[]] w fun e w' => e = .returned (.bool (l.any P)) ∧ w = w' := by
  have HX := Lib.hid (idx_far l p c P w hI hl hcall)
  clear hI hcall
  go_enter Try.func29, Try.ntmps29
  go_wp2_with fail
  refine HX.out.mono ?_
  rintro e w' ⟨r, rfl, hr, hw⟩
  obtain rfl := hw
  have HR := Lib.hid hr
  clear hr
  go_wp2
  go_ret
  exact ⟨ret_bool HR.out, rfl⟩

def lapV (p : Option Addr) (n c : Nat) (seq shape : Int) : Value := .agg #[.slice p n c, .int .u8 seq, .int .u8 shape]
def mayB (l : List Int) (seq shape : Int) : Bool := (decide (l.length = 256) && !(l.any farP)) && (decide (seq ≤ 3) && decide (shape ≤ 1))
def RCheck (v : Int) (w : World) (e : Ending) (w' : World) : Prop := e = .returned (.int .i64 v) ∧ Below w.heap.size w w'
set_option maxHeartbeats 1000000 in
theorem check_a (p : Option Addr) (n c : Nat) (seq shape : Int) (w : World) (h1 : ((n : Int) == 256) = false) (h1' : ((n : Int) != 256) = true) : Calls Try.prog 13 #[.agg #[.slice p n c, .int .u8 seq, .int .u8 shape]] w (RCheck 8 w) := by
  unfold RCheck
  go_enter Try.func13, Try.ntmps13
  go_wp2
  go_ret
  exact ⟨rfl, (Below.refl _ w).alloc (Nat.le_refl _) _⟩
set_option maxHeartbeats 1000000 in
theorem check_b (p : Option Addr) (n c : Nat) (seq shape : Int) (w : World) (h1 : ((n : Int) == 256) = true) (h1' : ((n : Int) != 256) = false) (HF : Hid (∀ W, Below w.heap.size w W → Calls Try.prog 29 #[.slice p n c, .func (.func 28) #[] #[]] W fun e w' => e = .returned (.bool true) ∧ W = w')) : Calls Try.prog 13 #[.agg #[.slice p n c, .int .u8 seq, .int .u8 shape]] w (RCheck 8 w) := by
  unfold RCheck
  go_enter Try.func13, Try.ntmps13
  go_wp2_with fail
  refine (HF.out _ ((Below.refl _ w).alloc (Nat.le_refl _) _)).mono ?_
  rintro e w1 ⟨rfl, hw⟩
  rw [← hw]
  clear hw w1
  go_wp2
  go_ret
  exact ⟨rfl, (Below.refl _ w).alloc (Nat.le_refl _) _⟩
set_option maxHeartbeats 1000000 in
theorem check_c (p : Option Addr) (n c : Nat) (seq shape : Int) (w : World) (h1 : ((n : Int) == 256) = true) (h1' : ((n : Int) != 256) = false) (HF : Hid (∀ W, Below w.heap.size w W → Calls Try.prog 29 #[.slice p n c, .func (.func 28) #[] #[]] W fun e w' => e = .returned (.bool false) ∧ W = w')) (h3 : decide (3 < seq) = true) : Calls Try.prog 13 #[.agg #[.slice p n c, .int .u8 seq, .int .u8 shape]] w (RCheck 8 w) := by
  unfold RCheck
  go_enter Try.func13, Try.ntmps13
  go_wp2_with fail
  refine (HF.out _ ((Below.refl _ w).alloc (Nat.le_refl _) _)).mono ?_
  rintro e w1 ⟨rfl, hw⟩
  rw [← hw]
  clear hw w1
  go_wp2
  go_ret
  exact ⟨rfl, (Below.refl _ w).alloc (Nat.le_refl _) _⟩
set_option maxHeartbeats 1000000 in
theorem check_d (p : Option Addr) (n c : Nat) (seq shape : Int) (w : World) (h1 : ((n : Int) == 256) = true) (h1' : ((n : Int) != 256) = false) (HF : Hid (∀ W, Below w.heap.size w W → Calls Try.prog 29 #[.slice p n c, .func (.func 28) #[] #[]] W fun e w' => e = .returned (.bool false) ∧ W = w')) (h3 : decide (3 < seq) = false) (h4 : decide (1 < shape) = true) : Calls Try.prog 13 #[.agg #[.slice p n c, .int .u8 seq, .int .u8 shape]] w (RCheck 8 w) := by
  unfold RCheck
  go_enter Try.func13, Try.ntmps13
  go_wp2_with fail
  refine (HF.out _ ((Below.refl _ w).alloc (Nat.le_refl _) _)).mono ?_
  rintro e w1 ⟨rfl, hw⟩
  rw [← hw]
  clear hw w1
  go_wp2
  go_ret
  exact ⟨rfl, (Below.refl _ w).alloc (Nat.le_refl _) _⟩
set_option maxHeartbeats 1000000 in
theorem check_e (p : Option Addr) (n c : Nat) (seq shape : Int) (w : World) (h1 : ((n : Int) == 256) = true) (h1' : ((n : Int) != 256) = false) (HF : Hid (∀ W, Below w.heap.size w W → Calls Try.prog 29 #[.slice p n c, .func (.func 28) #[] #[]] W fun e w' => e = .returned (.bool false) ∧ W = w')) (h3 : decide (3 < seq) = false) (h4 : decide (1 < shape) = false) : Calls Try.prog 13 #[.agg #[.slice p n c, .int .u8 seq, .int .u8 shape]] w (RCheck 0 w) := by
  unfold RCheck
  go_enter Try.func13, Try.ntmps13
  go_wp2_with fail
  refine (HF.out _ ((Below.refl _ w).alloc (Nat.le_refl _) _)).mono ?_
  rintro e w1 ⟨rfl, hw⟩
  rw [← hw]
  clear hw w1
  go_wp2
  go_ret
  exact ⟨rfl, (Below.refl _ w).alloc (Nat.le_refl _) _⟩
theorem check_ok (l : List Int) (p : Option Addr) (c : Nat) (seq shape : Int) (hl : l.length ≤ 4611686018427387904) (w : World) (hI : IsInts w p l) : Calls Try.prog 13 #[.agg #[.slice p l.length c, .int .u8 seq, .int .u8 shape]] w (RCheck (if mayB l seq shape = true then 0 else 8) w) := by
  unfold mayB
  by_cases h1 : l.length = 256
  · have e1 : ((l.length : Int) == 256) = true := by simp; omega
    have e1' : ((l.length : Int) != 256) = false := by simp; omega
    have HF := Lib.hid (show ∀ W, Below w.heap.size w W → Calls Try.prog 29 #[.slice p l.length c, .func (.func 28) #[] #[]] W fun e w' => e = .returned (.bool (l.any farP)) ∧ W = w' from
      fun W hW => contains_far l p c farP W (hI.keep hW) hl (fun x _ => far_ok x W))
    cases h2 : l.any farP
    · rw [h2] at HF
      by_cases h3 : 3 < seq
      · rw [if_neg (by simp; omega)]; exact check_c p l.length c seq shape w e1 e1' HF (decide_eq_true h3)
      · by_cases h4 : 1 < shape
        · rw [if_neg (by simp; omega)]; exact check_d p l.length c seq shape w e1 e1' HF (decide_eq_false h3) (decide_eq_true h4)
        · rw [if_pos (by simp; omega)]; exact check_e p l.length c seq shape w e1 e1' HF (decide_eq_false h3) (decide_eq_false h4)
    · rw [h2] at HF
      rw [if_neg (by simp)]; exact check_b p l.length c seq shape w e1 e1' HF
  · rw [if_neg (by simp [h1])]
    exact check_a p l.length c seq shape w (by simp; omega) (by simp; omega)
def RLap (l : List Int) (seq shape : Int) (w : World) (v : Value) (w' : World) : Prop :=
  ∃ p c, v = .agg #[.slice p l.length c, .int .u8 seq, .int .u8 shape] ∧ w'.ownsRow w.heap.size 3 1 (.slice p l.length c) l.length (l.map (Value.int .i64))
end Go.Proofs.Ytcmbbmilldhnnaa
