/- mdct.odd: what each call answers. -/
import Derived.Test.YtclbbfpagkhonaaKeep
set_option linter.unusedVariables false
namespace Go.Proofs.Ytclbbfpagkhonaa
open Go.ChangeShapes Go.WideShapes Go.ChangeAt Go.RowKit

def RIdx (b : Bool) (w : World) (e : Ending) (w' : World) : Prop := ∃ r : Int, e = .returned (.int .i64 r) ∧ decide (0 ≤ r) = b ∧ w = w'
def oddP (m x : Int) : Bool := decide (x < -m) || decide (m < x)

theorem idx_odd (l : List Int) (p : Option Addr) (c : Nat) (a : Addr) (P : Int → Bool) (w : World) (hI : IsInts w p l) (hl : l.length ≤ 4611686018427387904)
    (hcall : ∀ x : Int, x ∈ l → Calls Try.prog 56 #[.int .i64 x, .pointer (some a)] w fun e w' => e = .returned (.bool (P x)) ∧ w = w') :
    Calls Try.prog 67 #[.slice p l.length c, .func (.func 56) #[] #[.pointer (some a)]] w (RIdx (l.any P) w) := by
  have HI := Lib.hid hI
  have HC := Lib.hid hcall
  clear hI hcall
  go_enter Try.func67, Try.ntmps67
  go_wp2
  go_loop [8] (fun I => ∃ k : Nat, I = .int .i64 k ∧ k ≤ l.length ∧ Hid (l.any P = (l.drop k).any P)) (fun I => l.length - (intOf I).toNat)
  case atStart => exact ⟨0, rfl, Nat.zero_le _, Lib.hid (by simp)⟩
  case round =>
    obtain ⟨k, rfl, hk, hany⟩ := hrel
    by_cases hlt : k < l.length
    · obtain ⟨b, off, rfl, _, hc⟩ := HI.out.at hlt
      have h1 := hc k hlt
      have hmem : l.getD k 0 ∈ l := by simp [List.getD_eq_getElem?_getD, hlt]
      have HK := Lib.hid (HC.out _ hmem)
      have hd : l.drop k = l.getD k 0 :: l.drop (k + 1) := by rw [List.drop_eq_getElem_cons hlt]; simp [List.getD_eq_getElem?_getD, hlt]
      have hst : Hid (l.any P = (P (l.getD k 0) || (l.drop (k + 1)).any P)) := by
        have := hany.out; rw [hd, List.any_cons] at this; exact this
      generalize l.getD k 0 = x at h1 HK hst
      clear hc hmem hd hany HI HC
      go_wp2_with fail
      refine HK.out.mono ?_
      rintro e w' ⟨rfl, hw⟩
      obtain rfl := hw
      cases hP : P x
      · have HR : Hid (l.any P = (l.drop (k + 1)).any P) := by have := hst.out; rw [hP, Bool.false_or] at this; exact this
        have hP2 := Lib.hid hP
        clear hst hP
        go_wp2
        go_round
        case rel => exact ⟨k + 1, by go_num, hlt, HR⟩
        case measure => simp [intOf]; omega
      · have HR : Hid (l.any P = true) := by have := hst.out; rw [hP, Bool.true_or] at this; exact this
        have hP2 := Lib.hid hP
        clear hst hP
        go_wp2
        go_ret
        exact ⟨_, rfl, by rw [HR.out]; simp, rfl⟩
    · have hkl : k = l.length := by omega
      have HR : Hid (l.any P = false) := by have := hany.out; rw [hkl, List.drop_length, List.any_nil] at this; exact this
      clear hany hkl HI HC
      go_wp2
      go_ret
      exact ⟨_, rfl, by rw [HR.out]; simp, rfl⟩
theorem contains_odd (l : List Int) (p : Option Addr) (c : Nat) (a : Addr) (P : Int → Bool) (w : World) (hI : IsInts w p l) (hl : l.length ≤ 4611686018427387904)
    (hcall : ∀ x : Int, x ∈ l → Calls Try.prog 56 #[.int .i64 x, .pointer (some a)] w fun e w' => e = .returned (.bool (P x)) ∧ w = w') :
    Calls Try.prog 55 #[.slice p l.length c, .func (.func 56) #[] #[.pointer (some a)]] w fun e w' => e = .returned (.bool (l.any P)) ∧ w = w' := by
  have HX := Lib.hid (idx_odd l p c a P w hI hl hcall)
  clear hI hcall
  go_enter Try.func55, Try.ntmps55
  go_wp2_with fail
  refine HX.out.mono ?_
  rintro e w' ⟨r, rfl, hr, hw⟩
  obtain rfl := hw
  have HR := Lib.hid hr
  clear hr
  go_wp2
  go_ret
  exact ⟨ret_bool HR.out, rfl⟩

theorem odd1_ok (x m : Int) (m0 : 0 ≤ m) (m1 : m ≤ 4611686018427387904) (a : Addr) (w : World) (hc : w.cell? a = some (.int .i64 m)) :
    Calls Try.prog 56 #[.int .i64 x, .pointer (some a)] w fun e w' => e = .returned (.bool (oddP m x)) ∧ w = w' := by
  by_cases h1 : x < -m
  · have d1 : decide (x < -m) = true := decide_eq_true h1
    have HR : Hid (oddP m x = true) := by show _ = _; rw [oddP, d1]; rfl
    clear h1
    go_enter Try.func56, Try.ntmps56
    go_wp2
    go_ret
    exact ⟨ret_bool HR.out.symm, rfl⟩
  · have d1 : decide (x < -m) = false := decide_eq_false h1
    have HR : Hid (oddP m x = decide (m < x)) := by show _ = _; rw [oddP, d1]; rfl
    clear h1
    go_enter Try.func56, Try.ntmps56
    go_wp2
    go_ret
    exact ⟨ret_bool HR.out.symm, rfl⟩
theorem odd_ok (l : List Int) (p : Option Addr) (c : Nat) (m : Int) (m0 : 0 ≤ m) (m1 : m ≤ 4611686018427387904) (w : World) (hI : IsInts w p l) (hl : l.length ≤ 4611686018427387904) :
    Calls Try.prog 37 #[.slice p l.length c, .int .i64 m] w fun e w' => e = .returned (.bool (l.any (oddP m))) ∧ Below w.heap.size w w' := by
  have hc : (w.alloc (.cells #[.int .i64 m] 3)).cell? ⟨w.heap.size, 0, none⟩ = some (.int .i64 m) := by rw [World.cell?_alloc_at _ _ _ _ rfl]; rfl
  have hmf : ∀ (fn : Fn) (first cap : Array Value) (w : World), (Instr.makeFunc fn first cap).run Try.prog w = .ok (.func fn first cap) w := fun _ _ _ _ => rfl
  have HX := Lib.hid (contains_odd l p c ⟨w.heap.size, 0, none⟩ (oddP m) _ (hI.alloc (.cells #[.int .i64 m] 3)) hl (fun x _ => odd1_ok x m m0 m1 _ _ hc))
  clear hI
  go_enter Try.func37, Try.ntmps37
  go_wp2_with fail
  refine HX.out.mono ?_
  rintro e w' ⟨rfl, rfl⟩
  go_wp2
  go_ret
  exact ⟨rfl, (Below.refl _ _).alloc (Nat.le_refl _) _⟩
end Go.Proofs.Ytclbbfpagkhonaa
