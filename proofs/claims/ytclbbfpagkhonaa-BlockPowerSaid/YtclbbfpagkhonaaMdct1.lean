/- mdct.Forward, Inverse: what each call answers. -/
import Derived.Test.YtclbbfpagkhonaaSumsWalk
import Derived.Test.YtclbbfpagkhonaaOdd11
import Derived.Deep.QuietTactic
set_option linter.unusedVariables false
namespace Go.Proofs.Ytclbbfpagkhonaa
open Go.ChangeShapes Go.WideShapes Go.ChangeAt Go.RowKit

theorem scale_256 (w : World) : Calls Try.prog 40 #[.int .i64 256] w fun e w' => e = .returned (.int .i64 1) ∧ w = w' := by
  go_enter Try.func40, Try.ntmps40
  go_wp2
  go_ret
  exact ⟨rfl, rfl⟩
theorem scale_32 (w : World) : Calls Try.prog 40 #[.int .i64 32] w fun e w' => e = .returned (.int .i64 8) ∧ w = w' := by
  go_enter Try.func40, Try.ntmps40
  go_wp2
  go_ret
  exact ⟨rfl, rfl⟩
/-- The arcs, of M lines. -/
def scM (M : Nat) : Int := if M = 32 then 8 else 1
def ffA (M : Nat) (k : Nat) : Int := (1 + (M : Int)) * ((2 * (k : Int) + 1) * scM M)
def ffB (M : Nat) (k : Nat) : Int := 2 * ((2 * (k : Int) + 1) * scM M)
def fiA (M : Nat) (n : Nat) : Int := (2 * (n : Int) + 1 + M) * scM M
def fiB (M : Nat) (n : Nat) : Int := 2 * ((2 * (n : Int) + 1 + M) * scM M)
def lineF (M : Nat) (z : List Int) (k : Nat) : Int := rnd (sumX z (ffA M k) (ffB M k) z.length) 33
def lineI (M : Nat) (x : List Int) (n : Nat) : Int := rnd (sumX x (fiA M n) (fiB M n) x.length) (if M = 32 then 23 else 26)
def linesF (z : List Int) : List Int := (List.range (z.length / 2)).map (lineF (z.length / 2) z)
def linesI (x : List Int) : List Int := (List.range (2 * x.length)).map (lineI x.length x)
def fwdN (z : List Int) : List Int × Int := if z.length ≠ 512 ∧ z.length ≠ 64 then ([], 4) else if z.any (oddP 8388608) then ([], 2) else (linesF z, 0)
def invN (x : List Int) : List Int × Int := if x.length ≠ 256 ∧ x.length ≠ 32 then ([], 4) else if x.any (oddP 268435455) then ([], 2) else (linesI x, 0)
theorem not_odd {m : Int} {l : List Int} (h : l.any (oddP m) = false) : ∀ j, j < l.length → -m ≤ l.getD j 0 ∧ l.getD j 0 ≤ m := by
  intro j hj
  have hm : l.getD j 0 ∈ l := by simp [List.getD_eq_getElem?_getD, hj]
  have := List.any_eq_false.1 h _ hm
  simp [oddP] at this
  simp
  omega

set_option maxHeartbeats 400000 in
theorem fwd1_256 (k : Nat) (hk : k < 256) (a : Addr) (w : World) (hc : w.cell? a = some (.int .i64 256)) :
    Calls Try.prog 42 #[.int .i64 k, .pointer (some a)] w (RArc (ffA 256 k) (ffB 256 k) w) := by
  have HF : Hid (ffA 256 k = 257 * ((2 * (k : Int) + 1) * 1)) := rfl
  have HG : Hid (ffB 256 k = 2 * ((2 * (k : Int) + 1) * 1)) := rfl
  have HS := Lib.hid (fun W => scale_256 W)
  go_enter Try.func42, Try.ntmps42
  go_wp2_with fail
  refine (HS.out _).mono ?_
  rintro e w' ⟨rfl, hw⟩
  obtain rfl := hw
  go_wp2
  go_ret2
  exact ⟨ret_ints (by have := HF.out; omega) (by have := HG.out; omega), 0, rfl⟩
set_option maxHeartbeats 400000 in
theorem inv1_256 (k : Nat) (hk : k < 512) (a : Addr) (w : World) (hc : w.cell? a = some (.int .i64 256)) :
    Calls Try.prog 39 #[.int .i64 k, .pointer (some a)] w (RArc (fiA 256 k) (fiB 256 k) w) := by
  have HF : Hid (fiA 256 k = (2 * (k : Int) + 1 + 256) * 1) := rfl
  have HG : Hid (fiB 256 k = 2 * ((2 * (k : Int) + 1 + 256) * 1)) := rfl
  have HS := Lib.hid (fun W => scale_256 W)
  have e1 : IntKind.i64.wrap (2 * (k : Int)) = 2 * (k : Int) := IntWalk.i64_in _ (by omega)
  have e2 : IntKind.i64.wrap (2 * (k : Int) + 1) = 2 * (k : Int) + 1 := IntWalk.i64_in _ (by omega)
  have e3 : IntKind.i64.wrap (2 * (k : Int) + 1 + 256) = 2 * (k : Int) + 1 + 256 := IntWalk.i64_in _ (by omega)
  have e4 : IntKind.i64.wrap ((2 * (k : Int) + 1 + 256) * 1) = (2 * (k : Int) + 1 + 256) * 1 := IntWalk.i64_in _ (by omega)
  go_enter Try.func39, Try.ntmps39
  go_wp2
  go_quiet ((go_at_call 40; exact Calls.quiet_of_same ((HS.out _).mono fun _ _ ⟨h, hw⟩ => ⟨h, hw.symm⟩)))
  go_wp2
  go_ret2
  exact ⟨ret_ints (by have := HF.out; omega) (by have := HG.out; omega), _, rfl⟩

set_option maxHeartbeats 400000 in
theorem fwd1_32 (k : Nat) (hk : k < 32) (a : Addr) (w : World) (hc : w.cell? a = some (.int .i64 32)) :
    Calls Try.prog 42 #[.int .i64 k, .pointer (some a)] w (RArc (ffA 32 k) (ffB 32 k) w) := by
  have HF : Hid (ffA 32 k = 33 * ((2 * (k : Int) + 1) * 8)) := rfl
  have HG : Hid (ffB 32 k = 2 * ((2 * (k : Int) + 1) * 8)) := rfl
  have HS := Lib.hid (fun W => scale_32 W)
  go_enter Try.func42, Try.ntmps42
  go_wp2_with fail
  refine (HS.out _).mono ?_
  rintro e w' ⟨rfl, hw⟩
  obtain rfl := hw
  go_wp2
  go_ret2
  exact ⟨ret_ints (by have := HF.out; omega) (by have := HG.out; omega), 0, rfl⟩
set_option maxHeartbeats 400000 in
theorem inv1_32 (k : Nat) (hk : k < 64) (a : Addr) (w : World) (hc : w.cell? a = some (.int .i64 32)) :
    Calls Try.prog 39 #[.int .i64 k, .pointer (some a)] w (RArc (fiA 32 k) (fiB 32 k) w) := by
  have HF : Hid (fiA 32 k = (2 * (k : Int) + 1 + 32) * 8) := rfl
  have HG : Hid (fiB 32 k = 2 * ((2 * (k : Int) + 1 + 32) * 8)) := rfl
  have HS := Lib.hid (fun W => scale_32 W)
  have e1 : IntKind.i64.wrap (2 * (k : Int)) = 2 * (k : Int) := IntWalk.i64_in _ (by omega)
  have e2 : IntKind.i64.wrap (2 * (k : Int) + 1) = 2 * (k : Int) + 1 := IntWalk.i64_in _ (by omega)
  have e3 : IntKind.i64.wrap (2 * (k : Int) + 1 + 32) = 2 * (k : Int) + 1 + 32 := IntWalk.i64_in _ (by omega)
  have e4 : IntKind.i64.wrap ((2 * (k : Int) + 1 + 32) * 8) = (2 * (k : Int) + 1 + 32) * 8 := IntWalk.i64_in _ (by omega)
  go_enter Try.func39, Try.ntmps39
  go_wp2
  go_quiet ((go_at_call 40; exact Calls.quiet_of_same ((HS.out _).mono fun _ _ ⟨h, hw⟩ => ⟨h, hw.symm⟩)))
  go_wp2
  go_ret2
  exact ⟨ret_ints (by have := HF.out; omega) (by have := HG.out; omega), _, rfl⟩
end Go.Proofs.Ytclbbfpagkhonaa
