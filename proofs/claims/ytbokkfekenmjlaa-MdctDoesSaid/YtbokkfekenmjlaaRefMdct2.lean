/- reedpiperef11.Forward, Inverse, whatever is handed in. -/
import Derived.Test.YtbokkfekenmjlaaRefMdct
set_option linter.unusedVariables false
namespace Go.Proofs.Ytbokkfekenmjlaa
open Go.ChangeShapes Go.WideShapes Go.ChangeAt Go.RowKit

set_option maxRecDepth 100000 in
set_option maxHeartbeats 1000000 in
theorem reffwd_odd_512 (z : List Int) (p : Option Addr) (c : Nat) (h : z.length = 512) (ho : z.any (oddP 8388608) = true) (w : World) (hI : IsInts w p z) :
    Calls Try.prog 13 #[.slice p 512 c] w (RRowE ([], 2) w) := by
  have HO := Lib.hid (fun W (hW : IsInts W p z) => in_ok z p c 8388608 (by decide) (by decide) W hW (by omega))
  rw [h, ho] at HO
  have HI := Lib.hid hI
  clear hI ho h
  go_enter Try.func13, Try.ntmps13
  go_wp2_with fail
  refine (HO.out _ HI.out).mono ?_
  rintro e w1 ⟨rfl, hw⟩
  obtain rfl := hw
  go_wp2
  go_ret2
  exact ⟨_, rfl, World.ownsRow_nil _ _ _ _, Below.refl _ _⟩
set_option maxRecDepth 100000 in
set_option maxHeartbeats 2000000 in
theorem reffwd_ok_512 (z : List Int) (p : Option Addr) (c : Nat) (h : z.length = 512) (ho : z.any (oddP 8388608) = false) (w : World) (hI : IsInts w p z) :
    Calls Try.prog 13 #[.slice p 512 c] w (RRowE (linesF z, 0) w) := by
  have HO := Lib.hid (fun W (hW : IsInts W p z) => in_ok z p c 8388608 (by decide) (by decide) W hW (by omega))
  have HS := Lib.hid (fun W (hW : IsInts W p z) => reflines_512 z p c h (not_odd ho) W hW)
  rw [h, ho] at HO
  rw [← fwd_lines_512 z h] at HS
  have HI := Lib.hid hI
  clear hI ho h
  go_enter Try.func13, Try.ntmps13
  go_wp2_with fail
  refine (HO.out _ HI.out).mono ?_
  rintro e w1 ⟨rfl, hw⟩
  obtain rfl := hw
  go_wp2_with fail
  refine (HS.out _ HI.out).mono ?_
  rintro e w2 ⟨v, rfl, hO, hb⟩
  have HO2 := Lib.hid hO
  clear hO
  go_wp2
  go_ret2
  exact ⟨_, rfl, HO2.out, hb⟩

set_option maxRecDepth 100000 in
set_option maxHeartbeats 1000000 in
theorem reffwd_odd_64 (z : List Int) (p : Option Addr) (c : Nat) (h : z.length = 64) (ho : z.any (oddP 8388608) = true) (w : World) (hI : IsInts w p z) :
    Calls Try.prog 13 #[.slice p 64 c] w (RRowE ([], 2) w) := by
  have HO := Lib.hid (fun W (hW : IsInts W p z) => in_ok z p c 8388608 (by decide) (by decide) W hW (by omega))
  rw [h, ho] at HO
  have HI := Lib.hid hI
  clear hI ho h
  go_enter Try.func13, Try.ntmps13
  go_wp2_with fail
  refine (HO.out _ HI.out).mono ?_
  rintro e w1 ⟨rfl, hw⟩
  obtain rfl := hw
  go_wp2
  go_ret2
  exact ⟨_, rfl, World.ownsRow_nil _ _ _ _, Below.refl _ _⟩
set_option maxRecDepth 100000 in
set_option maxHeartbeats 2000000 in
theorem reffwd_ok_64 (z : List Int) (p : Option Addr) (c : Nat) (h : z.length = 64) (ho : z.any (oddP 8388608) = false) (w : World) (hI : IsInts w p z) :
    Calls Try.prog 13 #[.slice p 64 c] w (RRowE (linesF z, 0) w) := by
  have HO := Lib.hid (fun W (hW : IsInts W p z) => in_ok z p c 8388608 (by decide) (by decide) W hW (by omega))
  have HS := Lib.hid (fun W (hW : IsInts W p z) => reflines_64 z p c h (not_odd ho) W hW)
  rw [h, ho] at HO
  rw [← fwd_lines_64 z h] at HS
  have HI := Lib.hid hI
  clear hI ho h
  go_enter Try.func13, Try.ntmps13
  go_wp2_with fail
  refine (HO.out _ HI.out).mono ?_
  rintro e w1 ⟨rfl, hw⟩
  obtain rfl := hw
  go_wp2_with fail
  refine (HS.out _ HI.out).mono ?_
  rintro e w2 ⟨v, rfl, hO, hb⟩
  have HO2 := Lib.hid hO
  clear hO
  go_wp2
  go_ret2
  exact ⟨_, rfl, HO2.out, hb⟩

set_option maxRecDepth 100000 in
set_option maxHeartbeats 1000000 in
theorem reffwd_any (z : List Int) (p : Option Addr) (c : Nat) (hl : z.length ≤ 4611686018427387904) (w : World) (hI : IsInts w p z) :
    Calls Try.prog 13 #[.slice p z.length c] w (RRowE (fwdN z) w) := by
  by_cases h1 : z.length ≠ 512 ∧ z.length ≠ 64
  · rw [fwdN, if_pos h1]
    have d1 : ((z.length : Int) == 512) = false := by simp; omega
    have d2 : ((z.length : Int) == 64) = false := by simp; omega
    have d3 : ((z.length : Int) != 512) = true := by simp; omega
    have d4 : ((z.length : Int) != 64) = true := by simp; omega
    clear h1
    go_enter Try.func13, Try.ntmps13
    go_wp2
    go_ret2
    exact ⟨_, rfl, World.ownsRow_nil _ _ _ _, Below.refl _ _⟩
  · rw [fwdN, if_neg h1]
    by_cases ho : z.any (oddP 8388608) = true
    · rw [if_pos ho]
      by_cases h2 : z.length = 512
      · rw [h2]; exact reffwd_odd_512 z p c h2 ho w hI
      · have h3 : z.length = 64 := by omega
        rw [h3]; exact reffwd_odd_64 z p c h3 ho w hI
    · rw [if_neg ho]
      have ho' : z.any (oddP 8388608) = false := by simpa using ho
      by_cases h2 : z.length = 512
      · rw [h2]; exact reffwd_ok_512 z p c h2 ho' w hI
      · have h3 : z.length = 64 := by omega
        rw [h3]; exact reffwd_ok_64 z p c h3 ho' w hI

set_option maxRecDepth 100000 in
set_option maxHeartbeats 1000000 in
theorem refinv_odd_256 (z : List Int) (p : Option Addr) (c : Nat) (h : z.length = 256) (ho : z.any (oddP 268435455) = true) (w : World) (hI : IsInts w p z) :
    Calls Try.prog 14 #[.slice p 256 c] w (RRowE ([], 2) w) := by
  have HO := Lib.hid (fun W (hW : IsInts W p z) => in_ok z p c 268435455 (by decide) (by decide) W hW (by omega))
  rw [h, ho] at HO
  have HI := Lib.hid hI
  clear hI ho h
  go_enter Try.func14, Try.ntmps14
  go_wp2_with fail
  refine (HO.out _ HI.out).mono ?_
  rintro e w1 ⟨rfl, hw⟩
  obtain rfl := hw
  go_wp2
  go_ret2
  exact ⟨_, rfl, World.ownsRow_nil _ _ _ _, Below.refl _ _⟩
set_option maxRecDepth 100000 in
set_option maxHeartbeats 2000000 in
theorem refinv_ok_256 (z : List Int) (p : Option Addr) (c : Nat) (h : z.length = 256) (ho : z.any (oddP 268435455) = false) (w : World) (hI : IsInts w p z) :
    Calls Try.prog 14 #[.slice p 256 c] w (RRowE (linesI z, 0) w) := by
  have HO := Lib.hid (fun W (hW : IsInts W p z) => in_ok z p c 268435455 (by decide) (by decide) W hW (by omega))
  have HS := Lib.hid (fun W (hW : IsInts W p z) => refback_256 z p c h (not_odd ho) W hW)
  rw [h, ho] at HO
  rw [← inv_lines_256 z h] at HS
  have HI := Lib.hid hI
  clear hI ho h
  go_enter Try.func14, Try.ntmps14
  go_wp2_with fail
  refine (HO.out _ HI.out).mono ?_
  rintro e w1 ⟨rfl, hw⟩
  obtain rfl := hw
  go_wp2_with fail
  refine (HS.out _ HI.out).mono ?_
  rintro e w2 ⟨v, rfl, hO, hb⟩
  have HO2 := Lib.hid hO
  clear hO
  go_wp2
  go_ret2
  exact ⟨_, rfl, HO2.out, hb⟩

set_option maxRecDepth 100000 in
set_option maxHeartbeats 1000000 in
theorem refinv_odd_32 (z : List Int) (p : Option Addr) (c : Nat) (h : z.length = 32) (ho : z.any (oddP 268435455) = true) (w : World) (hI : IsInts w p z) :
    Calls Try.prog 14 #[.slice p 32 c] w (RRowE ([], 2) w) := by
  have HO := Lib.hid (fun W (hW : IsInts W p z) => in_ok z p c 268435455 (by decide) (by decide) W hW (by omega))
  rw [h, ho] at HO
  have HI := Lib.hid hI
  clear hI ho h
  go_enter Try.func14, Try.ntmps14
  go_wp2_with fail
  refine (HO.out _ HI.out).mono ?_
  rintro e w1 ⟨rfl, hw⟩
  obtain rfl := hw
  go_wp2
  go_ret2
  exact ⟨_, rfl, World.ownsRow_nil _ _ _ _, Below.refl _ _⟩
set_option maxRecDepth 100000 in
set_option maxHeartbeats 2000000 in
theorem refinv_ok_32 (z : List Int) (p : Option Addr) (c : Nat) (h : z.length = 32) (ho : z.any (oddP 268435455) = false) (w : World) (hI : IsInts w p z) :
    Calls Try.prog 14 #[.slice p 32 c] w (RRowE (linesI z, 0) w) := by
  have HO := Lib.hid (fun W (hW : IsInts W p z) => in_ok z p c 268435455 (by decide) (by decide) W hW (by omega))
  have HS := Lib.hid (fun W (hW : IsInts W p z) => refback_32 z p c h (not_odd ho) W hW)
  rw [h, ho] at HO
  rw [← inv_lines_32 z h] at HS
  have HI := Lib.hid hI
  clear hI ho h
  go_enter Try.func14, Try.ntmps14
  go_wp2_with fail
  refine (HO.out _ HI.out).mono ?_
  rintro e w1 ⟨rfl, hw⟩
  obtain rfl := hw
  go_wp2_with fail
  refine (HS.out _ HI.out).mono ?_
  rintro e w2 ⟨v, rfl, hO, hb⟩
  have HO2 := Lib.hid hO
  clear hO
  go_wp2
  go_ret2
  exact ⟨_, rfl, HO2.out, hb⟩

set_option maxRecDepth 100000 in
set_option maxHeartbeats 1000000 in
theorem refinv_any (z : List Int) (p : Option Addr) (c : Nat) (hl : z.length ≤ 4611686018427387904) (w : World) (hI : IsInts w p z) :
    Calls Try.prog 14 #[.slice p z.length c] w (RRowE (invN z) w) := by
  by_cases h1 : z.length ≠ 256 ∧ z.length ≠ 32
  · rw [invN, if_pos h1]
    have d1 : ((z.length : Int) == 256) = false := by simp; omega
    have d2 : ((z.length : Int) == 32) = false := by simp; omega
    have d3 : ((z.length : Int) != 256) = true := by simp; omega
    have d4 : ((z.length : Int) != 32) = true := by simp; omega
    clear h1
    go_enter Try.func14, Try.ntmps14
    go_wp2
    go_ret2
    exact ⟨_, rfl, World.ownsRow_nil _ _ _ _, Below.refl _ _⟩
  · rw [invN, if_neg h1]
    by_cases ho : z.any (oddP 268435455) = true
    · rw [if_pos ho]
      by_cases h2 : z.length = 256
      · rw [h2]; exact refinv_odd_256 z p c h2 ho w hI
      · have h3 : z.length = 32 := by omega
        rw [h3]; exact refinv_odd_32 z p c h3 ho w hI
    · rw [if_neg ho]
      have ho' : z.any (oddP 268435455) = false := by simpa using ho
      by_cases h2 : z.length = 256
      · rw [h2]; exact refinv_ok_256 z p c h2 ho' w hI
      · have h3 : z.length = 32 := by omega
        rw [h3]; exact refinv_ok_32 z p c h3 ho' w hI
end Go.Proofs.Ytbokkfekenmjlaa
