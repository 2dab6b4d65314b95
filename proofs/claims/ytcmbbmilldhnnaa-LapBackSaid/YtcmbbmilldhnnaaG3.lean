/- Texts bundled: Odd11 Mdct1 Mdct. -/
import Derived.Test.YtcmbbmilldhnnaaG1
import Derived.Test.YtcmbbmilldhnnaaG2
import Derived.Deep.QuietTactic
/- mdct.odd: what each call answers. -/
set_option linter.unusedVariables false
namespace Go.Proofs.Ytcmbbmilldhnnaa
open Go.ChangeShapes Go.WideShapes Go.ChangeAt Go.RowKit

def RIdx (b : Bool) (w : World) (e : Ending) (w' : World) : Prop := ∃ r : Int, e = .returned (.int .i64 r) ∧ decide (0 ≤ r) = b ∧ w = w'
def oddP (m x : Int) : Bool := decide (x < -m) || decide (m < x)

theorem idx_odd (l : List Int) (p : Option Addr) (c : Nat) (a : Addr) (P : Int → Bool) (w : World) (hI : IsInts w p l) (hl : l.length ≤ 4611686018427387904)
    (hcall : ∀ x : Int, x ∈ l → Calls Try.prog 56 #[.int .i64 x, .pointer (some a)] w fun e w' => e = .returned (.bool (P x)) ∧ w = w') :
    Calls Try.prog 46 #[.slice p l.length c, .func (.func 56) #[] #[.pointer (some a)]] w (RIdx (l.any P) w) := by
  have HI := Lib.hid hI
  have HC := Lib.hid hcall
  clear hI hcall
  go_enter Try.func46, Try.ntmps46
  go_wp2
  go_loop [8] (fun I => ∃ k : Nat, I = .int .i64 k ∧ k ≤ l.length ∧ Hid (l.any P = (l.drop k).any P)) (fun I => l.length - (intOf I).toNat)
  case atStart => exact ⟨0, rfl, Nat.zero_le _, Lib.hid (by simp)⟩
  case round =>
    obtain ⟨k, rfl, hk, hany⟩ := hrel
    by_cases hlt : k < l.length
    · obtain ⟨b, off, rfl, _, hc⟩ := HI.out.at hlt
      have h1 := hc k hlt
      have hmem : l.getD k 0 ∈ l := by simp [List.getD_eq_getElem?_getD, hlt]
      have HK := Lib.hid (HC.out _ hmem)
      have hd : l.drop k = l.getD k 0 :: l.drop (k + 1) := by rw [List.drop_eq_getElem_cons hlt]; simp [List.getD_eq_getElem?_getD, hlt]
      have hst : Hid (l.any P = (P (l.getD k 0) || (l.drop (k + 1)).any P)) := by
        have := hany.out; rw [hd, List.any_cons] at this; exact this
      generalize l.getD k 0 = x at h1 HK hst
      clear hc hmem hd hany HI HC
      go_wp2_with fail
      refine HK.out.mono ?_
      rintro e w' ⟨rfl, hw⟩
      obtain rfl := hw
      cases hP : P x
      · have HR : Hid (l.any P = (l.drop (k + 1)).any P) := by have := hst.out; rw [hP, Bool.false_or] at this; exact this
        have hP2 := Lib.hid hP
        clear hst hP
        go_wp2
        go_round
        case rel => exact ⟨k + 1, by go_num, hlt, HR⟩
        case measure => simp [intOf]; omega
      · have HR : Hid (l.any P = true) := by have := hst.out; rw [hP, Bool.true_or] at this; exact this
        have hP2 := Lib.hid hP
        clear hst hP
        go_wp2
        go_ret
        exact ⟨_, rfl, by rw [HR.out]; simp, rfl⟩
    · have hkl : k = l.length := by omega
      have HR : Hid (l.any P = false) := by have := hany.out; rw [hkl, List.drop_length, List.any_nil] at this; exact this
      clear hany hkl HI HC
      go_wp2
      go_ret
      exact ⟨_, rfl, by rw [HR.out]; simp, rfl⟩
theorem contains_odd (l : List Int) (p : Option Addr) (c : Nat) (a : Addr) (P : Int → Bool) (w : World) (hI : IsInts w p l) (hl : l.length ≤ 4611686018427387904)
    (hcall : ∀ x : Int, x ∈ l → Calls Try.prog 56 #[.int .i64 x, .pointer (some a)] w fun e w' => e = .returned (.bool (P x)) ∧ w = w') :
    Calls Try.prog 29 #[.slice p l.length c, .func (.func 56) #[] #[.pointer (some a)]] w fun e w' => e = .returned (.bool (l.any P)) ∧ w = w' := by
  have HX := Lib.hid (idx_odd l p c a P w hI hl hcall)
  clear hI hcall
  go_enter Try.func29, Try.ntmps29
  go_wp2_with fail
  refine HX.out.mono ?_
  rintro e w' ⟨r, rfl, hr, hw⟩
  obtain rfl := hw
  have HR := Lib.hid hr
  clear hr
  go_wp2
  go_ret
  exact ⟨ret_bool HR.out, rfl⟩

theorem odd1_ok (x m : Int) (m0 : 0 ≤ m) (m1 : m ≤ 4611686018427387904) (a : Addr) (w : World) (hc : w.cell? a = some (.int .i64 m)) :
    Calls Try.prog 56 #[.int .i64 x, .pointer (some a)] w fun e w' => e = .returned (.bool (oddP m x)) ∧ w = w' := by
  by_cases h1 : x < -m
  · have d1 : decide (x < -m) = true := decide_eq_true h1
    have HR : Hid (oddP m x = true) := by show _ = _; rw [oddP, d1]; rfl
    clear h1
    go_enter Try.func56, Try.ntmps56
    go_wp2
    go_ret
    exact ⟨ret_bool HR.out.symm, rfl⟩
  · have d1 : decide (x < -m) = false := decide_eq_false h1
    have HR : Hid (oddP m x = decide (m < x)) := by show _ = _; rw [oddP, d1]; rfl
    clear h1
    go_enter Try.func56, Try.ntmps56
    go_wp2
    go_ret
    exact ⟨ret_bool HR.out.symm, rfl⟩
theorem odd_ok (l : List Int) (p : Option Addr) (c : Nat) (m : Int) (m0 : 0 ≤ m) (m1 : m ≤ 4611686018427387904) (w : World) (hI : IsInts w p l) (hl : l.length ≤ 4611686018427387904) :
    Calls Try.prog 42 #[.slice p l.length c, .int .i64 m] w fun e w' => e = .returned (.bool (l.any (oddP m))) ∧ Below w.heap.size w w' := by
  have hc : (w.alloc (.cells #[.int .i64 m] 3)).cell? ⟨w.heap.size, 0, none⟩ = some (.int .i64 m) := by rw [World.cell?_alloc_at _ _ _ _ rfl]; rfl
  have hmf : ∀ (fn : Fn) (first cap : Array Value) (w : World), (Instr.makeFunc fn first cap).run Try.prog w = .ok (.func fn first cap) w := fun _ _ _ _ => rfl
  have HX := Lib.hid (contains_odd l p c ⟨w.heap.size, 0, none⟩ (oddP m) _ (hI.alloc (.cells #[.int .i64 m] 3)) hl (fun x _ => odd1_ok x m m0 m1 _ _ hc))
  clear hI
  go_enter Try.func42, Try.ntmps42
  go_wp2_with fail
  refine HX.out.mono ?_
  rintro e w' ⟨rfl, rfl⟩
  go_wp2
  go_ret
  exact ⟨rfl, (Below.refl _ _).alloc (Nat.le_refl _) _⟩
end Go.Proofs.Ytcmbbmilldhnnaa
/- mdct.Forward, Inverse: what each call answers. -/
set_option linter.unusedVariables false
namespace Go.Proofs.Ytcmbbmilldhnnaa
open Go.ChangeShapes Go.WideShapes Go.ChangeAt Go.RowKit

theorem scale_256 (w : World) : Calls Try.prog 45 #[.int .i64 256] w fun e w' => e = .returned (.int .i64 1) ∧ w = w' := by
  go_enter Try.func45, Try.ntmps45
  go_wp2
  go_ret
  exact ⟨rfl, rfl⟩
theorem scale_32 (w : World) : Calls Try.prog 45 #[.int .i64 32] w fun e w' => e = .returned (.int .i64 8) ∧ w = w' := by
  go_enter Try.func45, Try.ntmps45
  go_wp2
  go_ret
  exact ⟨rfl, rfl⟩
/-- The arcs, of M lines. -/
def scM (M : Nat) : Int := if M = 32 then 8 else 1
def ffA (M : Nat) (k : Nat) : Int := (1 + (M : Int)) * ((2 * (k : Int) + 1) * scM M)
def ffB (M : Nat) (k : Nat) : Int := 2 * ((2 * (k : Int) + 1) * scM M)
def fiA (M : Nat) (n : Nat) : Int := (2 * (n : Int) + 1 + M) * scM M
def fiB (M : Nat) (n : Nat) : Int := 2 * ((2 * (n : Int) + 1 + M) * scM M)
def lineF (M : Nat) (z : List Int) (k : Nat) : Int := rnd (sumX z (ffA M k) (ffB M k) z.length) 33
def lineI (M : Nat) (x : List Int) (n : Nat) : Int := rnd (sumX x (fiA M n) (fiB M n) x.length) (if M = 32 then 23 else 26)
def linesF (z : List Int) : List Int := (List.range (z.length / 2)).map (lineF (z.length / 2) z)
def linesI (x : List Int) : List Int := (List.range (2 * x.length)).map (lineI x.length x)
def fwdN (z : List Int) : List Int × Int := if z.length ≠ 512 ∧ z.length ≠ 64 then ([], 4) else if z.any (oddP 8388608) then ([], 2) else (linesF z, 0)
def invN (x : List Int) : List Int × Int := if x.length ≠ 256 ∧ x.length ≠ 32 then ([], 4) else if x.any (oddP 268435455) then ([], 2) else (linesI x, 0)
theorem not_odd {m : Int} {l : List Int} (h : l.any (oddP m) = false) : ∀ j, j < l.length → -m ≤ l.getD j 0 ∧ l.getD j 0 ≤ m := by
  intro j hj
  have hm : l.getD j 0 ∈ l := by simp [List.getD_eq_getElem?_getD, hj]
  have := List.any_eq_false.1 h _ hm
  simp [oddP] at this
  simp
  omega

set_option maxHeartbeats 400000 in
theorem fwd1_256 (k : Nat) (hk : k < 256) (a : Addr) (w : World) (hc : w.cell? a = some (.int .i64 256)) :
    Calls Try.prog 44 #[.int .i64 k, .pointer (some a)] w (RArc (ffA 256 k) (ffB 256 k) w) := by
  have HF : Hid (ffA 256 k = 257 * ((2 * (k : Int) + 1) * 1)) := rfl
  have HG : Hid (ffB 256 k = 2 * ((2 * (k : Int) + 1) * 1)) := rfl
  have HS := Lib.hid (fun W => scale_256 W)
  go_enter Try.func44, Try.ntmps44
  go_wp2_with fail
  refine (HS.out _).mono ?_
  rintro e w' ⟨rfl, hw⟩
  obtain rfl := hw
  go_wp2
  go_ret2
  exact ⟨ret_ints (by have := HF.out; omega) (by have := HG.out; omega), 0, rfl⟩
set_option maxHeartbeats 400000 in
theorem inv1_256 (k : Nat) (hk : k < 512) (a : Addr) (w : World) (hc : w.cell? a = some (.int .i64 256)) :
    Calls Try.prog 51 #[.int .i64 k, .pointer (some a)] w (RArc (fiA 256 k) (fiB 256 k) w) := by
  have HF : Hid (fiA 256 k = (2 * (k : Int) + 1 + 256) * 1) := rfl
  have HG : Hid (fiB 256 k = 2 * ((2 * (k : Int) + 1 + 256) * 1)) := rfl
  have HS := Lib.hid (fun W => scale_256 W)
  have e1 : IntKind.i64.wrap (2 * (k : Int)) = 2 * (k : Int) := IntWalk.i64_in _ (by omega)
  have e2 : IntKind.i64.wrap (2 * (k : Int) + 1) = 2 * (k : Int) + 1 := IntWalk.i64_in _ (by omega)
  have e3 : IntKind.i64.wrap (2 * (k : Int) + 1 + 256) = 2 * (k : Int) + 1 + 256 := IntWalk.i64_in _ (by omega)
  have e4 : IntKind.i64.wrap ((2 * (k : Int) + 1 + 256) * 1) = (2 * (k : Int) + 1 + 256) * 1 := IntWalk.i64_in _ (by omega)
  go_enter Try.func51, Try.ntmps51
  go_wp2
  go_quiet ((go_at_call 45; exact Calls.quiet_of_same ((HS.out _).mono fun _ _ ⟨h, hw⟩ => ⟨h, hw.symm⟩)))
  go_wp2
  go_ret2
  exact ⟨ret_ints (by have := HF.out; omega) (by have := HG.out; omega), _, rfl⟩

set_option maxHeartbeats 400000 in
theorem fwd1_32 (k : Nat) (hk : k < 32) (a : Addr) (w : World) (hc : w.cell? a = some (.int .i64 32)) :
    Calls Try.prog 44 #[.int .i64 k, .pointer (some a)] w (RArc (ffA 32 k) (ffB 32 k) w) := by
  have HF : Hid (ffA 32 k = 33 * ((2 * (k : Int) + 1) * 8)) := rfl
  have HG : Hid (ffB 32 k = 2 * ((2 * (k : Int) + 1) * 8)) := rfl
  have HS := Lib.hid (fun W => scale_32 W)
  go_enter Try.func44, Try.ntmps44
  go_wp2_with fail
  refine (HS.out _).mono ?_
  rintro e w' ⟨rfl, hw⟩
  obtain rfl := hw
  go_wp2
  go_ret2
  exact ⟨ret_ints (by have := HF.out; omega) (by have := HG.out; omega), 0, rfl⟩
set_option maxHeartbeats 400000 in
theorem inv1_32 (k : Nat) (hk : k < 64) (a : Addr) (w : World) (hc : w.cell? a = some (.int .i64 32)) :
    Calls Try.prog 51 #[.int .i64 k, .pointer (some a)] w (RArc (fiA 32 k) (fiB 32 k) w) := by
  have HF : Hid (fiA 32 k = (2 * (k : Int) + 1 + 32) * 8) := rfl
  have HG : Hid (fiB 32 k = 2 * ((2 * (k : Int) + 1 + 32) * 8)) := rfl
  have HS := Lib.hid (fun W => scale_32 W)
  have e1 : IntKind.i64.wrap (2 * (k : Int)) = 2 * (k : Int) := IntWalk.i64_in _ (by omega)
  have e2 : IntKind.i64.wrap (2 * (k : Int) + 1) = 2 * (k : Int) + 1 := IntWalk.i64_in _ (by omega)
  have e3 : IntKind.i64.wrap (2 * (k : Int) + 1 + 32) = 2 * (k : Int) + 1 + 32 := IntWalk.i64_in _ (by omega)
  have e4 : IntKind.i64.wrap ((2 * (k : Int) + 1 + 32) * 8) = (2 * (k : Int) + 1 + 32) * 8 := IntWalk.i64_in _ (by omega)
  go_enter Try.func51, Try.ntmps51
  go_wp2
  go_quiet ((go_at_call 45; exact Calls.quiet_of_same ((HS.out _).mono fun _ _ ⟨h, hw⟩ => ⟨h, hw.symm⟩)))
  go_wp2
  go_ret2
  exact ⟨ret_ints (by have := HF.out; omega) (by have := HG.out; omega), _, rfl⟩
end Go.Proofs.Ytcmbbmilldhnnaa
/- mdct.Forward, Inverse: the walks. -/
set_option linter.unusedVariables false
namespace Go.Proofs.Ytcmbbmilldhnnaa
open Go.ChangeShapes Go.WideShapes Go.ChangeAt Go.RowKit

theorem fullrow {f : Nat → Int} {n : Nat} {w : World} {base : Nat} {v : Value} (h : w.ownsRow base 3 1 v n (((List.range n).map f).map (Value.int .i64))) : w.ownsRow base 3 1 v ((List.range n).map f).length (((List.range n).map f).map (Value.int .i64)) := by
  have e : ((List.range n).map f).length = n := by simp
  rw [e]; exact h
theorem box_cell (w : World) (v : Value) (t : TypeId) : (w.alloc (.cells #[v] t)).cell? ⟨w.heap.size, 0, none⟩ = some v := by rw [World.cell?_alloc_at _ _ _ _ rfl]; rfl
theorem arcF_range (M : Nat) (h : M = 256 ∨ M = 32) (k : Nat) (hk : k < M) : (-10000000 ≤ ffA M k ∧ ffA M k ≤ 10000000) ∧ -100000 ≤ ffB M k ∧ ffB M k ≤ 100000 := by
  rcases h with rfl | rfl
  · have a : ffA 256 k = 257 * (2 * (k : Int) + 1) := by simp [ffA, scM]
    have b : ffB 256 k = 2 * (2 * (k : Int) + 1) := by simp [ffB, scM]
    omega
  · have a : ffA 32 k = 33 * ((2 * (k : Int) + 1) * 8) := by simp [ffA, scM]
    have b : ffB 32 k = 2 * ((2 * (k : Int) + 1) * 8) := by simp [ffB, scM]
    omega
theorem arcI_range (M : Nat) (h : M = 256 ∨ M = 32) (k : Nat) (hk : k < 2 * M) : (-10000000 ≤ fiA M k ∧ fiA M k ≤ 10000000) ∧ -100000 ≤ fiB M k ∧ fiB M k ≤ 100000 := by
  rcases h with rfl | rfl
  · have a : fiA 256 k = 2 * (k : Int) + 1 + 256 := by simp [fiA, scM]
    have b : fiB 256 k = 2 * (2 * (k : Int) + 1 + 256) := by simp [fiB, scM]
    omega
  · have a : fiA 32 k = (2 * (k : Int) + 1 + 32) * 8 := by simp [fiA, scM]
    have b : fiB 32 k = 2 * ((2 * (k : Int) + 1 + 32) * 8) := by simp [fiB, scM]
    omega

theorem fwd_lines_512 (z : List Int) (h : z.length = 512) : linesF z = (List.range 256).map (lineF 256 z) := by unfold linesF; rw [h]
set_option maxRecDepth 100000 in
set_option maxHeartbeats 1000000 in
theorem fwd_odd_512 (z : List Int) (p : Option Addr) (c : Nat) (h : z.length = 512) (ho : z.any (oddP 8388608) = true) (w : World) (hI : IsInts w p z) :
    Calls Try.prog 26 #[.slice p 512 c] w (RRowE ([], 2) w) := by
  have HO := Lib.hid (fun W (hW : IsInts W p z) => odd_ok z p c 8388608 (by decide) (by decide) W hW (by omega))
  rw [h, ho] at HO
  have HI := Lib.hid hI
  clear hI ho h
  go_enter Try.func26, Try.ntmps26
  go_wp2_with fail
  refine (HO.out _ (HI.out.alloc _)).mono ?_
  rintro e w1 ⟨rfl, hb1⟩
  go_wp2
  go_ret2
  exact ⟨_, rfl, World.ownsRow_nil _ _ _ _, ((Below.refl _ _).alloc (Nat.le_refl _) _).trans (hb1.mono (by simp))⟩
set_option maxRecDepth 100000 in
set_option maxHeartbeats 2000000 in
theorem fwd_ok_512 (z : List Int) (p : Option Addr) (c : Nat) (h : z.length = 512) (ho : z.any (oddP 8388608) = false) (w : World) (hI : IsInts w p z) :
    Calls Try.prog 26 #[.slice p 512 c] w (RRowE (linesF z, 0) w) := by
  have HO := Lib.hid (fun W (hW : IsInts W p z) => odd_ok z p c 8388608 (by decide) (by decide) W hW (by omega))
  have HS := Lib.hid (fun W (hW : IsInts W p z) ga hga hm => sums_fwd z p c 256 33 ga 256 8388608 (ffA 256) (ffB 256) W hW hga hm (fun i W' hi hc => fwd1_256 i hi _ W' hc) (by omega) (by decide) (by decide) (by decide) (by decide) (by rw [h]; decide) (not_odd ho) (fun i hi => (arcF_range 256 (by decide) i hi).1) (fun i hi => (arcF_range 256 (by decide) i hi).2))
  rw [h, ho] at HO
  have HLN := Lib.hid (fwd_lines_512 z h)
  have HI := Lib.hid hI
  have hbox := Lib.hid (fun W : World => box_cell W (.int .i64 256) 3)
  have hmf : ∀ (fn : Fn) (first cap : Array Value) (w : World), (Instr.makeFunc fn first cap).run Try.prog w = .ok (.func fn first cap) w := fun _ _ _ _ => rfl
  have HE : Hid ((fun i => rnd (sumX z (ffA 256 i) (ffB 256 i) z.length) 33) = lineF 256 z) := rfl
  rw [h] at HS
  have HH := Lib.hid h
  clear hI ho h
  go_enter Try.func26, Try.ntmps26
  go_wp2_with fail
  refine (HO.out _ (HI.out.alloc _)).mono ?_
  rintro e w1 ⟨rfl, hb1⟩
  have hb0 : Below w.heap.size w w1 := ((Below.refl _ _).alloc (Nat.le_refl _) _).trans (hb1.mono (by simp))
  have hcell : w1.cell? ⟨w.heap.size, 0, none⟩ = some (.int .i64 256) := (hb1.cell (p := ⟨w.heap.size, 0, none⟩) (by simp)).trans (hbox.out w)
  have HI1 := Lib.hid (HI.out.keep hb0)
  have hsz1 : w.heap.size < w1.heap.size := by have := hb1.size; simp at this; omega
  have HS1 := Lib.hid (HS.out w1 HI1.out w.heap.size hsz1 hcell)
  clear hb1 HI HO HS
  go_wp2_with fail
  refine HS1.out.mono ?_
  rintro e w2 ⟨g, rfl, hO, hb2⟩
  have HO2 := Lib.hid hO
  clear hO
  go_wp2
  go_ret2
  refine ⟨_, rfl, ?_, hb0.trans (hb2.mono hb0.size)⟩
  have h1 := fullrow HO2.out
  have h2 := HE.out
  rw [HH.out] at h2
  dsimp only at h1 h2 ⊢
  rw [HLN.out]
  rw [h2] at h1
  have e : ((List.range 256).map (lineF 256 z)).length = 256 := by simp
  rw [e] at h1 ⊢
  exact owns_lower h1 hb0.size

theorem inv_lines_256 (z : List Int) (h : z.length = 256) : linesI z = (List.range 512).map (lineI 256 z) := by unfold linesI; rw [h]
set_option maxRecDepth 100000 in
set_option maxHeartbeats 1000000 in
theorem inv_odd_256 (z : List Int) (p : Option Addr) (c : Nat) (h : z.length = 256) (ho : z.any (oddP 268435455) = true) (w : World) (hI : IsInts w p z) :
    Calls Try.prog 33 #[.slice p 256 c] w (RRowE ([], 2) w) := by
  have HO := Lib.hid (fun W (hW : IsInts W p z) => odd_ok z p c 268435455 (by decide) (by decide) W hW (by omega))
  rw [h, ho] at HO
  have HI := Lib.hid hI
  clear hI ho h
  go_enter Try.func33, Try.ntmps33
  go_wp2_with fail
  refine (HO.out _ (HI.out.alloc _)).mono ?_
  rintro e w1 ⟨rfl, hb1⟩
  go_wp2
  go_ret2
  exact ⟨_, rfl, World.ownsRow_nil _ _ _ _, ((Below.refl _ _).alloc (Nat.le_refl _) _).trans (hb1.mono (by simp))⟩
set_option maxRecDepth 100000 in
set_option maxHeartbeats 2000000 in
theorem inv_ok_256 (z : List Int) (p : Option Addr) (c : Nat) (h : z.length = 256) (ho : z.any (oddP 268435455) = false) (w : World) (hI : IsInts w p z) :
    Calls Try.prog 33 #[.slice p 256 c] w (RRowE (linesI z, 0) w) := by
  have HO := Lib.hid (fun W (hW : IsInts W p z) => odd_ok z p c 268435455 (by decide) (by decide) W hW (by omega))
  have HS := Lib.hid (fun W (hW : IsInts W p z) ga hga hm => sums_inv z p c 512 26 ga 256 268435455 (fiA 256) (fiB 256) W hW hga hm (fun i W' hi hc => inv1_256 i hi _ W' hc) (by omega) (by decide) (by decide) (by decide) (by decide) (by rw [h]; decide) (not_odd ho) (fun i hi => (arcI_range 256 (by decide) i hi).1) (fun i hi => (arcI_range 256 (by decide) i hi).2))
  rw [h, ho] at HO
  have HLN := Lib.hid (inv_lines_256 z h)
  have HI := Lib.hid hI
  have hbox := Lib.hid (fun W : World => box_cell W (.int .i64 256) 3)
  have hmf : ∀ (fn : Fn) (first cap : Array Value) (w : World), (Instr.makeFunc fn first cap).run Try.prog w = .ok (.func fn first cap) w := fun _ _ _ _ => rfl
  have HE : Hid ((fun i => rnd (sumX z (fiA 256 i) (fiB 256 i) z.length) 26) = lineI 256 z) := rfl
  rw [h] at HS
  have HH := Lib.hid h
  clear hI ho h
  go_enter Try.func33, Try.ntmps33
  go_wp2_with fail
  refine (HO.out _ (HI.out.alloc _)).mono ?_
  rintro e w1 ⟨rfl, hb1⟩
  have hb0 : Below w.heap.size w w1 := ((Below.refl _ _).alloc (Nat.le_refl _) _).trans (hb1.mono (by simp))
  have hcell : w1.cell? ⟨w.heap.size, 0, none⟩ = some (.int .i64 256) := (hb1.cell (p := ⟨w.heap.size, 0, none⟩) (by simp)).trans (hbox.out w)
  have HI1 := Lib.hid (HI.out.keep hb0)
  have hsz1 : w.heap.size < w1.heap.size := by have := hb1.size; simp at this; omega
  have HS1 := Lib.hid (HS.out w1 HI1.out w.heap.size hsz1 hcell)
  clear hb1 HI HO HS
  go_wp2_with fail
  refine HS1.out.mono ?_
  rintro e w2 ⟨g, rfl, hO, hb2⟩
  have HO2 := Lib.hid hO
  clear hO
  go_wp2
  go_ret2
  refine ⟨_, rfl, ?_, hb0.trans (hb2.mono hb0.size)⟩
  have h1 := fullrow HO2.out
  have h2 := HE.out
  rw [HH.out] at h2
  dsimp only at h1 h2 ⊢
  rw [HLN.out]
  rw [h2] at h1
  have e : ((List.range 512).map (lineI 256 z)).length = 512 := by simp
  rw [e] at h1 ⊢
  exact owns_lower h1 hb0.size

theorem fwd_lines_64 (z : List Int) (h : z.length = 64) : linesF z = (List.range 32).map (lineF 32 z) := by unfold linesF; rw [h]
set_option maxRecDepth 100000 in
set_option maxHeartbeats 1000000 in
theorem fwd_odd_64 (z : List Int) (p : Option Addr) (c : Nat) (h : z.length = 64) (ho : z.any (oddP 8388608) = true) (w : World) (hI : IsInts w p z) :
    Calls Try.prog 26 #[.slice p 64 c] w (RRowE ([], 2) w) := by
  have HO := Lib.hid (fun W (hW : IsInts W p z) => odd_ok z p c 8388608 (by decide) (by decide) W hW (by omega))
  rw [h, ho] at HO
  have HI := Lib.hid hI
  clear hI ho h
  go_enter Try.func26, Try.ntmps26
  go_wp2_with fail
  refine (HO.out _ (HI.out.alloc _)).mono ?_
  rintro e w1 ⟨rfl, hb1⟩
  go_wp2
  go_ret2
  exact ⟨_, rfl, World.ownsRow_nil _ _ _ _, ((Below.refl _ _).alloc (Nat.le_refl _) _).trans (hb1.mono (by simp))⟩
set_option maxRecDepth 100000 in
set_option maxHeartbeats 2000000 in
theorem fwd_ok_64 (z : List Int) (p : Option Addr) (c : Nat) (h : z.length = 64) (ho : z.any (oddP 8388608) = false) (w : World) (hI : IsInts w p z) :
    Calls Try.prog 26 #[.slice p 64 c] w (RRowE (linesF z, 0) w) := by
  have HO := Lib.hid (fun W (hW : IsInts W p z) => odd_ok z p c 8388608 (by decide) (by decide) W hW (by omega))
  have HS := Lib.hid (fun W (hW : IsInts W p z) ga hga hm => sums_fwd z p c 32 33 ga 32 8388608 (ffA 32) (ffB 32) W hW hga hm (fun i W' hi hc => fwd1_32 i hi _ W' hc) (by omega) (by decide) (by decide) (by decide) (by decide) (by rw [h]; decide) (not_odd ho) (fun i hi => (arcF_range 32 (by decide) i hi).1) (fun i hi => (arcF_range 32 (by decide) i hi).2))
  rw [h, ho] at HO
  have HLN := Lib.hid (fwd_lines_64 z h)
  have HI := Lib.hid hI
  have hbox := Lib.hid (fun W : World => box_cell W (.int .i64 32) 3)
  have hmf : ∀ (fn : Fn) (first cap : Array Value) (w : World), (Instr.makeFunc fn first cap).run Try.prog w = .ok (.func fn first cap) w := fun _ _ _ _ => rfl
  have HE : Hid ((fun i => rnd (sumX z (ffA 32 i) (ffB 32 i) z.length) 33) = lineF 32 z) := rfl
  rw [h] at HS
  have HH := Lib.hid h
  clear hI ho h
  go_enter Try.func26, Try.ntmps26
  go_wp2_with fail
  refine (HO.out _ (HI.out.alloc _)).mono ?_
  rintro e w1 ⟨rfl, hb1⟩
  have hb0 : Below w.heap.size w w1 := ((Below.refl _ _).alloc (Nat.le_refl _) _).trans (hb1.mono (by simp))
  have hcell : w1.cell? ⟨w.heap.size, 0, none⟩ = some (.int .i64 32) := (hb1.cell (p := ⟨w.heap.size, 0, none⟩) (by simp)).trans (hbox.out w)
  have HI1 := Lib.hid (HI.out.keep hb0)
  have hsz1 : w.heap.size < w1.heap.size := by have := hb1.size; simp at this; omega
  have HS1 := Lib.hid (HS.out w1 HI1.out w.heap.size hsz1 hcell)
  clear hb1 HI HO HS
  go_wp2_with fail
  refine HS1.out.mono ?_
  rintro e w2 ⟨g, rfl, hO, hb2⟩
  have HO2 := Lib.hid hO
  clear hO
  go_wp2
  go_ret2
  refine ⟨_, rfl, ?_, hb0.trans (hb2.mono hb0.size)⟩
  have h1 := fullrow HO2.out
  have h2 := HE.out
  rw [HH.out] at h2
  dsimp only at h1 h2 ⊢
  rw [HLN.out]
  rw [h2] at h1
  have e : ((List.range 32).map (lineF 32 z)).length = 32 := by simp
  rw [e] at h1 ⊢
  exact owns_lower h1 hb0.size

theorem inv_lines_32 (z : List Int) (h : z.length = 32) : linesI z = (List.range 64).map (lineI 32 z) := by unfold linesI; rw [h]
set_option maxRecDepth 100000 in
set_option maxHeartbeats 1000000 in
theorem inv_odd_32 (z : List Int) (p : Option Addr) (c : Nat) (h : z.length = 32) (ho : z.any (oddP 268435455) = true) (w : World) (hI : IsInts w p z) :
    Calls Try.prog 33 #[.slice p 32 c] w (RRowE ([], 2) w) := by
  have HO := Lib.hid (fun W (hW : IsInts W p z) => odd_ok z p c 268435455 (by decide) (by decide) W hW (by omega))
  rw [h, ho] at HO
  have HI := Lib.hid hI
  clear hI ho h
  go_enter Try.func33, Try.ntmps33
  go_wp2_with fail
  refine (HO.out _ (HI.out.alloc _)).mono ?_
  rintro e w1 ⟨rfl, hb1⟩
  go_wp2
  go_ret2
  exact ⟨_, rfl, World.ownsRow_nil _ _ _ _, ((Below.refl _ _).alloc (Nat.le_refl _) _).trans (hb1.mono (by simp))⟩
set_option maxRecDepth 100000 in
set_option maxHeartbeats 2000000 in
theorem inv_ok_32 (z : List Int) (p : Option Addr) (c : Nat) (h : z.length = 32) (ho : z.any (oddP 268435455) = false) (w : World) (hI : IsInts w p z) :
    Calls Try.prog 33 #[.slice p 32 c] w (RRowE (linesI z, 0) w) := by
  have HO := Lib.hid (fun W (hW : IsInts W p z) => odd_ok z p c 268435455 (by decide) (by decide) W hW (by omega))
  have HS := Lib.hid (fun W (hW : IsInts W p z) ga hga hm => sums_inv z p c 64 23 ga 32 268435455 (fiA 32) (fiB 32) W hW hga hm (fun i W' hi hc => inv1_32 i hi _ W' hc) (by omega) (by decide) (by decide) (by decide) (by decide) (by rw [h]; decide) (not_odd ho) (fun i hi => (arcI_range 32 (by decide) i hi).1) (fun i hi => (arcI_range 32 (by decide) i hi).2))
  rw [h, ho] at HO
  have HLN := Lib.hid (inv_lines_32 z h)
  have HI := Lib.hid hI
  have hbox := Lib.hid (fun W : World => box_cell W (.int .i64 32) 3)
  have hmf : ∀ (fn : Fn) (first cap : Array Value) (w : World), (Instr.makeFunc fn first cap).run Try.prog w = .ok (.func fn first cap) w := fun _ _ _ _ => rfl
  have HE : Hid ((fun i => rnd (sumX z (fiA 32 i) (fiB 32 i) z.length) 23) = lineI 32 z) := rfl
  rw [h] at HS
  have HH := Lib.hid h
  clear hI ho h
  go_enter Try.func33, Try.ntmps33
  go_wp2_with fail
  refine (HO.out _ (HI.out.alloc _)).mono ?_
  rintro e w1 ⟨rfl, hb1⟩
  have hb0 : Below w.heap.size w w1 := ((Below.refl _ _).alloc (Nat.le_refl _) _).trans (hb1.mono (by simp))
  have hcell : w1.cell? ⟨w.heap.size, 0, none⟩ = some (.int .i64 32) := (hb1.cell (p := ⟨w.heap.size, 0, none⟩) (by simp)).trans (hbox.out w)
  have HI1 := Lib.hid (HI.out.keep hb0)
  have hsz1 : w.heap.size < w1.heap.size := by have := hb1.size; simp at this; omega
  have HS1 := Lib.hid (HS.out w1 HI1.out w.heap.size hsz1 hcell)
  clear hb1 HI HO HS
  go_wp2_with fail
  refine HS1.out.mono ?_
  rintro e w2 ⟨g, rfl, hO, hb2⟩
  have HO2 := Lib.hid hO
  clear hO
  go_wp2
  go_ret2
  refine ⟨_, rfl, ?_, hb0.trans (hb2.mono hb0.size)⟩
  have h1 := fullrow HO2.out
  have h2 := HE.out
  rw [HH.out] at h2
  dsimp only at h1 h2 ⊢
  rw [HLN.out]
  rw [h2] at h1
  have e : ((List.range 64).map (lineI 32 z)).length = 64 := by simp
  rw [e] at h1 ⊢
  exact owns_lower h1 hb0.size

set_option maxRecDepth 100000 in
set_option maxHeartbeats 1000000 in
theorem fwd_any (z : List Int) (p : Option Addr) (c : Nat) (hl : z.length ≤ 4611686018427387904) (w : World) (hI : IsInts w p z) :
    Calls Try.prog 26 #[.slice p z.length c] w (RRowE (fwdN z) w) := by
  by_cases h1 : z.length ≠ 512 ∧ z.length ≠ 64
  · rw [fwdN, if_pos h1]
    have d1 : ((z.length : Int) == 512) = false := by simp; omega
    have d2 : ((z.length : Int) == 64) = false := by simp; omega
    have d3 : ((z.length : Int) != 512) = true := by simp; omega
    have d4 : ((z.length : Int) != 64) = true := by simp; omega
    clear h1
    go_enter Try.func26, Try.ntmps26
    go_wp2
    go_ret2
    exact ⟨_, rfl, World.ownsRow_nil _ _ _ _, (Below.refl _ _).alloc (Nat.le_refl _) _⟩
  · rw [fwdN, if_neg h1]
    by_cases ho : z.any (oddP 8388608) = true
    · rw [if_pos ho]
      by_cases h2 : z.length = 512
      · rw [h2]; exact fwd_odd_512 z p c h2 ho w hI
      · have h3 : z.length = 64 := by omega
        rw [h3]; exact fwd_odd_64 z p c h3 ho w hI
    · rw [if_neg ho]
      have ho' : z.any (oddP 8388608) = false := by simpa using ho
      by_cases h2 : z.length = 512
      · rw [h2]; exact fwd_ok_512 z p c h2 ho' w hI
      · have h3 : z.length = 64 := by omega
        rw [h3]; exact fwd_ok_64 z p c h3 ho' w hI

set_option maxRecDepth 100000 in
set_option maxHeartbeats 1000000 in
theorem inv_any (z : List Int) (p : Option Addr) (c : Nat) (hl : z.length ≤ 4611686018427387904) (w : World) (hI : IsInts w p z) :
    Calls Try.prog 33 #[.slice p z.length c] w (RRowE (invN z) w) := by
  by_cases h1 : z.length ≠ 256 ∧ z.length ≠ 32
  · rw [invN, if_pos h1]
    have d1 : ((z.length : Int) == 256) = false := by simp; omega
    have d2 : ((z.length : Int) == 32) = false := by simp; omega
    have d3 : ((z.length : Int) != 256) = true := by simp; omega
    have d4 : ((z.length : Int) != 32) = true := by simp; omega
    clear h1
    go_enter Try.func33, Try.ntmps33
    go_wp2
    go_ret2
    exact ⟨_, rfl, World.ownsRow_nil _ _ _ _, (Below.refl _ _).alloc (Nat.le_refl _) _⟩
  · rw [invN, if_neg h1]
    by_cases ho : z.any (oddP 268435455) = true
    · rw [if_pos ho]
      by_cases h2 : z.length = 256
      · rw [h2]; exact inv_odd_256 z p c h2 ho w hI
      · have h3 : z.length = 32 := by omega
        rw [h3]; exact inv_odd_32 z p c h3 ho w hI
    · rw [if_neg ho]
      have ho' : z.any (oddP 268435455) = false := by simpa using ho
      by_cases h2 : z.length = 256
      · rw [h2]; exact inv_ok_256 z p c h2 ho' w hI
      · have h3 : z.length = 32 := by omega
        rw [h3]; exact inv_ok_32 z p c h3 ho' w hI
end Go.Proofs.Ytcmbbmilldhnnaa
