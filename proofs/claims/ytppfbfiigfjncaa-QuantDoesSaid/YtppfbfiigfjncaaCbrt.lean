/- fix.Cbrt: what each call answers. -/
import Derived.Test.YtppfbfiigfjncaaFixPlain
set_option linter.unusedVariables false
namespace Go.Proofs.Ytppfbfiigfjncaa
open Go.ChangeShapes Go.WideShapes Go.ChangeAt Go.RowKit

/-- The closure: whether a number is greater than the third root. -/
theorem cube_fit (r : Nat) (hr : r < 2097152) : r * r ≤ 4398046511104 ∧ r * r * r ≤ 9223372036854775807 := by
  have h1 := sq_le (show r ≤ 2097151 by omega)
  have h2 := cb_le (show r ≤ 2097151 by omega)
  omega
theorem cube_quo (r n : Nat) (h1 : 1 ≤ r) (hn : n ≤ 4611686018427387904) (h : r * r * r ≤ n) : r * r ≤ 4611686018427387904 / r := by
  rw [Nat.le_div_iff_mul_le (by omega)]; omega
theorem cbrt1_any (r n : Nat) (h1 : 1 ≤ r) (hr : r < 2097152) (hn : n ≤ 4611686018427387904) (a : Addr) (w : World) (hc : w.cell? a = some (.int .i64 n)) :
    Calls Try.prog 73 #[.int .i64 r, .pointer (some a)] w fun e w' => e = .returned (.bool (decide (n < r * r * r))) ∧ w = w' := by
  obtain ⟨f1, f2⟩ := cube_fit r hr
  have q1 : ((r : Int) * r) = ((r * r : Nat) : Int) := by simp
  have q2 : ((r : Int) * r * r) = ((r * r * r : Nat) : Int) := by simp
  have m1 : (0 : Int) ≤ (r : Int) * r ∧ (r : Int) * r ≤ 4398046511104 := by rw [q1]; omega
  have m2 : (0 : Int) ≤ (r : Int) * r * r ∧ (r : Int) * r * r ≤ 9223372036854775807 := by rw [q2]; omega
  obtain ⟨m3, m4⟩ := m1
  obtain ⟨m5, m6⟩ := m2
  by_cases hb : n < r * r * r
  · have hd : decide ((n : Int) < (r : Int) * r * r) = true := by rw [q2]; exact decide_eq_true (Int.ofNat_lt.2 hb)
    have hf := Lib.hid (decide_eq_true hb)
    clear hb q1 q2 f1 f2
    go_enter Try.func73, Try.ntmps73
    go_wp2
    go_ret
    exact ⟨ret_bool hf.out.symm, rfl⟩
  · have hd : decide ((n : Int) < (r : Int) * r * r) = false := by rw [q2]; exact decide_eq_false (fun h => hb (Int.ofNat_lt.1 h))
    have hf := Lib.hid (decide_eq_false hb)
    have hq := cube_quo r n h1 hn (by omega)
    have hd2 : decide ((4611686018427387904 : Int) / r < (r : Int) * r) = false := by
      rw [q1]
      refine decide_eq_false (fun h => ?_)
      have : ((4611686018427387904 / r : Nat) : Int) < ((r * r : Nat) : Int) := h
      exact absurd (Int.ofNat_lt.1 this) (by omega)
    clear hb q1 q2 f1 f2 hq
    go_enter Try.func73, Try.ntmps73
    go_wp2
    go_ret
    exact ⟨ret_bool hf.out.symm, rfl⟩

def RRootCbrt (great : Nat → Bool) (bits : Nat) (W w : World) (e : Ending) (w' : World) : Prop := e = .returned (.int .i64 (rootN great bits 0)) ∧ w = w'

theorem root_cbrt (a : Addr) (great : Nat → Bool) (nb : Nat) (h0 : 1 ≤ nb) (hb : nb ≤ 21) (w : World)
    (hcall : ∀ r : Nat, 1 ≤ r → r < 2097152 → Calls Try.prog 73 #[.int .i64 r, .pointer (some a)] w fun e w' => e = .returned (.bool (great r)) ∧ w = w') :
    Calls Try.prog 72 #[.int .i64 nb, .func (.func 73) #[] #[.pointer (some a)]] w (RRootCbrt great nb w w) := by
  have HC := Lib.hid hcall
  clear hcall
  go_enter Try.func72, Try.ntmps72
  go_wp2
  go_loop [4, 5] (fun r i => ∃ (rn k : Nat) (z : Int), r = .int .i64 rn ∧ i = .int .i64 z ∧ z = (k : Int) - 1 ∧ k ≤ nb ∧ rn % 2 ^ k = 0 ∧ rn + 2 ^ k ≤ 2 ^ nb ∧ Hid (rootN great k rn = rootN great nb 0)) (fun _ i => (intOf i + 1).toNat)
  case atStart => exact ⟨0, nb, _, rfl, rfl, rfl, Nat.le_refl _, by simp, by simp, Lib.hid rfl⟩
  case round =>
    obtain ⟨rn, k, z, rfl, rfl, hz, hk, hm, hs, hroot⟩ := hrel
    by_cases hk0 : k = 0
    · subst hk0
      have hz1 : z < 0 := by omega
      clear hz hm hs
      go_wp2
      go_ret
      exact ⟨ret_int (by have := hroot.out; simp only [rootN] at this; omega), rfl⟩
    · obtain ⟨j, rfl⟩ : ∃ j, k = j + 1 := ⟨k - 1, by omega⟩
      obtain rfl : z = (j : Int) := by omega
      have hor := or_bit rn j hm (by have := (root_wf21 rn j nb hs hb).1; omega) (by omega)
      obtain ⟨b1, b2, b3⟩ := root_wf21 rn j nb hs hb
      have hm' : rn % 2 ^ j = 0 := Nat.mod_eq_zero_of_dvd (Nat.dvd_trans ⟨2, by rw [Nat.pow_succ]⟩ (Nat.dvd_of_mod_eq_zero hm))
      obtain ⟨p1, p2⟩ := pow_small j (by omega)
      have HM := Lib.hid hm'
      have B2 := Lib.hid b2
      have HS : Hid (rn + 2 ^ j ≤ 2 ^ nb) := by show _ ≤ _; omega
      have HN := Lib.hid (show j ≤ nb by omega)
      clear hz hk0 hm hm' hs b2
      go_wp2_with fail
      refine (HC.out (rn + 2 ^ j) b3 b1).mono ?_
      rintro e w' ⟨rfl, rfl⟩
      cases hg : great (rn + 2 ^ j)
      · have HR : Hid (rootN great j (rn + 2 ^ j) = rootN great nb 0) := by
          have := hroot.out; rw [rootN, hg] at this; exact this
        clear hroot
        go_wp2
        go_round
        case rel => exact ⟨rn + 2 ^ j, j, _, rfl, rfl, rfl, HN.out, by simp [HM.out], B2.out, HR⟩
        case measure => simp [intOf]
      · have HR : Hid (rootN great j rn = rootN great nb 0) := by
          have := hroot.out; rw [rootN, hg] at this; exact this
        clear hroot
        go_wp2
        go_round
        case rel => exact ⟨rn, j, _, rfl, rfl, rfl, HN.out, HM.out, HS.out, HR⟩
        case measure => simp [intOf]


def RCbrt (n : Nat) (w : World) (e : Ending) (w' : World) : Prop := e = .returned (.tuple #[.int .i64 (cbN n), .int .i64 0]) ∧ Below w.heap.size w w'
theorem cbrt_ok (n : Nat) (hn : n ≤ 4611686018427387904) (w : World) :
    Calls Try.prog 69 #[.int .i64 n] w (RCbrt n w) := by
  have hc : (w.alloc (.cells #[.int .i64 n] 3)).cell? ⟨w.heap.size, 0, none⟩ = some (.int .i64 n) := by rw [World.cell?_alloc_at _ _ _ _ rfl]; rfl
  have hmf : ∀ (fn : Fn) (first cap : Array Value) (w : World), (Instr.makeFunc fn first cap).run Try.prog w = .ok (.func fn first cap) w := fun _ _ _ _ => rfl
  go_enter Try.func69, Try.ntmps69
  go_wp2_with fail
  refine (root_cbrt ⟨w.heap.size, 0, none⟩ (fun r => decide (n < r * r * r)) 21 (by decide) (by decide) _ (fun r h1 hr => cbrt1_any r n h1 hr hn _ _ hc)).mono ?_
  rintro e w' ⟨rfl, rfl⟩
  go_wp2
  go_ret2
  exact ⟨rfl, (Below.refl _ _).alloc (Nat.le_refl _) _⟩
theorem cbrt_bad (n : Int) (h : n < 0 ∨ 4611686018427387904 < n) (w : World) :
    Calls Try.prog 69 #[.int .i64 n] w fun e w' => e = .returned (.tuple #[.int .i64 0, .int .i64 2]) ∧ Below w.heap.size w w' := by
  go_enter Try.func69, Try.ntmps69
  go_wp2
  all_goals go_ret2
  all_goals exact ⟨rfl, (Below.refl _ _).alloc (Nat.le_refl _) _⟩

end Go.Proofs.Ytppfbfiigfjncaa
