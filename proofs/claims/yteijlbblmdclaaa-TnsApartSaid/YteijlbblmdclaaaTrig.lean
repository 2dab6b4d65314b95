/- trig: what each call answers. -/
import Derived.Test.YteijlbblmdclaaaTrigPlain
set_option linter.unusedVariables false
namespace Go.Proofs.Yteijlbblmdclaaa
open Go.ChangeShapes Go.WideShapes Go.ChangeAt Go.RowKit

theorem rounded_ok (n : Int) (b : Nat) (h1 : -4611686018427387904 ≤ n) (h2 : n ≤ 4611686018427387904) (hb1 : 1 ≤ b) (hb : b ≤ 61) (w : World) :
    Calls Try.prog 77 #[.int .i64 n, .int .i64 b] w fun e w' => e = .returned (.int .i64 (rnd n b)) ∧ w = w' := by
  have p1 := pow_pos' (b - 1)
  have p2 : (2 : Int) ^ (b - 1) ≤ 1152921504606846976 := pow_le_pow' (show b - 1 ≤ 60 by omega)
  have hr : Hid ((n + 2 ^ (b - 1)) / 2 ^ b = rnd n b) := by show _ = _; rw [rnd, if_neg (by omega)]
  go_enter Try.func77, Try.ntmps77
  go_wp2
  go_ret
  exact ⟨ret_int hr.out, rfl⟩
theorem rounded_lit (n B : Int) (b : Nat) (hB : B = b) (h1 : -4611686018427387904 ≤ n) (h2 : n ≤ 4611686018427387904) (hb1 : 1 ≤ b) (hb : b ≤ 61) (w : World) :
    Calls Try.prog 77 #[.int .i64 n, .int .i64 B] w fun e w' => e = .returned (.int .i64 (rnd n b)) ∧ w = w' := by
  subst hB; exact rounded_ok n b h1 h2 hb1 hb w

theorem ser_step (ds : List Int) (k : Nat) (hk : k < ds.length) (e : Bool) (f q s : Int) :
    serL (ds.drop k) e f q s = serL (ds.drop (k + 1)) (!e) (rnd (f * q) 30 / ds.getD k 0) q (if e then s - rnd (f * q) 30 / ds.getD k 0 else s + rnd (f * q) 30 / ds.getD k 0) := by
  rw [List.drop_eq_getElem_cons hk, serL]
  simp [List.getD_eq_getElem?_getD, hk]
def even (k : Nat) : Bool := k % 2 == 0
theorem even_succ (k : Nat) : even (k + 1) = !even k := by unfold even; rcases Nat.mod_two_eq_zero_or_one k with h | h <;> simp [Nat.add_mod, h]

def RSer (ds : List Int) (f q : Int) (w : World) (e : Ending) (w' : World) : Prop := e = .returned (.int .i64 (serL ds true f q f)) ∧ w = w'
set_option maxRecDepth 100000 in
set_option maxHeartbeats 1000000 in
theorem series_ok (ds : List Int) (p : Option Addr) (c : Nat) (f q : Int) (hl : ds.length ≤ 100) (hd : ∀ k, k < ds.length → 2 ≤ ds.getD k 0 ∧ ds.getD k 0 ≤ 1000) (h0 : 0 ≤ f) (h1 : f ≤ 1073741824) (k0 : 0 ≤ q) (k1 : q ≤ 1073741824) (w : World) (hi : IsInts w p ds) :
    Calls Try.prog 78 #[.int .i64 f, .int .i64 q, .slice p ds.length c] w (RSer ds f q w) := by
  have HI := Lib.hid hi
  have HD := Lib.hid hd
  clear hi hd
  go_enter Try.func78, Try.ntmps78
  go_wp2
  go_loop [0, 7, 13] (fun F S I => ∃ (k : Nat) (x s : Int), F = .int .i64 x ∧ S = .int .i64 s ∧ I = .int .i64 k ∧ k ≤ ds.length ∧ 0 ≤ x ∧ x ≤ 1073741824 ∧ -1073741824 * ((k : Int) + 1) ≤ s ∧ s ≤ 1073741824 * ((k : Int) + 1) ∧ Hid (serL (ds.drop k) (even k) x q s = serL ds true f q f)) (fun _ _ i => ds.length - (intOf i).toNat)
  case atStart => exact ⟨0, f, f, rfl, rfl, rfl, Nat.zero_le _, h0, h1, by omega, by omega, Lib.hid rfl⟩
  case round =>
    obtain ⟨k, x, s, rfl, rfl, rfl, hk, hx0, hx1, hs0, hs1, hser⟩ := hrel
    by_cases hlt : k < ds.length
    · obtain ⟨b, off, rfl, _, hc⟩ := HI.out.at hlt
      have c1 := hc k hlt
      obtain ⟨d0, d1⟩ := HD.out k hlt
      obtain ⟨t0, t1⟩ := term_range x q (ds.getD k 0) hx0 hx1 k0 k1 (by omega)
      obtain ⟨m0, m1⟩ := mul_range 1073741824 1073741824 hx0 hx1 k0 k1
      obtain ⟨r0, r1⟩ := rnd30_range _ m0 (by omega)
      have hs := hser.out
      rw [ser_step ds k hlt] at hs
      have HS := Lib.hid hs
      clear hs hser hc
      generalize ds.getD k 0 = d at *
      by_cases hp : k % 2 = 0
      · have he : even k = true := by simp [even, hp]
        have HE := Lib.hid he
        have hp' : ((k : Int) % 2 == 0) = true := by simp; omega
        clear he
        go_wp2_with (go_at_call 77; refine (rounded_lit _ 30 30 rfl (by omega) (by omega) (by decide) (by decide) _).mono ?_; rintro e w' ⟨rfl, rfl⟩)
        go_round
        case rel => exact ⟨k + 1, rnd (x * q) 30 / d, s - rnd (x * q) 30 / d, rfl, rfl, by go_num, hlt, t0, t1, by omega, by omega, by have h := HS.out; rw [HE.out] at h; rw [even_succ, HE.out]; exact h⟩
        case measure => simp [intOf]; omega
      · have he : even k = false := by simp [even, hp]
        have HE := Lib.hid he
        have hp' : ((k : Int) % 2 == 0) = false := by simp; omega
        clear he
        go_wp2_with (go_at_call 77; refine (rounded_lit _ 30 30 rfl (by omega) (by omega) (by decide) (by decide) _).mono ?_; rintro e w' ⟨rfl, rfl⟩)
        go_round
        case rel => exact ⟨k + 1, rnd (x * q) 30 / d, s + rnd (x * q) 30 / d, rfl, rfl, by go_num, hlt, t0, t1, by omega, by omega, by have h := HS.out; rw [HE.out] at h; rw [even_succ, HE.out]; exact h⟩
        case measure => simp [intOf]; omega
    · have hf := hser.out
      have hk' : k = ds.length := by omega
      rw [hk', List.drop_length, serL] at hf
      have HF := Lib.hid hf
      clear hf hser hk'
      go_wp2
      go_ret
      exact ⟨ret_int HF.out, rfl⟩
end Go.Proofs.Yteijlbblmdclaaa
