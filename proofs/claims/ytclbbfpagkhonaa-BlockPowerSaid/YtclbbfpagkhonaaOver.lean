/- window.over: what each call answers. -/
import Derived.Test.YtclbbfpagkhonaaBessel
set_option linter.unusedVariables false
namespace Go.Proofs.Ytclbbfpagkhonaa
open Go.ChangeShapes Go.WideShapes Go.ChangeAt Go.RowKit

/-- Two captured variables, in blocks of their own. -/
def Two (N : Nat) (n b : Int) (w : World) : Prop := w.heap[N]? = some (.cells #[.int .i64 n] 3 (0, 0)) ∧ w.heap[N + 1]? = some (.cells #[.int .i64 b] 3 (0, 0))
theorem Two.set {N : Nat} {n b : Int} {w : World} (h : Two N n b w) (m : Int) : Two N m b (w.setCell ⟨N, 0, none⟩ (.int .i64 m)) :=
  ⟨one_setCell h.1, by rw [Below.heap_setCell _ _ _ _ (by simp)]; exact h.2⟩
theorem Two.new (w : World) (n b : Int) : Two w.heap.size n b ((w.alloc (.cells #[.int .i64 n] 3)).alloc (.cells #[.int .i64 b] 3)) := by
  constructor
  · show ((w.heap.push _).push _)[w.heap.size]? = _
    simp [Array.getElem?_push]
  · show ((w.heap.push _).push _)[w.heap.size + 1]? = _
    rw [Array.getElem?_push, if_pos (by simp)]

def ROne (N : Nat) (n b : Int) (w : World) (e : Ending) (w' : World) : Prop :=
  e = .returned (.int .i64 (if 2 * n < b then 0 else 1)) ∧ Two N (if 2 * n < b then 2 * n else 2 * n - b) b w' ∧ Below N w w'
theorem over1_lt (N : Nat) (n b : Int) (n0 : 0 ≤ n) (n1 : n ≤ 2305843009213693952) (b0 : 0 ≤ b) (hlt : 2 * n < b) (w : World) (h : Two N n b w) :
    Calls Try.prog 75 #[.pointer (some ⟨N, 0, none⟩), .pointer (some ⟨N + 1, 0, none⟩)] w (ROne N n b w) := by
  have c1 := cell_of_one h.1
  have c2 := cell_of_one h.2
  have f1 := free_of_one h.1
  have h1 := h.set (2 * n)
  have H1 := Lib.hid h1
  have c3 := cell_of_one h1.1
  have c4 := cell_of_one h1.2
  have f3 := free_of_one h1.1
  have hb : Below N w (w.setCell ⟨N, 0, none⟩ (.int .i64 (2 * n))) := (Below.refl _ _).setCell (p := ⟨N, 0, none⟩) (Nat.le_refl _) _
  have e0 : n * 2 = 2 * n := by omega
  have hl := Lib.hid hlt
  clear h h1
  go_enter Try.func75, Try.ntmps75
  go_wp2
  go_ret
  exact ⟨ret_int (if_pos hl.out).symm, by rw [if_pos hl.out]; exact H1.out, hb⟩
theorem over1_ge (N : Nat) (n b : Int) (n0 : 0 ≤ n) (n1 : n ≤ 2305843009213693952) (b0 : 0 ≤ b) (hlt : ¬ 2 * n < b) (w : World) (h : Two N n b w) :
    Calls Try.prog 75 #[.pointer (some ⟨N, 0, none⟩), .pointer (some ⟨N + 1, 0, none⟩)] w (ROne N n b w) := by
  have c1 := cell_of_one h.1
  have c2 := cell_of_one h.2
  have f1 := free_of_one h.1
  have h1 := h.set (2 * n)
  have c3 := cell_of_one h1.1
  have c4 := cell_of_one h1.2
  have f3 := free_of_one h1.1
  have h2 := h1.set (2 * n - b)
  have H2 := Lib.hid h2
  have hb : Below N w ((w.setCell ⟨N, 0, none⟩ (.int .i64 (2 * n))).setCell ⟨N, 0, none⟩ (.int .i64 (2 * n - b))) := ((Below.refl _ _).setCell (p := ⟨N, 0, none⟩) (Nat.le_refl _) _).setCell (p := ⟨N, 0, none⟩) (Nat.le_refl _) _
  have e0 : n * 2 = 2 * n := by omega
  have hl := Lib.hid hlt
  clear h h1 h2
  go_enter Try.func75, Try.ntmps75
  go_wp2
  go_ret
  exact ⟨ret_int (if_neg (Int.not_lt.2 hl.out)).symm, by rw [if_neg (Int.not_lt.2 hl.out)]; exact H2.out, hb⟩
theorem over1_any (N : Nat) (n b : Int) (n0 : 0 ≤ n) (n1 : n ≤ 2305843009213693952) (b0 : 0 ≤ b) (w : World) (h : Two N n b w) :
    Calls Try.prog 75 #[.pointer (some ⟨N, 0, none⟩), .pointer (some ⟨N + 1, 0, none⟩)] w (ROne N n b w) := by
  by_cases hlt : 2 * n < b
  · exact over1_lt N n b n0 n1 b0 hlt w h
  · exact over1_ge N n b n0 n1 b0 hlt w h

theorem or_even (q : Int) (h0 : 0 ≤ q) (h1 : q ≤ 2305843009213693952) : bits .or .i64 (q * 2) 0 = 2 * q ∧ bits .or .i64 (q * 2) 1 = 2 * q + 1 := by
  rw [Int.mul_comm q 2]
  obtain ⟨Q, rfl⟩ : ∃ Q : Nat, q = Q := ⟨q.toNat, by omega⟩
  have a0 := i64_or_nat (2 * Q) 0 (by omega) (by decide)
  have a1 := i64_or_nat (2 * Q) 1 (by omega) (by decide)
  rw [Nat.or_zero] at a0
  rw [nat_join 1 (2 * Q) 1 (by omega) (by decide)] at a1
  constructor
  · simpa using a0
  · simpa using a1

def ROver (n b : Int) (w : World) (e : Ending) (w' : World) : Prop := e = .returned (.int .i64 (overL b 44 n 0)) ∧ Below w.heap.size w w'
set_option maxRecDepth 100000 in
set_option maxHeartbeats 1000000 in
theorem over_ok (n b : Int) (n0 : 0 ≤ n) (nb : n ≤ b) (b1 : b ≤ 1000000000000000000) (w : World) :
    Calls Try.prog 66 #[.int .i64 n, .int .i64 b] w (ROver n b w) := by
  have hmf : ∀ (fn : Fn) (first cap : Array Value) (w : World), (Instr.makeFunc fn first cap).run Try.prog w = .ok (.func fn first cap) w := fun _ _ _ _ => rfl
  have ht := Lib.hid (Two.new w n b)
  have hb0 : Below w.heap.size w ((w.alloc (.cells #[.int .i64 n] 3)).alloc (.cells #[.int .i64 b] 3)) := ((Below.refl _ _).alloc (Nat.le_refl _) _).alloc (by simp) _
  go_enter Try.func66, Try.ntmps66
  go_wp2
  go_loopw [4, 7] (fun Q I wr => ∃ (k : Nat) (q m : Int), Q = .int .i64 q ∧ I = .int .i64 k ∧ k ≤ 44 ∧ 0 ≤ q ∧ q < 2 ^ k ∧ 0 ≤ m ∧ m ≤ b ∧ Hid (Two w.heap.size m b wr) ∧ Below w.heap.size w wr ∧ Hid (overL b (44 - k) m q = overL b 44 n 0)) (fun _ I _ => 44 - (intOf I).toNat)
  case atStart => exact ⟨0, 0, n, rfl, rfl, by decide, by decide, by decide, n0, nb, ht, hb0, Lib.hid rfl⟩
  case round =>
    obtain ⟨k, q, m, rfl, rfl, hk, q0, q1, m0, m1, htw, hbw, hov⟩ := hrel
    by_cases hlt : k < 44
    · have hp : (2 : Int) ^ k ≤ 2 ^ 43 := pow_le_pow' (by omega)
      have hp2 : (2 : Int) ^ (k + 1) = 2 ^ k * 2 := Int.pow_succ 2 k
      have HP := Lib.hid hp2
      obtain ⟨o0, o1⟩ := or_even q q0 (by omega)
      have F := Lib.hid (over1_any w.heap.size m b m0 (by omega) (by omega) wr htw.out)
      have hstep := hov.out
      rw [show 44 - k = (44 - (k + 1)) + 1 by omega, overL] at hstep
      have HS := Lib.hid hstep
      clear hstep hov htw hp2
      by_cases hc : 2 * m < b
      · have HC := Lib.hid hc
        clear hc
        go_wp2_with fail
        refine F.out.mono ?_
        unfold ROne
        rw [if_pos HC.out, if_pos HC.out]
        rintro e w1 ⟨rfl, ht1, hb1⟩
        have T1 := Lib.hid ht1
        have b2 := hbw.trans hb1
        have hm := HC.out
        clear ht1 hb1 F
        go_wp2
        exact ⟨⟨k + 1, 2 * q, 2 * m, rfl, by go_num, by omega, by omega, by have := HP.out; omega, by omega, by omega, T1, b2, by have := HS.out; rw [if_pos HC.out] at this; exact this⟩, by simp [intOf]; omega⟩
      · have HC : Hid (b ≤ 2 * m) := Int.not_lt.1 hc
        clear hc
        go_wp2_with fail
        refine F.out.mono ?_
        unfold ROne
        rw [if_neg (Int.not_lt.2 HC.out), if_neg (Int.not_lt.2 HC.out)]
        rintro e w1 ⟨rfl, ht1, hb1⟩
        have T1 := Lib.hid ht1
        have b2 := hbw.trans hb1
        have hm := HC.out
        clear ht1 hb1 F
        go_wp2
        exact ⟨⟨k + 1, 2 * q + 1, 2 * m - b, rfl, by go_num, by omega, by omega, by have := HP.out; omega, by omega, by omega, T1, b2, by have := HS.out; rw [if_neg (Int.not_lt.2 HC.out)] at this; exact this⟩, by simp [intOf]; omega⟩
    · have hk44 : k = 44 := by omega
      have hf : Hid (q = overL b 44 n 0) := by have := hov.out; rw [hk44] at this; exact this
      clear hov htw hk44
      go_wp2
      go_ret
      exact ⟨ret_int hf.out, hbw⟩
end Go.Proofs.Ytclbbfpagkhonaa
