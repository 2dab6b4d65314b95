/- The texts that all others stand on: small laws of slices and numbers, and what they tell. -/
import Derived.Test.YteijlbblmdclaaaRows
import Derived.WalkKit
import Derived.ProofKit
import Derived.OpenShut
import Derived.BigQuiet
import Derived.Lib.Hide
import Derived.Maps.AppendAt
import Derived.Deep.QuietTactic
import Derived.Laws.Tables
/- Lemmas that every proof of this seat uses: a slice that reads as a list of integers. -/
namespace Go.Proofs.Yteijlbblmdclaaa
open Go.ChangeShapes Go.WideShapes Go.ChangeAt Go.RowKit

/-- The slice's elements, by its address: the integers l. -/
def IsInts (w : World) (p : Option Addr) (l : List Int) : Prop :=
  l = [] ∨ ∃ b off, p = some ⟨b, off, none⟩ ∧ b < w.heap.size ∧ ∀ j, j < l.length → w.cell? ⟨b, off + j, none⟩ = some (.int .i64 (l.getD j 0))

theorem IsInts.nil (w : World) (p : Option Addr) : IsInts w p [] := .inl rfl

theorem IsInts.keep {w w' : World} {p : Option Addr} {l : List Int} (h : IsInts w p l) (hb : Below w.heap.size w w') : IsInts w' p l := by
  rcases h with h | ⟨b, off, hp, hlt, hc⟩
  · exact .inl h
  · exact .inr ⟨b, off, hp, Nat.lt_of_lt_of_le hlt hb.size, fun j hj => (hb.cell (p := ⟨b, off + j, none⟩) hlt).trans (hc j hj)⟩

theorem IsInts.at {w : World} {p : Option Addr} {l : List Int} (h : IsInts w p l) {j : Nat} (hj : j < l.length) :
    ∃ b off, p = some ⟨b, off, none⟩ ∧ b < w.heap.size ∧ ∀ j, j < l.length → w.cell? ⟨b, off + j, none⟩ = some (.int .i64 (l.getD j 0)) := by
  rcases h with h | h
  · simp [h] at hj
  · exact h

/-- A row of the call's own, of integers. -/
theorem owns_at {w : World} {base : Nat} {v : Value} {l : List Int} (h : w.ownsRow base 3 1 v l.length (l.map (Value.int .i64))) (hne : l ≠ []) :
    ∃ g cap, v = .slice (some ⟨g, 0, none⟩) l.length cap ∧ base ≤ g ∧ g < w.heap.size ∧ ∀ j, j < l.length → w.cell? ⟨g, j, none⟩ = some (.int .i64 (l.getD j 0)) := by
  have hlt := h.lt
  have h' := h
  obtain ⟨h1, h2 | ⟨g, cap, cur, rfl, hg, hh, r⟩⟩ := h
  · simp at h2; exact absurd h2.2 hne
  · have := hlt g rfl
    refine ⟨g, cap, rfl, hg, this.2, fun j hj => ?_⟩
    rw [h'.cellAt j (by omega)]
    simp [List.getD_eq_getElem?_getD, hj]

/-- A new block of integers: a literal's. -/
theorem isInts_new (w : World) (l : List Int) (t : TypeId) {n : Nat} (hn : w.heap.size = n) : IsInts (w.alloc (.cells (l.map (Value.int .i64)).toArray t)) (some ⟨n, 0, none⟩) l := by
  subst hn
  refine .inr ⟨_, 0, rfl, by simp, fun j hj => ?_⟩
  rw [World.cell?_alloc_at _ _ _ _ rfl]
  simp [List.getD_eq_getElem?_getD, hj]

theorem isInts_of {w : World} {g : Nat} {l : List Int} (hlt : g < w.heap.size) (h : ∀ j, j < l.length → w.cell? ⟨g, j, none⟩ = some (.int .i64 (l.getD j 0))) : IsInts w (some ⟨g, 0, none⟩) l :=
  .inr ⟨g, 0, rfl, hlt, fun j hj => by simpa using h j hj⟩

theorem IsInts.alloc {w : World} {p : Option Addr} {l : List Int} (h : IsInts w p l) (o : Obj) : IsInts (w.alloc o) p l := h.keep ((Below.refl _ _).alloc (Nat.le_refl _) _)
theorem IsInts.drewN {w : World} {p : Option Addr} {l : List Int} (h : IsInts w p l) (n : Nat) : IsInts (w.drewN n) p l := h

theorem below_drewN {B : Nat} {a w : World} (h : Below B a w) (n : Nat) : Below B a (w.drewN n) := h.trans ⟨rfl, rfl, rfl, Nat.le_refl _, fun _ _ => rfl⟩

theorem ret_bool {a b : Bool} (h : a = b) : Ending.returned (.bool a) = .returned (.bool b) := by rw [h]
theorem ret_int {k : IntKind} {a b : Int} (h : a = b) : Ending.returned (.int k a) = .returned (.int k b) := by rw [h]
theorem ret_ints {k k' : IntKind} {a b a' b' : Int} (h : a = b) (h' : a' = b') : Ending.returned (.tuple #[.int k a, .int k' a']) = .returned (.tuple #[.int k b, .int k' b']) := by rw [h, h']

theorem one_int (n : Int) : ∀ u ∈ [Value.int .i64 n], u.oneCell' = true := by simp [Value.oneCell']
theorem Try.infoInt : (Try.prog.info? 3).map (fun i => (i.zero, i.size, i.bytes)) = some (some (.int .i64 0), 1, 8) := by kernel_rfl

end Go.Proofs.Yteijlbblmdclaaa
/- Plain numbers: rounding off, roots. No program in sight. -/
namespace Go.Proofs.Yteijlbblmdclaaa

/-- Halved so often, rounded: halves go up. -/
def rnd (n : Int) (b : Nat) : Int := if b = 0 then n else (n + 2 ^ (b - 1)) / 2 ^ b

theorem pow_pred (b : Nat) (hb : 1 ≤ b) : (2 : Int) ^ b = 2 ^ (b - 1) * 2 := by
  obtain ⟨c, rfl⟩ : ∃ c, b = c + 1 := ⟨b - 1, by omega⟩
  rw [Nat.add_sub_cancel, Int.pow_succ]

theorem pow_pos' (b : Nat) : (0 : Int) < 2 ^ b := Int.pow_pos (by decide)

theorem pow_le_pow' {a b : Nat} (h : a ≤ b) : (2 : Int) ^ a ≤ 2 ^ b := by
  have : (2 : Nat) ^ a ≤ 2 ^ b := Nat.pow_le_pow_right (by decide) h
  exact_mod_cast this

/-- As the code does it: a shift, and the highest bit shifted out. -/
theorem rnd_shift (n : Int) (b : Nat) (hb : 1 ≤ b) : n / 2 ^ b + n / 2 ^ (b - 1) % 2 = rnd n b := by
  unfold rnd
  rw [if_neg (by omega), pow_pred b hb, ← Int.ediv_ediv_of_nonneg (Int.le_of_lt (pow_pos' _)), ← Int.ediv_ediv_of_nonneg (Int.le_of_lt (pow_pos' _))]
  have h := pow_pos' (b - 1)
  rw [Int.add_ediv_of_dvd_right (Int.dvd_refl _), Int.ediv_self (by omega)]
  omega

theorem rnd_zero (n : Int) : rnd n 0 = n := rfl

theorem rnd_spec (n : Int) (b : Nat) (hb : 1 ≤ b) : - 2 ^ (b - 1) ≤ n - rnd n b * 2 ^ b ∧ n - rnd n b * 2 ^ b < 2 ^ (b - 1) := by
  unfold rnd
  rw [if_neg (by omega)]
  have h1 := Int.emod_nonneg (n + 2 ^ (b - 1)) (b := 2 ^ b) (Int.ne_of_gt (pow_pos' b))
  have h2 := Int.emod_lt_of_pos (n + 2 ^ (b - 1)) (pow_pos' b)
  have h3 := Int.mul_ediv_add_emod (n + 2 ^ (b - 1)) (2 ^ b)
  have h4 := pow_pred b hb
  rw [Int.mul_comm] at h3
  generalize (n + 2 ^ (b - 1)) / 2 ^ b * 2 ^ b = x at *
  omega

theorem rnd_mono {n m : Int} (b : Nat) (h : n ≤ m) : rnd n b ≤ rnd m b := by
  unfold rnd
  split
  · exact h
  · exact Int.ediv_le_ediv (pow_pos' b) (by omega)

/-- A rounded number, from between. -/
theorem rnd_eq (n r : Int) (b : Nat) (hb : 1 ≤ b) (h1 : - 2 ^ (b - 1) ≤ n - r * 2 ^ b) (h2 : n - r * 2 ^ b < 2 ^ (b - 1)) : rnd n b = r := by
  unfold rnd
  rw [if_neg (by omega)]
  have h4 := pow_pred b hb
  refine (Int.ediv_emod_unique (a := n + 2 ^ (b - 1)) (b := 2 ^ b) (q := r) (r := n - r * 2 ^ b + 2 ^ (b - 1)) (pow_pos' b)).2 ⟨?_, by omega, by omega⟩ |>.1
  rw [Int.mul_comm (2 ^ b) r]; omega

theorem rnd_bound {n : Int} {B : Int} (b : Nat) (hB : 0 ≤ B) (h1 : -B ≤ n) (h2 : n ≤ B) : -B ≤ rnd n b ∧ rnd n b ≤ B := by
  by_cases hb : b = 0
  · subst hb; exact ⟨h1, h2⟩
  · obtain ⟨s1, s2⟩ := rnd_spec n b (by omega)
    have hp := pow_pos' (b - 1)
    have h4 := pow_pred b (by omega)
    generalize rnd n b = r at *
    rw [h4] at s1 s2
    generalize (2 : Int) ^ (b - 1) = p at *
    constructor
    · rcases Int.lt_or_le r (-B) with h | h
      · exfalso
        have : (r + B) * (p * 2) ≤ (-1) * (p * 2) := Int.mul_le_mul_of_nonneg_right (by omega) (by omega)
        have hB2 : B * 2 ≤ B * (p * 2) := Int.mul_le_mul_of_nonneg_left (by omega) hB
        rw [Int.add_mul] at this
        omega
      · exact h
    · rcases Int.lt_or_le B r with h | h
      · exfalso
        have : 1 * (p * 2) ≤ (r - B) * (p * 2) := Int.mul_le_mul_of_nonneg_right (by omega) (by omega)
        have hB2 : B * 2 ≤ B * (p * 2) := Int.mul_le_mul_of_nonneg_left (by omega) hB
        rw [Int.sub_mul] at this
        omega
      · exact h

/-- The greatest number of so many bits that is not too great. -/
def rootN (great : Nat → Bool) : Nat → Nat → Nat
  | 0, r => r
  | i + 1, r => rootN great i (if great (r + 2 ^ i) then r else r + 2 ^ i)

theorem rootN_eq (great : Nat → Bool) (R : Nat) (hg : ∀ x, great x = decide (R < x)) : ∀ i r, r % 2 ^ i = 0 → r ≤ R → R < r + 2 ^ i → rootN great i r = R
  | 0, r, _, h1, h2 => by simp [rootN]; omega
  | i + 1, r, hm, h1, h2 => by
    have hp : 0 < 2 ^ i := Nat.pow_pos (by decide)
    have hm' : r % 2 ^ i = 0 := by
      have : 2 ^ i ∣ r := Nat.dvd_trans ⟨2, by rw [Nat.pow_succ]⟩ (Nat.dvd_of_mod_eq_zero hm)
      exact Nat.mod_eq_zero_of_dvd this
    rw [rootN, hg]
    rw [Nat.pow_succ] at h2
    by_cases h : R < r + 2 ^ i
    · simp only [h, decide_true, if_true]
      exact rootN_eq great R hg i r hm' h1 h
    · simp only [h, decide_false, Bool.false_eq_true, if_false]
      exact rootN_eq great R hg i _ (by simp [hm']) (by omega) (by omega)

/-- The root, rounded down; the third root. -/
def sqN (n : Nat) : Nat := rootN (fun r => decide (n < r * r)) 32 0
def cbN (n : Nat) : Nat := rootN (fun r => decide (n < r * r * r)) 21 0

theorem exists_root (f : Nat → Nat) (hf : ∀ a b, a < b → f a < f b) (h0 : f 0 = 0) (n : Nat) : ∃ R, f R ≤ n ∧ n < f (R + 1) := by
  have hge : ∀ k, k ≤ f k := by
    intro k
    induction k with
    | zero => omega
    | succ k ih => have := hf k (k + 1) (by omega); omega
  have : ∀ k, n < f k → ∃ R, f R ≤ n ∧ n < f (R + 1) := by
    intro k
    induction k with
    | zero => intro h; omega
    | succ k ih =>
      intro h
      by_cases hk : n < f k
      · exact ih hk
      · exact ⟨k, by omega, h⟩
  exact this (n + 1) (by have := hge (n + 1); omega)

theorem sq_lt {a b : Nat} (h : a < b) : a * a < b * b := Nat.mul_lt_mul_of_lt_of_lt h h
theorem sq_le {a b : Nat} (h : a ≤ b) : a * a ≤ b * b := Nat.mul_le_mul h h
theorem cb_lt {a b : Nat} (h : a < b) : a * a * a < b * b * b := Nat.mul_lt_mul_of_lt_of_lt (sq_lt h) h
theorem cb_le {a b : Nat} (h : a ≤ b) : a * a * a ≤ b * b * b := Nat.mul_le_mul (sq_le h) h

theorem sqN_spec (n : Nat) (hn : n ≤ 4611686018427387904) : sqN n * sqN n ≤ n ∧ n < (sqN n + 1) * (sqN n + 1) := by
  obtain ⟨R, h1, h2⟩ := exists_root (fun r => r * r) (fun _ _ h => sq_lt h) rfl n
  have hR : R < 2 ^ 32 := by
    rcases Nat.lt_or_ge R (2 ^ 32) with h | h
    · exact h
    · have := sq_le h; simp at this h1; omega
  have : sqN n = R := rootN_eq _ R (fun x => by
    simp only [decide_eq_decide]
    constructor
    · intro h; rcases Nat.lt_or_ge R x with h' | h'
      · exact h'
      · have := sq_le h'; have h1' : R * R ≤ n := h1; omega
    · intro h; have := sq_le (show R + 1 ≤ x by omega); have h2' : n < (R + 1) * (R + 1) := h2; omega) 32 0 rfl (Nat.zero_le _) (by omega)
  rw [this]; exact ⟨h1, h2⟩

theorem sqN_unique {n r : Nat} (hn : n ≤ 4611686018427387904) (h1 : r * r ≤ n) (h2 : n < (r + 1) * (r + 1)) : sqN n = r := by
  obtain ⟨s1, s2⟩ := sqN_spec n hn
  rcases Nat.lt_trichotomy (sqN n) r with h | h | h
  · have := sq_le (show sqN n + 1 ≤ r by omega); omega
  · exact h
  · have := sq_le (show r + 1 ≤ sqN n by omega); omega

theorem cbN_spec (n : Nat) (hn : n ≤ 4611686018427387904) : cbN n * cbN n * cbN n ≤ n ∧ n < (cbN n + 1) * (cbN n + 1) * (cbN n + 1) := by
  obtain ⟨R, h1, h2⟩ := exists_root (fun r => r * r * r) (fun _ _ h => cb_lt h) rfl n
  have hR : R < 2 ^ 21 := by
    rcases Nat.lt_or_ge R (2 ^ 21) with h | h
    · exact h
    · have := cb_le h; simp at this h1; omega
  have : cbN n = R := rootN_eq _ R (fun x => by
    simp only [decide_eq_decide]
    constructor
    · intro h; rcases Nat.lt_or_ge R x with h' | h'
      · exact h'
      · have := cb_le h'; have h1' : R * R * R ≤ n := h1; omega
    · intro h; have := cb_le (show R + 1 ≤ x by omega); have h2' : n < (R + 1) * (R + 1) * (R + 1) := h2; omega) 21 0 rfl (Nat.zero_le _) (by omega)
  rw [this]; exact ⟨h1, h2⟩

theorem cbN_unique {n r : Nat} (hn : n ≤ 4611686018427387904) (h1 : r * r * r ≤ n) (h2 : n < (r + 1) * (r + 1) * (r + 1)) : cbN n = r := by
  obtain ⟨s1, s2⟩ := cbN_spec n hn
  rcases Nat.lt_trichotomy (cbN n) r with h | h | h
  · have := cb_le (show cbN n + 1 ≤ r by omega); omega
  · exact h
  · have := cb_le (show r + 1 ≤ cbN n by omega); omega

theorem sqN_le (n : Nat) (hn : n ≤ 4611686018427387904) : sqN n ≤ 2147483648 := by
  obtain ⟨s1, _⟩ := sqN_spec n hn
  rcases Nat.lt_or_ge 2147483648 (sqN n) with h | h
  · have := sq_le (show 2147483649 ≤ sqN n by omega); omega
  · exact h
theorem cbN_le (n : Nat) (hn : n ≤ 4611686018427387904) : cbN n ≤ 1664510 := by
  obtain ⟨s1, _⟩ := cbN_spec n hn
  rcases Nat.lt_or_ge 1664510 (cbN n) with h | h
  · have := cb_le (show 1664511 ≤ cbN n by omega); omega
  · exact h
theorem sqN_mono {n m : Nat} (h : n ≤ m) (hm : m ≤ 4611686018427387904) : sqN n ≤ sqN m := by
  obtain ⟨s1, s2⟩ := sqN_spec n (by omega)
  obtain ⟨t1, t2⟩ := sqN_spec m hm
  rcases Nat.lt_or_ge (sqN m) (sqN n) with h' | h'
  · have := sq_le (show sqN m + 1 ≤ sqN n by omega); omega
  · exact h'
theorem cbN_mono {n m : Nat} (h : n ≤ m) (hm : m ≤ 4611686018427387904) : cbN n ≤ cbN m := by
  obtain ⟨s1, s2⟩ := cbN_spec n (by omega)
  obtain ⟨t1, t2⟩ := cbN_spec m hm
  rcases Nat.lt_or_ge (cbN m) (cbN n) with h' | h'
  · have := cb_le (show cbN m + 1 ≤ cbN n by omega); omega
  · exact h'

theorem ofInt_nat (a : Nat) (ha : a < 9223372036854775808) : (BitVec.ofInt 64 (a : Int)).toNat = a := by
  rw [BitVec.ofInt_natCast, BitVec.toNat_ofNat]; exact Nat.mod_eq_of_lt (by omega)
theorem i64_or_nat (a b : Nat) (ha : a < 9223372036854775808) (hb : b < 9223372036854775808) : bits .or .i64 (a : Int) (b : Int) = ((a ||| b : Nat) : Int) := by
  have h : a ||| b < 2 ^ 63 := Nat.or_lt_two_pow (by omega) (by omega)
  show IntKind.i64.wrap ((BitVec.ofInt 64 (a : Int) ||| BitVec.ofInt 64 (b : Int)).toNat : Int) = _
  rw [BitVec.toNat_or, ofInt_nat a ha, ofInt_nat b hb]
  exact IntWalk.i64_in _ (by omega)
theorem i64_and_nat (a b : Nat) (ha : a < 9223372036854775808) (hb : b < 9223372036854775808) : bits .and .i64 (a : Int) (b : Int) = ((a &&& b : Nat) : Int) := by
  have h : a &&& b < 2 ^ 63 := Nat.and_lt_two_pow _ (by omega)
  show IntKind.i64.wrap ((BitVec.ofInt 64 (a : Int) &&& BitVec.ofInt 64 (b : Int)).toNat : Int) = _
  rw [BitVec.toNat_and, ofInt_nat a ha, ofInt_nat b hb]
  exact IntWalk.i64_in _ (by omega)
/-- The lowest bits of any number. -/
theorem i64_mask (n : Int) (k : Nat) (hk : k ≤ 62) : bits .and .i64 n ((2 ^ k - 1 : Nat) : Int) = n % 2 ^ k := by
  have hp : (2 : Nat) ^ k ≤ 2 ^ 62 := Nat.pow_le_pow_right (by decide) hk
  have hp0 : 0 < (2 : Nat) ^ k := Nat.pow_pos (by decide)
  show IntKind.i64.wrap ((BitVec.ofInt 64 n &&& BitVec.ofInt 64 ((2 ^ k - 1 : Nat) : Int)).toNat : Int) = _
  rw [BitVec.toNat_and, ofInt_nat (2 ^ k - 1) (by omega), Nat.and_two_pow_sub_one_eq_mod, BitVec.toNat_ofInt]
  have h : (((n % ((2 ^ 64 : Nat) : Int)).toNat % 2 ^ k : Nat) : Int) = n % 2 ^ k := by
    have h0 : 0 ≤ n % ((2 ^ 64 : Nat) : Int) := Int.emod_nonneg _ (by decide)
    rw [Int.natCast_emod, Int.toNat_of_nonneg h0]
    rw [show ((2 ^ k : Nat) : Int) = (2 : Int) ^ k from Int.natCast_pow 2 k]
    exact Int.emod_emod_of_dvd n ⟨2 ^ (64 - k), by rw [← Int.pow_add, show k + (64 - k) = 64 by omega]; rfl⟩
  rw [h]
  have h1 := Int.emod_nonneg n (b := 2 ^ k) (Int.ne_of_gt (pow_pos' k))
  have h2 := Int.emod_lt_of_pos n (pow_pos' k)
  have h3 : (2 : Int) ^ k ≤ 2 ^ 62 := pow_le_pow' hk
  exact IntWalk.i64_in _ (by omega)
theorem i64_and_one (n : Int) : bits .and .i64 n 1 = n % 2 := i64_mask n 1 (by decide)

theorem or_bit (r j : Nat) (hr : r % 2 ^ (j + 1) = 0) (hb : r < 4294967296) (hj : j < 32) : bits .or .i64 (r : Int) (2 ^ j) = ((r + 2 ^ j : Nat) : Int) := by
  have h1 : (2 : Nat) ^ j < 2 ^ 32 := Nat.pow_lt_pow_right (by decide) hj
  have h2 : r ||| 2 ^ j = r + 2 ^ j := nat_join (j + 1) r (2 ^ j) hr (Nat.pow_lt_pow_right (by decide) (by omega))
  have h3 : ((2 ^ j : Nat) : Int) = (2 : Int) ^ j := Int.natCast_pow 2 j
  rw [← h3, i64_or_nat _ _ (by omega) (by omega), h2]

theorem root_wf (r j bits : Nat) (h : r + 2 ^ (j + 1) ≤ 2 ^ bits) (hb : bits ≤ 32) : r + 2 ^ j < 4294967296 ∧ r + 2 ^ j + 2 ^ j ≤ 2 ^ bits := by
  have h1 : (2 : Nat) ^ bits ≤ 2 ^ 32 := Nat.pow_le_pow_right (by decide) hb
  have h2 : 0 < (2 : Nat) ^ j := Nat.pow_pos (by decide)
  rw [Nat.pow_succ] at h
  omega

theorem root_wf21 (r j bits : Nat) (h : r + 2 ^ (j + 1) ≤ 2 ^ bits) (hb : bits ≤ 21) : r + 2 ^ j < 2097152 ∧ r + 2 ^ j + 2 ^ j ≤ 2 ^ bits ∧ 1 ≤ r + 2 ^ j := by
  have h1 : (2 : Nat) ^ bits ≤ 2 ^ 21 := Nat.pow_le_pow_right (by decide) hb
  have h2 : 0 < (2 : Nat) ^ j := Nat.pow_pos (by decide)
  rw [Nat.pow_succ] at h
  omega
theorem pow_small (j : Nat) (hj : j < 32) : (0 : Int) ≤ 2 ^ j ∧ (2 : Int) ^ j ≤ 4294967296 := ⟨Int.le_of_lt (pow_pos' j), Int.le_trans (pow_le_pow' (show j ≤ 32 by omega)) (by decide)⟩

end Go.Proofs.Yteijlbblmdclaaa
/- Cosines in plain numbers. -/
namespace Go.Proofs.Yteijlbblmdclaaa

/-- A sum of terms of turning signs. -/
def serL : List Int → Bool → Int → Int → Int → Int
  | [], _, _, _, s => s
  | d :: l, e, f, q, s => serL l (!e) (rnd (f * q) 30 / d) q (if e then s - rnd (f * q) 30 / d else s + rnd (f * q) 30 / d)

def arcL (m : Int) : Int := rnd (m * 3454217652358) 20
def sqL (m : Int) : Int := rnd (arcL m * arcL m) 30
def cosineL (m : Int) : Int := serL [2, 12, 30, 56, 90, 132, 182] true 1073741824 (sqL m) 1073741824
def sineL (m : Int) : Int := serL [6, 20, 42, 72, 110, 156, 210] true (arcL m) (sqL m) (arcL m)
/-- That of at most 512 parts. -/
def quartL (n : Int) : Int := if 256 < n then rnd (sineL (512 - n)) 4 else rnd (cosineL n) 4
/-- The cosine of parts of a circle. -/
def cosL (n : Int) : Int :=
  let m := if 1024 < n % 2048 then 2048 - n % 2048 else n % 2048
  if 512 < m then -quartL (1024 - m) else quartL m
def sinL (n : Int) : Int := cosL (n % 2048 - 512)

theorem cosL_congr {n m : Int} (h : n % 2048 = m % 2048) : cosL n = cosL m := by unfold cosL; rw [h]

theorem arc_range (m : Int) (h0 : 0 ≤ m) (h1 : m ≤ 256) : 0 ≤ arcL m ∧ arcL m ≤ 1073741824 := by
  unfold arcL
  have a := rnd_mono 20 (show 0 ≤ m * 3454217652358 by omega)
  have b := rnd_mono 20 (show m * 3454217652358 ≤ 1125899906842624 by omega)
  have e1 : rnd 0 20 = 0 := by decide +kernel
  have e2 : rnd 1125899906842624 20 = 1073741824 := by decide +kernel
  omega
theorem mul_range {a b : Int} (A B : Int) (h0 : 0 ≤ a) (h1 : a ≤ A) (k0 : 0 ≤ b) (k1 : b ≤ B) : 0 ≤ a * b ∧ a * b ≤ A * B :=
  ⟨Int.mul_nonneg h0 k0, Int.mul_le_mul h1 k1 k0 (Int.le_trans h0 h1)⟩
theorem rnd30_range (x : Int) (h0 : 0 ≤ x) (h1 : x ≤ 1152921504606846976) : 0 ≤ rnd x 30 ∧ rnd x 30 ≤ 1073741824 := by
  have a := rnd_mono 30 h0
  have b := rnd_mono 30 h1
  have e1 : rnd 0 30 = 0 := by decide +kernel
  have e2 : rnd 1152921504606846976 30 = 1073741824 := by decide +kernel
  omega
theorem sq_range (m : Int) (h0 : 0 ≤ m) (h1 : m ≤ 256) : 0 ≤ sqL m ∧ sqL m ≤ 1073741824 := by
  obtain ⟨a, b⟩ := arc_range m h0 h1
  obtain ⟨c, d⟩ := mul_range 1073741824 1073741824 a b a b
  exact rnd30_range _ c (by omega)
theorem term_range (f q d : Int) (h0 : 0 ≤ f) (h1 : f ≤ 1073741824) (k0 : 0 ≤ q) (k1 : q ≤ 1073741824) (hd : 1 ≤ d) : 0 ≤ rnd (f * q) 30 / d ∧ rnd (f * q) 30 / d ≤ 1073741824 := by
  obtain ⟨c, e⟩ := mul_range 1073741824 1073741824 h0 h1 k0 k1
  obtain ⟨r0, r1⟩ := rnd30_range _ c (by omega)
  exact ⟨Int.ediv_nonneg r0 (by omega), Int.le_trans (Int.ediv_le_self _ r0) r1⟩

theorem ser_bound (l : List Int) : ∀ (e : Bool) (f q s : Int), (∀ d ∈ l, 1 ≤ d) → 0 ≤ f → f ≤ 1073741824 → 0 ≤ q → q ≤ 1073741824 →
    s - 1073741824 * l.length ≤ serL l e f q s ∧ serL l e f q s ≤ s + 1073741824 * l.length := by
  induction l with
  | nil => intro e f q s _ _ _ _ _; simp [serL]
  | cons d l ih =>
    intro e f q s hd h0 h1 k0 k1
    obtain ⟨t0, t1⟩ := term_range f q d h0 h1 k0 k1 (hd d (by simp))
    have := ih (!e) (rnd (f * q) 30 / d) q (if e then s - rnd (f * q) 30 / d else s + rnd (f * q) 30 / d) (fun x hx => hd x (by simp [hx])) t0 t1 k0 k1
    rw [serL]
    simp only [List.length_cons]
    generalize rnd (f * q) 30 / d = t at *
    generalize serL l (!e) t q (if e = true then s - t else s + t) = z at *
    cases e <;> simp at this <;> omega

theorem cosine_range (m : Int) (h0 : 0 ≤ m) (h1 : m ≤ 256) : -8589934592 ≤ cosineL m ∧ cosineL m ≤ 8589934592 := by
  obtain ⟨a, b⟩ := sq_range m h0 h1
  have := ser_bound [2, 12, 30, 56, 90, 132, 182] true 1073741824 (sqL m) 1073741824 (by decide) (by decide) (by decide) a b
  unfold cosineL; simp at this; omega
theorem sine_range (m : Int) (h0 : 0 ≤ m) (h1 : m ≤ 256) : -8589934592 ≤ sineL m ∧ sineL m ≤ 8589934592 := by
  obtain ⟨a, b⟩ := sq_range m h0 h1
  obtain ⟨c, d⟩ := arc_range m h0 h1
  have := ser_bound [6, 20, 42, 72, 110, 156, 210] true (arcL m) (sqL m) (arcL m) (by decide) c d a b
  unfold sineL; simp at this; omega

/-- What is so of every part of a circle, by computation. -/
theorem all_parts (p : Int → Bool) (h : (List.range 2048).all (fun n => p n) = true) (n : Int) : p (n % 2048) = true := by
  have hn := Int.emod_nonneg n (b := 2048) (by decide)
  have hl := Int.emod_lt_of_pos n (b := 2048) (by decide)
  have := List.all_eq_true.1 h (n % 2048).toNat (by simp; omega)
  rwa [Int.toNat_of_nonneg hn] at this
theorem cos_mod (n : Int) : cosL (n % 2048) = cosL n := cosL_congr (by omega)

theorem cos_range_all : (List.range 2048).all (fun n => decide (-67108864 ≤ cosL n) && decide (cosL n ≤ 67108864)) = true := by decide +kernel
theorem cos_range (n : Int) : -67108864 ≤ cosL n ∧ cosL n ≤ 67108864 := by
  have := all_parts (fun n => decide (-67108864 ≤ cosL n) && decide (cosL n ≤ 67108864)) cos_range_all n
  simpa [cos_mod] using this
theorem sin_range (n : Int) : -67108864 ≤ sinL n ∧ sinL n ≤ 67108864 := cos_range _
end Go.Proofs.Yteijlbblmdclaaa
/- trig: what each call answers. -/
set_option linter.unusedVariables false
namespace Go.Proofs.Yteijlbblmdclaaa
open Go.ChangeShapes Go.WideShapes Go.ChangeAt Go.RowKit

theorem rounded_ok (n : Int) (b : Nat) (h1 : -4611686018427387904 ≤ n) (h2 : n ≤ 4611686018427387904) (hb1 : 1 ≤ b) (hb : b ≤ 61) (w : World) :
    Calls Try.prog 77 #[.int .i64 n, .int .i64 b] w fun e w' => e = .returned (.int .i64 (rnd n b)) ∧ w = w' := by
  have p1 := pow_pos' (b - 1)
  have p2 : (2 : Int) ^ (b - 1) ≤ 1152921504606846976 := pow_le_pow' (show b - 1 ≤ 60 by omega)
  have hr : Hid ((n + 2 ^ (b - 1)) / 2 ^ b = rnd n b) := by show _ = _; rw [rnd, if_neg (by omega)]
  go_enter Try.func77, Try.ntmps77
  go_wp2
  go_ret
  exact ⟨ret_int hr.out, rfl⟩
theorem rounded_lit (n B : Int) (b : Nat) (hB : B = b) (h1 : -4611686018427387904 ≤ n) (h2 : n ≤ 4611686018427387904) (hb1 : 1 ≤ b) (hb : b ≤ 61) (w : World) :
    Calls Try.prog 77 #[.int .i64 n, .int .i64 B] w fun e w' => e = .returned (.int .i64 (rnd n b)) ∧ w = w' := by
  subst hB; exact rounded_ok n b h1 h2 hb1 hb w

theorem ser_step (ds : List Int) (k : Nat) (hk : k < ds.length) (e : Bool) (f q s : Int) :
    serL (ds.drop k) e f q s = serL (ds.drop (k + 1)) (!e) (rnd (f * q) 30 / ds.getD k 0) q (if e then s - rnd (f * q) 30 / ds.getD k 0 else s + rnd (f * q) 30 / ds.getD k 0) := by
  rw [List.drop_eq_getElem_cons hk, serL]
  simp [List.getD_eq_getElem?_getD, hk]
def even (k : Nat) : Bool := k % 2 == 0
theorem even_succ (k : Nat) : even (k + 1) = !even k := by unfold even; rcases Nat.mod_two_eq_zero_or_one k with h | h <;> simp [Nat.add_mod, h]

def RSer (ds : List Int) (f q : Int) (w : World) (e : Ending) (w' : World) : Prop := e = .returned (.int .i64 (serL ds true f q f)) ∧ w = w'
set_option maxRecDepth 100000 in
set_option maxHeartbeats 1000000 in
theorem series_ok (ds : List Int) (p : Option Addr) (c : Nat) (f q : Int) (hl : ds.length ≤ 100) (hd : ∀ k, k < ds.length → 2 ≤ ds.getD k 0 ∧ ds.getD k 0 ≤ 1000) (h0 : 0 ≤ f) (h1 : f ≤ 1073741824) (k0 : 0 ≤ q) (k1 : q ≤ 1073741824) (w : World) (hi : IsInts w p ds) :
    Calls Try.prog 78 #[.int .i64 f, .int .i64 q, .slice p ds.length c] w (RSer ds f q w) := by
  have HI := Lib.hid hi
  have HD := Lib.hid hd
  clear hi hd
  go_enter Try.func78, Try.ntmps78
  go_wp2
  go_loop [0, 7, 13] (fun F S I => ∃ (k : Nat) (x s : Int), F = .int .i64 x ∧ S = .int .i64 s ∧ I = .int .i64 k ∧ k ≤ ds.length ∧ 0 ≤ x ∧ x ≤ 1073741824 ∧ -1073741824 * ((k : Int) + 1) ≤ s ∧ s ≤ 1073741824 * ((k : Int) + 1) ∧ Hid (serL (ds.drop k) (even k) x q s = serL ds true f q f)) (fun _ _ i => ds.length - (intOf i).toNat)
  case atStart => exact ⟨0, f, f, rfl, rfl, rfl, Nat.zero_le _, h0, h1, by omega, by omega, Lib.hid rfl⟩
  case round =>
    obtain ⟨k, x, s, rfl, rfl, rfl, hk, hx0, hx1, hs0, hs1, hser⟩ := hrel
    by_cases hlt : k < ds.length
    · obtain ⟨b, off, rfl, _, hc⟩ := HI.out.at hlt
      have c1 := hc k hlt
      obtain ⟨d0, d1⟩ := HD.out k hlt
      obtain ⟨t0, t1⟩ := term_range x q (ds.getD k 0) hx0 hx1 k0 k1 (by omega)
      obtain ⟨m0, m1⟩ := mul_range 1073741824 1073741824 hx0 hx1 k0 k1
      obtain ⟨r0, r1⟩ := rnd30_range _ m0 (by omega)
      have hs := hser.out
      rw [ser_step ds k hlt] at hs
      have HS := Lib.hid hs
      clear hs hser hc
      generalize ds.getD k 0 = d at *
      by_cases hp : k % 2 = 0
      · have he : even k = true := by simp [even, hp]
        have HE := Lib.hid he
        have hp' : ((k : Int) % 2 == 0) = true := by simp; omega
        clear he
        go_wp2_with (go_at_call 77; refine (rounded_lit _ 30 30 rfl (by omega) (by omega) (by decide) (by decide) _).mono ?_; rintro e w' ⟨rfl, rfl⟩)
        go_round
        case rel => exact ⟨k + 1, rnd (x * q) 30 / d, s - rnd (x * q) 30 / d, rfl, rfl, by go_num, hlt, t0, t1, by omega, by omega, by have h := HS.out; rw [HE.out] at h; rw [even_succ, HE.out]; exact h⟩
        case measure => simp [intOf]; omega
      · have he : even k = false := by simp [even, hp]
        have HE := Lib.hid he
        have hp' : ((k : Int) % 2 == 0) = false := by simp; omega
        clear he
        go_wp2_with (go_at_call 77; refine (rounded_lit _ 30 30 rfl (by omega) (by omega) (by decide) (by decide) _).mono ?_; rintro e w' ⟨rfl, rfl⟩)
        go_round
        case rel => exact ⟨k + 1, rnd (x * q) 30 / d, s + rnd (x * q) 30 / d, rfl, rfl, by go_num, hlt, t0, t1, by omega, by omega, by have h := HS.out; rw [HE.out] at h; rw [even_succ, HE.out]; exact h⟩
        case measure => simp [intOf]; omega
    · have hf := hser.out
      have hk' : k = ds.length := by omega
      rw [hk', List.drop_length, serL] at hf
      have HF := Lib.hid hf
      clear hf hser hk'
      go_wp2
      go_ret
      exact ⟨ret_int HF.out, rfl⟩
end Go.Proofs.Yteijlbblmdclaaa
/- trig: quarter, Cos, Sin. -/
set_option linter.unusedVariables false
namespace Go.Proofs.Yteijlbblmdclaaa
open Go.ChangeShapes Go.WideShapes Go.ChangeAt Go.RowKit

theorem sine_list : ∀ k, k < ([6, 20, 42, 72, 110, 156, 210] : List Int).length → 2 ≤ ([6, 20, 42, 72, 110, 156, 210] : List Int).getD k 0 ∧ ([6, 20, 42, 72, 110, 156, 210] : List Int).getD k 0 ≤ 1000 := by decide
theorem cosine_list : ∀ k, k < ([2, 12, 30, 56, 90, 132, 182] : List Int).length → 2 ≤ ([2, 12, 30, 56, 90, 132, 182] : List Int).getD k 0 ∧ ([2, 12, 30, 56, 90, 132, 182] : List Int).getD k 0 ≤ 1000 := by decide

def RInt (v : Int) (w : World) (e : Ending) (w' : World) : Prop := e = .returned (.int .i64 v) ∧ Below w.heap.size w w'

set_option maxRecDepth 100000 in
set_option maxHeartbeats 1000000 in
theorem quarter_sine (n : Int) (h0 : 256 < n) (h1 : n ≤ 512) (w : World) :
    Calls Try.prog 75 #[.int .i64 n] w (RInt (quartL n) w) := by
  have hq : quartL n = rnd (sineL (512 - n)) 4 := if_pos h0
  rw [hq]
  clear hq
  obtain ⟨m, rfl⟩ : ∃ m, n = 512 - m := ⟨512 - n, by omega⟩
  have hm : 512 - (512 - m) = m := by omega
  rw [hm]
  obtain ⟨a0, a1⟩ := arc_range m (by omega) (by omega)
  obtain ⟨q0, q1⟩ := sq_range m (by omega) (by omega)
  obtain ⟨s0, s1⟩ := sine_range m (by omega) (by omega)
  obtain ⟨m0, m1⟩ := mul_range 1073741824 1073741824 a0 a1 a0 a1
  have ea : Hid (rnd (m * 3454217652358) 20 = arcL m) := rfl
  have eq : Hid (rnd (arcL m * arcL m) 30 = sqL m) := rfl
  have es : Hid (serL [6, 20, 42, 72, 110, 156, 210] true (arcL m) (sqL m) (arcL m) = sineL m) := rfl
  generalize sineL m = S at *
  generalize sqL m = Q at *
  generalize arcL m = A at *
  go_enter Try.func75, Try.ntmps75
  go_wp2_with fail
  refine (rounded_lit _ 20 20 rfl (by omega) (by omega) (by decide) (by decide) _).mono ?_
  rintro e w' ⟨he, rfl⟩
  rw [ea.out] at he
  subst he
  go_wp2_with fail
  refine (rounded_lit _ 30 30 rfl (by omega) (by omega) (by decide) (by decide) _).mono ?_
  rintro e w' ⟨he, rfl⟩
  rw [eq.out] at he
  subst he
  go_wp2_with fail
  refine (series_ok [6, 20, 42, 72, 110, 156, 210] _ _ A Q (by decide) sine_list a0 a1 q0 q1 _ (isInts_new w [6, 20, 42, 72, 110, 156, 210] 3 rfl)).mono ?_
  rintro e w' ⟨he, rfl⟩
  rw [es.out] at he
  subst he
  go_wp2_with fail
  refine (rounded_lit _ 4 4 rfl (by omega) (by omega) (by decide) (by decide) _).mono ?_
  rintro e w' ⟨rfl, rfl⟩
  go_wp2
  go_ret
  exact ⟨rfl, (Below.refl _ _).alloc (Nat.le_refl _) _⟩

set_option maxRecDepth 100000 in
set_option maxHeartbeats 1000000 in
theorem quarter_cosine (n : Int) (h0 : 0 ≤ n) (h1 : n ≤ 256) (w : World) :
    Calls Try.prog 75 #[.int .i64 n] w (RInt (quartL n) w) := by
  have hq : quartL n = rnd (cosineL n) 4 := if_neg (by omega)
  rw [hq]
  clear hq
  obtain ⟨a0, a1⟩ := arc_range n h0 h1
  obtain ⟨q0, q1⟩ := sq_range n h0 h1
  obtain ⟨s0, s1⟩ := cosine_range n h0 h1
  obtain ⟨m0, m1⟩ := mul_range 1073741824 1073741824 a0 a1 a0 a1
  have ea : Hid (rnd (n * 3454217652358) 20 = arcL n) := rfl
  have eq : Hid (rnd (arcL n * arcL n) 30 = sqL n) := rfl
  have es : Hid (serL [2, 12, 30, 56, 90, 132, 182] true 1073741824 (sqL n) 1073741824 = cosineL n) := rfl
  generalize cosineL n = S at *
  generalize sqL n = Q at *
  generalize arcL n = A at *
  go_enter Try.func75, Try.ntmps75
  go_wp2_with fail
  refine (rounded_lit _ 20 20 rfl (by omega) (by omega) (by decide) (by decide) _).mono ?_
  rintro e w' ⟨he, rfl⟩
  rw [ea.out] at he
  subst he
  go_wp2_with fail
  refine (rounded_lit _ 30 30 rfl (by omega) (by omega) (by decide) (by decide) _).mono ?_
  rintro e w' ⟨he, rfl⟩
  rw [eq.out] at he
  subst he
  go_wp2_with fail
  refine (series_ok [2, 12, 30, 56, 90, 132, 182] _ _ 1073741824 Q (by decide) cosine_list (by decide) (by decide) q0 q1 _ (isInts_new w [2, 12, 30, 56, 90, 132, 182] 3 rfl)).mono ?_
  rintro e w' ⟨he, rfl⟩
  rw [es.out] at he
  subst he
  go_wp2_with fail
  refine (rounded_lit _ 4 4 rfl (by omega) (by omega) (by decide) (by decide) _).mono ?_
  rintro e w' ⟨rfl, rfl⟩
  go_wp2
  go_ret
  exact ⟨rfl, (Below.refl _ _).alloc (Nat.le_refl _) _⟩

theorem quarter_ok (n : Int) (h0 : 0 ≤ n) (h1 : n ≤ 512) (w : World) :
    Calls Try.prog 75 #[.int .i64 n] w (RInt (quartL n) w) := by
  by_cases h : 256 < n
  · exact quarter_sine n h h1 w
  · exact quarter_cosine n h0 (by omega) w

theorem quart_range (n : Int) (h0 : 0 ≤ n) (h1 : n ≤ 512) : -67108864 ≤ quartL n ∧ quartL n ≤ 67108864 := by
  have := cos_range n
  have h2 : n % 2048 = n := Int.emod_eq_of_lt h0 (by omega)
  unfold cosL at this
  rw [h2] at this
  simp only [if_neg (show ¬ 1024 < n by omega), if_neg (show ¬ 512 < n by omega)] at this
  exact this

theorem mask2047 (n : Int) : bits .and .i64 n 2047 = n % 2048 := i64_mask n 11 (by decide)

set_option maxRecDepth 100000 in
set_option maxHeartbeats 1000000 in
theorem cos_ok (n : Int) (w : World) : Calls Try.prog 70 #[.int .i64 n] w (RInt (cosL n) w) := by
  have hm := mask2047 n
  have r0 := Int.emod_nonneg n (b := 2048) (by decide)
  have r1 := Int.emod_lt_of_pos n (b := 2048) (by decide)
  have hc : cosL n = if 512 < (if 1024 < n % 2048 then 2048 - n % 2048 else n % 2048) then -quartL (1024 - (if 1024 < n % 2048 then 2048 - n % 2048 else n % 2048)) else quartL (if 1024 < n % 2048 then 2048 - n % 2048 else n % 2048) := rfl
  rw [hc]
  clear hc
  by_cases h1 : 1024 < n % 2048
  · rw [if_pos h1]
    by_cases h2 : 512 < 2048 - n % 2048
    · rw [if_pos h2]
      generalize n % 2048 = r at *
      obtain ⟨b0, b1⟩ := quart_range (1024 - (2048 - r)) (by omega) (by omega)
      go_enter Try.func70, Try.ntmps70
      go_wp2_with (go_at_call 75; refine (quarter_ok _ (by omega) (by omega) _).mono ?_; rintro e w1 ⟨rfl, hb⟩)
      go_ret
      exact ⟨rfl, hb⟩
    · rw [if_neg h2]
      generalize n % 2048 = r at *
      go_enter Try.func70, Try.ntmps70
      go_wp2_with (go_at_call 75; refine (quarter_ok _ (by omega) (by omega) _).mono ?_; rintro e w1 ⟨rfl, hb⟩)
      go_ret
      exact ⟨rfl, hb⟩
  · rw [if_neg h1]
    by_cases h2 : 512 < n % 2048
    · rw [if_pos h2]
      generalize n % 2048 = r at *
      obtain ⟨b0, b1⟩ := quart_range (1024 - r) (by omega) (by omega)
      go_enter Try.func70, Try.ntmps70
      go_wp2_with (go_at_call 75; refine (quarter_ok _ (by omega) (by omega) _).mono ?_; rintro e w1 ⟨rfl, hb⟩)
      go_ret
      exact ⟨rfl, hb⟩
    · rw [if_neg h2]
      generalize n % 2048 = r at *
      go_enter Try.func70, Try.ntmps70
      go_wp2_with (go_at_call 75; refine (quarter_ok _ (by omega) (by omega) _).mono ?_; rintro e w1 ⟨rfl, hb⟩)
      go_ret
      exact ⟨rfl, hb⟩

end Go.Proofs.Yteijlbblmdclaaa
/- trig.Sin: what each call answers. -/
set_option linter.unusedVariables false
namespace Go.Proofs.Yteijlbblmdclaaa
open Go.ChangeShapes Go.WideShapes Go.ChangeAt Go.RowKit

theorem sin_ok (n : Int) (w : World) : Calls Try.prog 62 #[.int .i64 n] w (RInt (sinL n) w) := by
  have hm := mask2047 n
  have r0 := Int.emod_nonneg n (b := 2048) (by decide)
  have r1 := Int.emod_lt_of_pos n (b := 2048) (by decide)
  unfold sinL
  generalize n % 2048 = r at *
  go_enter Try.func62, Try.ntmps62
  go_wp2_with (go_at_call 70; refine (cos_ok _ _).mono ?_; rintro e w1 ⟨rfl, hb⟩)
  go_ret
  exact ⟨rfl, hb⟩
end Go.Proofs.Yteijlbblmdclaaa
/- reedpiperef03.Down: what each call answers. -/
set_option linter.unusedVariables false
namespace Go.Proofs.Yteijlbblmdclaaa
open Go.ChangeShapes Go.WideShapes Go.ChangeAt Go.RowKit

theorem down_parts (n : Int) (b : Nat) (hb : 1 ≤ b) (hb2 : b ≤ 62) (h1 : -4611686018427387904 ≤ n) (h2 : n ≤ 4611686018427387904) :
    0 < (2 : Int) ^ (b - 1) ∧ (2 : Int) ^ (b - 1) ≤ 2305843009213693952 ∧ n / 2 ^ b * 2 ^ b ≤ n ∧ n - 4611686018427387904 ≤ n / 2 ^ b * 2 ^ b ∧ -4611686018427387904 ≤ n / 2 ^ b ∧ n / 2 ^ b ≤ 4611686018427387904 := by
  have p1 := pow_pos' (b - 1)
  have p2 : (2 : Int) ^ (b - 1) ≤ 2 ^ 61 := pow_le_pow' (by omega)
  have p3 : (2 : Int) ^ b ≤ 2 ^ 62 := pow_le_pow' (by omega)
  have h3 := Int.emod_nonneg n (b := 2 ^ b) (Int.ne_of_gt (pow_pos' b))
  have h4 := Int.emod_lt_of_pos n (pow_pos' b)
  have h5 := Int.mul_ediv_add_emod n (2 ^ b)
  rw [Int.mul_comm] at h5
  have h6 : -4611686018427387904 ≤ n / 2 ^ b := by
    rw [Int.le_ediv_iff_mul_le (pow_pos' b)]
    have : (-4611686018427387904 : Int) * 2 ^ b ≤ (-4611686018427387904) * 1 := Int.mul_le_mul_of_nonpos_left (by decide) (by have := pow_pos' b; omega)
    omega
  have h7 : n / 2 ^ b ≤ 4611686018427387904 := by
    have : n / 2 ^ b < 4611686018427387905 := by
      rw [Int.ediv_lt_iff_lt_mul (pow_pos' b)]
      have : (4611686018427387905 : Int) * 1 ≤ 4611686018427387905 * 2 ^ b := Int.mul_le_mul_of_nonneg_left (by have := pow_pos' b; omega) (by decide)
      omega
    omega
  generalize n / 2 ^ b * 2 ^ b = q at *
  omega

theorem down_up (n : Int) (b : Nat) (hb : 1 ≤ b) (h : 2 ^ (b - 1) ≤ n - n / 2 ^ b * 2 ^ b) : n / 2 ^ b + 1 = rnd n b := by
  symm
  have h4 := Int.emod_lt_of_pos n (pow_pos' b)
  have h5 := Int.mul_ediv_add_emod n (2 ^ b)
  have h6 := pow_pred b hb
  rw [Int.mul_comm] at h5
  refine rnd_eq n _ b hb ?_ ?_
  all_goals
    rw [Int.add_mul, Int.one_mul]
    generalize n / 2 ^ b * 2 ^ b = q at *
    omega
theorem down_stay (n : Int) (b : Nat) (hb : 1 ≤ b) (h : ¬ 2 ^ (b - 1) ≤ n - n / 2 ^ b * 2 ^ b) : n / 2 ^ b = rnd n b := by
  symm
  have h3 := Int.emod_nonneg n (b := 2 ^ b) (Int.ne_of_gt (pow_pos' b))
  have h5 := Int.mul_ediv_add_emod n (2 ^ b)
  have h6 := pow_pos' (b - 1)
  rw [Int.mul_comm] at h5
  refine rnd_eq n _ b hb ?_ ?_
  all_goals
    generalize n / 2 ^ b * 2 ^ b = q at *
    omega

theorem down_ok (n : Int) (b : Nat) (h1 : -4611686018427387904 ≤ n) (h2 : n ≤ 4611686018427387904) (hb : b ≤ 62) (w : World) :
    Calls Try.prog 33 #[.int .i64 n, .int .i64 b] w fun e w' => e = .returned (.int .i64 (rnd n b)) ∧ w = w' := by
  by_cases h0 : b = 0
  · subst h0
    go_enter Try.func33, Try.ntmps33
    go_wp2
    go_ret
    exact ⟨rfl, rfl⟩
  · have hz : ((b : Int) == 0) = false := by simp; omega
    obtain ⟨d1, d2, d3, d4, d5, d6⟩ := down_parts n b (by omega) hb h1 h2
    by_cases hge : 2 ^ (b - 1) ≤ n - n / 2 ^ b * 2 ^ b
    · have hf := Lib.hid (down_up n b (by omega) hge)
      have hd : decide (2 ^ (b - 1) ≤ n - n / 2 ^ b * 2 ^ b) = true := decide_eq_true hge
      clear hge
      go_enter Try.func33, Try.ntmps33
      go_wp2
      go_ret
      exact ⟨ret_int hf.out, rfl⟩
    · have hf := Lib.hid (down_stay n b (by omega) hge)
      have hd : decide (2 ^ (b - 1) ≤ n - n / 2 ^ b * 2 ^ b) = false := decide_eq_false hge
      clear hge
      go_enter Try.func33, Try.ntmps33
      go_wp2
      go_ret
      exact ⟨ret_int hf.out, rfl⟩
theorem down_lit (n B : Int) (b : Nat) (hB : B = b) (h1 : -4611686018427387904 ≤ n) (h2 : n ≤ 4611686018427387904) (hb : b ≤ 62) (w : World) :
    Calls Try.prog 33 #[.int .i64 n, .int .i64 B] w fun e w' => e = .returned (.int .i64 (rnd n b)) ∧ w = w' := by
  subst hB; exact down_ok n b h1 h2 hb w
end Go.Proofs.Yteijlbblmdclaaa
/- reedpiperef04: what each call answers. -/
set_option linter.unusedVariables false
namespace Go.Proofs.Yteijlbblmdclaaa
open Go.ChangeShapes Go.WideShapes Go.ChangeAt Go.RowKit

theorem refarc_ok (n : Int) (h0 : 0 ≤ n) (h1 : n ≤ 256) (w : World) :
    Calls Try.prog 76 #[.int .i64 n] w fun e w' => e = .returned (.int .i64 (arcL n)) ∧ w = w' := by
  have ea : Hid (rnd (n * 3454217652358) 20 = arcL n) := rfl
  go_enter Try.func76, Try.ntmps76
  go_wp2_with fail
  refine (down_lit _ 20 20 rfl (by omega) (by omega) (by decide) _).mono ?_
  rintro e w' ⟨he, rfl⟩
  rw [ea.out] at he
  subst he
  go_wp2
  go_ret
  exact ⟨rfl, rfl⟩

def ds_cosine : List Int := [2, 12, 30, 56, 90, 132, 182]
theorem ds_cosine_at : ∀ K : Nat, K < 7 → (2 * ((K : Int) + 1)) * (2 * ((K : Int) + 1) - 1) = ds_cosine.getD K 0 ∧ 2 ≤ ds_cosine.getD K 0 ∧ ds_cosine.getD K 0 ≤ 1000 := by decide

set_option maxRecDepth 100000 in
set_option maxHeartbeats 1000000 in
theorem refcosine_ok (n : Int) (h0 : 0 ≤ n) (h1 : n ≤ 256) (w : World) :
    Calls Try.prog 71 #[.int .i64 n] w fun e w' => e = .returned (.int .i64 (cosineL n)) ∧ w = w' := by
  obtain ⟨a0, a1⟩ := arc_range n h0 h1
  obtain ⟨q0, q1⟩ := sq_range n h0 h1
  obtain ⟨m0, m1⟩ := mul_range 1073741824 1073741824 a0 a1 a0 a1
  have eq : Hid (rnd (arcL n * arcL n) 30 = sqL n) := rfl
  have es : Hid (serL ds_cosine true 1073741824 (sqL n) 1073741824 = cosineL n) := rfl
  generalize cosineL n = S at *
  have RA := refarc_ok n h0 h1 w
  generalize sqL n = Q at *
  generalize arcL n = A at *
  go_enter Try.func71, Try.ntmps71
  go_wp2_with fail
  refine RA.mono ?_
  clear RA
  rintro e w' ⟨rfl, rfl⟩
  go_wp2_with fail
  refine (down_lit _ 30 30 rfl (by omega) (by omega) (by decide) _).mono ?_
  rintro e w' ⟨he, rfl⟩
  rw [eq.out] at he
  subst he
  go_wp2
  go_loop [5, 6, 7] (fun T Z I => ∃ (K : Nat) (x s k : Int), T = .int .i64 x ∧ Z = .int .i64 s ∧ I = .int .i64 k ∧ k = (K : Int) + 1 ∧ K ≤ 7 ∧ 0 ≤ x ∧ x ≤ 1073741824 ∧ -1073741824 * ((K : Int) + 1) ≤ s ∧ s ≤ 1073741824 * ((K : Int) + 1) ∧ Hid (serL (ds_cosine.drop K) (even K) x Q s = S)) (fun _ _ i => (8 - intOf i).toNat)
  case atStart => exact ⟨0, 1073741824, 1073741824, 1, rfl, rfl, rfl, rfl, by decide, by omega, by omega, by omega, by omega, es⟩
  case round =>
    obtain ⟨K, x, s, k, rfl, rfl, rfl, hkK, hK, hx0, hx1, hs0, hs1, hser⟩ := hrel
    by_cases hlt : K < 7
    · obtain ⟨e1, e2, e3⟩ := ds_cosine_at K hlt
      rw [← hkK] at e1
      obtain ⟨t0, t1⟩ := term_range x Q (ds_cosine.getD K 0) hx0 hx1 q0 q1 (by omega)
      obtain ⟨n0, n1⟩ := mul_range 1073741824 1073741824 hx0 hx1 q0 q1
      obtain ⟨r0, r1⟩ := rnd30_range _ n0 (by omega)
      have hs := hser.out
      rw [ser_step ds_cosine K hlt] at hs
      have HS := Lib.hid hs
      clear hs hser
      generalize ds_cosine.getD K 0 = d at *
      have k1 : 1 ≤ k := by omega
      have k2 : k ≤ 7 := by omega
      have hle : decide (k ≤ 7) = true := by simp; omega
      have HK := Lib.hid hkK
      by_cases hp : K % 2 = 0
      · have he : even K = true := by simp [even, hp]
        have HE := Lib.hid he
        have hp' : (k % 2 == 1) = true := by simp; omega
        clear he hkK hp
        go_wp2_with (go_at_call 33; refine (down_lit _ 30 30 rfl (by omega) (by omega) (by decide) _).mono ?_; rintro e w' ⟨rfl, rfl⟩)
        go_round
        case rel => exact ⟨K + 1, rnd (x * Q) 30 / d, s - rnd (x * Q) 30 / d, k + 1, rfl, rfl, rfl, by have := HK.out; omega, by omega, t0, t1, by omega, by omega, by have h := HS.out; rw [HE.out] at h; rw [even_succ, HE.out]; exact h⟩
        case measure => simp [intOf]; omega
      · have he : even K = false := by simp [even, hp]
        have HE := Lib.hid he
        have hp' : (k % 2 == 1) = false := by simp; omega
        clear he hkK hp
        go_wp2_with (go_at_call 33; refine (down_lit _ 30 30 rfl (by omega) (by omega) (by decide) _).mono ?_; rintro e w' ⟨rfl, rfl⟩)
        go_round
        case rel => exact ⟨K + 1, rnd (x * Q) 30 / d, s + rnd (x * Q) 30 / d, k + 1, rfl, rfl, rfl, by have := HK.out; omega, by omega, t0, t1, by omega, by omega, by have h := HS.out; rw [HE.out] at h; rw [even_succ, HE.out]; exact h⟩
        case measure => simp [intOf]; omega
    · have hf := hser.out
      obtain rfl : K = 7 := by omega
      have hle : decide (k ≤ 7) = false := by simp; omega
      rw [show ds_cosine.drop 7 = [] from rfl, serL] at hf
      have HF := Lib.hid hf
      clear hf hser hkK
      go_wp2
      go_ret
      exact ⟨ret_int HF.out, rfl⟩

def ds_sine : List Int := [6, 20, 42, 72, 110, 156, 210]
theorem ds_sine_at : ∀ K : Nat, K < 7 → (2 * ((K : Int) + 1)) * (2 * ((K : Int) + 1) + 1) = ds_sine.getD K 0 ∧ 2 ≤ ds_sine.getD K 0 ∧ ds_sine.getD K 0 ≤ 1000 := by decide

set_option maxRecDepth 100000 in
set_option maxHeartbeats 1000000 in
theorem refsine_ok (n : Int) (h0 : 0 ≤ n) (h1 : n ≤ 256) (w : World) :
    Calls Try.prog 72 #[.int .i64 n] w fun e w' => e = .returned (.int .i64 (sineL n)) ∧ w = w' := by
  obtain ⟨a0, a1⟩ := arc_range n h0 h1
  obtain ⟨q0, q1⟩ := sq_range n h0 h1
  obtain ⟨m0, m1⟩ := mul_range 1073741824 1073741824 a0 a1 a0 a1
  have eq : Hid (rnd (arcL n * arcL n) 30 = sqL n) := rfl
  have es : Hid (serL ds_sine true (arcL n) (sqL n) (arcL n) = sineL n) := rfl
  generalize sineL n = S at *
  have RA := refarc_ok n h0 h1 w
  generalize sqL n = Q at *
  generalize arcL n = A at *
  go_enter Try.func72, Try.ntmps72
  go_wp2_with fail
  refine RA.mono ?_
  clear RA
  rintro e w' ⟨rfl, rfl⟩
  go_wp2_with fail
  refine (down_lit _ 30 30 rfl (by omega) (by omega) (by decide) _).mono ?_
  rintro e w' ⟨he, rfl⟩
  rw [eq.out] at he
  subst he
  go_wp2
  go_loop [5, 6, 7] (fun T Z I => ∃ (K : Nat) (x s k : Int), T = .int .i64 x ∧ Z = .int .i64 s ∧ I = .int .i64 k ∧ k = (K : Int) + 1 ∧ K ≤ 7 ∧ 0 ≤ x ∧ x ≤ 1073741824 ∧ -1073741824 * ((K : Int) + 1) ≤ s ∧ s ≤ 1073741824 * ((K : Int) + 1) ∧ Hid (serL (ds_sine.drop K) (even K) x Q s = S)) (fun _ _ i => (8 - intOf i).toNat)
  case atStart => exact ⟨0, A, A, 1, rfl, rfl, rfl, rfl, by decide, by omega, by omega, by omega, by omega, es⟩
  case round =>
    obtain ⟨K, x, s, k, rfl, rfl, rfl, hkK, hK, hx0, hx1, hs0, hs1, hser⟩ := hrel
    by_cases hlt : K < 7
    · obtain ⟨e1, e2, e3⟩ := ds_sine_at K hlt
      rw [← hkK] at e1
      obtain ⟨t0, t1⟩ := term_range x Q (ds_sine.getD K 0) hx0 hx1 q0 q1 (by omega)
      obtain ⟨n0, n1⟩ := mul_range 1073741824 1073741824 hx0 hx1 q0 q1
      obtain ⟨r0, r1⟩ := rnd30_range _ n0 (by omega)
      have hs := hser.out
      rw [ser_step ds_sine K hlt] at hs
      have HS := Lib.hid hs
      clear hs hser
      generalize ds_sine.getD K 0 = d at *
      have k1 : 1 ≤ k := by omega
      have k2 : k ≤ 7 := by omega
      have hle : decide (k ≤ 7) = true := by simp; omega
      have HK := Lib.hid hkK
      by_cases hp : K % 2 = 0
      · have he : even K = true := by simp [even, hp]
        have HE := Lib.hid he
        have hp' : (k % 2 == 1) = true := by simp; omega
        clear he hkK hp
        go_wp2_with (go_at_call 33; refine (down_lit _ 30 30 rfl (by omega) (by omega) (by decide) _).mono ?_; rintro e w' ⟨rfl, rfl⟩)
        go_round
        case rel => exact ⟨K + 1, rnd (x * Q) 30 / d, s - rnd (x * Q) 30 / d, k + 1, rfl, rfl, rfl, by have := HK.out; omega, by omega, t0, t1, by omega, by omega, by have h := HS.out; rw [HE.out] at h; rw [even_succ, HE.out]; exact h⟩
        case measure => simp [intOf]; omega
      · have he : even K = false := by simp [even, hp]
        have HE := Lib.hid he
        have hp' : (k % 2 == 1) = false := by simp; omega
        clear he hkK hp
        go_wp2_with (go_at_call 33; refine (down_lit _ 30 30 rfl (by omega) (by omega) (by decide) _).mono ?_; rintro e w' ⟨rfl, rfl⟩)
        go_round
        case rel => exact ⟨K + 1, rnd (x * Q) 30 / d, s + rnd (x * Q) 30 / d, k + 1, rfl, rfl, rfl, by have := HK.out; omega, by omega, t0, t1, by omega, by omega, by have h := HS.out; rw [HE.out] at h; rw [even_succ, HE.out]; exact h⟩
        case measure => simp [intOf]; omega
    · have hf := hser.out
      obtain rfl : K = 7 := by omega
      have hle : decide (k ≤ 7) = false := by simp; omega
      rw [show ds_sine.drop 7 = [] from rfl, serL] at hf
      have HF := Lib.hid hf
      clear hf hser hkK
      go_wp2
      go_ret
      exact ⟨ret_int HF.out, rfl⟩

theorem refcos_small (n : Int) (h0 : 0 ≤ n) (h1 : n ≤ 512) (w : World) :
    Calls Try.prog 63 #[.int .i64 n] w fun e w' => e = .returned (.int .i64 (quartL n)) ∧ w = w' := by
  have hN : n.tmod 2048 = n := Int.tmod_eq_of_lt h0 (by omega)
  have hN2 : n % 2048 = n := Int.emod_eq_of_lt h0 (by omega)
  by_cases h : n ≤ 256
  · have hq : quartL n = rnd (cosineL n) 4 := if_neg (by omega)
    rw [hq]
    obtain ⟨s0, s1⟩ := cosine_range n h0 h
    clear hq
    have RC := fun W => refcosine_ok n h0 h W
    generalize cosineL n = S at *
    go_enter Try.func63, Try.ntmps63
    go_wp2_with fail
    refine (RC _).mono ?_
    clear RC
    rintro e w' ⟨rfl, rfl⟩
    go_wp2_with fail
    refine (down_lit _ 4 4 rfl (by omega) (by omega) (by decide) _).mono ?_
    rintro e w' ⟨rfl, rfl⟩
    go_wp2
    go_ret
    exact ⟨rfl, rfl⟩
  · have hq : quartL n = rnd (sineL (512 - n)) 4 := if_pos (by omega)
    rw [hq]
    obtain ⟨s0, s1⟩ := sine_range (512 - n) (by omega) (by omega)
    clear hq
    have RC := fun W => refsine_ok (512 - n) (by omega) (by omega) W
    generalize sineL (512 - n) = S at *
    go_enter Try.func63, Try.ntmps63
    go_wp2_with fail
    refine (RC _).mono ?_
    clear RC
    rintro e w' ⟨rfl, rfl⟩
    go_wp2_with fail
    refine (down_lit _ 4 4 rfl (by omega) (by omega) (by decide) _).mono ?_
    rintro e w' ⟨rfl, rfl⟩
    go_wp2
    go_ret
    exact ⟨rfl, rfl⟩

end Go.Proofs.Yteijlbblmdclaaa
/- reedpiperef04: Cos and Sin of any parts. -/
set_option linter.unusedVariables false
namespace Go.Proofs.Yteijlbblmdclaaa
open Go.ChangeShapes Go.WideShapes Go.ChangeAt Go.RowKit

/-- The remainder of a circle, as Go tells it. -/
theorem tmod_circle (n : Int) : (0 ≤ n.tmod 2048 ∧ n.tmod 2048 < 2048 ∧ n % 2048 = n.tmod 2048) ∨ (n.tmod 2048 < 0 ∧ -2048 < n.tmod 2048 ∧ n % 2048 = n.tmod 2048 + 2048) := by
  rcases Int.le_total 0 n with h | h
  · rw [Int.tmod_eq_emod_of_nonneg h]; omega
  · obtain ⟨m, rfl⟩ : ∃ m, n = -m := ⟨-n, by omega⟩
    rw [Int.neg_tmod, Int.tmod_eq_emod_of_nonneg (by omega)]; omega
theorem cosL_at {n r : Int} (h : n % 2048 = r) : cosL n = if 512 < (if 1024 < r then 2048 - r else r) then -quartL (1024 - (if 1024 < r then 2048 - r else r)) else quartL (if 1024 < r then 2048 - r else r) := by subst h; rfl

set_option maxHeartbeats 1000000 in
theorem refcos_pbf (n N : Int) (hN : n.tmod 2048 = N) (hs : 0 ≤ N) (hs2 : N < 2048) (hb : 1024 < N) (hf : 512 < (2048 - N)) (w : World) :
    Calls Try.prog 63 #[.int .i64 n] w fun e w' => e = .returned (.int .i64 (-quartL (1024 - (2048 - N)))) ∧ w = w' := by
  obtain ⟨b0, b1⟩ := quart_range (1024 - (2048 - N)) (by omega) (by omega)
  go_enter Try.func63, Try.ntmps63
  go_wp2_with fail
  refine (refcos_small _ (by omega) (by omega) _).mono ?_
  rintro e w' ⟨rfl, rfl⟩
  go_wp2
  go_ret
  exact ⟨rfl, rfl⟩

set_option maxHeartbeats 1000000 in
theorem refcos_pbc (n N : Int) (hN : n.tmod 2048 = N) (hs : 0 ≤ N) (hs2 : N < 2048) (hb : 1024 < N) (hf : (2048 - N) ≤ 256) (w : World) :
    Calls Try.prog 63 #[.int .i64 n] w fun e w' => e = .returned (.int .i64 (quartL (2048 - N))) ∧ w = w' := by
  have hq : quartL (2048 - N) = rnd (cosineL (2048 - N)) 4 := if_neg (by omega)
  rw [hq]
  obtain ⟨s0, s1⟩ := cosine_range (2048 - N) (by omega) (by omega)
  clear hq
  have RC := fun W => refcosine_ok (2048 - N) (by omega) (by omega) W
  generalize cosineL (2048 - N) = S at *
  go_enter Try.func63, Try.ntmps63
  go_wp2_with fail
  refine (RC _).mono ?_
  clear RC
  rintro e w' ⟨rfl, rfl⟩
  go_wp2_with fail
  refine (down_lit _ 4 4 rfl (by omega) (by omega) (by decide) _).mono ?_
  rintro e w' ⟨rfl, rfl⟩
  go_wp2
  go_ret
  exact ⟨rfl, rfl⟩

set_option maxHeartbeats 1000000 in
theorem refcos_pbs (n N : Int) (hN : n.tmod 2048 = N) (hs : 0 ≤ N) (hs2 : N < 2048) (hb : 1024 < N) (hf : ¬ (2048 - N) ≤ 256) (hf2 : (2048 - N) ≤ 512) (w : World) :
    Calls Try.prog 63 #[.int .i64 n] w fun e w' => e = .returned (.int .i64 (quartL (2048 - N))) ∧ w = w' := by
  have hq : quartL (2048 - N) = rnd (sineL (512 - (2048 - N))) 4 := if_pos (by omega)
  rw [hq]
  obtain ⟨s0, s1⟩ := sine_range (512 - (2048 - N)) (by omega) (by omega)
  clear hq
  have RC := fun W => refsine_ok (512 - (2048 - N)) (by omega) (by omega) W
  generalize sineL (512 - (2048 - N)) = S at *
  go_enter Try.func63, Try.ntmps63
  go_wp2_with fail
  refine (RC _).mono ?_
  clear RC
  rintro e w' ⟨rfl, rfl⟩
  go_wp2_with fail
  refine (down_lit _ 4 4 rfl (by omega) (by omega) (by decide) _).mono ?_
  rintro e w' ⟨rfl, rfl⟩
  go_wp2
  go_ret
  exact ⟨rfl, rfl⟩

set_option maxHeartbeats 1000000 in
theorem refcos_plf (n N : Int) (hN : n.tmod 2048 = N) (hs : 0 ≤ N) (hs2 : N < 2048) (hb : ¬ 1024 < N) (hf : 512 < N) (w : World) :
    Calls Try.prog 63 #[.int .i64 n] w fun e w' => e = .returned (.int .i64 (-quartL (1024 - N))) ∧ w = w' := by
  obtain ⟨b0, b1⟩ := quart_range (1024 - N) (by omega) (by omega)
  go_enter Try.func63, Try.ntmps63
  go_wp2_with fail
  refine (refcos_small _ (by omega) (by omega) _).mono ?_
  rintro e w' ⟨rfl, rfl⟩
  go_wp2
  go_ret
  exact ⟨rfl, rfl⟩

set_option maxHeartbeats 1000000 in
theorem refcos_plc (n N : Int) (hN : n.tmod 2048 = N) (hs : 0 ≤ N) (hs2 : N < 2048) (hb : ¬ 1024 < N) (hf : N ≤ 256) (w : World) :
    Calls Try.prog 63 #[.int .i64 n] w fun e w' => e = .returned (.int .i64 (quartL N)) ∧ w = w' := by
  have hq : quartL N = rnd (cosineL N) 4 := if_neg (by omega)
  rw [hq]
  obtain ⟨s0, s1⟩ := cosine_range N (by omega) (by omega)
  clear hq
  have RC := fun W => refcosine_ok N (by omega) (by omega) W
  generalize cosineL N = S at *
  go_enter Try.func63, Try.ntmps63
  go_wp2_with fail
  refine (RC _).mono ?_
  clear RC
  rintro e w' ⟨rfl, rfl⟩
  go_wp2_with fail
  refine (down_lit _ 4 4 rfl (by omega) (by omega) (by decide) _).mono ?_
  rintro e w' ⟨rfl, rfl⟩
  go_wp2
  go_ret
  exact ⟨rfl, rfl⟩

set_option maxHeartbeats 1000000 in
theorem refcos_pls (n N : Int) (hN : n.tmod 2048 = N) (hs : 0 ≤ N) (hs2 : N < 2048) (hb : ¬ 1024 < N) (hf : ¬ N ≤ 256) (hf2 : N ≤ 512) (w : World) :
    Calls Try.prog 63 #[.int .i64 n] w fun e w' => e = .returned (.int .i64 (quartL N)) ∧ w = w' := by
  have hq : quartL N = rnd (sineL (512 - N)) 4 := if_pos (by omega)
  rw [hq]
  obtain ⟨s0, s1⟩ := sine_range (512 - N) (by omega) (by omega)
  clear hq
  have RC := fun W => refsine_ok (512 - N) (by omega) (by omega) W
  generalize sineL (512 - N) = S at *
  go_enter Try.func63, Try.ntmps63
  go_wp2_with fail
  refine (RC _).mono ?_
  clear RC
  rintro e w' ⟨rfl, rfl⟩
  go_wp2_with fail
  refine (down_lit _ 4 4 rfl (by omega) (by omega) (by decide) _).mono ?_
  rintro e w' ⟨rfl, rfl⟩
  go_wp2
  go_ret
  exact ⟨rfl, rfl⟩

set_option maxHeartbeats 1000000 in
theorem refcos_nbf (n N : Int) (hN : n.tmod 2048 = N) (hs : N < 0) (hs2 : -2048 < N) (hb : 1024 < (N + 2048)) (hf : 512 < (2048 - (N + 2048))) (w : World) :
    Calls Try.prog 63 #[.int .i64 n] w fun e w' => e = .returned (.int .i64 (-quartL (1024 - (2048 - (N + 2048))))) ∧ w = w' := by
  obtain ⟨b0, b1⟩ := quart_range (1024 - (2048 - (N + 2048))) (by omega) (by omega)
  go_enter Try.func63, Try.ntmps63
  go_wp2_with fail
  refine (refcos_small _ (by omega) (by omega) _).mono ?_
  rintro e w' ⟨rfl, rfl⟩
  go_wp2
  go_ret
  exact ⟨rfl, rfl⟩

set_option maxHeartbeats 1000000 in
theorem refcos_nbc (n N : Int) (hN : n.tmod 2048 = N) (hs : N < 0) (hs2 : -2048 < N) (hb : 1024 < (N + 2048)) (hf : (2048 - (N + 2048)) ≤ 256) (w : World) :
    Calls Try.prog 63 #[.int .i64 n] w fun e w' => e = .returned (.int .i64 (quartL (2048 - (N + 2048)))) ∧ w = w' := by
  have hq : quartL (2048 - (N + 2048)) = rnd (cosineL (2048 - (N + 2048))) 4 := if_neg (by omega)
  rw [hq]
  obtain ⟨s0, s1⟩ := cosine_range (2048 - (N + 2048)) (by omega) (by omega)
  clear hq
  have RC := fun W => refcosine_ok (2048 - (N + 2048)) (by omega) (by omega) W
  generalize cosineL (2048 - (N + 2048)) = S at *
  go_enter Try.func63, Try.ntmps63
  go_wp2_with fail
  refine (RC _).mono ?_
  clear RC
  rintro e w' ⟨rfl, rfl⟩
  go_wp2_with fail
  refine (down_lit _ 4 4 rfl (by omega) (by omega) (by decide) _).mono ?_
  rintro e w' ⟨rfl, rfl⟩
  go_wp2
  go_ret
  exact ⟨rfl, rfl⟩

set_option maxHeartbeats 1000000 in
theorem refcos_nbs (n N : Int) (hN : n.tmod 2048 = N) (hs : N < 0) (hs2 : -2048 < N) (hb : 1024 < (N + 2048)) (hf : ¬ (2048 - (N + 2048)) ≤ 256) (hf2 : (2048 - (N + 2048)) ≤ 512) (w : World) :
    Calls Try.prog 63 #[.int .i64 n] w fun e w' => e = .returned (.int .i64 (quartL (2048 - (N + 2048)))) ∧ w = w' := by
  have hq : quartL (2048 - (N + 2048)) = rnd (sineL (512 - (2048 - (N + 2048)))) 4 := if_pos (by omega)
  rw [hq]
  obtain ⟨s0, s1⟩ := sine_range (512 - (2048 - (N + 2048))) (by omega) (by omega)
  clear hq
  have RC := fun W => refsine_ok (512 - (2048 - (N + 2048))) (by omega) (by omega) W
  generalize sineL (512 - (2048 - (N + 2048))) = S at *
  go_enter Try.func63, Try.ntmps63
  go_wp2_with fail
  refine (RC _).mono ?_
  clear RC
  rintro e w' ⟨rfl, rfl⟩
  go_wp2_with fail
  refine (down_lit _ 4 4 rfl (by omega) (by omega) (by decide) _).mono ?_
  rintro e w' ⟨rfl, rfl⟩
  go_wp2
  go_ret
  exact ⟨rfl, rfl⟩

set_option maxHeartbeats 1000000 in
theorem refcos_nlf (n N : Int) (hN : n.tmod 2048 = N) (hs : N < 0) (hs2 : -2048 < N) (hb : ¬ 1024 < (N + 2048)) (hf : 512 < (N + 2048)) (w : World) :
    Calls Try.prog 63 #[.int .i64 n] w fun e w' => e = .returned (.int .i64 (-quartL (1024 - (N + 2048)))) ∧ w = w' := by
  obtain ⟨b0, b1⟩ := quart_range (1024 - (N + 2048)) (by omega) (by omega)
  go_enter Try.func63, Try.ntmps63
  go_wp2_with fail
  refine (refcos_small _ (by omega) (by omega) _).mono ?_
  rintro e w' ⟨rfl, rfl⟩
  go_wp2
  go_ret
  exact ⟨rfl, rfl⟩

set_option maxHeartbeats 1000000 in
theorem refcos_nlc (n N : Int) (hN : n.tmod 2048 = N) (hs : N < 0) (hs2 : -2048 < N) (hb : ¬ 1024 < (N + 2048)) (hf : (N + 2048) ≤ 256) (w : World) :
    Calls Try.prog 63 #[.int .i64 n] w fun e w' => e = .returned (.int .i64 (quartL (N + 2048))) ∧ w = w' := by
  have hq : quartL (N + 2048) = rnd (cosineL (N + 2048)) 4 := if_neg (by omega)
  rw [hq]
  obtain ⟨s0, s1⟩ := cosine_range (N + 2048) (by omega) (by omega)
  clear hq
  have RC := fun W => refcosine_ok (N + 2048) (by omega) (by omega) W
  generalize cosineL (N + 2048) = S at *
  go_enter Try.func63, Try.ntmps63
  go_wp2_with fail
  refine (RC _).mono ?_
  clear RC
  rintro e w' ⟨rfl, rfl⟩
  go_wp2_with fail
  refine (down_lit _ 4 4 rfl (by omega) (by omega) (by decide) _).mono ?_
  rintro e w' ⟨rfl, rfl⟩
  go_wp2
  go_ret
  exact ⟨rfl, rfl⟩

set_option maxHeartbeats 1000000 in
theorem refcos_nls (n N : Int) (hN : n.tmod 2048 = N) (hs : N < 0) (hs2 : -2048 < N) (hb : ¬ 1024 < (N + 2048)) (hf : ¬ (N + 2048) ≤ 256) (hf2 : (N + 2048) ≤ 512) (w : World) :
    Calls Try.prog 63 #[.int .i64 n] w fun e w' => e = .returned (.int .i64 (quartL (N + 2048))) ∧ w = w' := by
  have hq : quartL (N + 2048) = rnd (sineL (512 - (N + 2048))) 4 := if_pos (by omega)
  rw [hq]
  obtain ⟨s0, s1⟩ := sine_range (512 - (N + 2048)) (by omega) (by omega)
  clear hq
  have RC := fun W => refsine_ok (512 - (N + 2048)) (by omega) (by omega) W
  generalize sineL (512 - (N + 2048)) = S at *
  go_enter Try.func63, Try.ntmps63
  go_wp2_with fail
  refine (RC _).mono ?_
  clear RC
  rintro e w' ⟨rfl, rfl⟩
  go_wp2_with fail
  refine (down_lit _ 4 4 rfl (by omega) (by omega) (by decide) _).mono ?_
  rintro e w' ⟨rfl, rfl⟩
  go_wp2
  go_ret
  exact ⟨rfl, rfl⟩

theorem refcos_ok (n : Int) (w : World) : Calls Try.prog 63 #[.int .i64 n] w fun e w' => e = .returned (.int .i64 (cosL n)) ∧ w = w' := by
  obtain ⟨N, hN⟩ : ∃ N, n.tmod 2048 = N := ⟨_, rfl⟩
  have ht := tmod_circle n
  rw [hN] at ht
  rcases ht with ⟨h1, h2, hr⟩ | ⟨h1, h2, hr⟩
  · skip
    by_cases hb : 1024 < N
    · skip
      rw [cosL_at hr, if_pos hb]
      by_cases hf : 512 < (2048 - N)
      · rw [if_pos hf]; exact refcos_pbf n N hN h1 h2 hb hf w
      · rw [if_neg hf]
        by_cases hc : (2048 - N) ≤ 256
        · exact refcos_pbc n N hN h1 h2 hb hc w
        · exact refcos_pbs n N hN h1 h2 hb hc (by omega) w
    · skip
      rw [cosL_at hr, if_neg hb]
      by_cases hf : 512 < N
      · rw [if_pos hf]; exact refcos_plf n N hN h1 h2 hb hf w
      · rw [if_neg hf]
        by_cases hc : N ≤ 256
        · exact refcos_plc n N hN h1 h2 hb hc w
        · exact refcos_pls n N hN h1 h2 hb hc (by omega) w
  · skip
    by_cases hb : 1024 < (N + 2048)
    · skip
      rw [cosL_at hr, if_pos hb]
      by_cases hf : 512 < (2048 - (N + 2048))
      · rw [if_pos hf]; exact refcos_nbf n N hN h1 h2 hb hf w
      · rw [if_neg hf]
        by_cases hc : (2048 - (N + 2048)) ≤ 256
        · exact refcos_nbc n N hN h1 h2 hb hc w
        · exact refcos_nbs n N hN h1 h2 hb hc (by omega) w
    · skip
      rw [cosL_at hr, if_neg hb]
      by_cases hf : 512 < (N + 2048)
      · rw [if_pos hf]; exact refcos_nlf n N hN h1 h2 hb hf w
      · rw [if_neg hf]
        by_cases hc : (N + 2048) ≤ 256
        · exact refcos_nlc n N hN h1 h2 hb hc w
        · exact refcos_nls n N hN h1 h2 hb hc (by omega) w

end Go.Proofs.Yteijlbblmdclaaa
/- reedpiperef04.Sin: what each call answers. -/
set_option linter.unusedVariables false
namespace Go.Proofs.Yteijlbblmdclaaa
open Go.ChangeShapes Go.WideShapes Go.ChangeAt Go.RowKit

theorem refsin_ok (n : Int) (w : World) : Calls Try.prog 48 #[.int .i64 n] w fun e w' => e = .returned (.int .i64 (sinL n)) ∧ w = w' := by
  obtain ⟨N, hN⟩ : ∃ N, n.tmod 2048 = N := ⟨_, rfl⟩
  have ht := tmod_circle n
  rw [hN] at ht
  have hs : sinL n = cosL (N - 512) := cosL_congr (by omega)
  rw [hs]
  have h1 : -2048 < N := by omega
  have h2 : N < 2048 := by omega
  clear ht hs
  go_enter Try.func48, Try.ntmps48
  go_wp2_with fail
  refine (refcos_ok _ _).mono ?_
  rintro e w' ⟨rfl, rfl⟩
  go_wp2
  go_ret
  exact ⟨rfl, rfl⟩
end Go.Proofs.Yteijlbblmdclaaa
/- fix.Round: what each call answers. -/
set_option linter.unusedVariables false
namespace Go.Proofs.Yteijlbblmdclaaa
open Go.ChangeShapes Go.WideShapes Go.ChangeAt Go.RowKit

theorem round_bad (n b : Int) (h : n < -4611686018427387904 ∨ 4611686018427387904 < n ∨ b < 0 ∨ 62 < b) (w : World) :
    Calls Try.prog 47 #[.int .i64 n, .int .i64 b] w fun e w' => e = .returned (.tuple #[.int .i64 0, .int .i64 2]) ∧ w = w' := by
  go_enter Try.func47, Try.ntmps47
  go_wp2
  all_goals go_ret2
  all_goals exact ⟨rfl, rfl⟩

theorem round_wrap (n : Int) (b : Nat) (hb : 1 ≤ b) (h1 : -4611686018427387904 ≤ n) (h2 : n ≤ 4611686018427387904) : wrap64 (n / 2 ^ b + bits .and .i64 (n / 2 ^ (b - 1)) 1) = rnd n b := by
  rw [i64_and_one, rnd_shift n b hb]
  have := rnd_bound b (B := 4611686018427387904) (by decide) h1 h2
  exact IntWalk.wrap64_in _ ⟨by omega, by omega⟩

def RRound (n : Int) (b : Nat) (w : World) (e : Ending) (w' : World) : Prop := e = .returned (.tuple #[.int .i64 (rnd n b), .int .i64 0]) ∧ ∃ k, w' = w.drewN k
theorem round_ok (n : Int) (b : Nat) (h1 : -4611686018427387904 ≤ n) (h2 : n ≤ 4611686018427387904) (hb : b ≤ 62) (w : World) :
    Calls Try.prog 47 #[.int .i64 n, .int .i64 b] w (RRound n b w) := by
  by_cases h0 : b = 0
  · subst h0
    go_enter Try.func47, Try.ntmps47
    go_wp2
    go_ret2
    exact ⟨rfl, 0, rfl⟩
  · have hb1 : 1 ≤ b := by omega
    have hz : ((b : Int) == 0) = false := by simp; omega
    have hw := Lib.hid (round_wrap n b hb1 h1 h2)
    go_enter Try.func47, Try.ntmps47
    go_wp2
    go_quiet (fail)
    go_wp2
    go_ret2
    exact ⟨ret_ints hw.out rfl, _, rfl⟩
theorem round_lit (n B : Int) (b : Nat) (hB : B = b) (h1 : -4611686018427387904 ≤ n) (h2 : n ≤ 4611686018427387904) (hb : b ≤ 62) (w : World) :
    Calls Try.prog 47 #[.int .i64 n, .int .i64 B] w (RRound n b w) := by
  subst hB; exact round_ok n b h1 h2 hb w


end Go.Proofs.Yteijlbblmdclaaa
/- tns: what a coefficient stands for: the program's and the document's. -/
set_option linter.unusedVariables false
namespace Go.Proofs.Yteijlbblmdclaaa
open Go.ChangeShapes Go.WideShapes Go.ChangeAt Go.RowKit

/-- The half of a circle's parts that a coefficient is told of. -/
def mirD (c : Int) (fine : Bool) : Int := (if fine then 15 else 7) + (if c < 0 then 2 else 0)
def mirL (c : Int) (fine : Bool) : Int := rnd (sinL ((2048 * c + mirD c fine) / (2 * mirD c fine))) 6
theorem mirL_range (c : Int) (fine : Bool) : -1048576 ≤ mirL c fine ∧ mirL c fine ≤ 1048576 := by
  unfold mirL
  have h := sin_range ((2048 * c + mirD c fine) / (2 * mirD c fine))
  generalize sinL ((2048 * c + mirD c fine) / (2 * mirD c fine)) = s at *
  have a := rnd_mono 6 h.1
  have b := rnd_mono 6 h.2
  have e1 : rnd (-67108864) 6 = -1048576 := by decide
  have e2 : rnd 67108864 6 = 1048576 := by decide
  rw [e1] at a
  rw [e2] at b
  exact ⟨a, b⟩
theorem quot_down (n d : Int) (hd : 0 < d) : (n.tmod d < 0 → n.tdiv d - 1 = n / d) ∧ (¬ n.tmod d < 0 → n.tdiv d = n / d) := by
  have a := Int.mul_tdiv_add_tmod n d
  have b := Int.lt_tmod_of_pos n hd
  have c := Int.tmod_lt_of_pos n hd
  have hdz : d ≠ 0 := by omega
  constructor
  · intro h
    have e : n = (n.tmod d + d) + d * (n.tdiv d - 1) := by rw [Int.mul_sub]; omega
    have z : (n.tmod d + d) / d = 0 := Int.ediv_eq_zero_of_lt (by omega) (by omega)
    have : n / d = n.tdiv d - 1 := by
      conv => lhs; rw [e]
      rw [Int.add_mul_ediv_left _ _ hdz, z]; omega
    exact this.symm
  · intro h
    have e : n = n.tmod d + d * n.tdiv d := by omega
    have z : n.tmod d / d = 0 := Int.ediv_eq_zero_of_lt (by omega) (by omega)
    have : n / d = n.tdiv d := by
      conv => lhs; rw [e]
      rw [Int.add_mul_ediv_left _ _ hdz, z]; omega
    exact this.symm
theorem tns_rounded (n B : Int) (b : Nat) (hB : B = b) (h1 : -4611686018427387904 ≤ n) (h2 : n ≤ 4611686018427387904) (hb : b ≤ 62) (w : World) :
    Calls Try.prog 31 #[.int .i64 n, .int .i64 B] w fun e w' => e = .returned (.int .i64 (rnd n b)) ∧ ∃ k, w' = w.drewN k := by
  have hR := Lib.hid (fun w => round_lit n B b hB h1 h2 hb w)
  unfold RRound at hR
  obtain ⟨r, hr⟩ : ∃ r, rnd n b = r := ⟨_, rfl⟩
  rw [hr] at hR ⊢
  clear hB h1 h2 hb hr
  go_enter Try.func31, Try.ntmps31
  go_wp2_with fail
  refine (hR.out _).mono ?_
  rintro e w1 ⟨rfl, k, rfl⟩
  go_wp2
  go_ret
  exact ⟨rfl, _, rfl⟩
theorem tns_sine (n d : Int) (h1 : -100000 ≤ n) (h2 : n ≤ 100000) (hd : 0 < d) (hd2 : d ≤ 1000) (w : World) : Calls Try.prog 46 #[.int .i64 n, .int .i64 d] w (RInt (sinL (n / d)) w) := by
  have hq := quot_down n d hd
  have b1 := Int.lt_tmod_of_pos n hd
  have b2 := Int.tmod_lt_of_pos n hd
  have b3 : -100000 ≤ n.tdiv d ∧ n.tdiv d ≤ 100000 := by
    have a := Int.mul_tdiv_add_tmod n d
    constructor
    · rcases Int.lt_or_le (n.tdiv d) (-100000) with h | h
      · exfalso
        have : d * n.tdiv d ≤ d * (-100001) := Int.mul_le_mul_of_nonneg_left (by omega) (by omega)
        omega
      · exact h
    · rcases Int.lt_or_le 100000 (n.tdiv d) with h | h
      · exfalso
        have : d * 100001 ≤ d * n.tdiv d := Int.mul_le_mul_of_nonneg_left (by omega) (by omega)
        omega
      · exact h
  obtain ⟨q, hqq⟩ : ∃ q, n.tdiv d = q := ⟨_, rfl⟩
  obtain ⟨r, hrr⟩ : ∃ r, n.tmod d = r := ⟨_, rfl⟩
  rw [hqq] at hq b3
  rw [hrr] at hq b1 b2
  have hS := Lib.hid (fun p w => sin_ok p w)
  by_cases hr : r < 0
  · have hd1 : decide (r < 0) = true := decide_eq_true hr
    rw [← hq.1 hr]
    clear hq
    go_enter Try.func46, Try.ntmps46
    go_wp2_with fail
    refine (hS.out _ _).mono ?_
    rintro e w1 ⟨rfl, hB⟩
    go_wp2
    go_ret
    exact ⟨rfl, hB⟩
  · have hd1 : decide (r < 0) = false := decide_eq_false hr
    rw [← hq.2 hr]
    clear hq
    go_enter Try.func46, Try.ntmps46
    go_wp2_with fail
    refine (hS.out _ _).mono ?_
    rintro e w1 ⟨rfl, hB⟩
    go_wp2
    go_ret
    exact ⟨rfl, hB⟩
/-- The program's mirror. -/
theorem tns_mirror (c : Int) (fine : Bool) (h1 : -8 ≤ c) (h2 : c ≤ 7) (w : World) : Calls Try.prog 30 #[.int .i64 c, .bool fine] w (RInt (mirL c fine) w) := by
  have hS := Lib.hid (fun n d a b c d' w => tns_sine n d a b c d' w)
  have hR := Lib.hid (fun k w => tns_rounded (sinL k) 6 6 rfl (by have := sin_range k; omega) (by have := sin_range k; omega) (by decide) w)
  cases fine <;> by_cases hc : c < 0
  all_goals
    first | have hd : decide (c < 0) = true := decide_eq_true hc | have hd : decide (c < 0) = false := decide_eq_false hc
    unfold mirL mirD
    simp only [hc, if_true, if_false, Bool.false_eq_true, Int.reduceAdd, Int.reduceMul]
    go_enter Try.func30, Try.ntmps30
    go_wp2_with fail
    refine (hS.out _ _ (by omega) (by omega) (by omega) (by omega) _).mono ?_
    rintro e w1 ⟨rfl, hB1⟩
    go_wp2_with fail
    refine (hR.out _ _).mono ?_
    rintro e w2 ⟨rfl, k, rfl⟩
    go_wp2
    go_ret
    exact ⟨rfl, below_drewN hB1 k⟩
/-- The document's mirror. -/
theorem ref_mirror (c : Int) (fine : Bool) (h1 : -8 ≤ c) (h2 : c ≤ 7) (w : World) : Calls Try.prog 32 #[.int .i64 c, .bool fine] w fun e w' => e = .returned (.int .i64 (mirL c fine)) ∧ w = w' := by
  have hS := Lib.hid (fun n w => refsin_ok n w)
  have hR := Lib.hid (fun k w => down_lit (sinL k) 6 6 rfl (by have := sin_range k; omega) (by have := sin_range k; omega) (by decide) w)
  have hq := quot_down (2048 * c + mirD c fine) (2 * mirD c fine) (by unfold mirD; split <;> split <;> decide)
  unfold mirL
  generalize hQ : (2048 * c + mirD c fine) / (2 * mirD c fine) = Q at *
  obtain ⟨q, hqq⟩ : ∃ q, (2048 * c + mirD c fine).tdiv (2 * mirD c fine) = q := ⟨_, rfl⟩
  have hm := Int.mul_tdiv_add_tmod (2048 * c + mirD c fine) (2 * mirD c fine)
  rw [hqq] at hq hm
  generalize (2048 * c + mirD c fine).tmod (2 * mirD c fine) = r at *
  unfold mirD at *
  cases fine <;> by_cases hc : c < 0
  all_goals
    first | have hd : decide (c < 0) = true := decide_eq_true hc | have hd : decide (c < 0) = false := decide_eq_false hc
    simp only [hc, if_true, if_false, Bool.false_eq_true, Int.reduceAdd, Int.reduceMul] at hQ hqq hm
    have hQ2 : -100000 ≤ Q ∧ Q ≤ 100000 := by omega
    by_cases hr : r < 0
    · have e1 := hq.1 hr
      have HM := Lib.hid hm
      have HR := Lib.hid hr
      have hqb : -200000 ≤ q ∧ q ≤ 200000 := by omega
      clear hq hm hQ hr hQ2
      go_enter Try.func32, Try.ntmps32
      go_wp2_with fail
      all_goals (have hm' := HM.out; have hr' := HR.out; first | (exfalso; omega) | skip)
      all_goals (try rw [e1]
                 refine (hS.out _ _).mono ?_)
      all_goals
        rintro e w1 ⟨rfl, rfl⟩
        go_wp2_with fail
        refine (hR.out _ _).mono ?_
        rintro e w2 ⟨rfl, rfl⟩
        go_wp2
        go_ret
        exact ⟨rfl, rfl⟩
    · have e1 := hq.2 hr
      have HM := Lib.hid hm
      have HR := Lib.hid hr
      have hqb : -200000 ≤ q ∧ q ≤ 200000 := by omega
      clear hq hm hQ hr hQ2
      go_enter Try.func32, Try.ntmps32
      go_wp2_with fail
      all_goals (have hm' := HM.out; have hr' := HR.out; first | (exfalso; omega) | skip)
      all_goals (try rw [e1]
                 refine (hS.out _ _).mono ?_)
      all_goals
        rintro e w1 ⟨rfl, rfl⟩
        go_wp2_with fail
        refine (hR.out _ _).mono ?_
        rintro e w2 ⟨rfl, rfl⟩
        go_wp2
        go_ret
        exact ⟨rfl, rfl⟩
end Go.Proofs.Yteijlbblmdclaaa
/- tns: coefficients of prediction, in plain numbers. -/
set_option linter.unusedVariables false
namespace Go.Proofs.Yteijlbblmdclaaa

/-- One coefficient more. -/
def nextL (k : Int) (a : List Int) : List Int := (List.range a.length).map (fun i => a.getD i 0 + rnd (k * a.getD (a.length - 1 - i) 0) 20) ++ [k]
def coefP (fine : Bool) (cs : List Int) : Nat → List Int
  | 0 => []
  | m + 1 => nextL (mirL (cs.getD m 0) fine) (coefP fine cs m)
theorem nextL_len (k : Int) (a : List Int) : (nextL k a).length = a.length + 1 := by simp [nextL]
theorem coefP_len (fine : Bool) (cs : List Int) : ∀ m, (coefP fine cs m).length = m
  | 0 => rfl
  | m + 1 => by rw [coefP, nextL_len, coefP_len fine cs m]
theorem nextL_get (k : Int) (a : List Int) {i : Nat} (hi : i < a.length) : (nextL k a).getD i 0 = a.getD i 0 + rnd (k * a.getD (a.length - 1 - i) 0) 20 := by
  unfold nextL
  rw [List.getD_eq_getElem?_getD, List.getElem?_append_left (by simpa using hi), List.getElem?_map, List.getElem?_range hi]
  rfl
theorem nextL_last (k : Int) (a : List Int) : (nextL k a).getD a.length 0 = k := by
  unfold nextL
  rw [List.getD_eq_getElem?_getD, List.getElem?_append_right (by simp)]
  simp
theorem rnd_mul (B : Int) : rnd (1048576 * B) 20 = B := by
  unfold rnd
  rw [if_neg (by decide)]
  show (1048576 * B + 524288) / 1048576 = B
  omega
theorem rnd_prod {k b B : Int} (h1 : -1048576 ≤ k) (h2 : k ≤ 1048576) (h3 : -B ≤ b) (h4 : b ≤ B) : (-(1048576 * B) ≤ k * b ∧ k * b ≤ 1048576 * B) ∧ -B ≤ rnd (k * b) 20 ∧ rnd (k * b) 20 ≤ B := by
  have hB : 0 ≤ B := by omega
  have hp : -(1048576 * B) ≤ k * b ∧ k * b ≤ 1048576 * B := by
    have a1 : 0 ≤ (1048576 - k) * (B + b) := Int.mul_nonneg (by omega) (by omega)
    have a2 : 0 ≤ (1048576 + k) * (B - b) := Int.mul_nonneg (by omega) (by omega)
    have a3 : 0 ≤ (1048576 - k) * (B - b) := Int.mul_nonneg (by omega) (by omega)
    have a4 : 0 ≤ (1048576 + k) * (B + b) := Int.mul_nonneg (by omega) (by omega)
    constructor <;> grind
  have m1 := rnd_mono 20 hp.1
  have m2 := rnd_mono 20 hp.2
  rw [show -(1048576 * B) = 1048576 * (-B) by omega, rnd_mul] at m1
  rw [rnd_mul] at m2
  exact ⟨hp, m1, m2⟩
/-- How great they may be. -/
theorem coefP_fit (fine : Bool) (cs : List Int) : ∀ m j, -(1048576 * 2 ^ m) ≤ (coefP fine cs m).getD j 0 ∧ (coefP fine cs m).getD j 0 ≤ 1048576 * 2 ^ m
  | 0, j => by simp [coefP]
  | m + 1, j => by
    have hk := mirL_range (cs.getD m 0) fine
    have hl := coefP_len fine cs m
    have hp : (1 : Int) ≤ 2 ^ m := by have := pow_pos' m; omega
    rw [coefP]
    generalize mirL (cs.getD m 0) fine = k at *
    have ih := coefP_fit fine cs m
    generalize coefP fine cs m = a at *
    rw [Int.pow_succ]
    by_cases hj : j < a.length
    · rw [nextL_get k a hj]
      have i1 := ih j
      have i2 := ih (a.length - 1 - j)
      have := (rnd_prod hk.1 hk.2 i2.1 i2.2).2
      omega
    · by_cases he : j = a.length
      · rw [he, nextL_last]
        omega
      · rw [List.getD_eq_getElem?_getD, List.getElem?_eq_none (by rw [nextL_len]; omega)]
        simp only [Option.getD_none]
        omega
theorem coefP_fit12 (fine : Bool) (cs : List Int) {m : Nat} (hm : m ≤ 12) (j : Nat) : -4294967296 ≤ (coefP fine cs m).getD j 0 ∧ (coefP fine cs m).getD j 0 ≤ 4294967296 := by
  have h := coefP_fit fine cs m j
  have h2 : (2 : Int) ^ m ≤ 2 ^ 12 := pow_le_pow' hm
  omega
/-- The error of a filter. -/
def oddL (fine : Bool) (c : Int) : Bool := decide (c < -(if fine then 7 else 3) - 1) || decide ((if fine then 7 else 3) < c)
def filtE (len order : Int) (fine : Bool) (cs : List Int) : Int :=
  if order < 0 ∨ 12 < order ∨ (cs.length : Int) ≠ order then 4 else if len < 0 ∨ 63 < len ∨ cs.any (oddL fine) = true then 2 else 0
theorem filt_ok {len order : Int} {fine : Bool} {cs : List Int} (h : filtE len order fine cs = 0) : (cs.length : Int) = order ∧ cs.length ≤ 12 ∧ ∀ j, j < cs.length → -8 ≤ cs.getD j 0 ∧ cs.getD j 0 ≤ 7 := by
  unfold filtE at h
  split at h
  · simp at h
  · rename_i h1
    split at h
    · simp at h
    · rename_i h2
      refine ⟨by omega, by omega, fun j hj => ?_⟩
      have h3 : cs.any (oddL fine) = false := by simpa using fun e => h2 (.inr (.inr e))
      rw [List.any_eq_false] at h3
      have := h3 (cs.getD j 0) (by rw [List.getD_eq_getElem?_getD, List.getElem?_eq_getElem hj]; simp)
      unfold oddL at this
      generalize cs.getD j 0 = z at *
      cases fine <;> simp at this <;> omega
end Go.Proofs.Yteijlbblmdclaaa
/- Sums of rows of numbers; Cauchy, Minkowski. -/
set_option linter.unusedVariables false
set_option linter.unusedSimpArgs false
set_option linter.unusedSectionVars false
namespace Go.Proofs.Yteijlbblmdclaaa
/-- Sums of the first n numbers of a row. -/
def sumF (f : Nat → Int) : Nat → Int
  | 0 => 0
  | n + 1 => sumF f n + f n
theorem sumF_congr {f g : Nat → Int} : ∀ n, (∀ i, i < n → f i = g i) → sumF f n = sumF g n
  | 0, _ => rfl
  | n + 1, h => by rw [sumF, sumF, sumF_congr n (fun i hi => h i (by omega)), h n (by omega)]
theorem sumF_mono {f g : Nat → Int} : ∀ n, (∀ i, i < n → f i ≤ g i) → sumF f n ≤ sumF g n
  | 0, _ => Int.le_refl _
  | n + 1, h => by have := sumF_mono n (fun i hi => h i (by omega)); have := h n (by omega); rw [sumF, sumF]; omega
theorem sumF_nonneg {f : Nat → Int} : ∀ n, (∀ i, i < n → 0 ≤ f i) → 0 ≤ sumF f n
  | 0, _ => Int.le_refl _
  | n + 1, h => by have := sumF_nonneg n (fun i hi => h i (by omega)); have := h n (by omega); rw [sumF]; omega
theorem sumF_add (f g : Nat → Int) : ∀ n, sumF (fun i => f i + g i) n = sumF f n + sumF g n
  | 0 => rfl
  | n + 1 => by rw [sumF, sumF, sumF, sumF_add f g n]; omega
theorem sumF_smul (c : Int) (f : Nat → Int) : ∀ n, sumF (fun i => c * f i) n = c * sumF f n
  | 0 => by simp [sumF]
  | n + 1 => by rw [sumF, sumF, sumF_smul c f n]; grind
theorem sumF_const (c : Int) : ∀ n, sumF (fun _ => c) n = c * n
  | 0 => by simp [sumF]
  | n + 1 => by rw [sumF, sumF_const c n]; grind
theorem sq_lt_sq {b c : Int} (hb : 0 ≤ b) (h : b < c) : b * b < c * c := by
  have h1 := Int.mul_le_mul_of_nonneg_left (Int.le_of_lt h) hb
  have h2 := Int.mul_lt_mul_of_pos_right h (show 0 < c by omega)
  omega
theorem abs_le_of_sq {a b : Int} (hb : 0 ≤ b) (h : a * a ≤ b * b) : -b ≤ a ∧ a ≤ b := by
  constructor
  · rcases Int.lt_or_le a (-b) with h' | h'
    · have := sq_lt_sq (c := -a) hb (by omega)
      rw [Int.neg_mul_neg] at this; omega
    · exact h'
  · rcases Int.lt_or_le b a with h' | h'
    · have := sq_lt_sq hb h'
      omega
    · exact h'
theorem sq_nonneg' (a : Int) : 0 ≤ a * a := by
  rcases Int.le_total 0 a with h | h
  · exact Int.mul_nonneg h h
  · exact Int.mul_nonneg_of_nonpos_of_nonpos h h
/-- A square of two combined rows. -/
theorem cross (f g : Nat → Int) (x y : Int) : ∀ n, 0 ≤ sumF (fun i => f i * f i) n * (y * y) - 2 * (sumF (fun i => f i * g i) n * (x * y)) + sumF (fun i => g i * g i) n * (x * x)
  | 0 => by simp [sumF]
  | n + 1 => by
    have h := cross f g x y n
    have h2 := sq_nonneg' (f n * y - g n * x)
    simp only [sumF]
    grind
theorem cauchy (f g : Nat → Int) : ∀ n, sumF (fun i => f i * g i) n * sumF (fun i => f i * g i) n ≤ sumF (fun i => f i * f i) n * sumF (fun i => g i * g i) n
  | 0 => by simp [sumF]
  | n + 1 => by
    have h := cauchy f g n
    have h2 := cross f g (f n) (g n) n
    simp only [sumF]
    grind
theorem minkowski (f g : Nat → Int) (n : Nat) (P Q : Int) (hP : 0 ≤ P) (hQ : 0 ≤ Q) (h1 : sumF (fun i => f i * f i) n ≤ P * P) (h2 : sumF (fun i => g i * g i) n ≤ Q * Q) :
    sumF (fun i => (f i + g i) * (f i + g i)) n ≤ (P + Q) * (P + Q) := by
  have h3 := cauchy f g n
  have n1 : 0 ≤ sumF (fun i => f i * f i) n := sumF_nonneg _ (fun i _ => sq_nonneg' _)
  have n2 : 0 ≤ sumF (fun i => g i * g i) n := sumF_nonneg _ (fun i _ => sq_nonneg' _)
  have h4 : sumF (fun i => f i * f i) n * sumF (fun i => g i * g i) n ≤ (P * P) * (Q * Q) := Int.mul_le_mul h1 h2 n2 (sq_nonneg' P)
  have h5 := (abs_le_of_sq (a := sumF (fun i => f i * g i) n) (b := P * Q) (Int.mul_nonneg hP hQ) (by grind)).2
  have e : sumF (fun i => (f i + g i) * (f i + g i)) n = sumF (fun i => f i * f i) n + 2 * sumF (fun i => f i * g i) n + sumF (fun i => g i * g i) n := by
    rw [← sumF_smul, ← sumF_add, ← sumF_add]
    exact sumF_congr n (fun i _ => by grind)
  rw [e]; grind

end Go.Proofs.Yteijlbblmdclaaa
/- Coefficients of prediction: all their sizes together. -/
set_option linter.unusedVariables false
namespace Go.Proofs.Yteijlbblmdclaaa

def ab (x : Int) : Int := max x (-x)
theorem ab_nonneg (x : Int) : 0 ≤ ab x := by unfold ab; omega
theorem ab_le {x B : Int} (h1 : -B ≤ x) (h2 : x ≤ B) : ab x ≤ B := by unfold ab; omega
theorem ab_two (x : Int) : -ab x ≤ x ∧ x ≤ ab x := by unfold ab; omega
theorem ab_add (x y : Int) : ab (x + y) ≤ ab x + ab y := by unfold ab; omega
def absF (a : List Int) (n : Nat) : Int := sumF (fun i => ab (a.getD i 0)) n
theorem absF_nonneg (a : List Int) (n : Nat) : 0 ≤ absF a n := sumF_nonneg n (fun i _ => ab_nonneg _)
theorem absF_mono (a : List Int) {n m : Nat} (h : n ≤ m) : absF a n ≤ absF a m := by
  induction m with
  | zero => rw [show n = 0 by omega]; exact Int.le_refl _
  | succ m ih =>
    by_cases e : n = m + 1
    · rw [e]; exact Int.le_refl _
    · have := ih (by omega)
      have h2 := ab_nonneg (a.getD m 0)
      unfold absF at *
      rw [sumF]; omega
theorem sumF_first (f : Nat → Int) : ∀ n, sumF f (n + 1) = f 0 + sumF (fun i => f (i + 1)) n
  | 0 => by simp [sumF]
  | n + 1 => by rw [sumF, sumF_first f n, sumF]; omega
theorem sumF_back (f : Nat → Int) : ∀ n, sumF (fun k => f (n - 1 - k)) n = sumF f n
  | 0 => rfl
  | n + 1 => by
    rw [sumF_first]
    have ih := sumF_back f n
    rw [sumF_congr (f := fun i => f (n + 1 - 1 - (i + 1))) (g := fun k => f (n - 1 - k)) n (fun i hi => by congr 1; omega), ih]
    rw [sumF]
    show f (n + 1 - 1 - 0) + sumF f n = _
    rw [show n + 1 - 1 - 0 = n by omega]; omega
theorem abs_next (k : Int) (a : List Int) (h1 : -1048576 ≤ k) (h2 : k ≤ 1048576) : absF (nextL k a) (a.length + 1) ≤ 2 * absF a a.length + ab k := by
  have e : absF (nextL k a) (a.length + 1) = sumF (fun i => ab ((nextL k a).getD i 0)) a.length + ab k := by
    unfold absF; rw [sumF, nextL_last]
  have b : sumF (fun i => ab ((nextL k a).getD i 0)) a.length ≤ sumF (fun i => ab (a.getD i 0) + ab (a.getD (a.length - 1 - i) 0)) a.length := by
    refine sumF_mono a.length (fun i hi => ?_)
    rw [nextL_get k a hi]
    have t := ab_two (a.getD (a.length - 1 - i) 0)
    have p := (rnd_prod h1 h2 t.1 t.2).2
    have := ab_add (a.getD i 0) (rnd (k * a.getD (a.length - 1 - i) 0) 20)
    have := ab_le p.1 p.2
    omega
  rw [sumF_add, sumF_back (fun i => ab (a.getD i 0))] at b
  rw [e]
  unfold absF
  omega
theorem coef_abs (fine : Bool) (cs : List Int) : ∀ m, absF (coefP fine cs m) m ≤ 1048576 * (2 ^ m - 1)
  | 0 => by simp [absF, sumF]
  | m + 1 => by
    have hk := mirL_range (cs.getD m 0) fine
    have hl := coefP_len fine cs m
    have ih := coef_abs fine cs m
    rw [coefP]
    have h := abs_next (mirL (cs.getD m 0) fine) (coefP fine cs m) hk.1 hk.2
    rw [hl] at h
    have := ab_le hk.1 hk.2
    rw [Int.pow_succ]
    omega
theorem coef_steady (fine : Bool) (cs : List Int) {m : Nat} (hm : m ≤ 12) : absF (coefP fine cs m) m ≤ 4293918720 := by
  have h := coef_abs fine cs m
  have h2 : (2 : Int) ^ m ≤ 2 ^ 12 := pow_le_pow' hm
  omega
/-- What is told of the lines ahead: of the first j coefficients. -/
def toldF (a now : List Int) (n j : Nat) : Int := sumF (fun k => a.getD k 0 * now.getD (n - 1 - k) 0) j
theorem told_abs (a now : List Int) (n : Nat) (hb : ∀ j, -268435455 ≤ now.getD j 0 ∧ now.getD j 0 ≤ 268435455) : ∀ j, -(268435455 * absF a j) ≤ toldF a now n j ∧ toldF a now n j ≤ 268435455 * absF a j
  | 0 => by simp [toldF, absF, sumF]
  | j + 1 => by
    have ih := told_abs a now n hb j
    have b := hb (n - 1 - j)
    have t := ab_two (a.getD j 0)
    have p : -(ab (a.getD j 0) * 268435455) ≤ a.getD j 0 * now.getD (n - 1 - j) 0 ∧ a.getD j 0 * now.getD (n - 1 - j) 0 ≤ ab (a.getD j 0) * 268435455 := mul_ab t.1 t.2 b.1 b.2
    unfold toldF absF at *
    rw [sumF, sumF]
    generalize a.getD j 0 * now.getD (n - 1 - j) 0 = P at *
    generalize ab (a.getD j 0) = A at *
    omega
where
  mul_ab {a b A B : Int} (h1 : -A ≤ a) (h2 : a ≤ A) (h3 : -B ≤ b) (h4 : b ≤ B) : -(A * B) ≤ a * b ∧ a * b ≤ A * B := by
    have a1 : 0 ≤ (A - a) * (B + b) := Int.mul_nonneg (by omega) (by omega)
    have a2 : 0 ≤ (A + a) * (B - b) := Int.mul_nonneg (by omega) (by omega)
    have a3 : 0 ≤ (A - a) * (B - b) := Int.mul_nonneg (by omega) (by omega)
    have a4 : 0 ≤ (A + a) * (B + b) := Int.mul_nonneg (by omega) (by omega)
    constructor <;> grind
end Go.Proofs.Yteijlbblmdclaaa
/- tns: lines filtered, in plain numbers. -/
set_option linter.unusedVariables false
namespace Go.Proofs.Yteijlbblmdclaaa

def keptB (n : Int) : Int := min (max n (-268435455)) 268435455
theorem keptB_range (n : Int) : -268435455 ≤ keptB n ∧ keptB n ≤ 268435455 := by unfold keptB; omega
theorem keptB_id {n : Int} (h1 : -268435455 ≤ n) (h2 : n ≤ 268435455) : keptB n = n := by unfold keptB; omega
theorem keptB_not {n : Int} (h1 : keptB n ≠ 268435455) (h2 : keptB n ≠ -268435455) : keptB n = n := by unfold keptB at *; omega
/-- Line n, filtered: xs the lines, ys those that are filtered already. -/
def stepY (sign : Int) (a xs ys : List Int) (n : Nat) : Int := keptB (xs.getD n 0 + sign * rnd (toldF a (if 0 < sign then xs else ys) n (min a.length n)) 20)
def filtP (sign : Int) (a xs : List Int) : Nat → List Int
  | 0 => []
  | n + 1 => filtP sign a xs n ++ [stepY sign a xs (filtP sign a xs n) n]
theorem filtP_len (sign : Int) (a xs : List Int) : ∀ n, (filtP sign a xs n).length = n
  | 0 => rfl
  | n + 1 => by rw [filtP, List.length_append, filtP_len sign a xs n]; rfl
theorem filtP_get (sign : Int) (a xs : List Int) {j : Nat} : ∀ {m : Nat}, j < m → (filtP sign a xs m).getD j 0 = stepY sign a xs (filtP sign a xs j) j
  | 0, h => by omega
  | m + 1, h => by
    have hl := filtP_len sign a xs m
    rw [filtP]
    by_cases e : j = m
    · subst e
      rw [List.getD_eq_getElem?_getD, List.getElem?_append_right (by omega)]
      simp [hl]
    · rw [List.getD_eq_getElem?_getD, List.getElem?_append_left (by omega), ← List.getD_eq_getElem?_getD]
      exact filtP_get sign a xs (by omega)
theorem filtP_same (sign : Int) (a xs : List Int) {j n m : Nat} (h1 : j < n) (h2 : j < m) : (filtP sign a xs n).getD j 0 = (filtP sign a xs m).getD j 0 := by rw [filtP_get _ _ _ h1, filtP_get _ _ _ h2]
theorem filtP_range (sign : Int) (a xs : List Int) (n j : Nat) : -268435455 ≤ (filtP sign a xs n).getD j 0 ∧ (filtP sign a xs n).getD j 0 ≤ 268435455 := by
  by_cases h : j < n
  · rw [filtP_get _ _ _ h]; exact keptB_range _
  · rw [List.getD_eq_getElem?_getD, List.getElem?_eq_none (by rw [filtP_len]; omega)]; simp
theorem told_congr {a x y : List Int} {n j : Nat} (hj : j ≤ n) (h : ∀ i, i < n → x.getD i 0 = y.getD i 0) : toldF a x n j = toldF a y n j :=
  sumF_congr j (fun k hk => by rw [h (n - 1 - k) (by omega)])
theorem stepY_congr {sign : Int} {a x x' y y' : List Int} {n : Nat} (h0 : ∀ i, i ≤ n → x.getD i 0 = x'.getD i 0) (h : ∀ i, i < n → y.getD i 0 = y'.getD i 0) : stepY sign a x y n = stepY sign a x' y' n := by
  unfold stepY
  rw [h0 n (Nat.le_refl _)]
  by_cases hs : 0 < sign
  · rw [if_pos hs, if_pos hs, told_congr (Nat.min_le_right _ _) (fun i hi => h0 i (by omega))]
  · rw [if_neg hs, if_neg hs, told_congr (Nat.min_le_right _ _) h]
theorem filtP_congr {sign : Int} {a x x' : List Int} : ∀ {n : Nat}, (∀ i, i < n → x.getD i 0 = x'.getD i 0) → filtP sign a x n = filtP sign a x' n
  | 0, _ => rfl
  | n + 1, h => by
    have ih := filtP_congr (sign := sign) (a := a) (n := n) (fun i hi => h i (by omega))
    rw [filtP, filtP, ih, stepY_congr (x' := x') (y' := filtP sign a x' n) (fun i hi => h i (by omega)) (fun _ _ => rfl)]
/-- What was filtered is as it was, filtered the other way, if nothing was kept. -/
theorem filt_forth (a xs : List Int) (m : Nat) (hx : ∀ j, -268435455 ≤ xs.getD j 0 ∧ xs.getD j 0 ≤ 268435455) (hq : ∀ j, j < m → (filtP 1 a xs m).getD j 0 ≠ 268435455 ∧ (filtP 1 a xs m).getD j 0 ≠ -268435455) :
    ∀ n, n ≤ m → ∀ j, j < n → (filtP (-1) a (filtP 1 a xs m) n).getD j 0 = xs.getD j 0 := by
  intro n
  induction n with
  | zero => intro _ j hj; omega
  | succ n ih =>
    intro hn j hj
    by_cases e : j = n
    · subst e
      rw [filtP_get _ _ _ (by omega)]
      have q := hq j (by omega)
      have f := filtP_get 1 a xs (j := j) (m := m) (by omega)
      rw [f] at q
      unfold stepY at q f ⊢
      rw [if_pos (by decide)] at q f
      rw [if_neg (by decide), f, keptB_not q.1 q.2]
      have ht : toldF a (filtP (-1) a (filtP 1 a xs m) j) j (min a.length j) = toldF a xs j (min a.length j) := told_congr (Nat.min_le_right _ _) (fun i hi => ih (by omega) i hi)
      rw [ht]
      generalize rnd (toldF a xs j (min a.length j)) 20 = R
      rw [show xs.getD j 0 + 1 * R + -1 * R = xs.getD j 0 by omega]
      exact keptB_id (hx j).1 (hx j).2
    · rw [filtP_same _ _ _ (n := n + 1) (m := n) (by omega) (by omega)]
      exact ih (by omega) j (by omega)
theorem filt_back (a xs : List Int) (m : Nat) (hx : ∀ j, -268435455 ≤ xs.getD j 0 ∧ xs.getD j 0 ≤ 268435455) (hq : ∀ j, j < m → (filtP (-1) a xs m).getD j 0 ≠ 268435455 ∧ (filtP (-1) a xs m).getD j 0 ≠ -268435455) :
    ∀ j, j < m → (filtP 1 a (filtP (-1) a xs m) m).getD j 0 = xs.getD j 0 := by
  intro j hj
  rw [filtP_get _ _ _ hj]
  have q := hq j hj
  have f := filtP_get (-1) a xs (j := j) (m := m) hj
  rw [f] at q
  unfold stepY at q f ⊢
  rw [if_neg (by decide)] at q f
  rw [if_pos (by decide), f, keptB_not q.1 q.2]
  have ht : toldF a (filtP (-1) a xs m) j (min a.length j) = toldF a (filtP (-1) a xs j) j (min a.length j) := told_congr (Nat.min_le_right _ _) (fun i hi => filtP_same _ _ _ (by omega) hi)
  rw [ht]
  generalize rnd (toldF a (filtP (-1) a xs j) j (min a.length j)) 20 = R
  rw [show xs.getD j 0 + -1 * R + 1 * R = xs.getD j 0 by omega]
  exact keptB_id (hx j).1 (hx j).2
/-- A filter's lines: from one to another, downward or not, and its coefficients. -/
structure Reg where
  from_ : Nat
  to_ : Nat
  down : Bool
  a : List Int
/-- The place of line n of a region's. -/
def Reg.at (s : Reg) (n : Nat) : Nat := if s.down then s.to_ - 1 - n else s.from_ + n
def Reg.inv (s : Reg) (p : Nat) : Nat := if s.down then s.to_ - 1 - p else p - s.from_
def Reg.many (s : Reg) : Nat := s.to_ - s.from_
def Reg.Has (s : Reg) (p : Nat) : Prop := s.from_ ≤ p ∧ p < s.to_
theorem Reg.at_has (s : Reg) {n : Nat} (h : n < s.many) : s.Has (s.at n) ∧ s.inv (s.at n) = n := by
  unfold Reg.many at h
  unfold Reg.Has Reg.at Reg.inv
  cases s.down <;> simp <;> omega
theorem Reg.inv_lt (s : Reg) {p : Nat} (h : s.Has p) : s.inv p < s.many ∧ s.at (s.inv p) = p := by
  unfold Reg.Has at h
  unfold Reg.at Reg.inv Reg.many
  cases s.down <;> simp <;> omega
/-- Its lines, in order. -/
def Reg.lines (s : Reg) (O : List Int) : List Int := (List.range s.many).map (fun n => O.getD (s.at n) 0)
theorem Reg.lines_get (s : Reg) (O : List Int) {n : Nat} (h : n < s.many) : (s.lines O).getD n 0 = O.getD (s.at n) 0 := by
  unfold Reg.lines
  rw [List.getD_eq_getElem?_getD, List.getElem?_map, List.getElem?_range h]; rfl
theorem Reg.lines_len (s : Reg) (O : List Int) : (s.lines O).length = s.many := by simp [Reg.lines]
/-- Lines of which the first n of a region's are filtered. -/
def Reg.part (s : Reg) (O ys : List Int) (n : Nat) : List Int := (List.range 256).map (fun p => if s.from_ ≤ p ∧ p < s.to_ ∧ s.inv p < n then ys.getD (s.inv p) 0 else O.getD p 0)
theorem Reg.part_len (s : Reg) (O ys : List Int) (n : Nat) : (s.part O ys n).length = 256 := by simp [Reg.part]
theorem Reg.part_get (s : Reg) (O ys : List Int) (n : Nat) {p : Nat} (h : p < 256) : (s.part O ys n).getD p 0 = if s.from_ ≤ p ∧ p < s.to_ ∧ s.inv p < n then ys.getD (s.inv p) 0 else O.getD p 0 := by
  unfold Reg.part
  rw [List.getD_eq_getElem?_getD, List.getElem?_map, List.getElem?_range h]; rfl
/-- A region filtered. -/
def Reg.run (s : Reg) (sign : Int) (O : List Int) : List Int := s.part O (filtP sign s.a (s.lines O) s.many) s.many
theorem list_ext256 {a b : List Int} (ha : a.length = 256) (hb : b.length = 256) (h : ∀ p, p < 256 → a.getD p 0 = b.getD p 0) : a = b := by
  apply List.ext_getElem (by omega)
  intro p h1 h2
  have := h p (by omega)
  rw [List.getD_eq_getElem?_getD, List.getD_eq_getElem?_getD, List.getElem?_eq_getElem h1, List.getElem?_eq_getElem h2] at this
  simpa using this
theorem Reg.ran_in (s : Reg) (sign : Int) (O : List Int) {p : Nat} (hp : p < 256) (h : s.Has p) : (s.run sign O).getD p 0 = (filtP sign s.a (s.lines O) s.many).getD (s.inv p) 0 := by
  unfold Reg.run
  rw [s.part_get _ _ _ hp, if_pos ⟨h.1, h.2, (s.inv_lt h).1⟩]
theorem Reg.run_out (s : Reg) (sign : Int) (O : List Int) {p : Nat} (hp : p < 256) (h : ¬ s.Has p) : (s.run sign O).getD p 0 = O.getD p 0 := by
  unfold Reg.run
  rw [s.part_get _ _ _ hp, if_neg (fun h' => h ⟨h'.1, h'.2.1⟩)]
theorem Reg.run_len (s : Reg) (sign : Int) (O : List Int) : (s.run sign O).length = 256 := s.part_len _ _ _
theorem Reg.lines_congr (s : Reg) {O O' : List Int} (h : ∀ p, s.Has p → O.getD p 0 = O'.getD p 0) : s.lines O = s.lines O' := by
  unfold Reg.lines
  exact List.map_congr_left (fun n hn => h _ (s.at_has (List.mem_range.1 hn)).1)
theorem Reg.run_congr (s : Reg) (sign : Int) {O O' : List Int} (h : ∀ p, s.Has p → O.getD p 0 = O'.getD p 0) {p : Nat} (hp : p < 256) (hs : s.Has p) : (s.run sign O).getD p 0 = (s.run sign O').getD p 0 := by
  rw [s.ran_in sign O hp hs, s.ran_in sign O' hp hs, s.lines_congr h]
def runS (sign : Int) (l : List Reg) (O : List Int) : List Int := l.foldl (fun O s => s.run sign O) O
def Apart2 (s t : Reg) : Prop := ∀ p, s.Has p → ¬ t.Has p
theorem runS_out (sign : Int) {p : Nat} (hp : p < 256) : ∀ (l : List Reg) (O : List Int), (∀ s ∈ l, ¬ s.Has p) → (runS sign l O).getD p 0 = O.getD p 0
  | [], O, _ => rfl
  | s :: l, O, h => by
    unfold runS
    rw [List.foldl_cons]
    have := runS_out sign hp l (s.run sign O) (fun t ht => h t (List.mem_cons_of_mem _ ht))
    unfold runS at this
    rw [this, s.run_out sign O hp (h s List.mem_cons_self)]
theorem runS_len (sign : Int) : ∀ (l : List Reg) (O : List Int), O.length = 256 → (runS sign l O).length = 256
  | [], O, h => h
  | s :: l, O, h => by
    unfold runS
    rw [List.foldl_cons]
    exact runS_len sign l _ (s.run_len sign O)
/-- Regions that are apart: each by itself. -/
theorem runS_in (sign : Int) {p : Nat} (hp : p < 256) : ∀ (l : List Reg) (O : List Int), (∀ t ∈ l, t.to_ ≤ 256) → l.Pairwise Apart2 → ∀ s ∈ l, s.Has p → (runS sign l O).getD p 0 = (s.run sign O).getD p 0
  | [], O, _, _, s, h, _ => by cases h
  | t :: l, O, hle, hpw, s, h, hs => by
    unfold runS
    rw [List.foldl_cons]
    obtain ⟨h1, h2⟩ := List.pairwise_cons.1 hpw
    rcases List.mem_cons.1 h with rfl | h
    · have := runS_out sign hp l (s.run sign O) (fun u hu => h1 u hu p hs)
      unfold runS at this
      exact this
    · have := runS_in sign hp l (t.run sign O) (fun u hu => hle u (List.mem_cons_of_mem _ hu)) h2 s h hs
      unfold runS at this
      rw [this]
      refine s.run_congr sign (fun q hq => ?_) hp hs
      have hq2 : q < 256 := by have := hle s (List.mem_cons_of_mem _ h); have := hq.2; omega
      exact t.run_out sign O hq2 (fun hh => h1 s h q hh hq)
/-- What was filtered one way, and nothing of it kept, is as it was, filtered the other way. -/
theorem run_undo (s : Reg) (sign : Int) (hsg : sign = 1 ∨ sign = -1) (hto : s.to_ ≤ 256) (O : List Int) (hO : ∀ j, -268435455 ≤ O.getD j 0 ∧ O.getD j 0 ≤ 268435455) (hq : ∀ p, s.Has p → (s.run sign O).getD p 0 ≠ 268435455 ∧ (s.run sign O).getD p 0 ≠ -268435455) {p : Nat} (hp : p < 256) (hs : s.Has p) :
    (s.run (-sign) (s.run sign O)).getD p 0 = O.getD p 0 := by
  have hl : ∀ n, n < s.many → (s.lines (s.run sign O)).getD n 0 = (filtP sign s.a (s.lines O) s.many).getD n 0 := fun n hn => by
    have ha := s.at_has hn
    have h256 : s.at n < 256 := by have := ha.1.2; omega
    rw [s.lines_get _ hn, s.ran_in sign O h256 ha.1, ha.2]
  have hx : ∀ j, -268435455 ≤ (s.lines O).getD j 0 ∧ (s.lines O).getD j 0 ≤ 268435455 := fun j => by
    by_cases hj : j < s.many
    · rw [s.lines_get O hj]; exact hO _
    · rw [List.getD_eq_getElem?_getD, List.getElem?_eq_none (by rw [s.lines_len]; omega)]; simp
  have hqq : ∀ j, j < s.many → (filtP sign s.a (s.lines O) s.many).getD j 0 ≠ 268435455 ∧ (filtP sign s.a (s.lines O) s.many).getD j 0 ≠ -268435455 := fun j hj => by
    have ha := s.at_has hj
    have := hq (s.at j) ha.1
    rw [s.ran_in sign O (by have := ha.1.2; omega) ha.1, ha.2] at this
    exact this
  have hi := s.inv_lt hs
  rw [s.ran_in (-sign) _ hp hs, filtP_congr hl]
  have key : (filtP (-sign) s.a (filtP sign s.a (s.lines O) s.many) s.many).getD (s.inv p) 0 = (s.lines O).getD (s.inv p) 0 := by
    rcases hsg with rfl | rfl
    · exact filt_forth s.a (s.lines O) s.many hx hqq s.many (Nat.le_refl _) _ hi.1
    · exact filt_back s.a (s.lines O) s.many hx hqq _ hi.1
  rw [key, s.lines_get O hi.1, hi.2]
theorem runS_undo (sign : Int) (hsg : sign = 1 ∨ sign = -1) (l : List Reg) (hle : ∀ t ∈ l, t.to_ ≤ 256) (hpw : l.Pairwise Apart2) (O : List Int) (hl : O.length = 256) (hO : ∀ j, -268435455 ≤ O.getD j 0 ∧ O.getD j 0 ≤ 268435455)
    (hq : ∀ p, p < 256 → (runS sign l O).getD p 0 ≠ 268435455 ∧ (runS sign l O).getD p 0 ≠ -268435455) : runS (-sign) l (runS sign l O) = O := by
  refine list_ext256 (runS_len _ _ _ (runS_len _ _ _ hl)) hl (fun p hp => ?_)
  by_cases h : ∃ s ∈ l, s.Has p
  · obtain ⟨s, hs, hsp⟩ := h
    have hto := hle s hs
    rw [runS_in (-sign) hp l _ hle hpw s hs hsp]
    rw [s.run_congr (-sign) (O' := s.run sign O) (fun q hq => runS_in sign (by have := hq.2; omega) l O hle hpw s hs hq) hp hsp]
    refine run_undo s sign hsg hto O hO (fun q hq' => ?_) hp hsp
    have hq2 : q < 256 := by have := hq'.2; omega
    have := hq q hq2
    rw [runS_in sign hq2 l O hle hpw s hs hq'] at this
    exact this
  · have hn : ∀ s ∈ l, ¬ s.Has p := fun s hs hh => h ⟨s, hs, hh⟩
    rw [runS_out (-sign) hp l _ hn, runS_out sign hp l _ hn]
end Go.Proofs.Yteijlbblmdclaaa
/- A variable of many cells. -/
set_option linter.unusedVariables false
namespace Go.Proofs.Yteijlbblmdclaaa
open Go.ChangeShapes Go.WideShapes Go.ChangeAt Go.RowKit
def CellsAt (W : World) (g : Nat) (t : TypeId) (cs : Array Value) : Prop := W.heap[g]? = some (.cells cs t (0, 0))
section
variable {W : World} {g : Nat} {t : TypeId} {cs : Array Value}
theorem CellsAt.lt (h : CellsAt W g t cs) : g < W.heap.size := (Array.getElem?_eq_some_iff.1 h).1
theorem CellsAt.cell (h : CellsAt W g t cs) (j : Nat) : W.cell? ⟨g, j, none⟩ = cs[j]? := by simp [World.cell?, show W.heap[g]? = _ from h]
theorem CellsAt.frozen (h : CellsAt W g t cs) (i : Nat) : W.frozen? ⟨g, i, none⟩ = false := by simp [World.frozen?, show W.heap[g]? = _ from h]
theorem CellsAt.new (W : World) (t : TypeId) (cs : Array Value) {g : Nat} (hg : W.heap.size = g) : CellsAt (W.alloc (.cells cs t)) g t cs := by subst hg; show (W.heap.push _)[W.heap.size]? = _; simp
theorem CellsAt.keep {W' : World} {B : Nat} (h : CellsAt W g t cs) (hb : Below B W W') (hB : g < B) : CellsAt W' g t cs := (hb.block g hB).trans h
theorem CellsAt.alloc (h : CellsAt W g t cs) (o : Obj) : CellsAt (W.alloc o) g t cs := (Below.heap_alloc W o g h.lt).trans h
theorem CellsAt.other (h : CellsAt W g t cs) (p : Addr) (hp : g ≠ p.block) (u : Value) : CellsAt (W.setCell p u) g t cs := (Below.heap_setCell W p u g hp).trans h
theorem CellsAt.set (h : CellsAt W g t cs) (j : Nat) (u : Value) : CellsAt (W.setCell ⟨g, j, none⟩ u) g t (cs.setIfInBounds j u) := by
  obtain ⟨hlt, hk⟩ := Array.getElem?_eq_some_iff.1 h
  show (W.heap.modify g _)[g]? = _
  rw [Array.getElem?_eq_getElem (by rw [Array.size_modify]; exact hlt), Array.getElem_modify_self, hk]
  rfl
theorem CellsAt.drewN (h : CellsAt W g t cs) (n : Nat) : CellsAt (W.drewN n) g t cs := h
end
/-- A row of integers as the cells of a block. -/
def valsL (l : List Int) : Array Value := (l.map (Value.int .i64)).toArray
theorem valsL_get (l : List Int) {j : Nat} (h : j < l.length) : (valsL l)[j]? = some (.int .i64 (l.getD j 0)) := by
  simp [valsL, List.getD_eq_getElem?_getD, h]
theorem valsL_size (l : List Int) : (valsL l).size = l.length := by simp [valsL]
theorem valsL_set (l : List Int) (j : Nat) (x : Int) : (valsL l).setIfInBounds j (.int .i64 x) = valsL (l.set j x) := by
  simp [valsL]
theorem CellsAt.ints {W : World} {g : Nat} {t : TypeId} {l : List Int} (h : CellsAt W g t (valsL l)) : IsInts W (some ⟨g, 0, none⟩) l := isInts_of h.lt (fun j hj => by rw [h.cell, valsL_get l hj])
theorem CellsAt.int {W : World} {g : Nat} {t : TypeId} {l : List Int} (h : CellsAt W g t (valsL l)) {j : Nat} (hj : j < l.length) : W.cell? ⟨g, j, none⟩ = some (.int .i64 (l.getD j 0)) := by rw [h.cell, valsL_get l hj]
theorem CellsAt.setRow {W : World} {g : Nat} {t : TypeId} {cs : Array Value} (h : CellsAt W g t cs) (cs' : Array Value) : CellsAt (W.setRow g cs') g t cs' := setRow_heap W g cs cs' t _ h
theorem CellsAt.otherRow {W : World} {g k : Nat} {t : TypeId} {cs : Array Value} (h : CellsAt W g t cs) (hk : g ≠ k) (cs' : Array Value) : CellsAt (W.setRow k cs') g t cs := (setRow_other W k g cs' hk).trans h
theorem below_setRow {B : Nat} {w W : World} (h : Below B w W) {g : Nat} (hg : B ≤ g) (cs : Array Value) : Below B w (W.setRow g cs) := h.trans ⟨rfl, rfl, rfl, by simp, fun k hk => setRow_other W g k cs (by omega)⟩
/-- The whole of it, as the walk asks. -/
theorem CellsAt.load {P : Program} {W : World} {g : Nat} {t : TypeId} {cs : Array Value} (h : CellsAt W g t cs) {n : Nat} (hn : cs.size = n) : (loadCellsFrom ⟨g, 0, none⟩ 0 n #[]).run P W = .ok cs W := by
  subst hn
  have := run_loadCells_list (P := P) W ⟨g, 0, none⟩ cs.toList (fun j v hv => by
    have hadd : (⟨g, 0, none⟩ : Addr).add j = ⟨g, j, none⟩ := by unfold Addr.add; split <;> simp_all
    rw [hadd, h.cell j]
    simpa using hv)
  simpa [loadCells] using this
theorem CellsAt.store {P : Program} {W : World} {g : Nat} {t ty : TypeId} {cs : Array Value} (h : CellsAt W g t cs) (cs' : Array Value) (hi : (P.info? ty).map (·.size) = some cs'.size) (ho : cs.size = cs'.size) (h1 : cs'.all (·.oneCell') = true) : (storeCells ⟨g, 0, none⟩ cs'.toList 0).run P W = .ok () (W.setRow g cs') := by
  have := run_storeVar_row (P := P) W g t ty cs cs' h hi ho h1
  cases hq : P.info? ty with
  | none => simp [hq] at hi
  | some i =>
    have hs : cs'.size = i.size := by simp [hq] at hi; omega
    simpa [storeVar, sizeOf, typeInfo, hq, Value.cells, hs] using this
theorem valsL_one (l : List Int) : (valsL l).all (·.oneCell') = true := by
  rw [Array.all_eq_true_iff_forall_mem]
  intro v hv
  simp [valsL] at hv
  obtain ⟨x, _, rfl⟩ := hv
  rfl
/-- Cells written one behind the other. -/
def setAll (W : World) (g : Nat) : List Value → Nat → World
  | [], _ => W
  | v :: vs, i => setAll (W.setCell ⟨g, i, none⟩ v) g vs (i + 1)
def setVals (cs : Array Value) : List Value → Nat → Array Value
  | [], _ => cs
  | v :: vs, i => setVals (cs.setIfInBounds i v) vs (i + 1)
theorem setVals_size : ∀ (vs : List Value) (cs : Array Value) (i : Nat), (setVals cs vs i).size = cs.size
  | [], _, _ => rfl
  | v :: vs, cs, i => by rw [setVals, setVals_size vs]; simp
theorem setVals_get : ∀ (vs : List Value) (cs : Array Value) (i j : Nat), j < cs.size → (setVals cs vs i)[j]? = if i ≤ j ∧ j < i + vs.length then vs[j - i]? else cs[j]?
  | [], cs, i, j, hj => by rw [setVals, if_neg (by simp only [List.length_nil]; omega)]
  | v :: vs, cs, i, j, hj => by
    rw [setVals, setVals_get vs _ _ _ (by simpa using hj)]
    simp only [List.length_cons]
    by_cases h1 : i + 1 ≤ j ∧ j < i + 1 + vs.length
    · rw [if_pos h1, if_pos (by omega), show j - i = (j - (i + 1)) + 1 by omega, List.getElem?_cons_succ]
    · rw [if_neg h1]
      by_cases h2 : j = i
      · subst h2; rw [if_pos (by omega), Nat.sub_self, List.getElem?_cons_zero, Array.getElem?_setIfInBounds_self_of_lt hj]
      · rw [if_neg (by omega), Array.getElem?_setIfInBounds_ne (by omega)]
theorem CellsAt.setAll {g : Nat} {t : TypeId} : ∀ (vs : List Value) {W : World} {cs : Array Value} (i : Nat), CellsAt W g t cs → CellsAt (setAll W g vs i) g t (setVals cs vs i)
  | [], _, _, _, h => h
  | v :: vs, _, _, i, h => CellsAt.setAll vs (i + 1) (h.set i v)
theorem CellsAt.otherAll {g k : Nat} {t : TypeId} (hk : g ≠ k) {cs : Array Value} : ∀ (vs : List Value) {W : World} (i : Nat), CellsAt W g t cs → CellsAt (Go.Proofs.Yteijlbblmdclaaa.setAll W k vs i) g t cs
  | [], _, _, h => h
  | v :: vs, _, i, h => CellsAt.otherAll hk vs (i + 1) (h.other ⟨k, i, none⟩ hk v)
theorem below_setAll {B : Nat} {w : World} {g : Nat} (hg : B ≤ g) : ∀ (vs : List Value) {W : World} (i : Nat), Below B w W → Below B w (setAll W g vs i)
  | [], _, _, h => h
  | v :: vs, _, i, h => below_setAll hg vs (i + 1) (h.setCell (p := ⟨g, i, none⟩) hg v)
theorem setVals_whole (cs : Array Value) (l : List Int) (h : cs.size = l.length) : setVals cs (l.map (Value.int .i64)) 0 = valsL l := by
  apply Array.ext_getElem?
  intro j
  by_cases hj : j < cs.size
  · rw [setVals_get _ _ _ _ hj, if_pos (by simp; omega), Nat.sub_zero]
    simp [valsL]
  · rw [Array.getElem?_eq_none (by rw [setVals_size]; omega), Array.getElem?_eq_none (by rw [valsL_size]; omega)]
theorem twelve {L : List Int} (h : L.length = 12) : ∃ x0 x1 x2 x3 x4 x5 x6 x7 x8 x9 x10 x11, L = [x0, x1, x2, x3, x4, x5, x6, x7, x8, x9, x10, x11] := by
  match L, h with
  | [x0, x1, x2, x3, x4, x5, x6, x7, x8, x9, x10, x11], _ => exact ⟨x0, x1, x2, x3, x4, x5, x6, x7, x8, x9, x10, x11, rfl⟩
end Go.Proofs.Yteijlbblmdclaaa
/- Rows of the call's own, kept while other memory is made or written. -/
set_option linter.unusedVariables false
namespace Go.Proofs.Yteijlbblmdclaaa
open Go.ChangeShapes Go.WideShapes Go.ChangeAt Go.RowKit

theorem owns_keep {w w' : World} {base : Nat} {e : TypeId} {size : Nat} {v : Value} {n : Nat} {xs : List Value} (h : w.ownsRow base e size v n xs) (hb : Below w.heap.size w w') : w'.ownsRow base e size v n xs := by
  refine ⟨h.1, ?_⟩
  rcases h.2 with hn | ⟨g, cap, cur, rfl, hg, hgg, rest⟩
  · exact .inl hn
  · refine .inr ⟨g, cap, cur, rfl, hg, ?_, rest⟩
    rw [hb.block g (Array.getElem?_eq_some_iff.1 hgg).1]
    exact hgg
theorem owns_shape {w : World} {base : Nat} {e : TypeId} {size : Nat} {v : Value} {n : Nat} {xs : List Value} (h : w.ownsRow base e size v n xs) (hn : 0 < n) : ∃ g cap, v = .slice (some ⟨g, 0, none⟩) n cap ∧ base ≤ g ∧ g < w.heap.size := by
  have hlt := h.lt
  rcases h.2 with h2 | ⟨g, cap, cur, rfl, hg, hgg, rest⟩
  · omega
  · exact ⟨g, cap, rfl, hg, (hlt g rfl).2⟩
theorem IsInts.setCell {w : World} {g off' : Nat} {l : List Int} (h : IsInts w (some ⟨g, off', none⟩) l) (a : Addr) (u : Value) (hne : g ≠ a.block) : IsInts (w.setCell a u) (some ⟨g, off', none⟩) l := by
  rcases h with h | ⟨b, off, hp, hlt, hc⟩
  · exact .inl h
  · obtain ⟨rfl, rfl⟩ : g = b ∧ off' = off := by simpa using hp
    refine .inr ⟨g, off', rfl, by simpa [World.setCell] using hlt, fun j hj => ?_⟩
    rw [← hc j hj]
    exact World.cell?_of_block (Below.heap_setCell _ _ _ _ hne)
end Go.Proofs.Yteijlbblmdclaaa
