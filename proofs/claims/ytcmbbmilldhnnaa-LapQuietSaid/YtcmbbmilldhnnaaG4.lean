/- Texts bundled: LoopAll WinPlain Bessel Over KbdPlain Kbd Half Reverse Halves Mul Repeat Pieces Window Windows Iter. -/
import Derived.Test.YtcmbbmilldhnnaaG1
import Derived.RangeFuncNested
import Derived.RangeFuncBound
import Derived.RangeFuncCalls
import Derived.RangeFuncLeaves
import Derived.Shelf.Abstract
import Derived.Test.YtcmbbmilldhnnaaG2
import Derived.OwnWalk
import Derived.Laws.OwnMore
import Derived.RegionTactic
import Derived.ChangeAlike
import Derived.Shelf.Bits.Mul64
import Derived.Test.YtcmbbmilldhnnaaShelf
import Derived.Ground.NamesProg
import Derived.Laws.CopyOwn
import Derived.Deep.RegionLaw
import Derived.Tactics
import Derived.WalkKit
import Derived.OwnWalkIn
import Derived.TacticsInMore
import Derived.LoopNIn
import Derived.LoopIn
import Derived.ArgAppend
import Derived.Shelf.RegionOpen
/- A range over a function whose iterator hands on memory that it makes in each round: the contract says of each element what lies where the round begins. -/
set_option linter.unusedVariables false
namespace Go.Proofs.Ytcmbbmilldhnnaa
open Go.RowKit

/-- Whatever lay lies as it lay, but for blocks L and L + 1. -/
structure Apart (L : Nat) (w w' : World) : Prop where
  os : w'.os = w.os
  tape : w'.tape = w.tape
  output : w'.output = w.output
  size : w.heap.size ≤ w'.heap.size
  block : ∀ k, k < w.heap.size → k ≠ L → k ≠ L + 1 → w'.heap[k]? = w.heap[k]?
theorem Apart.of_below {L : Nat} {A B : World} (h : Below A.heap.size A B) : Apart L A B := ⟨h.os, h.tape, h.output, h.size, fun k hk _ _ => h.block k hk⟩
theorem Apart.put {L : Nat} (A : World) (o : Obj) : Apart L A (A.putObj L o) := ⟨rfl, rfl, rfl, by simp, fun k _ h1 _ => World.putObj_heap_other (fun e => h1 e)⟩
theorem Apart.put1 {L : Nat} (A : World) (o : Obj) : Apart L A (A.putObj (L + 1) o) := ⟨rfl, rfl, rfl, by simp, fun k _ _ h1 => World.putObj_heap_other (fun e => h1 e)⟩
theorem Apart.below {L B : Nat} {w A C : World} (h : Apart L A C) (hb : Below B w A) (hL : B ≤ L) (hs : B ≤ A.heap.size) : Below B w C :=
  hb.trans ⟨h.os, h.tape, h.output, h.size, fun k hk => h.block k (by omega) (by omega) (by omega)⟩

/-- The iterator's contract: rounds begin where an element's own word holds; each round goes on; what K says is kept. -/
def SeqAll {α : Type} (P : Program) (g : Nat) (lb : Array Value) (encs : α → Array Value) (Px : List α → α → World → Prop) (S : List α → Prop) (K : World → World → Prop) (w : World) : Prop :=
  ∀ (l : Nat) (J : List α → World → Prop) (W : World), Below w.heap.size w W → w.heap.size + 2 ≤ W.heap.size → (∀ s A B, J s A → Below A.heap.size A B → J s B) →
    (∀ pre x W1, J pre W1 → w.heap.size + 2 ≤ W1.heap.size → Px pre x W1 → YieldAt Fence.wide 1 P l (encs x) W1 fun e W' => e = .returned (.bool true) ∧ J (pre ++ [x]) W' ∧ W1.heap.size ≤ W'.heap.size ∧ K W1 W') →
    J [] W →
    CallsIn Fence.wide 2 P g (#[.func (.yield l) #[] #[]] ++ lb) W fun e W' => (∃ v, e = .returned v) ∧ ∃ xs, S xs ∧ J xs W'

/-- How a round's body is left: at its end. -/
def allPost {α : Type} (L : Nat) (K : World → World → Prop) (I : List α → World → Prop) (xs : List α) (W : World) : Exit → Act → World → Prop
  | .normal, _, W' => (W.heap.size ≤ W'.heap.size ∧ W'.heap[L]? = W.heap[L]? ∧ W'.heap[L + 1]? = W.heap[L + 1]?) ∧ K W W' ∧ I xs W'
  | .ret, _, _ => False
  | .exit _, _, _ => False
  | .goto _, _, _ => False
  | .panic _, _, _ => False
  | .outgrown, _, _ => False

theorem range_all {P : Program} {α : Type} {g : Operand} {ps : Array Tmp} {assign body : Code} {Q : Exit → Act → World → Prop} {a : Act} {w : World}
    {gf : Nat} {lb : Array Value} (hg : a.eval g = .func (.func gf) #[] lb) (eg : ∀ args w, (callFunc gf args).run P w = .ok (.enter gf args) w)
    {encs : α → Array Value} {Px : List α → α → World → Prop} {S : List α → Prop} {K : World → World → Prop} (hseq : SeqAll P gf lb encs Px S K w)
    (hK : ∀ A A' B B', (∀ k, k < w.heap.size → A'.heap[k]? = A.heap[k]?) → (∀ k, k < w.heap.size → B'.heap[k]? = B.heap[k]?) → K A' B → K A B')
    (hps : ∀ x, (encs x).size = ps.size)
    (I : List α → World → Prop) (hI : ∀ s A B, I s A → w.heap.size ≤ A.heap.size → Apart w.heap.size A B → I s B) (hPx : ∀ s x A B, Px s x A → w.heap.size ≤ A.heap.size → Apart w.heap.size A B → Px s x B) (h0 : I [] w) 
    (hround : ∀ (l : Nat) (pre : List α) (x : α) (W W2 : World), w.heap.size + 2 ≤ W2.heap.size → I pre W2 → Px pre x W2 → ∀ (K' : Act → World → Prop), (∀ a', body.wpIn (Fence.wide.inRound l) 1 P (allPost w.heap.size K I (pre ++ [x]) W2) a' W2 → K' a' W) →
      assign.wpIn (Fence.wide.inRound l) 1 P (Exit.then K' (fun _ _ _ => False)) { tmps := (ps.zip (encs x)).foldl (fun t (p, v) => t.setIfInBounds p v) a.tmps, defers := [] } W)
    (hdone : ∀ (xs : List α) (W : World), w.heap.size + 2 ≤ W.heap.size → S xs → I xs W → W.heap[w.heap.size]? = some (.deferred (some [])) → Q .normal { a with defers := { target := .collected w.heap.size, args := #[] } :: a.defers } W) :
    (Code.rangeFunc g ps assign body).wpIn Fence.wide 3 P Q a w := by
  refine wpIn_rangeFunc fun fn _ => ?_
  let rec1 : LoopState → Loop := fun st => { state := st, pending := none, fn, tmps := a.tmps, params := ps, assign, body, defers := w.heap.size }
  have hb1 : Below w.heap.size w ((w.alloc (.deferred (some []))).alloc (.loop (rec1 .ready))) := ((Below.refl _ w).alloc (Nat.le_refl _) _).alloc (by simp) _
  have hd1 : ((w.alloc (.deferred (some []))).alloc (.loop (rec1 .ready))).heap[w.heap.size]? = some (.deferred (some [])) := (Below.heap_alloc _ _ _ (by simp)).trans (World.alloc_heap_new w _)
  have hl1 : ((w.alloc (.deferred (some []))).alloc (.loop (rec1 .ready))).heap[w.heap.size + 1]? = some (.loop (rec1 .ready)) := by
    have := World.alloc_heap_new (w.alloc (.deferred (some []))) (.loop (rec1 .ready)); rwa [World.size_alloc] at this
  have hs1 : ((w.alloc (.deferred (some []))).alloc (.loop (rec1 .ready))).heap.size = w.heap.size + 2 := by simp
  have hE := run_enterLoop_outer (P := P) (w := w) fn a.tmps ps assign body
  obtain ⟨W1, hW1⟩ : ∃ W1, (w.alloc (.deferred (some []))).alloc (.loop (rec1 .ready)) = W1 := ⟨_, rfl⟩
  have hE' : (Instr.enterLoop fn a.tmps ps assign body none).run P w = .ok (w.heap.size + 1, [{ target := .collected w.heap.size, args := #[] }]) W1 := by rw [← hW1]; exact hE
  rw [hW1] at hb1 hd1 hl1 hs1
  clear hE hW1
  have h1 : I [] W1 := hI _ _ _ h0 (Nat.le_refl _) (Apart.of_below hb1)
  refine ⟨w.heap.size + 1, [{ target := .collected w.heap.size, args := #[] }], W1, { target := .fn (.func gf) lb, args := #[.func (.yield (w.heap.size + 1)) #[] #[]] }, W1, gf, #[.func (.yield (w.heap.size + 1)) #[] #[]] ++ lb, W1,
    hE', ?_, fun _ _ => trivial, ?_, fun _ => by omega, ?_⟩
  · simp only [resolve, hg]
    simp [go_sem]
  · simp [invoke, go_sem, eg]
  · refine (hseq (w.heap.size + 1) (fun pre W => (w.heap.size + 2 ≤ W.heap.size ∧ W.heap[w.heap.size]? = some (.deferred (some [])) ∧ W.heap[w.heap.size + 1]? = some (.loop (rec1 .ready))) ∧ I pre W) W1 hb1 (by omega) ?_ ?_ ⟨⟨by omega, hd1, hl1⟩, h1⟩).mono ?_
    · rintro s A B ⟨⟨hA, hd, hl⟩, hi⟩ hb
      exact ⟨⟨Nat.le_trans hA hb.size, (hb.block _ (by omega)).trans hd, (hb.block _ (by omega)).trans hl⟩, hI _ _ _ hi (by omega) (Apart.of_below hb)⟩
    · rintro pre x W ⟨⟨hA, hd, hl⟩, hi⟩ _ hx
      have hap : Apart w.heap.size W (W.putObj (w.heap.size + 1) (.loop (rec1 .busy))) := Apart.put1 W _
      have hl2 : (W.putObj (w.heap.size + 1) (.loop (rec1 .busy))).heap[w.heap.size + 1]? = some (.loop (rec1 .busy)) := World.putObj_heap_same (by omega)
      have hd2 : (W.putObj (w.heap.size + 1) (.loop (rec1 .busy))).heap[w.heap.size]? = some (.deferred (some [])) := (World.putObj_heap_other (by omega)).trans hd
      have hk2 : ∀ k, k < w.heap.size → (W.putObj (w.heap.size + 1) (.loop (rec1 .busy))).heap[k]? = W.heap[k]? := fun k hk => World.putObj_heap_other (by omega)
      have hz2 : (W.putObj (w.heap.size + 1) (.loop (rec1 .busy))).heap.size = W.heap.size := by simp
      refine ⟨fn, _, assign, body, run_yield hl (hps x), roundIn_of_wpIn trivial (hround (w.heap.size + 1) pre x W _ (by rw [hz2]; exact hA) (hI _ _ _ hi (by omega) hap) (hPx _ _ _ _ hx (by omega) hap) _ (fun a' hy => ⟨_, run_beginRound hl rfl, ?_⟩))⟩
      refine wpIn_mono hy ?_
      rintro e a3 W3 hp
      cases e with
      | normal =>
        obtain ⟨⟨hz, hD, hL⟩, hk, hi3⟩ := hp
        have hl3 : W3.heap[w.heap.size + 1]? = some (.loop (rec1 .busy)) := hL.trans hl2
        have hs3 : w.heap.size + 2 ≤ W3.heap.size := by omega
        refine ⟨_, _, run_endRound none hl3, rfl, ⟨⟨by simpa using hs3, (World.putObj_heap_other (by omega)).trans (hD.trans hd2), World.putObj_heap_same (by omega)⟩, hI _ _ _ hi3 (by omega) (Apart.put1 W3 _)⟩, by simp; omega, ?_⟩
        exact hK _ _ _ _ hk2 (fun k hk => World.putObj_heap_other (by omega)) hk
      | ret => exact hp.elim
      | exit id => exact hp.elim
      | goto t => exact hp.elim
      | panic ch => exact hp.elim
      | outgrown => exact hp.elim
    · rintro e W2 ⟨⟨v, rfl⟩, xs, hS, ⟨hA, hd, hl⟩, hi⟩
      refine ⟨none, _, run_endLoop hl (by simp [rec1]), ?_⟩
      exact hdone xs _ (by simpa using hA) hS (hI _ _ _ hi (by omega) (Apart.put1 W2 _)) ((World.putObj_heap_other (by omega)).trans hd)
end Go.Proofs.Ytcmbbmilldhnnaa
/- Windows' halves in plain numbers. -/
namespace Go.Proofs.Ytcmbbmilldhnnaa

/-- A sum of terms, so many to come, the k-th next. -/
def besL (u : Int) : Nat → Nat → Int → Int → Int
  | 0, _, _, s => s
  | n + 1, k, t, s => besL u n (k + 1) (t * u / ((k * k * 65536 : Nat) : Int)) (s + t * u / ((k * k * 65536 : Nat) : Int))
def bessL (u : Int) : Int := besL u 63 1 16384 16384
/-- No number on the way is too great. -/
def besOk (u : Int) : Nat → Nat → Int → Int → Bool
  | 0, _, t, s => decide (0 ≤ t) && decide (0 ≤ s) && decide (s ≤ 1000000000000000)
  | n + 1, k, t, s => decide (0 ≤ t) && decide (t * u ≤ 4611686018427387904) && decide (0 ≤ s) && decide (s ≤ 1000000000000000) && besOk u n (k + 1) (t * u / ((k * k * 65536 : Nat) : Int)) (s + t * u / ((k * k * 65536 : Nat) : Int))
theorem besL_zero (u : Int) : ∀ n k s, besL u n k 0 s = s
  | 0, _, _ => rfl
  | n + 1, k, s => by rw [besL]; simp only [Int.zero_mul, Int.zero_ediv, Int.add_zero]; exact besL_zero u n _ _

theorem besOk_bounds {u : Int} {n k : Nat} {t s : Int} (h : besOk u n k t s = true) : 0 ≤ t ∧ 0 ≤ s ∧ s ≤ 1000000000000000 := by
  cases n with
  | zero => simp only [besOk, Bool.and_eq_true, decide_eq_true_eq] at h; exact ⟨h.1.1, h.1.2, h.2⟩
  | succ n => simp only [besOk, Bool.and_eq_true, decide_eq_true_eq] at h; exact ⟨h.1.1.1.1, h.1.1.2, h.1.2⟩

/-- How often a divisor goes into a number times 2^i, bit by bit. -/
def overL (by' : Int) : Nat → Int → Int → Int
  | 0, _, q => q
  | i + 1, n, q => if 2 * n < by' then overL by' i (2 * n) (2 * q) else overL by' i (2 * n - by') (2 * q + 1)
/-- What the j-th value is a sum's term of. -/
def uL (m by' j : Nat) : Int := ((42389456769 * by' * by' * j * (m - j) : Nat) : Int) / ((m * m * 65536 : Nat) : Int)
def sumL (m by' : Nat) : Nat → Int
  | 0 => bessL (uL m by' 0)
  | j + 1 => sumL m by' j + bessL (uL m by' (j + 1))
def kbdL (m by' : Nat) : List Int := (List.range m).map fun n => ((sqN (overL (sumL m by' m) 44 (sumL m by' n) 0).toNat : Nat) : Int)
def sineHalf (m step : Nat) : List Int := (List.range m).map fun n : Nat => rnd (sinL (((2 * n + 1) * step : Nat) : Int)) 4
def halfL (shape : Int) (short : Bool) : List Int :=
  if shape = 0 then (if short then sineHalf 32 8 else sineHalf 256 1) else (if short then kbdL 32 6 else kbdL 256 4)

theorem bes_ok_long : (List.range 257).all (fun j => decide (0 ≤ uL 256 4 j) && besOk (uL 256 4 j) 63 1 16384 16384) = true := by decide +kernel
theorem bes_ok_short : (List.range 33).all (fun j => decide (0 ≤ uL 32 6 j) && besOk (uL 32 6 j) 63 1 16384 16384) = true := by decide +kernel
end Go.Proofs.Ytcmbbmilldhnnaa
/- window.bessel, window.over: what each call answers. -/
set_option linter.unusedVariables false
namespace Go.Proofs.Ytcmbbmilldhnnaa
open Go.ChangeShapes Go.WideShapes Go.ChangeAt Go.RowKit

set_option maxRecDepth 100000 in
set_option maxHeartbeats 1000000 in
theorem bessel_ok (u : Int) (u0 : 0 ≤ u) (hok : besOk u 63 1 16384 16384 = true) (w : World) :
    Calls Try.prog 73 #[.int .i64 u] w fun e w' => e = .returned (.int .i64 (bessL u)) ∧ w = w' := by
  have HK := Lib.hid hok
  clear hok
  go_enter Try.func73, Try.ntmps73
  go_wp2
  go_loop [3, 4, 5] (fun T S K => ∃ (n k : Nat) (t s : Int), T = .int .i64 t ∧ S = .int .i64 s ∧ K = .int .i64 k ∧ n + k = 64 ∧ 1 ≤ k ∧ Hid (besL u n k t s = bessL u) ∧ Hid (besOk u n k t s = true)) (fun _ _ k => (64 - intOf k).toNat)
  case atStart => exact ⟨63, 1, 16384, 16384, rfl, rfl, rfl, rfl, by decide, Lib.hid rfl, HK⟩
  case round =>
    obtain ⟨n, k, t, s, rfl, rfl, rfl, hnk, hk1, hb, ho⟩ := hrel
    obtain ⟨t0, s0, s1⟩ := besOk_bounds ho.out
    by_cases hn : n = 0
    · have hf : Hid (s = bessL u) := by have := hb.out; rw [hn] at this; exact this
      have hd : decide ((k : Int) < 64) = false := by simp; omega
      clear hb ho hn
      go_wp2
      go_ret
      exact ⟨ret_int hf.out, rfl⟩
    · obtain ⟨n, rfl⟩ : ∃ m, n = m + 1 := ⟨n - 1, by omega⟩
      have hd : decide ((k : Int) < 64) = true := by simp; omega
      by_cases ht : t = 0
      · have hf : Hid (s = bessL u) := by have := hb.out; rw [ht, besL_zero] at this; exact this
        have hd2 : decide ((0 : Int) < t) = false := by simp; omega
        clear hb ho hn ht
        go_wp2
        go_ret
        exact ⟨ret_int hf.out, rfl⟩
      · have hd2 : decide ((0 : Int) < t) = true := by simp; omega
        have h1 := ho.out
        simp only [besOk, Bool.and_eq_true, decide_eq_true_eq] at h1
        obtain ⟨⟨⟨⟨_, b1⟩, _⟩, _⟩, h2⟩ := h1
        obtain ⟨t0', s0', s1'⟩ := besOk_bounds h2
        have b0 : 0 ≤ t * u := Int.mul_nonneg t0 u0
        have hkk := sq_le (show k ≤ 63 by omega)
        have hkk1 := sq_le hk1
        have e1 : ((k : Int) * k) = ((k * k : Nat) : Int) := by simp
        obtain ⟨k0, k2⟩ : (1 : Int) ≤ (k : Int) * k ∧ (k : Int) * k ≤ 3969 := by rw [e1]; omega
        have e2 : ((k * k * 65536 : Nat) : Int) = (k : Int) * k * 65536 := by simp
        rw [e2] at h2 t0' s0' s1'
        have hq := Int.ediv_le_self ((k : Int) * k * 65536) b0
        have H2 := Lib.hid h2
        have HB : Hid (besL u n (k + 1) (t * u / ((k : Int) * k * 65536)) (s + t * u / ((k : Int) * k * 65536)) = bessL u) := by
          have := hb.out; rw [besL, e2] at this; exact this
        clear h2 hb ho hn ht e1 e2 hkk hkk1
        go_wp2
        go_round
        case rel => exact ⟨n, k + 1, _, _, rfl, rfl, by go_num, by omega, by omega, HB, H2⟩
        case measure => simp [intOf]; omega
end Go.Proofs.Ytcmbbmilldhnnaa
/- window.over: what each call answers. -/
set_option linter.unusedVariables false
namespace Go.Proofs.Ytcmbbmilldhnnaa
open Go.ChangeShapes Go.WideShapes Go.ChangeAt Go.RowKit

/-- Two captured variables, in blocks of their own. -/
def Two (N : Nat) (n b : Int) (w : World) : Prop := w.heap[N]? = some (.cells #[.int .i64 n] 3 (0, 0)) ∧ w.heap[N + 1]? = some (.cells #[.int .i64 b] 3 (0, 0))
theorem Two.set {N : Nat} {n b : Int} {w : World} (h : Two N n b w) (m : Int) : Two N m b (w.setCell ⟨N, 0, none⟩ (.int .i64 m)) :=
  ⟨one_setCell h.1, by rw [Below.heap_setCell _ _ _ _ (by simp)]; exact h.2⟩
theorem Two.new (w : World) (n b : Int) : Two w.heap.size n b ((w.alloc (.cells #[.int .i64 n] 3)).alloc (.cells #[.int .i64 b] 3)) := by
  constructor
  · show ((w.heap.push _).push _)[w.heap.size]? = _
    simp [Array.getElem?_push]
  · show ((w.heap.push _).push _)[w.heap.size + 1]? = _
    rw [Array.getElem?_push, if_pos (by simp)]

def ROne (N : Nat) (n b : Int) (w : World) (e : Ending) (w' : World) : Prop :=
  e = .returned (.int .i64 (if 2 * n < b then 0 else 1)) ∧ Two N (if 2 * n < b then 2 * n else 2 * n - b) b w' ∧ Below N w w'
theorem over1_lt (N : Nat) (n b : Int) (n0 : 0 ≤ n) (n1 : n ≤ 2305843009213693952) (b0 : 0 ≤ b) (hlt : 2 * n < b) (w : World) (h : Two N n b w) :
    Calls Try.prog 82 #[.pointer (some ⟨N, 0, none⟩), .pointer (some ⟨N + 1, 0, none⟩)] w (ROne N n b w) := by
  have c1 := cell_of_one h.1
  have c2 := cell_of_one h.2
  have f1 := free_of_one h.1
  have h1 := h.set (2 * n)
  have H1 := Lib.hid h1
  have c3 := cell_of_one h1.1
  have c4 := cell_of_one h1.2
  have f3 := free_of_one h1.1
  have hb : Below N w (w.setCell ⟨N, 0, none⟩ (.int .i64 (2 * n))) := (Below.refl _ _).setCell (p := ⟨N, 0, none⟩) (Nat.le_refl _) _
  have e0 : n * 2 = 2 * n := by omega
  have hl := Lib.hid hlt
  clear h h1
  go_enter Try.func82, Try.ntmps82
  go_wp2
  go_ret
  exact ⟨ret_int (if_pos hl.out).symm, by rw [if_pos hl.out]; exact H1.out, hb⟩
theorem over1_ge (N : Nat) (n b : Int) (n0 : 0 ≤ n) (n1 : n ≤ 2305843009213693952) (b0 : 0 ≤ b) (hlt : ¬ 2 * n < b) (w : World) (h : Two N n b w) :
    Calls Try.prog 82 #[.pointer (some ⟨N, 0, none⟩), .pointer (some ⟨N + 1, 0, none⟩)] w (ROne N n b w) := by
  have c1 := cell_of_one h.1
  have c2 := cell_of_one h.2
  have f1 := free_of_one h.1
  have h1 := h.set (2 * n)
  have c3 := cell_of_one h1.1
  have c4 := cell_of_one h1.2
  have f3 := free_of_one h1.1
  have h2 := h1.set (2 * n - b)
  have H2 := Lib.hid h2
  have hb : Below N w ((w.setCell ⟨N, 0, none⟩ (.int .i64 (2 * n))).setCell ⟨N, 0, none⟩ (.int .i64 (2 * n - b))) := ((Below.refl _ _).setCell (p := ⟨N, 0, none⟩) (Nat.le_refl _) _).setCell (p := ⟨N, 0, none⟩) (Nat.le_refl _) _
  have e0 : n * 2 = 2 * n := by omega
  have hl := Lib.hid hlt
  clear h h1 h2
  go_enter Try.func82, Try.ntmps82
  go_wp2
  go_ret
  exact ⟨ret_int (if_neg (Int.not_lt.2 hl.out)).symm, by rw [if_neg (Int.not_lt.2 hl.out)]; exact H2.out, hb⟩
theorem over1_any (N : Nat) (n b : Int) (n0 : 0 ≤ n) (n1 : n ≤ 2305843009213693952) (b0 : 0 ≤ b) (w : World) (h : Two N n b w) :
    Calls Try.prog 82 #[.pointer (some ⟨N, 0, none⟩), .pointer (some ⟨N + 1, 0, none⟩)] w (ROne N n b w) := by
  by_cases hlt : 2 * n < b
  · exact over1_lt N n b n0 n1 b0 hlt w h
  · exact over1_ge N n b n0 n1 b0 hlt w h

theorem or_even (q : Int) (h0 : 0 ≤ q) (h1 : q ≤ 2305843009213693952) : bits .or .i64 (q * 2) 0 = 2 * q ∧ bits .or .i64 (q * 2) 1 = 2 * q + 1 := by
  rw [Int.mul_comm q 2]
  obtain ⟨Q, rfl⟩ : ∃ Q : Nat, q = Q := ⟨q.toNat, by omega⟩
  have a0 := i64_or_nat (2 * Q) 0 (by omega) (by decide)
  have a1 := i64_or_nat (2 * Q) 1 (by omega) (by decide)
  rw [Nat.or_zero] at a0
  rw [nat_join 1 (2 * Q) 1 (by omega) (by decide)] at a1
  constructor
  · simpa using a0
  · simpa using a1

def ROver (n b : Int) (w : World) (e : Ending) (w' : World) : Prop := e = .returned (.int .i64 (overL b 44 n 0)) ∧ Below w.heap.size w w'
set_option maxRecDepth 100000 in
set_option maxHeartbeats 1000000 in
theorem over_ok (n b : Int) (n0 : 0 ≤ n) (nb : n ≤ b) (b1 : b ≤ 1000000000000000000) (w : World) :
    Calls Try.prog 75 #[.int .i64 n, .int .i64 b] w (ROver n b w) := by
  have hmf : ∀ (fn : Fn) (first cap : Array Value) (w : World), (Instr.makeFunc fn first cap).run Try.prog w = .ok (.func fn first cap) w := fun _ _ _ _ => rfl
  have ht := Lib.hid (Two.new w n b)
  have hb0 : Below w.heap.size w ((w.alloc (.cells #[.int .i64 n] 3)).alloc (.cells #[.int .i64 b] 3)) := ((Below.refl _ _).alloc (Nat.le_refl _) _).alloc (by simp) _
  go_enter Try.func75, Try.ntmps75
  go_wp2
  go_loopw [4, 7] (fun Q I wr => ∃ (k : Nat) (q m : Int), Q = .int .i64 q ∧ I = .int .i64 k ∧ k ≤ 44 ∧ 0 ≤ q ∧ q < 2 ^ k ∧ 0 ≤ m ∧ m ≤ b ∧ Hid (Two w.heap.size m b wr) ∧ Below w.heap.size w wr ∧ Hid (overL b (44 - k) m q = overL b 44 n 0)) (fun _ I _ => 44 - (intOf I).toNat)
  case atStart => exact ⟨0, 0, n, rfl, rfl, by decide, by decide, by decide, n0, nb, ht, hb0, Lib.hid rfl⟩
  case round =>
    obtain ⟨k, q, m, rfl, rfl, hk, q0, q1, m0, m1, htw, hbw, hov⟩ := hrel
    by_cases hlt : k < 44
    · have hp : (2 : Int) ^ k ≤ 2 ^ 43 := pow_le_pow' (by omega)
      have hp2 : (2 : Int) ^ (k + 1) = 2 ^ k * 2 := Int.pow_succ 2 k
      have HP := Lib.hid hp2
      obtain ⟨o0, o1⟩ := or_even q q0 (by omega)
      have F := Lib.hid (over1_any w.heap.size m b m0 (by omega) (by omega) wr htw.out)
      have hstep := hov.out
      rw [show 44 - k = (44 - (k + 1)) + 1 by omega, overL] at hstep
      have HS := Lib.hid hstep
      clear hstep hov htw hp2
      by_cases hc : 2 * m < b
      · have HC := Lib.hid hc
        clear hc
        go_wp2_with fail
        refine F.out.mono ?_
        unfold ROne
        rw [if_pos HC.out, if_pos HC.out]
        rintro e w1 ⟨rfl, ht1, hb1⟩
        have T1 := Lib.hid ht1
        have b2 := hbw.trans hb1
        have hm := HC.out
        clear ht1 hb1 F
        go_wp2
        exact ⟨⟨k + 1, 2 * q, 2 * m, rfl, by go_num, by omega, by omega, by have := HP.out; omega, by omega, by omega, T1, b2, by have := HS.out; rw [if_pos HC.out] at this; exact this⟩, by simp [intOf]; omega⟩
      · have HC : Hid (b ≤ 2 * m) := Int.not_lt.1 hc
        clear hc
        go_wp2_with fail
        refine F.out.mono ?_
        unfold ROne
        rw [if_neg (Int.not_lt.2 HC.out), if_neg (Int.not_lt.2 HC.out)]
        rintro e w1 ⟨rfl, ht1, hb1⟩
        have T1 := Lib.hid ht1
        have b2 := hbw.trans hb1
        have hm := HC.out
        clear ht1 hb1 F
        go_wp2
        exact ⟨⟨k + 1, 2 * q + 1, 2 * m - b, rfl, by go_num, by omega, by omega, by have := HP.out; omega, by omega, by omega, T1, b2, by have := HS.out; rw [if_neg (Int.not_lt.2 HC.out)] at this; exact this⟩, by simp [intOf]; omega⟩
    · have hk44 : k = 44 := by omega
      have hf : Hid (q = overL b 44 n 0) := by have := hov.out; rw [hk44] at this; exact this
      clear hov htw hk44
      go_wp2
      go_ret
      exact ⟨ret_int hf.out, hbw⟩
end Go.Proofs.Ytcmbbmilldhnnaa
/- window.kbd's numbers. -/
namespace Go.Proofs.Ytcmbbmilldhnnaa

/-- The sum of the first so many terms. -/
def psum (m b : Nat) : Nat → Int
  | 0 => 0
  | j + 1 => psum m b j + bessL (uL m b j)
theorem uL_long {j : Nat} (h : j ≤ 256) : uL 256 4 j = 678231308304 * (j : Int) * (256 - (j : Int)) / 4294967296 := by
  have e : ((256 - j : Nat) : Int) = 256 - (j : Int) := by omega
  unfold uL
  rw [Int.natCast_mul, e, Int.natCast_mul]
  rfl
theorem uL_short {j : Nat} (h : j ≤ 32) : uL 32 6 j = 1526020443684 * (j : Int) * (32 - (j : Int)) / 67108864 := by
  have e : ((32 - j : Nat) : Int) = 32 - (j : Int) := by omega
  unfold uL
  rw [Int.natCast_mul, e, Int.natCast_mul]
  rfl
theorem fit_long {j : Nat} (h : j ≤ 256) : 0 ≤ uL 256 4 j ∧ besOk (uL 256 4 j) 63 1 16384 16384 = true := by
  have := List.all_eq_true.1 bes_ok_long j (List.mem_range.2 (by omega))
  simp only [Bool.and_eq_true, decide_eq_true_eq] at this
  exact this
theorem fit_short {j : Nat} (h : j ≤ 32) : 0 ≤ uL 32 6 j ∧ besOk (uL 32 6 j) 63 1 16384 16384 = true := by
  have := List.all_eq_true.1 bes_ok_short j (List.mem_range.2 (by omega))
  simp only [Bool.and_eq_true, decide_eq_true_eq] at this
  exact this
theorem besOk_end {u : Int} : ∀ {n k : Nat} {t s : Int}, besOk u n k t s = true → 0 ≤ besL u n k t s ∧ besL u n k t s ≤ 1000000000000000
  | 0, _, _, _, h => by obtain ⟨_, b, c⟩ := besOk_bounds h; exact ⟨b, c⟩
  | n + 1, k, t, s, h => by
    rw [besL]
    simp only [besOk, Bool.and_eq_true, decide_eq_true_eq] at h
    exact besOk_end h.2
theorem bessL_fit {u : Int} (h : besOk u 63 1 16384 16384 = true) : 0 ≤ bessL u ∧ bessL u ≤ 1000000000000000 := besOk_end h
/-- Sums rise, and none is too great. -/
theorem psum_fit {m b : Nat} (h : ∀ j, j ≤ m → besOk (uL m b j) 63 1 16384 16384 = true) : ∀ j, j ≤ m + 1 → 0 ≤ psum m b j ∧ psum m b j ≤ 1000000000000000 * j
  | 0, _ => ⟨Int.le_refl _, by show (0 : Int) ≤ _; decide⟩
  | j + 1, hj => by
    obtain ⟨a0, a1⟩ := psum_fit h j (by omega)
    obtain ⟨b0, b1⟩ := bessL_fit (h j (by omega))
    rw [psum]
    omega
theorem psum_le {m b : Nat} (h : ∀ j, j ≤ m → besOk (uL m b j) 63 1 16384 16384 = true) (i : Nat) : ∀ d, i + d ≤ m + 1 → psum m b i ≤ psum m b (i + d)
  | 0, _ => Int.le_refl _
  | d + 1, hj => by
    have a := psum_le h i d (by omega)
    obtain ⟨b0, b1⟩ := bessL_fit (h (i + d) (by omega))
    rw [← Nat.add_assoc, psum]
    omega
theorem overL_fit (b : Int) : ∀ (i : Nat) (n q : Int), 0 ≤ q → 0 ≤ overL b i n q ∧ overL b i n q + 1 ≤ (q + 1) * 2 ^ i
  | 0, _, q, h => by rw [overL]; omega
  | i + 1, n, q, h => by
    have hp : (2 : Int) ^ (i + 1) = 2 * 2 ^ i := by rw [Int.pow_succ]; omega
    have h0 : 0 ≤ (2 : Int) ^ i := Int.pow_nonneg (by decide)
    rw [overL, hp, ← Int.mul_assoc]
    split
    · obtain ⟨a, c⟩ := overL_fit b i (2 * n) (2 * q) (by omega)
      exact ⟨a, Int.le_trans c (Int.mul_le_mul_of_nonneg_right (by omega) h0)⟩
    · obtain ⟨a, c⟩ := overL_fit b i (2 * n - b) (2 * q + 1) (by omega)
      exact ⟨a, Int.le_trans c (Int.mul_le_mul_of_nonneg_right (by omega) h0)⟩
/-- The n-th value. -/
def kbdV (m b n : Nat) : Int := sqN (overL (psum m b (m + 1)) 44 (psum m b (n + 1)) 0).toNat
theorem over_nat (b n : Int) : ((overL b 44 n 0).toNat : Int) = overL b 44 n 0 ∧ (overL b 44 n 0).toNat ≤ 17592186044416 := by
  obtain ⟨a, c⟩ := overL_fit b 44 n 0 (by decide)
  have : (0 + 1 : Int) * 2 ^ 44 = 17592186044416 := by decide
  omega
end Go.Proofs.Ytcmbbmilldhnnaa
/- window.kbd: what each call answers. -/
set_option linter.unusedVariables false
namespace Go.Proofs.Ytcmbbmilldhnnaa
open Go.ChangeShapes Go.WideShapes Go.ChangeAt Go.RowKit

theorem owns_apart {w : World} {base g : Nat} {e : TypeId} {size n c : Nat} {xs : List Value} (h : w.ownsRow base e size (.slice (some ⟨g, 0, none⟩) n c) n xs) (a : Addr) (u : Value) (hne : g ≠ a.block) : (w.setCell a u).ownsRow base e size (.slice (some ⟨g, 0, none⟩) n c) n xs := by
  refine ⟨by simpa [World.setCell] using h.1, ?_⟩
  rcases h.2 with ⟨h', _⟩ | ⟨g', cap, cur, h', hg, hgg, rest⟩
  · simp at h'
  · obtain ⟨rfl, rfl⟩ : g = g' ∧ c = cap := by simpa using h'
    refine .inr ⟨g, c, cur, rfl, hg, ?_, rest⟩
    rw [Below.heap_setCell _ _ _ _ hne]
    exact hgg

def RKbdlong (w : World) (e : Ending) (w' : World) : Prop :=
  ∃ g : Nat, e = .returned (.slice (some ⟨g, 0, none⟩) 256 256) ∧ ∃ xs : List Value, w'.ownsRow w.heap.size 3 1 (.slice (some ⟨g, 0, none⟩) 256 256) 256 xs ∧ xs.length = 256 ∧ (∀ j, j < 256 → xs[j]? = some (.int .i64 (kbdV 256 4 j))) ∧ Below w.heap.size w w'
set_option maxRecDepth 100000 in
set_option maxHeartbeats 2000000 in
theorem kbd_long (w : World) :
    Calls Try.prog 64 #[.int .i64 256, .int .i64 4] w (RKbdlong w) := by
  obtain ⟨i0, hi, hz0, hz1, hz2⟩ := info_parts Try.infoInt
  have hfit := fun j (h : j ≤ 256) => (fit_long h).2
  have HP := Lib.hid (psum_fit hfit)
  have HL := Lib.hid (psum_le hfit)
  have HF := Lib.hid (fun j (h : j ≤ 256) => fit_long h)
  have HU := Lib.hid (fun j (h : j ≤ 256) => uL_long h)
  clear hfit
  go_enter Try.func64, Try.ntmps64
  go_wp2_with (at_make; refine wpList_make_full _ rfl _ _ 22 rfl w.heap.size 3 i0 (.int .i64 0) 1 Try.underlying22 hi hz0 hz1 .i64 .i64 _ _ 257 rfl rfl ?hL ?hC ?b2 ?b3 ?b4 ?_)
  case hL => rfl
  case hC => rfl
  case b2 => rw [hz2]; decide
  case b3 => decide
  case b4 => exact Nat.le_refl _
  intro w1 hown hgrow
  have hb1 : Below w.heap.size w w1 := (Below.refl _ _).grown hgrow (by simp) (by simp)
  have hg1 : w.heap.size < w1.heap.size := (hown.lt _ rfl).2
  have hown1 : w1.ownsRow w.heap.size 3 1 (.slice (some ⟨w.heap.size, 0, none⟩) 257 257) 257 (List.replicate 257 (.int .i64 0)) := by
    have e := toList_madeCells_one (.int .i64 0) 257
    rw [← e]; exact hown
  clear hgrow hown
  go_wp2
  go_loopw [6, 15] (fun S I wr => ∃ (k : Nat) (xs : List Value), S = .int .i64 (psum 256 4 k) ∧ I = .int .i64 k ∧ k ≤ 257 ∧ wr.ownsRow w.heap.size 3 1 (.slice (some ⟨w.heap.size, 0, none⟩) 257 257) 257 xs ∧ xs.length = 257 ∧ Below w.heap.size w wr ∧ w.heap.size < wr.heap.size ∧ Hid (∀ j, j < k → xs[j]? = some (.int .i64 (psum 256 4 (j + 1))))) (fun _ I _ => 257 - (intOf I).toNat)
  case atStart => exact ⟨0, _, rfl, rfl, by decide, hown1, by simp, hb1, hg1, Lib.hid (fun _ h => absurd h (Nat.not_lt_zero _))⟩
  case round =>
    obtain ⟨k, xs, rfl, rfl, hk, hrow, hlen, hbw, hgw, hxs⟩ := hrel
    by_cases hlt : k < 257
    · obtain ⟨u0, uok⟩ := HF.out k (by omega)
      rw [HU.out k (by omega)] at u0 uok
      have hbs := Lib.hid (bessel_ok _ u0 uok wr)
      obtain ⟨s0, s1⟩ := HP.out k (by omega)
      obtain ⟨s2, s3⟩ := HP.out (k + 1) (by omega)
      have hst : psum 256 4 (k + 1) = psum 256 4 k + bessL (678231308304 * (k : Int) * (256 - (k : Int)) / 4294967296) := by rw [psum, HU.out k (by omega)]
      have hkk : (0 : Int) ≤ 678231308304 * (k : Int) * (256 - (k : Int)) ∧ 678231308304 * (k : Int) * (256 - (k : Int)) ≤ 678231308304 * 256 * 256 :=
        ⟨Int.mul_nonneg (by omega) (by omega), Int.mul_le_mul (by omega) (by omega) (by omega) (by omega)⟩
      obtain ⟨p0, p1⟩ := hkk
      have hc := hrow.cellAt k (by omega)
      rw [List.getElem?_eq_getElem (by omega)] at hc
      have hf := hrow.frozenAt k
      obtain ⟨hrow2, hgr⟩ := hrow.stored k (.int .i64 (psum 256 4 (k + 1)))
      have hb2 : Below w.heap.size w (wr.setCell ⟨w.heap.size, k, none⟩ (.int .i64 (psum 256 4 (k + 1)))) := hbw.setCell (p := ⟨w.heap.size, k, none⟩) (Nat.le_refl _) _
      have hxs2 : Hid (∀ j, j < k + 1 → (xs.set k (.int .i64 (psum 256 4 (k + 1))))[j]? = some (.int .i64 (psum 256 4 (j + 1)))) := by
        intro j hj
        by_cases e : j = k
        · rw [e, List.getElem?_set_self (by omega)]
        · rw [List.getElem?_set_ne (by omega)]; exact hxs.out j (by omega)
      generalize hv : psum 256 4 (k + 1) = v at hrow2 hb2 hxs2 hst s2 s3
      have hv2 := Lib.hid hv
      clear u0 uok hv hxs hrow hgr
      go_wp2_with fail
      refine hbs.out.mono ?_
      rintro e w2 ⟨rfl, hwl⟩
      obtain rfl := hwl
      generalize hbl : bessL (678231308304 * (k : Int) * (256 - (k : Int)) / 4294967296) = bl at hst
      generalize hps : psum 256 4 k = ps at hst s0 s1
      subst hst
      clear hbl hps hbs p0 p1
      go_wp2
      exact ⟨⟨k + 1, _, by rw [hv2.out], by go_num, by omega, hrow2, by simp [hlen], hb2, by simpa [World.setCell] using hgw, hxs2⟩, by simp [intOf]; omega⟩
    · have hk1 : k = 257 := by omega
      subst hk1
      clear hlt
      go_wp2_with (at_make; refine wpList_make_full _ rfl _ _ 22 rfl w.heap.size 3 i0 (.int .i64 0) 1 Try.underlying22 hi hz0 hz1 .i64 .i64 _ _ 256 rfl rfl ?hL ?hC ?b2 ?b3 ?b4 ?_)
      case hL => rfl
      case hC => rfl
      case b2 => rw [hz2]; decide
      case b3 => decide
      case b4 => exact Nat.le_of_lt hgw
      intro w3 hown3 hgrow3
      have hgs : wr.heap.size < w3.heap.size := (hown3.lt _ rfl).2
      have hb3 : Below wr.heap.size wr w3 := (Below.refl _ _).grown hgrow3 (by simp) (by simp)
      have hbw3 : Below w.heap.size w w3 := hbw.trans (hb3.mono (Nat.le_of_lt hgw))
      have hrowS := owns_keep hrow hb3
      have hown4 : w3.ownsRow w.heap.size 3 1 (.slice (some ⟨wr.heap.size, 0, none⟩) 256 256) 256 (List.replicate 256 (.int .i64 0)) := by
        have e := toList_madeCells_one (.int .i64 0) 256
        rw [← e]; exact hown3
      generalize hG : wr.heap.size = G at hown4 hgs hb3 hgw
      clear hgrow3 hown3 hrow hb3 hbw
      obtain ⟨s2, s3⟩ := HP.out 257 (by omega)
      generalize hT : psum 256 4 257 = T at s2 s3
      have HT := Lib.hid hT
      clear hT
      go_wp2
      go_loopw [45] (fun I wq => ∃ (k : Nat) (ys : List Value), I = .int .i64 k ∧ k ≤ 256 ∧ wq.ownsRow w.heap.size 3 1 (.slice (some ⟨w.heap.size, 0, none⟩) 257 257) 257 xs ∧ wq.ownsRow w.heap.size 3 1 (.slice (some ⟨G, 0, none⟩) 256 256) 256 ys ∧ ys.length = 256 ∧ Below w.heap.size w wq ∧ G < wq.heap.size ∧ Hid (∀ j, j < k → ys[j]? = some (.int .i64 (kbdV 256 4 j)))) (fun I _ => 256 - (intOf I).toNat)
      case atStart => exact ⟨0, _, rfl, by decide, hrowS, hown4, by simp, hbw3, hgs, Lib.hid (fun _ h => absurd h (Nat.not_lt_zero _))⟩
      case round =>
        obtain ⟨k, ys, rfl, hk, hS, hO, hlenO, hbq, hgq, hys⟩ := hrel
        by_cases hlt : k < 256
        · have hle := HL.out (k + 1) (257 - (k + 1)) (by omega)
          rw [show k + 1 + (257 - (k + 1)) = 257 by omega, HT.out] at hle
          obtain ⟨a0, a1⟩ := HP.out (k + 1) (by omega)
          obtain ⟨v0, v1⟩ := over_nat T (psum 256 4 (k + 1))
          have hov := over_ok (psum 256 4 (k + 1)) T a0 hle (by omega) wr
          have hv : kbdV 256 4 k = sqN (overL T 44 (psum 256 4 (k + 1)) 0).toNat := by rw [kbdV, HT.out]
          unfold ROver at hov
          rw [← v0] at hov
          generalize (overL T 44 (psum 256 4 (k + 1)) 0).toNat = N at hov hv v1
          clear v0
          have hcS := hS.cellAt k (by omega)
          rw [hxs.out k (by omega)] at hcS
          generalize psum 256 4 (k + 1) = P at hov hcS hle a0 a1
          have OV := Lib.hid hov
          have HV := Lib.hid hv
          clear hov hv
          go_wp2_with fail
          refine OV.out.mono ?_
          rintro e w4 ⟨rfl, hb4⟩
          go_wp2_with fail
          refine (sqrt_ok N (by omega) _).mono ?_
          rintro e w5 ⟨rfl, hb5⟩
          have hb45 := hb4.trans (hb5.mono hb4.size)
          have hS2 := owns_keep hS hb45
          have hO2 := owns_keep hO hb45
          have hbq2 := hbq.trans (hb45.mono hbq.size)
          have hsz := hb45.size
          have hc := hO2.cellAt k (by omega)
          rw [List.getElem?_eq_getElem (by omega)] at hc
          have hf := hO2.frozenAt k
          obtain ⟨hO3, hgr⟩ := hO2.stored k (.int .i64 (sqN N))
          have hb6 : Below w.heap.size w (w5.setCell ⟨G, k, none⟩ (.int .i64 (sqN N))) := hbq2.setCell (p := ⟨G, k, none⟩) (Nat.le_of_lt hgw) _
          have hS3 := owns_apart hS2 ⟨G, k, none⟩ (.int .i64 (sqN N)) (Nat.ne_of_lt hgw)
          have hys2 : Hid (∀ j, j < k + 1 → (ys.set k (.int .i64 (sqN N)))[j]? = some (.int .i64 (kbdV 256 4 j))) := by
            intro j hj
            by_cases e : j = k
            · rw [e, List.getElem?_set_self (by omega), HV.out]
            · rw [List.getElem?_set_ne (by omega)]; exact hys.out j (by omega)
          clear hys OV hb4 hb5 hO hS hS2 hO2 hbq hgr hb45 hbq2
          go_wp2
          exact ⟨⟨k + 1, _, by go_num, by omega, hS3, hO3, by simp [hlenO], hb6, by simpa [World.setCell] using (show G < w5.heap.size by omega), hys2⟩, by simp [intOf]; omega⟩
        · have hkM : k = 256 := by omega
          subst hkM
          go_wp2
          go_ret
          exact ⟨G, rfl, ys, hO, hlenO, hys.out, hbq⟩

def RKbdshort (w : World) (e : Ending) (w' : World) : Prop :=
  ∃ g : Nat, e = .returned (.slice (some ⟨g, 0, none⟩) 32 32) ∧ ∃ xs : List Value, w'.ownsRow w.heap.size 3 1 (.slice (some ⟨g, 0, none⟩) 32 32) 32 xs ∧ xs.length = 32 ∧ (∀ j, j < 32 → xs[j]? = some (.int .i64 (kbdV 32 6 j))) ∧ Below w.heap.size w w'
set_option maxRecDepth 100000 in
set_option maxHeartbeats 2000000 in
theorem kbd_short (w : World) :
    Calls Try.prog 64 #[.int .i64 32, .int .i64 6] w (RKbdshort w) := by
  obtain ⟨i0, hi, hz0, hz1, hz2⟩ := info_parts Try.infoInt
  have hfit := fun j (h : j ≤ 32) => (fit_short h).2
  have HP := Lib.hid (psum_fit hfit)
  have HL := Lib.hid (psum_le hfit)
  have HF := Lib.hid (fun j (h : j ≤ 32) => fit_short h)
  have HU := Lib.hid (fun j (h : j ≤ 32) => uL_short h)
  clear hfit
  go_enter Try.func64, Try.ntmps64
  go_wp2_with (at_make; refine wpList_make_full _ rfl _ _ 22 rfl w.heap.size 3 i0 (.int .i64 0) 1 Try.underlying22 hi hz0 hz1 .i64 .i64 _ _ 33 rfl rfl ?hL ?hC ?b2 ?b3 ?b4 ?_)
  case hL => rfl
  case hC => rfl
  case b2 => rw [hz2]; decide
  case b3 => decide
  case b4 => exact Nat.le_refl _
  intro w1 hown hgrow
  have hb1 : Below w.heap.size w w1 := (Below.refl _ _).grown hgrow (by simp) (by simp)
  have hg1 : w.heap.size < w1.heap.size := (hown.lt _ rfl).2
  have hown1 : w1.ownsRow w.heap.size 3 1 (.slice (some ⟨w.heap.size, 0, none⟩) 33 33) 33 (List.replicate 33 (.int .i64 0)) := by
    have e := toList_madeCells_one (.int .i64 0) 33
    rw [← e]; exact hown
  clear hgrow hown
  go_wp2
  go_loopw [6, 15] (fun S I wr => ∃ (k : Nat) (xs : List Value), S = .int .i64 (psum 32 6 k) ∧ I = .int .i64 k ∧ k ≤ 33 ∧ wr.ownsRow w.heap.size 3 1 (.slice (some ⟨w.heap.size, 0, none⟩) 33 33) 33 xs ∧ xs.length = 33 ∧ Below w.heap.size w wr ∧ w.heap.size < wr.heap.size ∧ Hid (∀ j, j < k → xs[j]? = some (.int .i64 (psum 32 6 (j + 1))))) (fun _ I _ => 33 - (intOf I).toNat)
  case atStart => exact ⟨0, _, rfl, rfl, by decide, hown1, by simp, hb1, hg1, Lib.hid (fun _ h => absurd h (Nat.not_lt_zero _))⟩
  case round =>
    obtain ⟨k, xs, rfl, rfl, hk, hrow, hlen, hbw, hgw, hxs⟩ := hrel
    by_cases hlt : k < 33
    · obtain ⟨u0, uok⟩ := HF.out k (by omega)
      rw [HU.out k (by omega)] at u0 uok
      have hbs := Lib.hid (bessel_ok _ u0 uok wr)
      obtain ⟨s0, s1⟩ := HP.out k (by omega)
      obtain ⟨s2, s3⟩ := HP.out (k + 1) (by omega)
      have hst : psum 32 6 (k + 1) = psum 32 6 k + bessL (1526020443684 * (k : Int) * (32 - (k : Int)) / 67108864) := by rw [psum, HU.out k (by omega)]
      have hkk : (0 : Int) ≤ 1526020443684 * (k : Int) * (32 - (k : Int)) ∧ 1526020443684 * (k : Int) * (32 - (k : Int)) ≤ 1526020443684 * 32 * 32 :=
        ⟨Int.mul_nonneg (by omega) (by omega), Int.mul_le_mul (by omega) (by omega) (by omega) (by omega)⟩
      obtain ⟨p0, p1⟩ := hkk
      have hc := hrow.cellAt k (by omega)
      rw [List.getElem?_eq_getElem (by omega)] at hc
      have hf := hrow.frozenAt k
      obtain ⟨hrow2, hgr⟩ := hrow.stored k (.int .i64 (psum 32 6 (k + 1)))
      have hb2 : Below w.heap.size w (wr.setCell ⟨w.heap.size, k, none⟩ (.int .i64 (psum 32 6 (k + 1)))) := hbw.setCell (p := ⟨w.heap.size, k, none⟩) (Nat.le_refl _) _
      have hxs2 : Hid (∀ j, j < k + 1 → (xs.set k (.int .i64 (psum 32 6 (k + 1))))[j]? = some (.int .i64 (psum 32 6 (j + 1)))) := by
        intro j hj
        by_cases e : j = k
        · rw [e, List.getElem?_set_self (by omega)]
        · rw [List.getElem?_set_ne (by omega)]; exact hxs.out j (by omega)
      generalize hv : psum 32 6 (k + 1) = v at hrow2 hb2 hxs2 hst s2 s3
      have hv2 := Lib.hid hv
      clear u0 uok hv hxs hrow hgr
      go_wp2_with fail
      refine hbs.out.mono ?_
      rintro e w2 ⟨rfl, hwl⟩
      obtain rfl := hwl
      generalize hbl : bessL (1526020443684 * (k : Int) * (32 - (k : Int)) / 67108864) = bl at hst
      generalize hps : psum 32 6 k = ps at hst s0 s1
      subst hst
      clear hbl hps hbs p0 p1
      go_wp2
      exact ⟨⟨k + 1, _, by rw [hv2.out], by go_num, by omega, hrow2, by simp [hlen], hb2, by simpa [World.setCell] using hgw, hxs2⟩, by simp [intOf]; omega⟩
    · have hk1 : k = 33 := by omega
      subst hk1
      clear hlt
      go_wp2_with (at_make; refine wpList_make_full _ rfl _ _ 22 rfl w.heap.size 3 i0 (.int .i64 0) 1 Try.underlying22 hi hz0 hz1 .i64 .i64 _ _ 32 rfl rfl ?hL ?hC ?b2 ?b3 ?b4 ?_)
      case hL => rfl
      case hC => rfl
      case b2 => rw [hz2]; decide
      case b3 => decide
      case b4 => exact Nat.le_of_lt hgw
      intro w3 hown3 hgrow3
      have hgs : wr.heap.size < w3.heap.size := (hown3.lt _ rfl).2
      have hb3 : Below wr.heap.size wr w3 := (Below.refl _ _).grown hgrow3 (by simp) (by simp)
      have hbw3 : Below w.heap.size w w3 := hbw.trans (hb3.mono (Nat.le_of_lt hgw))
      have hrowS := owns_keep hrow hb3
      have hown4 : w3.ownsRow w.heap.size 3 1 (.slice (some ⟨wr.heap.size, 0, none⟩) 32 32) 32 (List.replicate 32 (.int .i64 0)) := by
        have e := toList_madeCells_one (.int .i64 0) 32
        rw [← e]; exact hown3
      generalize hG : wr.heap.size = G at hown4 hgs hb3 hgw
      clear hgrow3 hown3 hrow hb3 hbw
      obtain ⟨s2, s3⟩ := HP.out 33 (by omega)
      generalize hT : psum 32 6 33 = T at s2 s3
      have HT := Lib.hid hT
      clear hT
      go_wp2
      go_loopw [45] (fun I wq => ∃ (k : Nat) (ys : List Value), I = .int .i64 k ∧ k ≤ 32 ∧ wq.ownsRow w.heap.size 3 1 (.slice (some ⟨w.heap.size, 0, none⟩) 33 33) 33 xs ∧ wq.ownsRow w.heap.size 3 1 (.slice (some ⟨G, 0, none⟩) 32 32) 32 ys ∧ ys.length = 32 ∧ Below w.heap.size w wq ∧ G < wq.heap.size ∧ Hid (∀ j, j < k → ys[j]? = some (.int .i64 (kbdV 32 6 j)))) (fun I _ => 32 - (intOf I).toNat)
      case atStart => exact ⟨0, _, rfl, by decide, hrowS, hown4, by simp, hbw3, hgs, Lib.hid (fun _ h => absurd h (Nat.not_lt_zero _))⟩
      case round =>
        obtain ⟨k, ys, rfl, hk, hS, hO, hlenO, hbq, hgq, hys⟩ := hrel
        by_cases hlt : k < 32
        · have hle := HL.out (k + 1) (33 - (k + 1)) (by omega)
          rw [show k + 1 + (33 - (k + 1)) = 33 by omega, HT.out] at hle
          obtain ⟨a0, a1⟩ := HP.out (k + 1) (by omega)
          obtain ⟨v0, v1⟩ := over_nat T (psum 32 6 (k + 1))
          have hov := over_ok (psum 32 6 (k + 1)) T a0 hle (by omega) wr
          have hv : kbdV 32 6 k = sqN (overL T 44 (psum 32 6 (k + 1)) 0).toNat := by rw [kbdV, HT.out]
          unfold ROver at hov
          rw [← v0] at hov
          generalize (overL T 44 (psum 32 6 (k + 1)) 0).toNat = N at hov hv v1
          clear v0
          have hcS := hS.cellAt k (by omega)
          rw [hxs.out k (by omega)] at hcS
          generalize psum 32 6 (k + 1) = P at hov hcS hle a0 a1
          have OV := Lib.hid hov
          have HV := Lib.hid hv
          clear hov hv
          go_wp2_with fail
          refine OV.out.mono ?_
          rintro e w4 ⟨rfl, hb4⟩
          go_wp2_with fail
          refine (sqrt_ok N (by omega) _).mono ?_
          rintro e w5 ⟨rfl, hb5⟩
          have hb45 := hb4.trans (hb5.mono hb4.size)
          have hS2 := owns_keep hS hb45
          have hO2 := owns_keep hO hb45
          have hbq2 := hbq.trans (hb45.mono hbq.size)
          have hsz := hb45.size
          have hc := hO2.cellAt k (by omega)
          rw [List.getElem?_eq_getElem (by omega)] at hc
          have hf := hO2.frozenAt k
          obtain ⟨hO3, hgr⟩ := hO2.stored k (.int .i64 (sqN N))
          have hb6 : Below w.heap.size w (w5.setCell ⟨G, k, none⟩ (.int .i64 (sqN N))) := hbq2.setCell (p := ⟨G, k, none⟩) (Nat.le_of_lt hgw) _
          have hS3 := owns_apart hS2 ⟨G, k, none⟩ (.int .i64 (sqN N)) (Nat.ne_of_lt hgw)
          have hys2 : Hid (∀ j, j < k + 1 → (ys.set k (.int .i64 (sqN N)))[j]? = some (.int .i64 (kbdV 32 6 j))) := by
            intro j hj
            by_cases e : j = k
            · rw [e, List.getElem?_set_self (by omega), HV.out]
            · rw [List.getElem?_set_ne (by omega)]; exact hys.out j (by omega)
          clear hys OV hb4 hb5 hO hS hS2 hO2 hbq hgr hb45 hbq2
          go_wp2
          exact ⟨⟨k + 1, _, by go_num, by omega, hS3, hO3, by simp [hlenO], hb6, by simpa [World.setCell] using (show G < w5.heap.size by omega), hys2⟩, by simp [intOf]; omega⟩
        · have hkM : k = 32 := by omega
          subst hkM
          go_wp2
          go_ret
          exact ⟨G, rfl, ys, hO, hlenO, hys.out, hbq⟩
end Go.Proofs.Ytcmbbmilldhnnaa
/- window.Half: what each call answers. -/
set_option linter.unusedVariables false
namespace Go.Proofs.Ytcmbbmilldhnnaa
open Go.ChangeShapes Go.WideShapes Go.ChangeAt Go.RowKit

/-- A half's values: of sines, and of the other shape. -/
def sineV (step n : Nat) : Int := rnd (sinL (((2 * n + 1) * step : Nat) : Int)) 4
def hvLen (short : Bool) : Nat := if short then 32 else 256
def halfV (shape : Int) (short : Bool) (n : Nat) : Int :=
  if shape = 0 then (if short then sineV 8 n else sineV 1 n) else (if short then kbdV 32 6 n else kbdV 256 4 n)
def hvL (shape : Int) (short : Bool) : List Int := (List.range (hvLen short)).map (halfV shape short)
theorem half_length (shape : Int) (short : Bool) : (hvL shape short).length = hvLen short := by simp [hvL]

def RHalf (shape : Int) (short : Bool) (w : World) (e : Ending) (w' : World) : Prop :=
  ∃ g : Nat, e = .returned (.tuple #[.slice (some ⟨g, 0, none⟩) (hvLen short) (hvLen short), .int .i64 0]) ∧ w'.ownsRow w.heap.size 3 1 (.slice (some ⟨g, 0, none⟩) (hvLen short) (hvLen short)) (hvLen short) ((hvL shape short).map (Value.int .i64)) ∧ Below w.heap.size w w'

set_option maxRecDepth 100000 in
set_option maxHeartbeats 2000000 in
theorem half_sine_long (w : World) : Calls Try.prog 54 #[.int .u8 0, .bool false] w (RHalf 0 false w) := by
  obtain ⟨i0, hi, hz0, hz1, hz2⟩ := info_parts Try.infoInt
  go_enter Try.func54, Try.ntmps54
  go_wp2_with (at_make; refine wpList_make_full _ rfl _ _ 22 rfl w.heap.size 3 i0 (.int .i64 0) 1 Try.underlying22 hi hz0 hz1 .i64 .i64 _ _ 256 rfl rfl ?hL ?hC ?b2 ?b3 ?b4 ?_)
  case hL => rfl
  case hC => rfl
  case b2 => rw [hz2]; decide
  case b3 => decide
  case b4 => exact Nat.le_refl _
  intro w1 hown hgrow
  have hb1 : Below w.heap.size w w1 := (Below.refl _ _).grown hgrow (by simp) (by simp)
  have hg1 : w.heap.size < w1.heap.size := (hown.lt _ rfl).2
  have hown1 : w1.ownsRow w.heap.size 3 1 (.slice (some ⟨w.heap.size, 0, none⟩) 256 256) 256 (List.replicate 256 (.int .i64 0)) := by
    have e := toList_madeCells_one (.int .i64 0) 256
    rw [← e]; exact hown
  clear hgrow hown
  go_wp2
  go_loopw [19] (fun I wr => ∃ (k : Nat) (xs : List Value), I = .int .i64 k ∧ k ≤ 256 ∧ wr.ownsRow w.heap.size 3 1 (.slice (some ⟨w.heap.size, 0, none⟩) 256 256) 256 xs ∧ xs.length = 256 ∧ Below w.heap.size w wr ∧ w.heap.size < wr.heap.size ∧ Hid (∀ j, j < k → xs[j]? = some (.int .i64 (sineV 1 j)))) (fun I _ => 256 - (intOf I).toNat)
  case atStart => exact ⟨0, _, rfl, by decide, hown1, by simp, hb1, hg1, Lib.hid (fun _ h => absurd h (Nat.not_lt_zero _))⟩
  case round =>
    obtain ⟨k, xs, rfl, hk, hO, hlenO, hbq, hgq, hxs⟩ := hrel
    by_cases hlt : k < 256
    · have ha : (((2 * k + 1) * 1 : Nat) : Int) = 2 * (k : Int) + 1 := by simp
      have hs := sin_ok (2 * (k : Int) + 1) wr
      have hv : sineV 1 k = rnd (sinL (2 * (k : Int) + 1)) 4 := by rw [sineV, ha]
      obtain ⟨v0, v1⟩ := sin_range (2 * (k : Int) + 1)
      generalize sinL (2 * (k : Int) + 1) = S at hs hv v0 v1
      have HS := Lib.hid hs
      have HV := Lib.hid hv
      clear hs hv ha
      go_wp2_with fail
      refine HS.out.mono ?_
      rintro e w4 ⟨rfl, hb4⟩
      go_wp2_with fail
      refine (round_ok S 4 (by omega) (by omega) (by decide) _).mono ?_
      rintro e w5 ⟨rfl, nn, rfl⟩
      have hb45 : Below wr.heap.size wr (w4.drewN nn) := below_drewN hb4 nn
      have hO2 := owns_keep hO hb45
      have hbq2 := hbq.trans (hb45.mono hbq.size)
      have hsz := hb45.size
      generalize w4.drewN nn = w5 at hO2 hbq2 hsz
      have hc := hO2.cellAt k (by omega)
      rw [List.getElem?_eq_getElem (by omega)] at hc
      have hf := hO2.frozenAt k
      obtain ⟨hO3, hgr⟩ := hO2.stored k (.int .i64 (rnd S 4))
      have hb6 : Below w.heap.size w (w5.setCell ⟨w.heap.size, k, none⟩ (.int .i64 (rnd S 4))) := hbq2.setCell (p := ⟨w.heap.size, k, none⟩) (Nat.le_refl _) _
      have hxs2 : Hid (∀ j, j < k + 1 → (xs.set k (.int .i64 (rnd S 4)))[j]? = some (.int .i64 (sineV 1 j))) := by
        intro j hj
        by_cases e : j = k
        · rw [e, List.getElem?_set_self (by omega), HV.out]
        · rw [List.getElem?_set_ne (by omega)]; exact hxs.out j (by omega)
      clear hxs HS hb4 hO hO2 hbq hgr hb45 hbq2
      go_wp2
      exact ⟨⟨k + 1, _, by go_num, by omega, hO3, by simp [hlenO], hb6, by simpa [World.setCell] using (show w.heap.size < w5.heap.size by omega), hxs2⟩, by simp [intOf]; omega⟩
    · have hkM : k = 256 := by omega
      subst hkM
      have hend := row_eq hlenO hxs.out
      have HE := Lib.hid hend
      clear hend hxs
      go_wp2
      go_ret2
      refine ⟨w.heap.size, rfl, ?_, hbq⟩
      have : (hvL 0 false).map (Value.int .i64) = xs := HE.out.symm
      rw [this]
      exact hO

set_option maxRecDepth 100000 in
set_option maxHeartbeats 2000000 in
theorem half_kbd_long (w : World) : Calls Try.prog 54 #[.int .u8 1, .bool false] w (RHalf 1 false w) := by
  go_enter Try.func54, Try.ntmps54
  go_wp2_with fail
  refine (kbd_long _).mono ?_
  rintro e w4 ⟨g, rfl, xs, hO, hlen, hxs, hb⟩
  have HE := Lib.hid (row_eq hlen hxs)
  clear hxs
  go_wp2
  go_ret2
  refine ⟨g, rfl, ?_, hb⟩
  have : (hvL 1 false).map (Value.int .i64) = xs := HE.out.symm
  rw [this]
  exact hO

set_option maxRecDepth 100000 in
set_option maxHeartbeats 2000000 in
theorem half_sine_short (w : World) : Calls Try.prog 54 #[.int .u8 0, .bool true] w (RHalf 0 true w) := by
  obtain ⟨i0, hi, hz0, hz1, hz2⟩ := info_parts Try.infoInt
  go_enter Try.func54, Try.ntmps54
  go_wp2_with (at_make; refine wpList_make_full _ rfl _ _ 22 rfl w.heap.size 3 i0 (.int .i64 0) 1 Try.underlying22 hi hz0 hz1 .i64 .i64 _ _ 32 rfl rfl ?hL ?hC ?b2 ?b3 ?b4 ?_)
  case hL => rfl
  case hC => rfl
  case b2 => rw [hz2]; decide
  case b3 => decide
  case b4 => exact Nat.le_refl _
  intro w1 hown hgrow
  have hb1 : Below w.heap.size w w1 := (Below.refl _ _).grown hgrow (by simp) (by simp)
  have hg1 : w.heap.size < w1.heap.size := (hown.lt _ rfl).2
  have hown1 : w1.ownsRow w.heap.size 3 1 (.slice (some ⟨w.heap.size, 0, none⟩) 32 32) 32 (List.replicate 32 (.int .i64 0)) := by
    have e := toList_madeCells_one (.int .i64 0) 32
    rw [← e]; exact hown
  clear hgrow hown
  go_wp2
  go_loopw [19] (fun I wr => ∃ (k : Nat) (xs : List Value), I = .int .i64 k ∧ k ≤ 32 ∧ wr.ownsRow w.heap.size 3 1 (.slice (some ⟨w.heap.size, 0, none⟩) 32 32) 32 xs ∧ xs.length = 32 ∧ Below w.heap.size w wr ∧ w.heap.size < wr.heap.size ∧ Hid (∀ j, j < k → xs[j]? = some (.int .i64 (sineV 8 j)))) (fun I _ => 32 - (intOf I).toNat)
  case atStart => exact ⟨0, _, rfl, by decide, hown1, by simp, hb1, hg1, Lib.hid (fun _ h => absurd h (Nat.not_lt_zero _))⟩
  case round =>
    obtain ⟨k, xs, rfl, hk, hO, hlenO, hbq, hgq, hxs⟩ := hrel
    by_cases hlt : k < 32
    · have ha : (((2 * k + 1) * 8 : Nat) : Int) = (2 * (k : Int) + 1) * 8 := by simp
      have hs := sin_ok ((2 * (k : Int) + 1) * 8) wr
      have hv : sineV 8 k = rnd (sinL ((2 * (k : Int) + 1) * 8)) 4 := by rw [sineV, ha]
      obtain ⟨v0, v1⟩ := sin_range ((2 * (k : Int) + 1) * 8)
      generalize sinL ((2 * (k : Int) + 1) * 8) = S at hs hv v0 v1
      have HS := Lib.hid hs
      have HV := Lib.hid hv
      clear hs hv ha
      go_wp2_with fail
      refine HS.out.mono ?_
      rintro e w4 ⟨rfl, hb4⟩
      go_wp2_with fail
      refine (round_ok S 4 (by omega) (by omega) (by decide) _).mono ?_
      rintro e w5 ⟨rfl, nn, rfl⟩
      have hb45 : Below wr.heap.size wr (w4.drewN nn) := below_drewN hb4 nn
      have hO2 := owns_keep hO hb45
      have hbq2 := hbq.trans (hb45.mono hbq.size)
      have hsz := hb45.size
      generalize w4.drewN nn = w5 at hO2 hbq2 hsz
      have hc := hO2.cellAt k (by omega)
      rw [List.getElem?_eq_getElem (by omega)] at hc
      have hf := hO2.frozenAt k
      obtain ⟨hO3, hgr⟩ := hO2.stored k (.int .i64 (rnd S 4))
      have hb6 : Below w.heap.size w (w5.setCell ⟨w.heap.size, k, none⟩ (.int .i64 (rnd S 4))) := hbq2.setCell (p := ⟨w.heap.size, k, none⟩) (Nat.le_refl _) _
      have hxs2 : Hid (∀ j, j < k + 1 → (xs.set k (.int .i64 (rnd S 4)))[j]? = some (.int .i64 (sineV 8 j))) := by
        intro j hj
        by_cases e : j = k
        · rw [e, List.getElem?_set_self (by omega), HV.out]
        · rw [List.getElem?_set_ne (by omega)]; exact hxs.out j (by omega)
      clear hxs HS hb4 hO hO2 hbq hgr hb45 hbq2
      go_wp2
      exact ⟨⟨k + 1, _, by go_num, by omega, hO3, by simp [hlenO], hb6, by simpa [World.setCell] using (show w.heap.size < w5.heap.size by omega), hxs2⟩, by simp [intOf]; omega⟩
    · have hkM : k = 32 := by omega
      subst hkM
      have hend := row_eq hlenO hxs.out
      have HE := Lib.hid hend
      clear hend hxs
      go_wp2
      go_ret2
      refine ⟨w.heap.size, rfl, ?_, hbq⟩
      have : (hvL 0 true).map (Value.int .i64) = xs := HE.out.symm
      rw [this]
      exact hO

set_option maxRecDepth 100000 in
set_option maxHeartbeats 2000000 in
theorem half_kbd_short (w : World) : Calls Try.prog 54 #[.int .u8 1, .bool true] w (RHalf 1 true w) := by
  go_enter Try.func54, Try.ntmps54
  go_wp2_with fail
  refine (kbd_short _).mono ?_
  rintro e w4 ⟨g, rfl, xs, hO, hlen, hxs, hb⟩
  have HE := Lib.hid (row_eq hlen hxs)
  clear hxs
  go_wp2
  go_ret2
  refine ⟨g, rfl, ?_, hb⟩
  have : (hvL 1 true).map (Value.int .i64) = xs := HE.out.symm
  rw [this]
  exact hO

theorem half_ok (shape : Int) (short : Bool) (h0 : shape = 0 ∨ shape = 1) (w : World) : Calls Try.prog 54 #[.int .u8 shape, .bool short] w (RHalf shape short w) := by
  rcases h0 with rfl | rfl <;> cases short
  · exact half_sine_long w
  · exact half_sine_short w
  · exact half_kbd_long w
  · exact half_kbd_short w
theorem half_bad (shape : Int) (short : Bool) (h0 : shape ≠ 0) (h1 : shape ≠ 1) (w : World) : Calls Try.prog 54 #[.int .u8 shape, .bool short] w fun e w' => e = .returned (.tuple #[.slice none 0 0, .int .i64 2]) ∧ w = w' := by
  have d0 : decide (shape = 0) = false := by simp [h0]
  have d1 : decide (shape = 1) = false := by simp [h1]
  cases short <;>
  · go_enter Try.func54, Try.ntmps54
    go_wp2
    go_ret2
    exact ⟨rfl, rfl⟩
end Go.Proofs.Ytcmbbmilldhnnaa
/- slices.Reverse: what each call answers. -/
set_option linter.unusedVariables false
namespace Go.Proofs.Ytcmbbmilldhnnaa
open Go.ChangeShapes Go.WideShapes Go.ChangeAt Go.RowKit

def RRev (p : Option Addr) (n c lo hi : Nat) (l : List Int) (w : World) (e : Ending) (w' : World) : Prop :=
  e = .returned (.tuple #[]) ∧ Spoil w' p n c lo hi (l.reverse.map (Value.int .i64)) ∧ Below lo w w'
def midV (l : List Int) (i t : Nat) : Int := if t < i ∨ l.length - 1 - i < t then l.getD (l.length - 1 - t) 0 else l.getD t 0
set_option maxRecDepth 100000 in
set_option maxHeartbeats 1000000 in
theorem reverse_ok (l : List Int) (p : Option Addr) (c lo hi : Nat) (w : World) (hS : Spoil w p l.length c lo hi (l.map (Value.int .i64))) (hl : l.length ≤ 4611686018427387904) :
    Calls Try.prog 55 #[.slice p l.length c] w (RRev p l.length c lo hi l w) := by
  have HS := Lib.hid hS
  clear hS
  go_enter Try.func55, Try.ntmps55
  go_wp2
  go_loopw [2, 3] (fun I J wr => ∃ (i j : Nat) (jz : Int) (xs : List Value), I = .int .i64 i ∧ J = .int .i64 jz ∧ (i : Int) + jz = l.length - 1 ∧ 2 * i ≤ l.length ∧ Hid (Spoil wr p l.length c lo hi xs) ∧ Hid (∀ t, t < l.length → xs[t]? = some (.int .i64 (midV l i t))) ∧ Below lo w wr) (fun I _ _ => l.length - (intOf I).toNat)
  case atStart =>
    refine ⟨0, l.length - 1, _, _, rfl, rfl, by omega, by omega, HS, Lib.hid (fun t ht => ?_), Below.refl _ _⟩
    rw [row_get l t (Nat.zero_le _) ht, midV, if_neg (by omega)]
  case round =>
    obtain ⟨i, j, jz, xs, rfl, rfl, hij, hi2, kS, hxs, hb⟩ := hrel
    by_cases hlt : (i : Int) < jz
    · obtain ⟨j, rfl⟩ := Int.eq_ofNat_of_zero_le (show 0 ≤ jz by omega)
      have hin : i < l.length := by omega
      have hjn : j < l.length := by omega
      obtain ⟨g, rfl, hg1, hg2, hc, hf, hnext⟩ := kS.out.at hin
      obtain ⟨g', hgp, _, _, hc', hf', hnext'⟩ := kS.out.at hjn
      obtain rfl : g = g' := by simpa using hgp
      rw [hxs.out _ hin] at hc
      rw [hxs.out _ hjn] at hc'
      have hmx : Hid (∀ t, t < l.length → ((xs.set i (.int .i64 (midV l i j))).set j (.int .i64 (midV l i i)))[t]? = some (.int .i64 (midV l (i + 1) t))) := by
        intro t ht
        have hlx := kS.out.1
        by_cases e1 : t = j
        · subst e1
          rw [List.getElem?_set_self (by simp; omega)]
          unfold midV
          rw [if_neg (by omega), if_pos (by omega)]
          have : l.length - 1 - t = i := by omega
          rw [this]
        · rw [List.getElem?_set_ne (by omega)]
          by_cases e2 : t = i
          · subst e2
            rw [List.getElem?_set_self (by omega)]
            unfold midV
            rw [if_neg (by omega), if_pos (by omega)]
            have : l.length - 1 - t = j := by omega
            rw [this]
          · rw [List.getElem?_set_ne (by omega), hxs.out t ht]
            unfold midV
            by_cases h1 : t < i ∨ l.length - 1 - i < t
            · rw [if_pos h1, if_pos (by omega)]
            · rw [if_neg h1, if_neg (by omega)]
      have hy := hxs.out _ hjn
      generalize midV l i i = x at hc hmx
      generalize midV l i j = y at hc' hmx hy
      have hd : decide ((i : Int) < (j : Int)) = true := by simp; omega
      have kS2 := hnext (.int .i64 y)
      obtain ⟨g', hgp2, _, _, hc2, hf2, hnext2⟩ := kS2.at hjn
      rw [List.getElem?_set_ne (by omega), hy] at hc2
      obtain rfl : g = g' := by simpa using hgp2
      have kS3 := Lib.hid (hnext2 (.int .i64 x))
      have hb2 := (hb.setCell (p := ⟨g, i, none⟩) hg1 (.int .i64 y)).setCell (p := ⟨g, j, none⟩) hg1 (.int .i64 x)
      clear hnext hnext' hgp hnext2 hgp2 kS2 hb hxs kS HS hy
      go_wp2_with fail
      go_region
      go_wp2
      exact ⟨⟨i + 1, j - 1, (j : Int) - 1, _, by go_num, rfl, by omega, by omega, kS3, hmx, hb2.drew⟩, by simp [intOf]; omega⟩
    · have hd : decide ((i : Int) < jz) = false := decide_eq_false hlt
      have hend : Hid (xs = l.reverse.map (Value.int .i64)) := by
        apply List.ext_getElem?
        intro t
        by_cases ht : t < l.length
        · rw [hxs.out t ht]
          have e : (l.reverse.map (Value.int .i64))[t]? = some (.int .i64 (l.getD (l.length - 1 - t) 0)) := by
            rw [List.getElem?_map, List.getElem?_reverse ht]
            simp [List.getD_eq_getElem?_getD, show l.length - 1 - t < l.length by omega]
          rw [e]
          unfold midV
          by_cases h1 : t < i ∨ l.length - 1 - i < t
          · rw [if_pos h1]
          · rw [if_neg h1]
            have : l.length - 1 - t = t := by omega
            rw [this]
        · rw [List.getElem?_eq_none (by have := kS.out.1; omega), List.getElem?_eq_none (by simp; omega)]
      clear hxs HS
      go_wp2
      go_end0
      have h2 := kS.out
      rw [hend.out] at h2
      exact ⟨rfl, h2, hb⟩
end Go.Proofs.Ytcmbbmilldhnnaa
/- block.half, fall, shaped: what each call answers. -/
set_option linter.unusedVariables false
namespace Go.Proofs.Ytcmbbmilldhnnaa
open Go.ChangeShapes Go.WideShapes Go.ChangeAt Go.RowKit

/-- A row of the call's own, full. -/
def RRowF (l : List Int) (w : World) (e : Ending) (w' : World) : Prop :=
  ∃ g : Nat, e = .returned (.slice (some ⟨g, 0, none⟩) l.length l.length) ∧ w'.ownsRow w.heap.size 3 1 (.slice (some ⟨g, 0, none⟩) l.length l.length) l.length (l.map (Value.int .i64)) ∧ w.heap.size ≤ g ∧ g < w'.heap.size ∧ Below w.heap.size w w'
theorem hv_pos (shape : Int) (short : Bool) : 32 ≤ (hvL shape short).length ∧ (hvL shape short).length ≤ 256 := by
  rw [half_length]
  cases short <;> decide
theorem bhalf_ok (shape : Int) (short : Bool) (h0 : shape = 0 ∨ shape = 1) (w : World) : Calls Try.prog 40 #[.int .u8 shape, .bool short] w (RRowF (hvL shape short) w) := by
  have HF := Lib.hid (fun W => half_ok shape short h0 W)
  have HL := Lib.hid (half_length shape short)
  obtain ⟨n0, n1⟩ := hv_pos shape short
  have e1 := half_length shape short
  unfold RHalf at HF
  rw [← e1] at HF
  generalize hvL shape short = l at *
  clear e1 h0
  go_enter Try.func40, Try.ntmps40
  go_wp2_with fail
  refine (HF.out _).mono ?_
  rintro e w1 ⟨g, rfl, hO, hb⟩
  obtain ⟨g', cap, hv, hg, hlt⟩ := owns_shape hO (by omega)
  obtain ⟨rfl, rfl⟩ : g = g' ∧ _ = cap := by simpa using hv
  have HO := Lib.hid hO
  clear hO hv
  go_wp2
  go_ret
  exact ⟨g, rfl, HO.out, hg, hlt, hb⟩
theorem bfall_ok (shape : Int) (short : Bool) (h0 : shape = 0 ∨ shape = 1) (w : World) : Calls Try.prog 41 #[.int .u8 shape, .bool short] w (RRowF (hvL shape short).reverse w) := by
  have HF := Lib.hid (fun W => bhalf_ok shape short h0 W)
  obtain ⟨n0, n1⟩ := hv_pos shape short
  generalize hvL shape short = l at *
  unfold RRowF
  rw [List.length_reverse]
  clear h0
  go_enter Try.func41, Try.ntmps41
  go_wp2_with fail
  refine (HF.out _).mono ?_
  rintro e w1 ⟨g, rfl, hO, hg, hlt, hb⟩
  have HR := Lib.hid (reverse_ok l (some ⟨g, 0, none⟩) l.length w.heap.size w1.heap.size w1 (Spoil.of hO) (by omega))
  clear hO HF
  go_wp2_with fail
  refine HR.out.mono ?_
  rintro e w2 ⟨rfl, hS, hb2⟩
  have hO : w2.ownsRow w.heap.size 3 1 (.slice (some ⟨g, 0, none⟩) l.length l.length) l.length (l.reverse.map (Value.int .i64)) := by
    obtain ⟨_, _, h⟩ := hS
    obtain ⟨g', hp, _, _, h2⟩ := h (by omega)
    obtain rfl : g = g' := by simpa using hp
    exact h2
  have HO := Lib.hid hO
  have hs := hb2.size
  clear hO hS
  go_wp2
  go_ret
  exact ⟨g, rfl, HO.out, hg, Nat.lt_of_lt_of_le hlt hs, hb.trans hb2⟩
theorem shaped_ok (was shape : Int) (w : World) : Calls Try.prog 35 #[.int .u8 was, .int .u8 shape] w fun e w' => e = .returned (.bool (decide (was ≤ 1) && decide (shape ≤ 1))) ∧ w = w' := by
  by_cases h1 : was ≤ 1 <;> by_cases h2 : shape ≤ 1
  · have d1 : decide (was ≤ 1) = true := decide_eq_true h1
    have d2 : decide (shape ≤ 1) = true := decide_eq_true h2
    clear h1 h2
    go_enter Try.func35, Try.ntmps35
    go_wp2
    go_ret
    exact ⟨ret_bool (by rw [d1, d2]; rfl), rfl⟩
  · have d1 : decide (was ≤ 1) = true := decide_eq_true h1
    have d2 : decide (shape ≤ 1) = false := decide_eq_false h2
    clear h1 h2
    go_enter Try.func35, Try.ntmps35
    go_wp2
    go_ret
    exact ⟨ret_bool (by rw [d1, d2]; rfl), rfl⟩
  · have d1 : decide (was ≤ 1) = false := decide_eq_false h1
    have d2 : decide (shape ≤ 1) = true := decide_eq_true h2
    clear h1 h2
    go_enter Try.func35, Try.ntmps35
    go_wp2
    go_ret
    exact ⟨ret_bool (by rw [d1, d2]; rfl), rfl⟩
  · have d1 : decide (was ≤ 1) = false := decide_eq_false h1
    have d2 : decide (shape ≤ 1) = false := decide_eq_false h2
    clear h1 h2
    go_enter Try.func35, Try.ntmps35
    go_wp2
    go_ret
    exact ⟨ret_bool (by rw [d1, d2]; rfl), rfl⟩
end Go.Proofs.Ytcmbbmilldhnnaa
/- bits.Mul at 1 and 112: the shelf's contract, laid. -/
set_option linter.unusedVariables false
namespace Go.Proofs.Ytcmbbmilldhnnaa
open Go.Shelf Go.RowKit
theorem mul_ok (w : World) : Calls Try.prog 62 #[.int .u64 1, .int .u64 112] w (fun e w' => e = .returned (.tuple #[.int .u64 0, .int .u64 112]) ∧ w' = w) :=
  Any.bits_Mul Try.laysMul 1 112 (by decide) (by decide) w
end Go.Proofs.Ytcmbbmilldhnnaa
/- slices.Repeat of one number, 112 times. -/
set_option linter.unusedVariables false
namespace Go.Proofs.Ytcmbbmilldhnnaa
open Go.ChangeShapes Go.WideShapes Go.ChangeAt Go.RowKit

theorem owns_full {w : World} {base : Nat} {e : TypeId} {g n : Nat} {xs : List Value} (h : w.ownsRow base e 1 (.slice (some ⟨g, 0, none⟩) n n) n xs) : w.heap[g]? = some (.cells xs.toArray e (0, 0)) ∧ xs.length = n := by
  obtain ⟨hl, ⟨h', _⟩ | ⟨g', cap, cur, h', hg, hgg, hn, hm, hs, ht⟩⟩ := h
  · simp at h'
  · obtain ⟨rfl, rfl⟩ : g = g' ∧ n = cap := by simpa using h'
    refine ⟨?_, by omega⟩
    rw [hgg, ← ht, List.take_of_length_le (by simp; omega)]
theorem full_owns {w : World} {base : Nat} {e : TypeId} {g n : Nat} {xs : List Value} (h : w.heap[g]? = some (.cells xs.toArray e (0, 0))) (hl : xs.length = n) (hg : base ≤ g) (hm : n ≤ maxLen) : w.ownsRow base e 1 (.slice (some ⟨g, 0, none⟩) n n) n xs :=
  ⟨by omega, .inr ⟨g, n, xs.toArray, rfl, hg, h, Nat.le_refl _, hm, by simp; omega, by rw [Nat.mul_one]; exact List.take_of_length_le (by simp; omega)⟩⟩
def fillR (x : Int) (m n : Nat) : List Value := List.replicate n (.int .i64 x) ++ List.replicate (m - n) (.int .i64 0)
theorem fillR_len (x : Int) (m n : Nat) (h : n ≤ m) : (fillR x m n).length = m := by simp [fillR]; omega
theorem fillR_splice (x : Int) (m n k : Nat) (h : n + k ≤ m) : splice (fillR x m n) n (List.replicate k (.int .i64 x)) = fillR x m (n + k) := by
  unfold splice fillR
  rw [List.take_left' (by simp), List.length_replicate, List.drop_append, List.drop_of_length_le (by simp), List.nil_append, List.length_replicate, List.drop_replicate, ← List.append_assoc, List.replicate_append_replicate]
  congr 2
  omega
theorem fillR_none (x : Int) (m : Nat) : fillR x m 0 = List.replicate m (.int .i64 0) := by simp [fillR]
theorem fillR_get (x : Int) (m n j : Nat) (h : j < n) : (fillR x m n)[j]? = some (.int .i64 x) := by
  unfold fillR
  rw [List.getElem?_append_left (by simpa using h)]
  simp [h]
def repL (x : Int) : List Int := List.replicate 112 x
theorem repL_len (x : Int) : (repL x).length = 112 := by simp [repL]
theorem repL_fill (x : Int) : fillR x 112 112 = (repL x).map (Value.int .i64) := by simp [fillR, repL]

set_option maxRecDepth 100000 in
set_option maxHeartbeats 1000000 in
theorem repeat_ok (x : Int) (b off c : Nat) (w : World) (hlt : b < w.heap.size) (hx : w.cell? ⟨b, off, none⟩ = some (.int .i64 x)) :
    Calls Try.prog 53 #[.slice (some ⟨b, off, none⟩) 1 c, .int .i64 112] w (RRowF (repL x) w) := by
  obtain ⟨i0, hi, hz0, hz1, hz2⟩ := info_parts Try.infoInt
  have HM := Lib.hid (mul_ok w)
  have hsz : (Try.prog.info? 3).map (·.size) = some 1 := by rw [hi]; simp [hz1]
  have HSZ := Lib.hid hsz
  clear hsz
  unfold RRowF
  rw [repL_len]
  obtain ⟨X1, hX1⟩ : ∃ X1, X1 = List.replicate 1 (Value.int .i64 x) := ⟨_, rfl⟩
  have S1 := Lib.hid (show X1.length = Nat.min 1 112 by rw [hX1]; rfl)
  have S2 := Lib.hid (show ∀ v ∈ X1, v.oneCell' = true by rw [hX1]; intro v hv; rw [List.eq_of_mem_replicate hv]; rfl)
  have S0 := Lib.hid (show X1.length = 1 by rw [hX1]; rfl)
  have HX1 := Lib.hid hX1
  have HXC := Lib.hid (show ∀ W, Below w.heap.size w W → ∀ (j : Nat) (v : Value), X1[j]? = some v → W.cell? ((⟨b, off, none⟩ : Addr).add j) = some v by
    intro W hb j v hv
    rw [hX1] at hv
    obtain rfl : j = 0 := by
      rcases j with _ | j
      · rfl
      · simp at hv
    rw [show (⟨b, off, none⟩ : Addr).add 0 = ⟨b, off, none⟩ by simp [Addr.add]]
    rw [hb.cell (p := ⟨b, off, none⟩) hlt, hx]
    simpa using hv)
  clear hX1 hx
  go_enter Try.func53, Try.ntmps53
  go_wp2_with fail
  refine HM.out.mono ?_
  rintro e w1 ⟨rfl, hw⟩
  rw [hw]
  clear hw w1 HM
  go_wp2_with (at_make; refine wpList_make_full _ rfl _ _ 22 rfl w.heap.size 3 i0 (.int .i64 0) 1 Try.underlying22 hi hz0 hz1 .i64 .i64 _ _ 112 rfl rfl ?hL ?hC ?b2 ?b3 ?b4 ?_)
  case hL => rfl
  case hC => rfl
  case b2 => rw [hz2]; decide
  case b3 => decide
  case b4 => exact Nat.le_refl _
  intro w2 hown hgrow
  have hb1 : Below w.heap.size w w2 := (Below.refl _ _).grown hgrow (by simp) (by simp)
  have hg1 : w.heap.size < w2.heap.size := (hown.lt _ rfl).2
  have hown1 : w2.ownsRow w.heap.size 3 1 (.slice (some ⟨w.heap.size, 0, none⟩) 112 112) 112 (List.replicate 112 (.int .i64 0)) := by
    have e := toList_madeCells_one (.int .i64 0) 112
    rw [← e]; exact hown
  have HG := Lib.hid (show w2.heap[w.heap.size]? = some (.cells (fillR x 112 0).toArray 3 (0, 0)) by rw [fillR_none]; exact (owns_full hown1).1)
  clear hgrow hown hown1
  go_wp2_with (with_reducible refine wpList_copy_splice rfl (.tmp 31) (.tmp 32) 22 22 rfl 3 Try.underlying22 HSZ.out (some ⟨w.heap.size, 0, none⟩) (some ⟨b, off, none⟩) 112 112 1 c rfl rfl w.heap.size 0 (fillR x 112 0) 3 HG.out X1 S1.out (fun _ => ⟨rfl, _, rfl, HXC.out _ hb1⟩) ?k1 S2.out w.heap.size w hb1 (Nat.le_refl _) ?_)
  case k1 => rw [S0.out, fillR_len _ _ _ (by decide)]; decide
  intro w3 HG3 hb3
  rw [S0.out]
  have HG4 := Lib.hid (show w3.heap[w.heap.size]? = some (.cells (fillR x 112 1).toArray 3 (0, 0)) by rw [← fillR_splice x 112 0 1 (by decide), ← HX1.out]; exact HG3.out)
  clear HG3 HG hb1 HXC S1 S2 S0 HX1 hg1
  go_wp2
  go_loopw [8] (fun N wr => ∃ n : Nat, N = .int .i64 n ∧ 1 ≤ n ∧ n ≤ 112 ∧ Hid (wr.heap[w.heap.size]? = some (.cells (fillR x 112 n).toArray 3 (0, 0))) ∧ Below w.heap.size w wr) (fun N _ => 112 - (intOf N).toNat)
  case atStart => exact ⟨1, rfl, by decide, by decide, HG4, hb3⟩
  case round =>
    obtain ⟨n, rfl, h1, h2, HH, hb⟩ := hrel
    clear HG4 hb3
    by_cases hn : n < 112
    · have hd : decide ((n : Int) < 112) = true := decide_eq_true (by omega)
      obtain ⟨k, hk⟩ : ∃ k, k = Nat.min n (112 - n) := ⟨_, rfl⟩
      have hk1 : 1 ≤ k := by rw [hk]; simp only [Nat.min_def]; split <;> omega
      have hk2 : n + k ≤ 112 := by rw [hk]; simp only [Nat.min_def]; split <;> omega
      obtain ⟨X1, hX1⟩ : ∃ X1, X1 = List.replicate k (Value.int .i64 x) := ⟨_, rfl⟩
      have S0 := Lib.hid (show X1.length = k by rw [hX1]; simp)
      have S1 := Lib.hid (show X1.length = Nat.min n (112 - n) by rw [hX1, ← hk]; simp)
      have S2 := Lib.hid (show ∀ v ∈ X1, v.oneCell' = true by rw [hX1]; intro v hv; rw [List.eq_of_mem_replicate hv]; rfl)
      have HX1 := Lib.hid hX1
      have HXC := Lib.hid (show ∀ (j : Nat) (v : Value), X1[j]? = some v → wr.drew.cell? ((⟨w.heap.size, 0, none⟩ : Addr).add j) = some v by
        intro j v hv
        have hjk : j < k := by
          have : j < X1.length := by
            by_cases hj : j < X1.length
            · exact hj
            · rw [List.getElem?_eq_none (by omega)] at hv; simp at hv
          rw [S0.out] at this; exact this
        rw [hX1] at hv
        obtain rfl : Value.int .i64 x = v := by simpa [hjk] using hv
        have hkn : k ≤ n := by rw [hk]; exact Nat.min_le_left _ _
        have hO := full_owns (w := wr) (base := 0) (n := 112) HH.out (fillR_len x 112 n h2) (Nat.zero_le _) (by decide)
        have := hO.cellAt j (by omega)
        rw [show (⟨w.heap.size, 0, none⟩ : Addr).add j = ⟨w.heap.size, j, none⟩ by simp [Addr.add]; try omega]
        exact this.trans (fillR_get x 112 n j (by omega)))
      have K1 := Lib.hid (show n + X1.length ≤ (fillR x 112 n).length by rw [S0.out, fillR_len _ _ _ h2]; exact hk2)
      have hwr : IntKind.i64.wrap ((n : Int) + (k : Int)) = (n : Int) + (k : Int) := by rw [IntKind.wrap_i64]; omega
      have q0 : (0 : Int) ≤ (n : Int) := by omega
      have q1 : (n : Int) ≤ 112 := by omega
      clear hX1 hk
      have hbd := hb.drew
      have HHd := Lib.hid (show wr.drew.heap[w.heap.size]? = some (.cells (fillR x 112 n).toArray 3 (0, 0)) from HH.out)
      go_wp2_with fail
      go_region_law (refine step_copy_splice rfl (.tmp 41) (.tmp 44) 22 22 rfl 3 Try.underlying22 HSZ.out (some ⟨w.heap.size, n, none⟩) (some ⟨w.heap.size, 0, none⟩) (112 - n) (112 - n) n 112 (by simp [Act.eval, Act.put]; omega) (by simp [Act.eval, Act.put]) w.heap.size n (fillR x 112 n) 3 HHd.out X1 S1.out (fun _ => ⟨rfl, _, rfl, HXC.out⟩) K1.out S2.out w.heap.size w hbd (Nat.le_refl _) ?_; intro w4 hg4 hb4; rw [S0.out])
      have hH := Lib.hid (show w4.heap[w.heap.size]? = some (.cells (fillR x 112 (n + k)).toArray 3 (0, 0)) by rw [← fillR_splice x 112 n k hk2, ← HX1.out]; exact hg4.out)
      clear hg4 HHd HH HXC S1 S2 S0 HX1 K1 hbd hb
      go_wp2
      exact ⟨⟨n + k, by omega, by omega, hk2, hH⟩, by simp [intOf]; omega⟩
    · have hd : decide ((n : Int) < 112) = false := decide_eq_false (by omega)
      have hne := Lib.hid (show n = 112 by omega)
      go_wp2
      go_ret
      have h := HH.out
      rw [hne.out] at h
      rw [repL_fill] at h
      have hO := full_owns (base := w.heap.size) (n := 112) h (by simp [repL]) (Nat.le_refl _) (by decide)
      exact ⟨_, rfl, hO, Nat.le_refl _, (hO.lt _ rfl).2, hb⟩
end Go.Proofs.Ytcmbbmilldhnnaa
/- block.pieces: what each call answers. -/
set_option linter.unusedVariables false
namespace Go.Proofs.Ytcmbbmilldhnnaa
open Go.ChangeShapes Go.WideShapes Go.ChangeAt Go.RowKit

def piecesL (seq : Int) : List Int := if seq = 0 then [0, 4] else if seq = 1 then [0, 2, 3, 5] else [5, 1, 2, 4]
def RPieces (l : List Int) (w : World) (e : Ending) (w' : World) : Prop :=
  ∃ g : Nat, e = .returned (.slice (some ⟨g, 0, none⟩) l.length l.length) ∧ w.heap.size ≤ g ∧ g < w'.heap.size ∧ (∀ j, j < l.length → w'.cell? ⟨g, j, none⟩ = some (.int .i64 (l.getD j 0))) ∧ Below w.heap.size w w'
set_option maxRecDepth 100000 in
set_option maxHeartbeats 1000000 in
theorem pieces0_ok (w : World) : Calls Try.prog 52 #[.int .u8 0] w (RPieces (piecesL 0) w) := by
  have e : piecesL 0 = [0, 4] := rfl
  rw [e]
  unfold RPieces
  have hx : ∀ (a b c d : Value) (W : World), (Instr.index 90 (.agg #[a, b, c, d]) (.int .u8 0)).run Try.prog W = .ok a W := fun _ _ _ _ _ => by kernel_rfl
  go_enter Try.func52, Try.ntmps52
  go_wp2
  go_ret
  have hb : Below w.heap.size w (((w.alloc (.cells #[.int .i64 0, .int .i64 4] 3)).alloc (.cells #[.int .i64 0, .int .i64 2, .int .i64 3, .int .i64 5] 3)).alloc (.cells #[.int .i64 5, .int .i64 1, .int .i64 2, .int .i64 4] 3)) := (((Below.refl _ w).alloc (Nat.le_refl _) _).alloc (by simp; try omega) _).alloc (by simp; try omega) _
  have hs0 : (w).heap.size = w.heap.size := by simp
  have hO := full_owns (base := 0) (n := 2) (e := 3) (g := (w).heap.size) (xs := ([0, 4] : List Int).map (Value.int .i64)) (heap_alloc_new (w) (.cells #[.int .i64 0, .int .i64 4] 3)) rfl (Nat.zero_le _) (by decide)
  rw [hs0] at hO
  have hO2 := (hO.alloc (.cells #[.int .i64 0, .int .i64 2, .int .i64 3, .int .i64 5] 3)).alloc (.cells #[.int .i64 5, .int .i64 1, .int .i64 2, .int .i64 4] 3)
  refine ⟨_, rfl, by omega, by simp; try omega, ?_, hb⟩
  intro j hj
  have hc := hO2.cellAt j hj
  exact hc.trans (row_get [0, 4] j (Nat.zero_le _) hj)
set_option maxRecDepth 100000 in
set_option maxHeartbeats 1000000 in
theorem pieces1_ok (w : World) : Calls Try.prog 52 #[.int .u8 1] w (RPieces (piecesL 1) w) := by
  have e : piecesL 1 = [0, 2, 3, 5] := rfl
  rw [e]
  unfold RPieces
  have hx : ∀ (a b c d : Value) (W : World), (Instr.index 90 (.agg #[a, b, c, d]) (.int .u8 1)).run Try.prog W = .ok b W := fun _ _ _ _ _ => by kernel_rfl
  go_enter Try.func52, Try.ntmps52
  go_wp2
  go_ret
  have hb : Below w.heap.size w (((w.alloc (.cells #[.int .i64 0, .int .i64 4] 3)).alloc (.cells #[.int .i64 0, .int .i64 2, .int .i64 3, .int .i64 5] 3)).alloc (.cells #[.int .i64 5, .int .i64 1, .int .i64 2, .int .i64 4] 3)) := (((Below.refl _ w).alloc (Nat.le_refl _) _).alloc (by simp; try omega) _).alloc (by simp; try omega) _
  have hs0 : (w.alloc (.cells #[.int .i64 0, .int .i64 4] 3)).heap.size = w.heap.size + 1 := by simp
  have hO := full_owns (base := 0) (n := 4) (e := 3) (g := (w.alloc (.cells #[.int .i64 0, .int .i64 4] 3)).heap.size) (xs := ([0, 2, 3, 5] : List Int).map (Value.int .i64)) (heap_alloc_new (w.alloc (.cells #[.int .i64 0, .int .i64 4] 3)) (.cells #[.int .i64 0, .int .i64 2, .int .i64 3, .int .i64 5] 3)) rfl (Nat.zero_le _) (by decide)
  rw [hs0] at hO
  have hO2 := hO.alloc (.cells #[.int .i64 5, .int .i64 1, .int .i64 2, .int .i64 4] 3)
  refine ⟨_, rfl, by omega, by simp; try omega, ?_, hb⟩
  intro j hj
  have hc := hO2.cellAt j hj
  exact hc.trans (row_get [0, 2, 3, 5] j (Nat.zero_le _) hj)
set_option maxRecDepth 100000 in
set_option maxHeartbeats 1000000 in
theorem pieces3_ok (w : World) : Calls Try.prog 52 #[.int .u8 3] w (RPieces (piecesL 3) w) := by
  have e : piecesL 3 = [5, 1, 2, 4] := rfl
  rw [e]
  unfold RPieces
  have hx : ∀ (a b c d : Value) (W : World), (Instr.index 90 (.agg #[a, b, c, d]) (.int .u8 3)).run Try.prog W = .ok d W := fun _ _ _ _ _ => by kernel_rfl
  go_enter Try.func52, Try.ntmps52
  go_wp2
  go_ret
  have hb : Below w.heap.size w (((w.alloc (.cells #[.int .i64 0, .int .i64 4] 3)).alloc (.cells #[.int .i64 0, .int .i64 2, .int .i64 3, .int .i64 5] 3)).alloc (.cells #[.int .i64 5, .int .i64 1, .int .i64 2, .int .i64 4] 3)) := (((Below.refl _ w).alloc (Nat.le_refl _) _).alloc (by simp; try omega) _).alloc (by simp; try omega) _
  have hs0 : ((w.alloc (.cells #[.int .i64 0, .int .i64 4] 3)).alloc (.cells #[.int .i64 0, .int .i64 2, .int .i64 3, .int .i64 5] 3)).heap.size = w.heap.size + 1 + 1 := by simp
  have hO := full_owns (base := 0) (n := 4) (e := 3) (g := ((w.alloc (.cells #[.int .i64 0, .int .i64 4] 3)).alloc (.cells #[.int .i64 0, .int .i64 2, .int .i64 3, .int .i64 5] 3)).heap.size) (xs := ([5, 1, 2, 4] : List Int).map (Value.int .i64)) (heap_alloc_new ((w.alloc (.cells #[.int .i64 0, .int .i64 4] 3)).alloc (.cells #[.int .i64 0, .int .i64 2, .int .i64 3, .int .i64 5] 3)) (.cells #[.int .i64 5, .int .i64 1, .int .i64 2, .int .i64 4] 3)) rfl (Nat.zero_le _) (by decide)
  rw [hs0] at hO
  have hO2 := hO
  refine ⟨_, rfl, by omega, by simp; try omega, ?_, hb⟩
  intro j hj
  have hc := hO2.cellAt j hj
  exact hc.trans (row_get [5, 1, 2, 4] j (Nat.zero_le _) hj)
end Go.Proofs.Ytcmbbmilldhnnaa
/- block.Window: what each call answers. -/
set_option linter.unusedVariables false
namespace Go.Proofs.Ytcmbbmilldhnnaa
open Go.ChangeShapes Go.WideShapes Go.ChangeAt Go.RowKit

def noughtL : List Int := List.replicate 112 0
theorem noughtL_len : noughtL.length = 112 := by simp [noughtL]
def pieceL (was shape p : Int) : List Int :=
  if p = 0 then hvL was false else if p = 1 then hvL was true else if p = 2 then repL 4194304 else if p = 3 then (hvL shape true).reverse else if p = 4 then (hvL shape false).reverse else noughtL
theorem pieceL_len (was shape p : Int) : 1 ≤ (pieceL was shape p).length ∧ (pieceL was shape p).length ≤ 256 := by
  have := hv_pos was false; have := hv_pos was true; have := hv_pos shape false; have := hv_pos shape true
  unfold pieceL
  split
  · omega
  split
  · omega
  split
  · rw [repL_len]; omega
  split
  · rw [List.length_reverse]; omega
  split
  · rw [List.length_reverse]; omega
  · rw [noughtL_len]; omega
def winK (l : List Int) (was shape : Int) : Nat → List Int
  | 0 => []
  | k + 1 => winK l was shape k ++ pieceL was shape (l.getD k 0)
theorem winK_len (l : List Int) (was shape : Int) : ∀ k, (winK l was shape k).length ≤ 256 * k
  | 0 => by simp [winK]
  | k + 1 => by
    have := winK_len l was shape k
    have := (pieceL_len was shape (l.getD k 0)).2
    simp only [winK, List.length_append]
    omega
def winL (seq was shape : Int) : List Int := winK (piecesL seq) was shape (piecesL seq).length
/-- A row of the call's own is put behind another. -/
theorem append_row {w : World} {ops : Array Oper} {rest : List Oper} {o : Oper} {a : Act} {Q : Exit → Act → World → Prop} (hgd : o.guard = none) (s x : Operand)
    (ho : o.op = .call { callee := .builtin .append, args := #[s, x], argTypes := #[22, 22] }) (base : Nat)
    (v : Value) (L0 : List Int) (hs : a.eval s = v) (hown : w.ownsRow base 3 1 v L0.length (L0.map (Value.int .i64)))
    (g m : Nat) (l : List Int) (hx : a.eval x = .slice (some ⟨g, 0, none⟩) m m) (base2 : Nat) (hI : w.ownsRow base2 3 1 (.slice (some ⟨g, 0, none⟩) m m) m (l.map (Value.int .i64))) (hm : l.length = m) (hL0 : L0.length ≤ 4096) (hl : l.length ≤ 4096) (hbase : base ≤ w.heap.size) (w0 : World) (hb : Below base w0 w)
    (h : ∀ v' w', w'.ownsRow base 3 1 v' (L0 ++ l).length ((L0 ++ l).map (Value.int .i64)) → Below base w0 w' → wpList Try.prog ops Q rest (a.put o.dst v') w') : wpList Try.prog ops Q (o :: rest) a w := by
  obtain ⟨i0, hi, hz0, hz1, hz2⟩ := info_parts Try.infoInt
  have hl0 := hown.lt
  refine wpList_append_own w hgd s x _ ho base 3 i0 (.int .i64 0) 1 8 Try.underlying22 hi hz0 hz1 hz2 rfl (by decide) v L0.length (L0.map (Value.int .i64)) hs hown ⟨g, 0, none⟩ m m (l.map (Value.int .i64)) hx (by simp [hm]) ?_ (by simp [Value.oneCell']) (by unfold maxLen; omega) (by omega) hbase (fun v' w' h1 h2 _ => h v' w' (by simpa [hm] using h1) (hb.grown h2 hbase (fun j hj => (hl0 j hj).1)))
  intro j u hu
  have hj : j < l.length := by
    rcases Nat.lt_or_ge j l.length with h | h
    · exact h
    · rw [List.getElem?_eq_none (by simp; omega)] at hu; cases hu
  rw [Addr.add_lit, Nat.zero_add]
  exact (hI.cellAt j (by omega)).trans hu
set_option maxRecDepth 100000 in
set_option maxHeartbeats 4000000 in
theorem win_ok (seq was shape : Int) (hs : seq = 0 ∨ seq = 1 ∨ seq = 3) (h0 : was = 0 ∨ was = 1) (h1 : shape = 0 ∨ shape = 1) (w : World) : Calls Try.prog 39 #[.int .u8 seq, .int .u8 was, .int .u8 shape] w (RRowE (winL seq was shape, 0) w) := by
  obtain ⟨i0, hi, hz0, hz1, hz2⟩ := info_parts Try.infoInt
  have HPC := Lib.hid (fun W => show Calls Try.prog 52 #[.int .u8 seq] W (RPieces (piecesL seq) W) by
    rcases hs with rfl | rfl | rfl
    · exact pieces0_ok W
    · exact pieces1_ok W
    · exact pieces3_ok W)
  have HP := Lib.hid (show ∀ j, j < (piecesL seq).length → (piecesL seq).getD j 0 = 0 ∨ (piecesL seq).getD j 0 = 1 ∨ (piecesL seq).getD j 0 = 2 ∨ (piecesL seq).getD j 0 = 3 ∨ (piecesL seq).getD j 0 = 4 ∨ (piecesL seq).getD j 0 = 5 by
    rcases hs with rfl | rfl | rfl <;> decide)
  have hn4 : (piecesL seq).length ≤ 4 := by rcases hs with rfl | rfl | rfl <;> decide
  have HSH := Lib.hid (fun W => shaped_ok was shape W)
  have hsh : (decide (was ≤ 1) && decide (shape ≤ 1)) = true := by rcases h0 with rfl | rfl <;> rcases h1 with rfl | rfl <;> decide
  rw [hsh] at HSH
  have HH0 := Lib.hid (fun W => bhalf_ok was false h0 W)
  have HH1 := Lib.hid (fun W => bhalf_ok was true h0 W)
  have HF3 := Lib.hid (fun W => bfall_ok shape true h1 W)
  have HF4 := Lib.hid (fun W => bfall_ok shape false h1 W)
  have E0 := Lib.hid (show pieceL was shape 0 = hvL was false by simp [pieceL])
  have E1 := Lib.hid (show pieceL was shape 1 = hvL was true by simp [pieceL])
  have E2 := Lib.hid (show pieceL was shape 2 = repL 4194304 by simp [pieceL])
  have E3 := Lib.hid (show pieceL was shape 3 = (hvL shape true).reverse by simp [pieceL])
  have E4 := Lib.hid (show pieceL was shape 4 = (hvL shape false).reverse by simp [pieceL])
  have E5 := Lib.hid (show pieceL was shape 5 = noughtL by simp [pieceL])
  generalize hvL was false = A0 at *
  generalize hvL was true = A1 at *
  generalize (hvL shape true).reverse = A3 at *
  generalize (hvL shape false).reverse = A4 at *
  have d1 : decide (3 < seq) = false := by rcases hs with rfl | rfl | rfl <;> decide
  have d2 : (seq == 2) = false := by rcases hs with rfl | rfl | rfl <;> decide
  unfold winL
  generalize hPL : piecesL seq = l at *
  clear hPL hs h0 h1 hsh
  unfold RRowE
  dsimp only
  go_enter Try.func39, Try.ntmps39
  go_wp2_with fail
  refine (HSH.out _).mono ?_
  rintro e w1 ⟨rfl, hw⟩
  rw [← hw]
  clear hw w1
  go_wp2_with fail
  refine (HPC.out _).mono ?_
  rintro e w1 ⟨gp, rfl, hgp1, hgp2, hcell, hbP⟩
  have HC := Lib.hid hcell
  have HBP := Lib.hid hbP
  clear hcell hbP HPC HSH
  have hgp1' : w.heap.size ≤ w1.heap.size := by omega
  go_wp2
  have hown0 : w1.ownsRow w1.heap.size 3 1 (.slice none 0 0) (winK l was shape 0).length ((winK l was shape 0).map (Value.int .i64)) := World.ownsRow_nil _ _ _ _
  have HO0 := Lib.hid hown0
  clear hown0
  go_loopw [27, 8] (fun I V wr => ∃ (k : Nat) (v : Value), I = .int .i64 k ∧ v = V ∧ k ≤ l.length ∧ Hid (wr.ownsRow w1.heap.size 3 1 v (winK l was shape k).length ((winK l was shape k).map (Value.int .i64))) ∧ Hid (Below w1.heap.size w1 wr)) (fun I _ _ => l.length - (intOf I).toNat)
  case atStart => exact ⟨0, _, rfl, rfl, Nat.zero_le _, HO0, Lib.hid (Below.refl _ _)⟩
  case round =>
    obtain ⟨k, v, rfl, rfl, hk, HOw, HB⟩ := hrel
    clear HO0
    by_cases hlt : k < l.length
    · have hd : decide ((k : Int) < (l.length : Int)) = true := decide_eq_true (by omega)
      have hc := (HB.out.cell (p := ⟨gp, k, none⟩) hgp2).trans (HC.out k hlt)
      obtain ⟨z, hz⟩ : ∃ z, l.getD k 0 = z := ⟨_, rfl⟩
      have hp := HP.out k hlt
      rw [hz] at hc hp
      have HZ := Lib.hid (show winK l was shape (k + 1) = winK l was shape k ++ pieceL was shape z by rw [winK, hz])
      have hwk := Lib.hid (winK_len l was shape k)
      clear hz
      rcases hp with rfl | rfl | rfl | rfl | rfl | rfl
      · have HPZ := E0
        clear E0 E1 E2 E3 E4 E5
        go_wp2_with fail
        refine (HH0.out _).mono ?_
        rintro e w2 ⟨g, rfl, hO, hg1, hg2, hb2⟩
        have HR := Lib.hid hO
        have HOw2 := Lib.hid (owns_keepB HOw.out hb2 (fun g' e => (HOw.out.lt g' e).2))
        have HB2 := Lib.hid (HB.out.trans (hb2.mono HB.out.size))
        clear hO hb2 HOw HB
        go_wp2_with (at_builtin; refine append_row rfl (.tmp 53) (.tmp 54) rfl w1.heap.size _ (winK l was shape k) rfl HOw2.out g _ A0 rfl _ HR.out ?l1 ?l2 ?l3 ?l4 w1 HB2.out ?_)
        case l1 => first | exact repL_len _ | exact noughtL_len | with_reducible rfl
        case l2 => have := hwk.out; omega
        case l3 => rw [← HPZ.out]; have := (pieceL_len was shape 0).2; omega
        case l4 => exact HB2.out.size
        intro v' w3 hO3 hB3
        have HO3 := Lib.hid (show w3.ownsRow w1.heap.size 3 1 v' (winK l was shape (k + 1)).length ((winK l was shape (k + 1)).map (Value.int .i64)) by
          rw [HZ.out, HPZ.out]
          first | exact hO3 | simpa using hO3 | (rw [HPZ.out] at hO3; simpa using hO3))
        have HB3 := Lib.hid hB3
        clear hO3 hB3 HOw2 HB2 HR
        go_wp2
        exact ⟨⟨k + 1, _, by go_num, rfl, by omega, HO3, HB3⟩, by simp [intOf]; omega⟩
      · have HPZ := E1
        clear E0 E1 E2 E3 E4 E5
        go_wp2_with fail
        refine (HH1.out _).mono ?_
        rintro e w2 ⟨g, rfl, hO, hg1, hg2, hb2⟩
        have HR := Lib.hid hO
        have HOw2 := Lib.hid (owns_keepB HOw.out hb2 (fun g' e => (HOw.out.lt g' e).2))
        have HB2 := Lib.hid (HB.out.trans (hb2.mono HB.out.size))
        clear hO hb2 HOw HB
        go_wp2_with (at_builtin; refine append_row rfl (.tmp 53) (.tmp 54) rfl w1.heap.size _ (winK l was shape k) rfl HOw2.out g _ A1 rfl _ HR.out ?l1 ?l2 ?l3 ?l4 w1 HB2.out ?_)
        case l1 => first | exact repL_len _ | exact noughtL_len | with_reducible rfl
        case l2 => have := hwk.out; omega
        case l3 => rw [← HPZ.out]; have := (pieceL_len was shape 1).2; omega
        case l4 => exact HB2.out.size
        intro v' w3 hO3 hB3
        have HO3 := Lib.hid (show w3.ownsRow w1.heap.size 3 1 v' (winK l was shape (k + 1)).length ((winK l was shape (k + 1)).map (Value.int .i64)) by
          rw [HZ.out, HPZ.out]
          first | exact hO3 | simpa using hO3 | (rw [HPZ.out] at hO3; simpa using hO3))
        have HB3 := Lib.hid hB3
        clear hO3 hB3 HOw2 HB2 HR
        go_wp2
        exact ⟨⟨k + 1, _, by go_num, rfl, by omega, HO3, HB3⟩, by simp [intOf]; omega⟩
      · have HPZ := E2
        clear E0 E1 E2 E3 E4 E5
        have hba := (Below.refl wr.heap.size wr).alloc (Nat.le_refl _) (.cells #[.int .i64 4194304] 3)
        have HREP := Lib.hid (repeat_ok 4194304 wr.heap.size 0 1 (wr.alloc (.cells #[.int .i64 4194304] 3)) (by simp) (cell_one_new _ _ _ 0 _ rfl))
        go_wp2_with fail
        refine HREP.out.mono ?_
        rintro e w2 ⟨g, rfl, hO, hg1, hg2, hb2⟩
        rw [repL_len] at hO
        have HR := Lib.hid hO
        have hb3 := hba.trans (hb2.mono (by simp))
        have HOw2 := Lib.hid (owns_keepB HOw.out hb3 (fun g' e => (HOw.out.lt g' e).2))
        have HB2 := Lib.hid (HB.out.trans (hb3.mono HB.out.size))
        clear hO hb2 HOw HB hba HREP hb3
        rw [repL_len]
        go_wp2_with (at_builtin; refine append_row rfl (.tmp 53) (.tmp 54) rfl w1.heap.size _ (winK l was shape k) rfl HOw2.out g _ (repL 4194304) rfl _ HR.out ?l1 ?l2 ?l3 ?l4 w1 HB2.out ?_)
        case l1 => first | exact repL_len _ | exact noughtL_len | with_reducible rfl
        case l2 => have := hwk.out; omega
        case l3 => rw [← HPZ.out]; have := (pieceL_len was shape 2).2; omega
        case l4 => exact HB2.out.size
        intro v' w3 hO3 hB3
        have HO3 := Lib.hid (show w3.ownsRow w1.heap.size 3 1 v' (winK l was shape (k + 1)).length ((winK l was shape (k + 1)).map (Value.int .i64)) by
          rw [HZ.out, HPZ.out]
          first | exact hO3 | simpa using hO3 | (rw [HPZ.out] at hO3; simpa using hO3))
        have HB3 := Lib.hid hB3
        clear hO3 hB3 HOw2 HB2 HR
        go_wp2
        exact ⟨⟨k + 1, _, by go_num, rfl, by omega, HO3, HB3⟩, by simp [intOf]; omega⟩
      · have HPZ := E3
        clear E0 E1 E2 E3 E4 E5
        go_wp2_with fail
        refine (HF3.out _).mono ?_
        rintro e w2 ⟨g, rfl, hO, hg1, hg2, hb2⟩
        have HR := Lib.hid hO
        have HOw2 := Lib.hid (owns_keepB HOw.out hb2 (fun g' e => (HOw.out.lt g' e).2))
        have HB2 := Lib.hid (HB.out.trans (hb2.mono HB.out.size))
        clear hO hb2 HOw HB
        go_wp2_with (at_builtin; refine append_row rfl (.tmp 53) (.tmp 54) rfl w1.heap.size _ (winK l was shape k) rfl HOw2.out g _ A3 rfl _ HR.out ?l1 ?l2 ?l3 ?l4 w1 HB2.out ?_)
        case l1 => first | exact repL_len _ | exact noughtL_len | with_reducible rfl
        case l2 => have := hwk.out; omega
        case l3 => rw [← HPZ.out]; have := (pieceL_len was shape 3).2; omega
        case l4 => exact HB2.out.size
        intro v' w3 hO3 hB3
        have HO3 := Lib.hid (show w3.ownsRow w1.heap.size 3 1 v' (winK l was shape (k + 1)).length ((winK l was shape (k + 1)).map (Value.int .i64)) by
          rw [HZ.out, HPZ.out]
          first | exact hO3 | simpa using hO3 | (rw [HPZ.out] at hO3; simpa using hO3))
        have HB3 := Lib.hid hB3
        clear hO3 hB3 HOw2 HB2 HR
        go_wp2
        exact ⟨⟨k + 1, _, by go_num, rfl, by omega, HO3, HB3⟩, by simp [intOf]; omega⟩
      · have HPZ := E4
        clear E0 E1 E2 E3 E4 E5
        go_wp2_with fail
        refine (HF4.out _).mono ?_
        rintro e w2 ⟨g, rfl, hO, hg1, hg2, hb2⟩
        have HR := Lib.hid hO
        have HOw2 := Lib.hid (owns_keepB HOw.out hb2 (fun g' e => (HOw.out.lt g' e).2))
        have HB2 := Lib.hid (HB.out.trans (hb2.mono HB.out.size))
        clear hO hb2 HOw HB
        go_wp2_with (at_builtin; refine append_row rfl (.tmp 53) (.tmp 54) rfl w1.heap.size _ (winK l was shape k) rfl HOw2.out g _ A4 rfl _ HR.out ?l1 ?l2 ?l3 ?l4 w1 HB2.out ?_)
        case l1 => first | exact repL_len _ | exact noughtL_len | with_reducible rfl
        case l2 => have := hwk.out; omega
        case l3 => rw [← HPZ.out]; have := (pieceL_len was shape 4).2; omega
        case l4 => exact HB2.out.size
        intro v' w3 hO3 hB3
        have HO3 := Lib.hid (show w3.ownsRow w1.heap.size 3 1 v' (winK l was shape (k + 1)).length ((winK l was shape (k + 1)).map (Value.int .i64)) by
          rw [HZ.out, HPZ.out]
          first | exact hO3 | simpa using hO3 | (rw [HPZ.out] at hO3; simpa using hO3))
        have HB3 := Lib.hid hB3
        clear hO3 hB3 HOw2 HB2 HR
        go_wp2
        exact ⟨⟨k + 1, _, by go_num, rfl, by omega, HO3, HB3⟩, by simp [intOf]; omega⟩
      · have HPZ := E5
        clear E0 E1 E2 E3 E4 E5
        go_wp2_with (at_make; refine wpList_make_full _ rfl _ _ 22 rfl wr.heap.size 3 i0 (.int .i64 0) 1 Try.underlying22 hi hz0 hz1 .i64 .i64 _ _ 112 rfl rfl ?hL ?hC ?b2 ?b3 ?b4 ?_)
        case hL => rfl
        case hC => rfl
        case b2 => rw [hz2]; decide
        case b3 => decide
        case b4 => exact Nat.le_refl _
        intro w2 hown hgrow
        obtain ⟨g, hg⟩ : ∃ g, wr.heap.size = g := ⟨_, rfl⟩
        have hb2 : Below wr.heap.size wr w2 := (Below.refl _ _).grown hgrow (by simp) (by simp)
        have hO : w2.ownsRow wr.heap.size 3 1 (.slice (some ⟨wr.heap.size, 0, none⟩) 112 112) 112 (noughtL.map (Value.int .i64)) := by
          have e := toList_madeCells_one (.int .i64 0) 112
          rw [show noughtL.map (Value.int .i64) = List.replicate 112 (.int .i64 0) by simp [noughtL], ← e]; exact hown
        have HR := Lib.hid hO
        have HOw2 := Lib.hid (owns_keepB HOw.out hb2 (fun g' e => (HOw.out.lt g' e).2))
        have HB2 := Lib.hid (HB.out.trans (hb2.mono HB.out.size))
        clear hO hb2 HOw HB hown hgrow hg g
        go_wp2_with (at_builtin; refine append_row rfl (.tmp 53) (.tmp 54) rfl w1.heap.size _ (winK l was shape k) rfl HOw2.out wr.heap.size _ (noughtL) rfl _ HR.out ?l1 ?l2 ?l3 ?l4 w1 HB2.out ?_)
        case l1 => first | exact repL_len _ | exact noughtL_len | with_reducible rfl
        case l2 => have := hwk.out; omega
        case l3 => rw [← HPZ.out]; have := (pieceL_len was shape 5).2; omega
        case l4 => exact HB2.out.size
        intro v' w3 hO3 hB3
        have HO3 := Lib.hid (show w3.ownsRow w1.heap.size 3 1 v' (winK l was shape (k + 1)).length ((winK l was shape (k + 1)).map (Value.int .i64)) by
          rw [HZ.out, HPZ.out]
          first | exact hO3 | simpa using hO3 | (rw [HPZ.out] at hO3; simpa using hO3))
        have HB3 := Lib.hid hB3
        clear hO3 hB3 HOw2 HB2 HR
        go_wp2
        exact ⟨⟨k + 1, _, by go_num, rfl, by omega, HO3, HB3⟩, by simp [intOf]; omega⟩
    · have hd : decide ((k : Int) < (l.length : Int)) = false := decide_eq_false (by omega)
      have hkl := Lib.hid (show k = l.length by omega)
      go_wp2
      go_ret2
      have h := HOw.out
      rw [hkl.out] at h
      exact ⟨_, rfl, owns_lower h hgp1', HBP.out.trans (HB.out.mono hgp1')⟩
end Go.Proofs.Ytcmbbmilldhnnaa
/- block.windows: the iterator's contract. -/
set_option linter.unusedVariables false
namespace Go.Proofs.Ytcmbbmilldhnnaa
open Go.ChangeShapes Go.WideShapes Go.ChangeAt Go.RowKit
attribute [local go_sem] Oper.semAt_some

structure WinX where
  pos : Int
  l : List Int
  b : Nat
  c : Nat
def encW (x : WinX) : Array Value := #[.int .i64 x.pos, .slice (some ⟨x.b, 0, none⟩) x.l.length x.c]
def littleL (i : Nat) (was shape : Int) : List Int := hvL (if i = 0 then was else shape) true ++ (hvL shape true).reverse
def winsL (seq was shape : Int) : List (Int × List Int) := if seq = 2 then (List.range 8).map (fun (i : Nat) => ((112 : Int) + 32 * (i : Int), littleL i was shape)) else [(0, winL seq was shape)]
def PxW (seq was shape : Int) (L : Nat) (pre : List WinX) (x : WinX) (W : World) : Prop := (winsL seq was shape)[pre.length]? = some (x.pos, x.l) ∧ L + 2 ≤ x.b ∧ x.b < W.heap.size ∧ IsInts W (some ⟨x.b, 0, none⟩) x.l
def SW (seq was shape : Int) (xs : List WinX) : Prop := xs.map (fun x => (x.pos, x.l)) = winsL seq was shape
theorem PxW.apart {seq was shape : Int} {L : Nat} (pre : List WinX) (x : WinX) (A B : World) (h : PxW seq was shape L pre x A) (hs : L ≤ A.heap.size) (hap : Apart L A B) : PxW seq was shape L pre x B := by
  obtain ⟨h1, h2, h3, h4⟩ := h
  refine ⟨h1, h2, Nat.lt_of_lt_of_le h3 hap.size, ?_⟩
  rcases h4 with h4 | ⟨b, off, hp, hlt, hc⟩
  · exact .inl h4
  · obtain ⟨rfl, rfl⟩ : x.b = b ∧ 0 = off := by simpa using hp
    refine .inr ⟨x.b, 0, rfl, Nat.lt_of_lt_of_le hlt hap.size, fun j hj => ?_⟩
    exact (World.cell?_of_block (a := ⟨x.b, 0 + j, none⟩) (hap.block _ hlt (by show x.b ≠ L; omega) (by show x.b ≠ L + 1; omega))).trans (hc j hj)
/-- A full row of the call's own, and another behind it: a new row. -/
theorem appendIn_full {F : Fence} {n : Nat} {w : World} {ops : Array Oper} {rest : List Oper} {o : Oper} {a : Act} {Q : Exit → Act → World → Prop} (hgd : o.guard = none) (s x : Operand)
    (ho : o.op = .call { callee := .builtin .append, args := #[s, x], argTypes := #[22, 22] })
    (g m1 : Nat) (l1 : List Int) (hs : a.eval s = .slice (some ⟨g, 0, none⟩) m1 m1) (hm1 : l1.length = m1) (hI1 : IsInts w (some ⟨g, 0, none⟩) l1)
    (g2 m2 : Nat) (l2 : List Int) (hx : a.eval x = .slice (some ⟨g2, 0, none⟩) m2 m2) (hm2 : l2.length = m2) (hI2 : IsInts w (some ⟨g2, 0, none⟩) l2) (hp : 0 < l2.length) (hl1 : l1.length ≤ 4096) (hl2 : l2.length ≤ 4096) (m : Nat) (hm : l1.length + l2.length = m)
    (h : ∀ g' c' w', w'.heap.size > g' → w.heap.size ≤ g' → IsInts w' (some ⟨g', 0, none⟩) (l1 ++ l2) → Below w.heap.size w w' → wpListIn F n Try.prog ops Q rest (a.put o.dst (.slice (some ⟨g', 0, none⟩) m c')) w') : wpListIn F n Try.prog ops Q (o :: rest) a w := by
  obtain ⟨i0, hi, hz0, hz1, hz2⟩ := info_parts Try.infoInt
  refine wpListIn_plain hgd fun K hK' => ?_
  have cells : ∀ {g : Nat} {l : List Int}, IsInts w (some ⟨g, 0, none⟩) l → ∀ j u, (l.map (Value.int .i64))[j]? = some u → w.cell? ((⟨g, 0, none⟩ : Addr).add j) = some u := by
    intro g l hI j u hu
    have hj : j < l.length := by
      rcases Nat.lt_or_ge j l.length with h | h
      · exact h
      · rw [List.getElem?_eq_none (by simp; omega)] at hu; cases hu
    obtain ⟨b, off, hp, _, hc⟩ := hI.at hj
    obtain ⟨rfl, rfl⟩ : g = b ∧ 0 = off := by simpa using hp
    rw [Addr.add_lit]
    rw [hc j hj]
    rw [row_get l j (Nat.zero_le _) hj] at hu
    exact hu
  obtain ⟨v', w', hrun, r1, r2⟩ := run_append_arg_grows (P := Try.prog) w 22 o.type 3 i0 (.int .i64 0) 1 8 Try.underlying22 hi hz0 hz1 hz2 rfl (by decide) ⟨g, 0, none⟩ m1 m1 (l1.map (Value.int .i64)) (by simp [hm1]) (cells hI1) ⟨g2, 0, none⟩ m2 m2 (l2.map (Value.int .i64)) (by simp [hm2]) (cells hI2) (by omega) (by unfold maxLen; omega) (by omega)
  have r1' : w'.ownsRow w.heap.size 3 1 v' (l1 ++ l2).length ((l1 ++ l2).map (Value.int .i64)) := by
    rw [List.length_append, List.map_append, hm1, hm2]; exact r1
  obtain ⟨g', cap, rfl, hg, hlt, hc⟩ := owns_at r1' (by intro e; have := congrArg List.length e; rw [List.length_append] at this; simp only [List.length_nil] at this; omega)
  unfold Oper.wpIn
  refine ⟨?_, ?_⟩
  · simp [Oper.about, ho, resolve, Target.leads, Sem.run_pure]
  · rw [Oper.semAt_plain F _ _ (by rw [ho]; intro c hc'; cases hc')]
    simp [execOp, ho, resolve, invoke, builtin, hs, hx, hrun, Result.andThen]
    have := hK' _ _ (h g' cap w' hlt hg (isInts_of hlt hc) ((Below.refl _ _).grown r2 (Nat.le_refl _) (fun _ e => by cases e)))
    rw [← hm] at this
    exact this
def windowsV (b : Nat) : Value := .func (.func 38) #[] #[.pointer (some ⟨b, 0, none⟩), .pointer (some ⟨b + 1, 0, none⟩), .pointer (some ⟨b + 2, 0, none⟩)]
set_option maxHeartbeats 1000000 in
theorem windows_ok (seq was shape : Int) (w : World) : Calls Try.prog 25 #[.int .u8 seq, .int .u8 was, .int .u8 shape] w (fun e w' => e = .returned (windowsV w.heap.size) ∧ w' = ((w.alloc (.cells #[.int .u8 seq] 5)).alloc (.cells #[.int .u8 was] 5)).alloc (.cells #[.int .u8 shape] 5)) := by
  go_enter Try.func25, Try.ntmps25
  go_wp2
  go_ret
  exact ⟨rfl, rfl⟩
end Go.Proofs.Ytcmbbmilldhnnaa
/- block.windows: the iterator's contract. -/
set_option linter.unusedVariables false
namespace Go.Proofs.Ytcmbbmilldhnnaa
open Go.ChangeShapes Go.WideShapes Go.ChangeAt Go.RowKit
attribute [local go_sem] Oper.semAt_some

def KW (b : Nat) (A B : World) : Prop := ∀ k, b ≤ k → k < b + 3 → B.heap[k]? = A.heap[k]?
theorem full_ints {w : World} {base g n : Nat} {l : List Int} (h : w.ownsRow base 3 1 (.slice (some ⟨g, 0, none⟩) n n) n (l.map (Value.int .i64))) (hn : l.length = n) (hlt : g < w.heap.size) : IsInts w (some ⟨g, 0, none⟩) l := by
  refine isInts_of hlt (fun j hj => ?_)
  rw [h.cellAt j (by omega), row_get l j (Nat.zero_le _) hj]
set_option maxRecDepth 100000 in
set_option maxHeartbeats 4000000 in
theorem windows_all1 (seq was shape : Int) (hs : seq = 0 ∨ seq = 1 ∨ seq = 3) (h0 : was = 0 ∨ was = 1) (h1 : shape = 0 ∨ shape = 1) (w : World) (b : Nat) (hb : b + 3 ≤ w.heap.size)
    (c0 : w.cell? ⟨b, 0, none⟩ = some (.int .u8 seq)) (c1 : w.cell? ⟨b + 1, 0, none⟩ = some (.int .u8 was)) (c2 : w.cell? ⟨b + 2, 0, none⟩ = some (.int .u8 shape)) :
    SeqAll Try.prog 38 #[.pointer (some ⟨b, 0, none⟩), .pointer (some ⟨b + 1, 0, none⟩), .pointer (some ⟨b + 2, 0, none⟩)] encW (PxW seq was shape w.heap.size) (SW seq was shape) (KW b) w := by
  intro l J W hW hsz hJ hY hJ0
  have HJ := Lib.hid hJ
  have HY := Lib.hid hY
  have HW := Lib.hid (fun W => win_ok seq was shape hs h0 h1 W)
  have d1 : (seq == 2) = false := by rcases hs with rfl | rfl | rfl <;> decide
  have d1' : (seq != 2) = true := by rcases hs with rfl | rfl | rfl <;> decide
  have e0 := (hW.cell (p := ⟨b, 0, none⟩) (by show b < _; omega)).trans c0
  have e1 := (hW.cell (p := ⟨b + 1, 0, none⟩) (by show b + 1 < _; omega)).trans c1
  have e2 := (hW.cell (p := ⟨b + 2, 0, none⟩) (by show b + 2 < _; omega)).trans c2
  have HE := Lib.hid (show winsL seq was shape = [(0, winL seq was shape)] by unfold winsL; rw [if_neg (by omega)])
  have hL0 : 0 < (winL seq was shape).length := by
    have hp : 0 < (piecesL seq).length := by rcases hs with rfl | rfl | rfl <;> decide
    unfold winL
    obtain ⟨n, hn⟩ : ∃ n, (piecesL seq).length = n + 1 := ⟨(piecesL seq).length - 1, by omega⟩
    rw [hn, winK, List.length_append]
    have := (pieceL_len was shape ((piecesL seq).getD n 0)).1
    omega
  unfold SW PxW at *
  generalize winsL seq was shape = ws at *
  generalize winL seq was shape = L at *
  unfold RRowE at HW
  dsimp only at HW
  clear hJ hY c0 c1 c2 hs h0 h1
  refine callsIn_of_wp Try.func38 rfl trivial ?_ rfl
  simp only [Try.ntmps38, List.size_toArray, List.length_cons, List.length_nil, Nat.reduceAdd, Nat.reduceSub, Array.replicate_succ, Array.replicate_zero, List.push_toArray, List.append_toArray, List.nil_append, List.cons_append]
  gi_wp2_with fail
  refine ⟨trivial, ?_⟩
  refine (callsIn_wide.2 (HW.out _)).mono ?_
  rintro e W1 ⟨v, rfl, hO, hB⟩
  obtain ⟨g, cap, rfl, hg, hlt, hc⟩ := owns_at hO (by intro e; rw [e] at hL0; simp at hL0)
  have hz := hB.size
  obtain ⟨fn, tmps, assign, body, hy, hR⟩ := HY.out [] ⟨0, L, g, cap⟩ W1 (HJ.out _ _ _ hJ0 hB) (by omega) ⟨by rw [HE.out]; rfl, by show _ ≤ g; omega, hlt, isInts_of hlt hc⟩
  dsimp only [encW] at hy
  clear hO HW HY hJ0
  gi_wp2
  refine hR.mono ?_
  rintro e W2 ⟨rfl, hJ2, _, _⟩
  gi_wp2
  refine bodyPost_ret (results_none rfl _ _ _) rfl ?_
  exact ⟨⟨_, rfl⟩, _, by rw [HE.out]; rfl, hJ2⟩
set_option maxRecDepth 100000 in
set_option maxHeartbeats 4000000 in
theorem windows_all2 (was shape : Int) (h0 : was = 0 ∨ was = 1) (h1 : shape = 0 ∨ shape = 1) (w : World) (b : Nat) (hb : b + 3 ≤ w.heap.size)
    (c0 : w.cell? ⟨b, 0, none⟩ = some (.int .u8 2)) (c1 : w.cell? ⟨b + 1, 0, none⟩ = some (.int .u8 was)) (c2 : w.cell? ⟨b + 2, 0, none⟩ = some (.int .u8 shape)) :
    SeqAll Try.prog 38 #[.pointer (some ⟨b, 0, none⟩), .pointer (some ⟨b + 1, 0, none⟩), .pointer (some ⟨b + 2, 0, none⟩)] encW (PxW 2 was shape w.heap.size) (SW 2 was shape) (KW b) w := by
  intro l J W hW hsz hJ hY hJ0
  have HJ := Lib.hid hJ
  have HY := Lib.hid hY
  have HH0 := Lib.hid (fun W => bhalf_ok was true h0 W)
  have HH1 := Lib.hid (fun W => bhalf_ok shape true h1 W)
  have HF := Lib.hid (fun W => bfall_ok shape true h1 W)
  have e0 := (hW.cell (p := ⟨b, 0, none⟩) (by show b < _; omega)).trans c0
  have e1 := (hW.cell (p := ⟨b + 1, 0, none⟩) (by show b + 1 < _; omega)).trans c1
  have e2 := (hW.cell (p := ⟨b + 2, 0, none⟩) (by show b + 2 < _; omega)).trans c2
  have hbW : b + 3 ≤ W.heap.size := by omega
  have HWS := Lib.hid (show ∀ k : Nat, k < 8 → (winsL 2 was shape)[k]? = some (112 + 32 * (k : Int), (if k = 0 then hvL was true else hvL shape true) ++ (hvL shape true).reverse) by
    intro k hk
    unfold winsL
    rw [if_pos rfl, List.getElem?_map, List.getElem?_range hk]
    simp only [Option.map_some, littleL]
    split <;> rfl)
  have HW8 := Lib.hid (show (winsL 2 was shape).length = 8 by unfold winsL; rw [if_pos rfl]; simp)
  have hA0 : (hvL was true).length = 32 := half_length was true
  have hA1 : (hvL shape true).length = 32 := half_length shape true
  have hA2 : (hvL shape true).reverse.length = 32 := by rw [List.length_reverse]; exact hA1
  unfold SW PxW at *
  generalize winsL 2 was shape = ws at *
  generalize (hvL shape true).reverse = A2 at *
  generalize hvL shape true = A1 at *
  generalize hvL was true = A0 at *
  unfold RRowF at HH0 HH1 HF
  rw [hA0] at HH0
  rw [hA1] at HH1
  rw [hA2] at HF
  have HA0 := Lib.hid hA0
  have HA1 := Lib.hid hA1
  have HA2 := Lib.hid hA2
  clear hJ hY c0 c1 c2 h0 h1 hA0 hA1 hA2
  refine callsIn_of_wp Try.func38 rfl trivial ?_ rfl
  simp only [Try.ntmps38, List.size_toArray, List.length_cons, List.length_nil, Nat.reduceAdd, Nat.reduceSub, Array.replicate_succ, Array.replicate_zero, List.push_toArray, List.append_toArray, List.nil_append, List.cons_append]
  gi_wp2_with fail
  refine ⟨trivial, ?_⟩
  refine (callsIn_wide.2 (HH0.out _)).mono ?_
  rintro e W1 ⟨g, rfl, hO, hg, hlt, hB⟩
  have HI0 := Lib.hid (full_ints hO HA0.out hlt)
  have HJ1 := Lib.hid (HJ.out _ _ _ hJ0 hB)
  have hz := hB.size
  have f1 := Lib.hid ((hB.cell (p := ⟨b + 1, 0, none⟩) (by show b + 1 < _; omega)).trans e1)
  have f2 := Lib.hid ((hB.cell (p := ⟨b + 2, 0, none⟩) (by show b + 2 < _; omega)).trans e2)
  clear hO HH0 hJ0 e0 e1 e2 hB
  gi_wp2
  gi_loopw [23, 7] (fun I V wr => ∃ (k g : Nat) (pre : List WinX), I = .int .i64 k ∧ V = .slice (some ⟨g, 0, none⟩) 32 32 ∧ k ≤ 8 ∧ Hid (IsInts wr (some ⟨g, 0, none⟩) (if k = 0 then A0 else A1)) ∧ Hid (pre.map (fun x => (x.pos, x.l)) = ws.take k) ∧ Hid (pre.length = k) ∧ Hid (J pre wr) ∧ W1.heap.size ≤ wr.heap.size ∧ Hid (wr.cell? ⟨b + 1, 0, none⟩ = some (.int .u8 was)) ∧ Hid (wr.cell? ⟨b + 2, 0, none⟩ = some (.int .u8 shape))) (fun I _ _ => 8 - (intOf I).toNat)
  case atStart => exact ⟨0, g, [], rfl, rfl, by omega, HI0, Lib.hid (by simp), Lib.hid rfl, HJ1, Nat.le_refl _, f1, f2⟩
  case round =>
    obtain ⟨k, g, pre, rfl, rfl, hk, HI, HP, HPL, HJ2, hsz2, F1, F2⟩ := hrel
    clear HI0 HJ1 f1 f2
    by_cases hlt : k < 8
    · have hd : decide ((k : Int) < 8) = true := decide_eq_true (by omega)
      have hw1 : IntKind.i64.wrap (32 * (k : Int)) = 32 * k := by rw [IntKind.wrap_i64]; omega
      have hw2 : IntKind.i64.wrap (112 + 32 * (k : Int)) = 112 + 32 * k := by rw [IntKind.wrap_i64]; omega
      have p1 := F1.out
      have p2 := F2.out
      have HFL := Lib.hid (show (if k = 0 then A0 else A1).length = 32 by split; exact HA0.out; exact HA1.out)
      have HWK := Lib.hid (HWS.out k hlt)
      obtain ⟨A, hA⟩ : ∃ A, (if k = 0 then A0 else A1) = A := ⟨_, rfl⟩
      rw [hA] at HI HFL HWK
      clear hA
      gi_wp2_with fail
      refine ⟨trivial, ?_⟩
      refine (callsIn_wide.2 (HF.out _)).mono ?_
      rintro e W2 ⟨g2, rfl, hO, hg2, hlt2, hB⟩
      have HI2 := Lib.hid (full_ints hO HA2.out hlt2)
      have HJ3 := Lib.hid (HJ.out _ _ _ HJ2.out hB)
      have HI1 := Lib.hid (HI.out.keep hB)
      have hz2 := hB.size
      have q1 := Lib.hid ((hB.cell (p := ⟨b + 1, 0, none⟩) (by show b + 1 < _; omega)).trans p1)
      have q2 := Lib.hid ((hB.cell (p := ⟨b + 2, 0, none⟩) (by show b + 2 < _; omega)).trans p2)
      clear hO hB HI HJ2 F1 F2 p1 p2
      gi_wp2_with (gi_at_builtin; refine appendIn_full rfl (.tmp 30) (.tmp 32) rfl g 32 A rfl HFL.out HI1.out g2 32 A2 rfl HA2.out HI2.out (by rw [HA2.out]; omega) (by rw [HFL.out]; omega) (by rw [HA2.out]; omega) 64 (by rw [HFL.out, HA2.out]) ?_; intro g3 c3 W3 hlt3 hg3 hI3 hB3; have hz3 := hB3.size; obtain ⟨fn, tmps, assign, body, hy, hR⟩ := HY.out pre ⟨112 + 32 * (k : Int), A ++ A2, g3, c3⟩ W3 (HJ.out _ _ _ HJ3.out hB3) (by omega) ⟨by rw [HPL.out]; exact HWK.out, by show _ ≤ g3; omega, hlt3, hI3⟩; dsimp only [encW] at hy; rw [List.length_append, HFL.out, HA2.out] at hy)
      refine hR.mono ?_
      rintro e W4 ⟨rfl, hJ4, hz4, hK4⟩
      have r1 := Lib.hid ((World.cell?_of_block (a := ⟨b + 1, 0, none⟩) (hK4 (b + 1) (by omega) (by omega))).trans ((hB3.cell (p := ⟨b + 1, 0, none⟩) (by show b + 1 < _; omega)).trans q1.out))
      have r2 := Lib.hid ((World.cell?_of_block (a := ⟨b + 2, 0, none⟩) (hK4 (b + 2) (by omega) (by omega))).trans ((hB3.cell (p := ⟨b + 2, 0, none⟩) (by show b + 2 < _; omega)).trans q2.out))
      have HJ4 := Lib.hid hJ4
      have p2 := r2.out
      clear hI3 hJ4 hK4 q1 q2 hy hR
      gi_wp2_with fail
      refine ⟨trivial, ?_⟩
      refine (callsIn_wide.2 (HH1.out _)).mono ?_
      rintro e W5 ⟨g5, rfl, hO, hg5, hlt5, hB5⟩
      have HI5 := Lib.hid (full_ints hO HA1.out hlt5)
      have HJ5 := Lib.hid (HJ.out _ _ _ HJ4.out hB5)
      have hz5 := hB5.size
      have s1 := Lib.hid ((hB5.cell (p := ⟨b + 1, 0, none⟩) (by show b + 1 < _; omega)).trans r1.out)
      have s2 := Lib.hid ((hB5.cell (p := ⟨b + 2, 0, none⟩) (by show b + 2 < _; omega)).trans r2.out)
      clear hO p2
      gi_wp2
      go_roundw
      case rel => exact ⟨k + 1, g5, pre ++ [⟨112 + 32 * (k : Int), A ++ A2, g3, c3⟩], by go_num, rfl, by omega, by rw [if_neg (by omega)]; exact HI5, Lib.hid (by rw [List.map_append, HP.out, List.take_add_one, HWK.out]; rfl), Lib.hid (by rw [List.length_append, HPL.out]; rfl), HJ5, by omega, s1, s2⟩
      case measure => simp [intOf]; omega
    · have hd : decide ((k : Int) < 8) = false := decide_eq_false (by omega)
      gi_wp2
      go_end0
      exact ⟨⟨_, rfl⟩, pre, by rw [HP.out, List.take_of_length_le (by rw [HW8.out]; omega)], HJ2.out⟩
end Go.Proofs.Ytcmbbmilldhnnaa
