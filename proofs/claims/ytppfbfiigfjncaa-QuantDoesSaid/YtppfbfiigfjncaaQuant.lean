/- power.Quant: what each call answers. -/
import Derived.Test.YtppfbfiigfjncaaPower
set_option linter.unusedVariables false
namespace Go.Proofs.Ytppfbfiigfjncaa
open Go.ChangeShapes Go.WideShapes Go.ChangeAt Go.RowKit

/-- Is a line at most halfway to the next quantised one's? -/
def halfway (x : Int) (s q : Nat) : Bool := decide (2 * x ≤ lineN q s + lineN (q + 1) s)
/-- The least number below so many that is so; else how many there are. -/
def least (p : Nat → Bool) : Nat → Nat
  | 0 => 0
  | n + 1 => if p 0 then 0 else least (fun i => p (i + 1)) n + 1
theorem least_spec (n : Nat) : ∀ p : Nat → Bool, least p n ≤ n ∧ (least p n < n → p (least p n) = true) ∧ ∀ i, i < least p n → p i = false := by
  induction n with
  | zero => intro p; exact ⟨Nat.le_refl _, fun h => by simp [least] at h, fun i h => by simp [least] at h⟩
  | succ n ih =>
    intro p
    obtain ⟨a, b, c⟩ := ih (fun i => p (i + 1))
    unfold least
    by_cases h : p 0 = true
    · rw [if_pos h]; exact ⟨by omega, fun _ => h, fun i hi => by omega⟩
    · rw [if_neg h]
      refine ⟨by omega, fun hl => b (by omega), fun i hi => ?_⟩
      cases i with
      | zero => simpa using h
      | succ i => exact c i (by omega)
theorem least_eq {p : Nat → Bool} {n k : Nat} (hk : k ≤ n) (h1 : k < n → p k = true) (h2 : ∀ i, i < k → p i = false) : least p n = k := by
  obtain ⟨a, b, c⟩ := least_spec n p
  rcases Nat.lt_trichotomy (least p n) k with h | h | h
  · have := b (by omega); rw [h2 _ h] at this; cases this
  · exact h
  · have := c k h; rw [h1 (by omega)] at this; cases this
/-- The quantised line that is nearest. -/
def quantN (x : Int) (s : Nat) : Nat := least (halfway x s) 8191
theorem halfway_mono (x : Int) (s a b : Nat) (hab : a ≤ b) (hb : b < 8191) (h : halfway x s a = true) : halfway x s b = true := by
  unfold halfway at *
  have h1 := lineN_mono (a := a) (b := b) s hab (by omega)
  have h2 := lineN_mono (a := a + 1) (b := b + 1) s (by omega) (by omega)
  have := of_decide_eq_true h
  exact decide_eq_true (by omega)

theorem qkeep {B : Nat} {w W w1 : World} {a b : Addr} {u v : Value} (h : W.cell? a = some u ∧ W.cell? b = some v ∧ Below B w W ∧ a.block < W.heap.size ∧ b.block < W.heap.size ∧ B ≤ W.heap.size) (hb : Below W.heap.size W w1) :
    w1.cell? a = some u ∧ w1.cell? b = some v ∧ Below B w w1 ∧ a.block < w1.heap.size ∧ b.block < w1.heap.size ∧ B ≤ w1.heap.size := by
  obtain ⟨h0, h1, h2, h3, h4, h5⟩ := h
  have := hb.size
  exact ⟨(hb.cell h3).trans h0, (hb.cell h4).trans h1, h2.trans (hb.mono h5), by omega, by omega, by omega⟩
theorem qend {B : Nat} {w W : World} {a b : Addr} {u v : Value} (h : W.cell? a = some u ∧ W.cell? b = some v ∧ Below B w W ∧ a.block < W.heap.size ∧ b.block < W.heap.size ∧ B ≤ W.heap.size) : Below B w W := h.2.2.1

set_option maxRecDepth 100000 in
set_option maxHeartbeats 600000 in
theorem quant1_any (x : Int) (s q : Nat) (x0 : 0 ≤ x) (x1 : x ≤ 268435455) (hs : s ≤ 255) (hq : q < 8191) (a b : Addr) (w : World) (ha : w.cell? a = some (.int .i64 x)) (hb : w.cell? b = some (.int .i64 s)) (la : a.block < w.heap.size) (lb : b.block < w.heap.size) :
    Calls Try.prog 37 #[.int .i64 q, .pointer (some a), .pointer (some b)] w fun e w' => e = .returned (.bool (halfway x s q)) ∧ Below w.heap.size w w' := by
  obtain ⟨r0, r1⟩ := lineN_range q s (by omega)
  obtain ⟨t0, t1⟩ := lineN_range (q + 1) s (by omega)
  have hf : Hid (halfway x s q = decide (2 * x ≤ lineN q s + lineN (q + 1) s)) := rfl
  have F1 := Lib.hid (fun W => line_pos q s (by omega) hs W)
  have G2 : ∀ W, Calls Try.prog 35 #[.int .i64 ((q : Int) + 1), .int .i64 s] W fun e w' => e = .returned (.int .i64 (lineN (q + 1) s)) ∧ Below W.heap.size W w' := fun W => by
    have e : ((q + 1 : Nat) : Int) = (q : Int) + 1 := by simp
    rw [← e]; exact line_pos (q + 1) s (by omega) hs W
  have F2 := Lib.hid G2
  clear G2
  generalize halfway x s q = H at *
  generalize lineN q s = L1 at *
  generalize lineN (q + 1) s = L2 at *
  have q1 : IntKind.i64.wrap (2 * x) = 2 * x := IntWalk.i64_in _ (by omega)
  have q2 : IntKind.i64.wrap ((q : Int) + 1) = (q : Int) + 1 := IntWalk.i64_in _ (by omega)
  have q3 : IntKind.i64.wrap (L1 + L2) = L1 + L2 := IntWalk.i64_in _ (by omega)
  have hfirst : Hid (w.drew.cell? a = some (.int .i64 x) ∧ w.drew.cell? b = some (.int .i64 s) ∧ Below w.heap.size w w.drew ∧ a.block < w.drew.heap.size ∧ b.block < w.drew.heap.size ∧ w.heap.size ≤ w.drew.heap.size) := ⟨ha, hb, (Below.refl _ _).drew, la, lb, Nat.le_refl _⟩
  go_enter Try.func37, Try.ntmps37
  go_wp2_with fail
  go_region_held3 (fun w' => w'.cell? a = some (.int .i64 x) ∧ w'.cell? b = some (.int .i64 s) ∧ Below w.heap.size w w' ∧ a.block < w'.heap.size ∧ b.block < w'.heap.size ∧ w.heap.size ≤ w'.heap.size)
    (first | assumption | exact hfirst.out | (refine qkeep ?_ hb1; assumption))
    (first | (go_at_call 35; ((with_reducible refine (F1.out _).mono ?_); rintro e w1 ⟨rfl, hb1⟩)) | (go_at_call 35; ((with_reducible refine (F2.out _).mono ?_); rintro e w1 ⟨rfl, hb1⟩)))
  go_wp2
  all_goals go_ret
  all_goals exact ⟨ret_bool hf.out.symm, qend (by assumption)⟩

def RSearch (x : Int) (s : Nat) (w : World) (e : Ending) (w' : World) : Prop := e = .returned (.int .i64 (quantN x s)) ∧ Below w.heap.size w w'
set_option maxRecDepth 100000 in
set_option maxHeartbeats 1000000 in
theorem search_any (x : Int) (s : Nat) (x0 : 0 ≤ x) (x1 : x ≤ 268435455) (hs : s ≤ 255) (a b : Addr) (w : World) (ha : w.cell? a = some (.int .i64 x)) (hb : w.cell? b = some (.int .i64 s)) (la : a.block < w.heap.size) (lb : b.block < w.heap.size) :
    Calls Try.prog 36 #[.int .i64 8191, .func (.func 37) #[] #[.pointer (some a), .pointer (some b)]] w (RSearch x s w) := by
  have HA := Lib.hid ha
  have HB := Lib.hid hb
  have HM := Lib.hid (halfway_mono x s)
  clear ha hb
  go_enter Try.func36, Try.ntmps36
  go_wp2
  go_loopw [5, 6] (fun I J wr => ∃ (i j : Nat), I = .int .i64 i ∧ J = .int .i64 j ∧ i ≤ j ∧ j ≤ 8191 ∧ Hid (∀ k, k < i → halfway x s k = false) ∧ Hid (j < 8191 → halfway x s j = true) ∧ Below w.heap.size w wr) (fun i j _ => (intOf j - intOf i).toNat)
  case atStart => exact ⟨0, 8191, rfl, rfl, by decide, by decide, fun _ h => by omega, fun h => by omega, Below.refl _ _⟩
  case round =>
    obtain ⟨i, j, rfl, rfl, hij, hj, hlo, hhi, hbw⟩ := hrel
    by_cases hlt : i < j
    · have hm : (i + j) / 2 < 8191 := by omega
      have F := Lib.hid (quant1_any x s ((i + j) / 2) x0 x1 hs hm a b wr ((hbw.cell la).trans HA.out) ((hbw.cell lb).trans HB.out) (Nat.lt_of_lt_of_le la hbw.size) (Nat.lt_of_lt_of_le lb hbw.size))
      have e2 : (((i + j) / 2 : Nat) : Int) = ((i : Int) + j) / 2 := by simp
      have F' := F.out
      rw [e2] at F'
      have G := Lib.hid F'
      clear F F' e2
      cases hg : halfway x s ((i + j) / 2)
      · have HX : Hid (∀ k, k < (i + j) / 2 + 1 → halfway x s k = false) := fun k hk => by
          cases hk2 : halfway x s k
          · rfl
          · have := HM.out k ((i + j) / 2) (by omega) hm hk2; rw [hg] at this; cases this
        have HG := Lib.hid hg
        clear hg
        go_wp2_with fail
        refine G.out.mono ?_
        rw [HG.out]
        rintro e w1 ⟨rfl, hb1⟩
        have b2 := hbw.trans (hb1.mono hbw.size)
        clear hb1 G HG
        go_wp2
        exact ⟨⟨(i + j) / 2 + 1, j, by go_num, rfl, by omega, hj, HX, hhi, b2⟩, by simp [intOf]; omega⟩
      · have HX : Hid ((i + j) / 2 < 8191 → halfway x s ((i + j) / 2) = true) := fun _ => hg
        have HG := Lib.hid hg
        clear hg
        go_wp2_with fail
        refine G.out.mono ?_
        rw [HG.out]
        rintro e w1 ⟨rfl, hb1⟩
        have b2 := hbw.trans (hb1.mono hbw.size)
        clear hb1 G HG
        go_wp2
        exact ⟨⟨i, (i + j) / 2, rfl, by go_num, by omega, by omega, hlo, HX, b2⟩, by simp [intOf]; omega⟩
    · obtain rfl : i = j := by omega
      have hf : Hid (quantN x s = i) := least_eq hj hhi.out hlo.out
      go_wp2
      go_ret
      exact ⟨ret_int (by rw [hf.out]), hbw⟩
end Go.Proofs.Ytppfbfiigfjncaa
