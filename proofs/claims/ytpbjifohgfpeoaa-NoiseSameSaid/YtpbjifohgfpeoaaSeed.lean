/- noise.Seed, per, draw: what each call answers. -/
import Derived.Test.YtpbjifohgfpeoaaPower
set_option linter.unusedVariables false
namespace Go.Proofs.Ytpbjifohgfpeoaa
open Go.ChangeShapes Go.WideShapes Go.ChangeAt Go.RowKit

def BadS (g v b : Int) : Prop := g < 0 ∨ 255 < g ∨ v < 0 ∨ 8 ≤ v ∨ b < 0 ∨ 511 < b
instance (g v b : Int) : Decidable (BadS g v b) := by unfold BadS; infer_instance
/-- A band's seed. -/
def seedN (g v b : Int) : Int := (4096 * g + 512 * v + b) * 2654435761 % 4294967296
def seedV (g v b : Int) : Int × Int := if BadS g v b then (0, 2) else (seedN g v b, 0)
def RSeed (p : Int × Int) (w : World) (e : Ending) (w' : World) : Prop := e = .returned (.tuple #[.int .u32 p.1, .int .i64 p.2]) ∧ w = w'
set_option maxHeartbeats 1000000 in
theorem seed_any (g v b : Int) (w : World) : Calls Try.prog 11 #[.int .i64 g, .int .i64 v, .int .i64 b] w (RSeed (seedV g v b) w) := by
  by_cases hb : BadS g v b
  · rw [seedV, if_pos hb]
    unfold BadS at hb
    go_enter Try.func11, Try.ntmps11
    go_wp2
    all_goals first | (go_ret2; exact ⟨rfl, rfl⟩) | (exfalso; simp at *; omega)
  · rw [seedV, if_neg hb, seedN]
    unfold BadS at hb
    obtain ⟨h1, h2, h3, h4, h5, h6⟩ : 0 ≤ g ∧ g ≤ 255 ∧ 0 ≤ v ∧ v ≤ 7 ∧ 0 ≤ b ∧ b ≤ 511 := by omega
    have d1 : decide (g < 0) = false := by simp; omega
    have d2 : decide (255 < g) = false := by simp; omega
    have d3 : decide (v < 0) = false := by simp; omega
    have d4 : decide (8 ≤ v) = false := by simp; omega
    have d5 : decide (b < 0) = false := by simp; omega
    have d6 : decide (511 < b) = false := by simp; omega
    clear hb
    go_enter Try.func11, Try.ntmps11
    go_wp2
    go_ret2
    have e : 4096 * g + 512 * v + b = g * 4096 + v * 512 + b := by omega
    rw [e]
    exact ⟨rfl, rfl⟩

/-- a divided by b, rounded off. -/
def perV (a b : Int) : Int := (2 * a + b) / (2 * b)
theorem per_floor (x y : Int) (hy : 0 < y) : x / y = if x.tmod y < 0 then x.tdiv y - 1 else x.tdiv y := by
  have h1 := Int.mul_tdiv_add_tmod x y
  have h2 := Int.mul_ediv_add_emod x y
  have h3 := Int.emod_nonneg x (b := y) (by omega)
  have h4 := Int.emod_lt_of_pos x hy
  have h5 := Int.lt_tmod_of_pos x hy
  have h6 := Int.tmod_lt_of_pos x hy
  have key : ∀ q q' : Int, -y < y * q - y * q' → y * q - y * q' < y → q = q' := by
    intro q q' k1 k2
    rw [← Int.mul_sub] at k1 k2
    have a1 : -1 < q - q' := by
      rcases Int.lt_or_le (-1) (q - q') with h | h
      · exact h
      · have := Int.mul_le_mul_of_nonneg_left h (Int.le_of_lt hy); omega
    have a2 : q - q' < 1 := by
      rcases Int.lt_or_le (q - q') 1 with h | h
      · exact h
      · have := Int.mul_le_mul_of_nonneg_left h (Int.le_of_lt hy); omega
    omega
  split
  · apply key; all_goals rw [Int.mul_sub]; omega
  · apply key; all_goals omega
set_option maxHeartbeats 1000000 in
theorem per_ok (a b : Int) (a0 : -1000000000000000000 ≤ a) (a1 : a ≤ 1000000000000000000) (b0 : 0 < b) (b1 : b ≤ 1000000000000000000) (w : World) :
    Calls Try.prog 18 #[.int .i64 a, .int .i64 b] w fun e w' => e = .returned (.int .i64 (perV a b)) ∧ w = w' := by
  have hf := per_floor (2 * a + b) (2 * b) (by omega)
  have t1 := Int.lt_tmod_of_pos (2 * a + b) (show 0 < 2 * b by omega)
  have t2 := Int.tmod_lt_of_pos (2 * a + b) (show 0 < 2 * b by omega)
  have t3 := Int.mul_tdiv_add_tmod (2 * a + b) (2 * b)
  have lb : -4000000000000000000 ≤ (2 * a + b) / (2 * b) := (Int.le_ediv_iff_mul_le (by omega)).2 (by omega)
  have ub : (2 * a + b) / (2 * b) < 4000000000000000000 := (Int.ediv_lt_iff_lt_mul (by omega)).2 (by omega)
  by_cases hneg : (2 * a + b).tmod (2 * b) < 0
  · have hr : Hid (perV a b = (2 * a + b).tdiv (2 * b) - 1) := by show _ = _; rw [perV, hf, if_pos hneg]
    rw [hf, if_pos hneg] at lb ub
    clear hf t3
    go_enter Try.func18, Try.ntmps18
    go_wp2
    go_ret
    exact ⟨ret_int hr.out.symm, rfl⟩
  · have hr : Hid (perV a b = (2 * a + b).tdiv (2 * b)) := by show _ = _; rw [perV, hf, if_neg hneg]
    rw [hf, if_neg hneg] at lb ub
    clear hf t3
    go_enter Try.func18, Try.ntmps18
    go_wp2
    go_ret
    exact ⟨ret_int hr.out.symm, rfl⟩

/-- A draw. -/
def nextS (s : Int) : Int := (s * 1664525 + 1013904223) % 4294967296
def drawV (s : Int) : Int := nextS s / 65536 - 32768
theorem next_range (s : Int) : 0 ≤ nextS s ∧ nextS s < 4294967296 := ⟨Int.emod_nonneg _ (by decide), Int.emod_lt_of_pos _ (by decide)⟩
theorem draw_range (s : Int) : -32768 ≤ drawV s ∧ drawV s ≤ 32767 := by
  have := next_range s
  unfold drawV
  omega
def OneS (N : Nat) (s : Int) (w : World) : Prop := w.heap[N]? = some (.cells #[.int .u32 s] 41 (0, 0))
def RDraw (N : Nat) (s : Int) (w : World) (e : Ending) (w' : World) : Prop := e = .returned (.int .i64 (drawV s)) ∧ OneS N (nextS s) w' ∧ w' = w.setCell ⟨N, 0, none⟩ (.int .u32 (nextS s))
set_option maxHeartbeats 1000000 in
theorem draw_ok (N : Nat) (s : Int) (s0 : 0 ≤ s) (s1 : s < 4294967296) (w : World) (h : OneS N s w) :
    Calls Try.prog 16 #[.pointer (some ⟨N, 0, none⟩)] w (RDraw N s w) := by
  have c1 := cell_of_one h
  have f1 := free_of_one h
  have h2 : OneS N (nextS s) (w.setCell ⟨N, 0, none⟩ (.int .u32 (nextS s))) := one_setCell h
  have c2 := cell_of_one h2
  have H2 := Lib.hid h2
  clear h2 h
  have hd : Hid (nextS s / 65536 - 32768 = drawV s) := rfl
  obtain ⟨n0, n1⟩ := next_range s
  have hn : (s * 1664525 + 1013904223) % 4294967296 = nextS s := rfl
  have hn2 : (s * 1664525 % 4294967296 + 1013904223) % 4294967296 = nextS s := by unfold nextS; omega
  obtain ⟨z, hz⟩ : ∃ z, nextS s = z := ⟨_, rfl⟩
  have HZ := Lib.hid hz
  rw [hz] at c2 n0 n1 hn hn2
  clear hz
  go_enter Try.func16, Try.ntmps16
  go_wp2
  go_ret
  obtain rfl := HZ.out
  exact ⟨ret_int hd.out, H2.out, rfl⟩
end Go.Proofs.Ytpbjifohgfpeoaa
