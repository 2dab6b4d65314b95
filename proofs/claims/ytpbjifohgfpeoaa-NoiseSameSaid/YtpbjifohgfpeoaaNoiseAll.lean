/- noise.Band and the document's, whatever is handed in. -/
import Derived.Test.YtpbjifohgfpeoaaRefNoise
import Derived.Test.YtpbjifohgfpeoaaSame11
set_option linter.unusedVariables false
namespace Go.Proofs.Ytpbjifohgfpeoaa
open Go.ChangeShapes Go.WideShapes Go.ChangeAt Go.RowKit

theorem u32_range {n : Int} (h : (Lit.int .u32 n).wf = true) : 0 ≤ n ∧ n < 4294967296 := by
  have := bounds_u32 h
  omega
/-- What a band answers. -/
def bandN (s step many : Int) : List Int × Int := if step < 0 ∨ 511 < step then ([], 2) else if many < 0 ∨ 256 < many then ([], 4) else (noiseL s step many.toNat, 0)
theorem bandN_len (s step many : Int) : (bandN s step many).1.length ≤ 256 := by
  unfold bandN
  split
  · simp
  · split
    · simp
    · show (noiseL s step many.toNat).length ≤ 256
      rw [noise_len]; omega
def RRowE (p : List Int × Int) (w : World) (e : Ending) (w' : World) : Prop := ∃ v, e = .returned (.tuple #[v, .int .i64 p.2]) ∧ w'.ownsRow w.heap.size 3 1 v p.1.length (p.1.map (Value.int .i64)) ∧ Below w.heap.size w w'
set_option maxRecDepth 100000 in
theorem Band_any (s step many : Int) (s0 : 0 ≤ s) (s1 : s < 4294967296) (w : World) :
    Calls Try.prog 9 #[.int .u32 s, .int .i64 step, .int .i64 many] w (RRowE (bandN s step many) w) := by
  by_cases h1 : step < 0 ∨ 511 < step
  · rw [bandN, if_pos h1]
    rcases h1 with h1 | h1
    · have d1 : decide (step < 0) = true := decide_eq_true h1
      go_enter Try.func9, Try.ntmps9
      go_wp2
      go_ret2
      exact ⟨_, rfl, World.ownsRow_nil _ _ _ _, Below.refl _ _⟩
    · have d1 : decide (step < 0) = false := by simp; omega
      have d2 : decide (511 < step) = true := decide_eq_true h1
      go_enter Try.func9, Try.ntmps9
      go_wp2
      go_ret2
      exact ⟨_, rfl, World.ownsRow_nil _ _ _ _, Below.refl _ _⟩
  · rw [bandN, if_neg h1]
    have d1 : decide (step < 0) = false := by simp; omega
    have d2 : decide (511 < step) = false := by simp; omega
    by_cases h2 : many < 0 ∨ 256 < many
    · rw [if_pos h2]
      rcases h2 with h2 | h2
      · have d3 : decide (many < 0) = true := decide_eq_true h2
        go_enter Try.func9, Try.ntmps9
        go_wp2
        go_ret2
        exact ⟨_, rfl, World.ownsRow_nil _ _ _ _, Below.refl _ _⟩
      · have d3 : decide (many < 0) = false := by simp; omega
        have d4 : decide (256 < many) = true := decide_eq_true h2
        go_enter Try.func9, Try.ntmps9
        go_wp2
        go_ret2
        exact ⟨_, rfl, World.ownsRow_nil _ _ _ _, Below.refl _ _⟩
    · rw [if_neg h2]
      obtain ⟨n, rfl⟩ := Int.eq_ofNat_of_zero_le (show 0 ≤ many by omega)
      rw [Int.toNat_natCast]
      refine (nband_ok s step n s0 s1 (by omega) (by omega) (by omega) w).mono ?_
      rintro e w' ⟨g, rfl, hO, _, _, hb⟩
      refine ⟨_, rfl, ?_, hb⟩
      show w'.ownsRow _ _ _ _ (noiseL s step n).length _
      rw [noise_len]; exact hO
set_option maxRecDepth 100000 in
theorem refBand_any (s step many : Int) (s0 : 0 ≤ s) (s1 : s < 4294967296) (w : World) :
    Calls Try.prog 13 #[.int .u32 s, .int .i64 step, .int .i64 many] w (RRowE (bandN s step many) w) := by
  by_cases h1 : step < 0 ∨ 511 < step
  · rw [bandN, if_pos h1]
    rcases h1 with h1 | h1
    · have d1 : decide (step < 0) = true := decide_eq_true h1
      go_enter Try.func13, Try.ntmps13
      go_wp2
      go_ret2
      exact ⟨_, rfl, World.ownsRow_nil _ _ _ _, Below.refl _ _⟩
    · have d1 : decide (step < 0) = false := by simp; omega
      have d2 : decide (511 < step) = true := decide_eq_true h1
      go_enter Try.func13, Try.ntmps13
      go_wp2
      go_ret2
      exact ⟨_, rfl, World.ownsRow_nil _ _ _ _, Below.refl _ _⟩
  · rw [bandN, if_neg h1]
    have d1 : decide (step < 0) = false := by simp; omega
    have d2 : decide (511 < step) = false := by simp; omega
    by_cases h2 : many < 0 ∨ 256 < many
    · rw [if_pos h2]
      rcases h2 with h2 | h2
      · have d3 : decide (many < 0) = true := decide_eq_true h2
        go_enter Try.func13, Try.ntmps13
        go_wp2
        go_ret2
        exact ⟨_, rfl, World.ownsRow_nil _ _ _ _, Below.refl _ _⟩
      · have d3 : decide (many < 0) = false := by simp; omega
        have d4 : decide (256 < many) = true := decide_eq_true h2
        go_enter Try.func13, Try.ntmps13
        go_wp2
        go_ret2
        exact ⟨_, rfl, World.ownsRow_nil _ _ _ _, Below.refl _ _⟩
    · rw [if_neg h2]
      obtain ⟨n, rfl⟩ := Int.eq_ofNat_of_zero_le (show 0 ≤ many by omega)
      rw [Int.toNat_natCast]
      refine (refnband_ok s step n s0 s1 (by omega) (by omega) (by omega) w).mono ?_
      rintro e w' ⟨⟨v, rfl, hO⟩, hb⟩
      refine ⟨_, rfl, ?_, hb⟩
      show w'.ownsRow _ _ _ _ (noiseL s step n).length _
      rw [noise_len]; exact hO
set_option maxHeartbeats 1000000 in
theorem refSeed_any (g v b : Int) (w : World) : Calls Try.prog 12 #[.int .i64 g, .int .i64 v, .int .i64 b] w (RSeed (seedV g v b) w) := by
  by_cases hb : BadS g v b
  · rw [seedV, if_pos hb]
    unfold BadS at hb
    go_enter Try.func12, Try.ntmps12
    go_wp2_with fail
    all_goals first | (go_ret2; exact ⟨rfl, rfl⟩) | (exfalso; simp at *; omega)
  · rw [seedV, if_neg hb, seedN]
    unfold BadS at hb
    obtain ⟨h1, h2, h3, h4, h5, h6⟩ : 0 ≤ g ∧ g ≤ 255 ∧ 0 ≤ v ∧ v ≤ 7 ∧ 0 ≤ b ∧ b ≤ 511 := by omega
    have d1 : decide (g < 0) = false := by simp; omega
    have d2 : decide (255 < g) = false := by simp; omega
    have d3 : decide (v < 0) = false := by simp; omega
    have d4 : decide (7 < v) = false := by simp; omega
    have d5 : decide (b < 0) = false := by simp; omega
    have d6 : decide (511 < b) = false := by simp; omega
    clear hb
    go_enter Try.func12, Try.ntmps12
    go_wp2
    go_ret2
    exact ⟨rfl, rfl⟩
end Go.Proofs.Ytpbjifohgfpeoaa
