/- Noise is some; the examples. -/
import Derived.Test.YtpbjifohgfpeoaaNoiseAll
set_option linter.unusedVariables false
namespace Go.Proofs.Ytpbjifohgfpeoaa
open Go.ChangeShapes Go.WideShapes Go.ChangeAt Go.RowKit

theorem some_noise : (noiseV 9 160 8 0 == 0) = false := by decide +kernel
theorem alive_band : bandN 9 160 8 = (noiseL 9 160 8, 0) := by
  rw [bandN, if_neg (by decide), if_neg (by decide)]; rfl
set_option maxRecDepth 100000 in
set_option maxHeartbeats 2000000 in
theorem alive16 (w : World) : Calls Try.prog 8 #[] w fun e w' => e = .returned (.bool true) ∧ Below w.heap.size w w' := by
  have F := Lib.hid (fun W => Band_any 9 160 8 (by decide) (by decide) W)
  rw [alive_band] at F
  have hlen : (noiseL 9 160 8).length = 8 := noise_len _ _ _
  have h0 : (noiseL 9 160 8).getD 0 0 = noiseV 9 160 8 0 := rfl
  have hz := some_noise
  rw [← h0] at hz
  unfold RRowE at F
  dsimp only at F
  generalize noiseL 9 160 8 = l at *
  clear h0
  have HL := Lib.hid hlen
  go_enter Try.func8, Try.ntmps8
  go_wp2_with fail
  refine (F.out _).mono ?_
  rintro e w1 ⟨v1, rfl, hO, hb1⟩
  obtain ⟨p1, c1, rfl, I1⟩ := owns_any hO
  obtain ⟨b, off, rfl, hc⟩ := I1.at (j := 0) (by omega)
  rw [hlen]
  rw [Nat.add_zero] at hc
  generalize l.getD 0 0 = x at hc hz
  clear hO I1 hlen F HL
  go_wp2
  refine wp_loop_rounds 1 ?_
  rw [rounds_succ]
  go_wp2
  go_ret
  exact ⟨rfl, hb1⟩
theorem names_band1 : bandN 9 100 0 = ([], 0) := by
  rw [bandN, if_neg (by decide), if_neg (by decide)]; rfl
theorem names_band2 : bandN 0 512 1 = ([], 2) := by rw [bandN, if_pos (by decide)]
theorem names_band3 : bandN 0 0 257 = ([], 4) := by rw [bandN, if_neg (by decide), if_pos (by decide)]
theorem names_seed1 : seedV 0 0 0 = (0, 0) := by decide +kernel
theorem names_seed2 : seedV 256 0 0 = (0, 2) := by decide +kernel
set_option maxRecDepth 100000 in
set_option maxHeartbeats 2000000 in
theorem names16 (w : World) : Calls Try.prog 5 #[] w fun e w' => e = .returned (.bool true) ∧ Below w.heap.size w w' := by
  have F1 := Lib.hid (fun W => Band_any 9 100 0 (by decide) (by decide) W)
  have F2 := Lib.hid (fun W => Band_any 0 512 1 (by decide) (by decide) W)
  have F3 := Lib.hid (fun W => Band_any 0 0 257 (by decide) (by decide) W)
  have S1 := Lib.hid (fun W => seed_any 0 0 0 W)
  have S2 := Lib.hid (fun W => seed_any 256 0 0 W)
  rw [names_band1] at F1
  rw [names_band2] at F2
  rw [names_band3] at F3
  rw [names_seed1] at S1
  rw [names_seed2] at S2
  unfold RRowE at F1 F2 F3
  unfold RSeed at S1 S2
  dsimp only at F1 F2 F3 S1 S2
  go_enter Try.func5, Try.ntmps5
  go_wp2_with fail
  refine (S1.out _).mono ?_
  rintro e w1 ⟨rfl, hw⟩
  obtain rfl := hw
  go_wp2_with fail
  refine (F1.out _).mono ?_
  rintro e w1 ⟨v1, rfl, hO1, hb1⟩
  obtain ⟨p1, c1, rfl, -⟩ := owns_any hO1
  clear hO1
  go_wp2_with fail
  refine (S2.out _).mono ?_
  rintro e w2 ⟨rfl, hw⟩
  obtain rfl := hw
  go_wp2_with fail
  refine (F2.out _).mono ?_
  rintro e w2 ⟨v2, rfl, hO2, hb2⟩
  obtain ⟨p2, c2, rfl, -⟩ := owns_any hO2
  clear hO2
  go_wp2_with fail
  refine (F3.out _).mono ?_
  rintro e w3 ⟨v3, rfl, hO3, hb3⟩
  obtain ⟨p3, c3, rfl, -⟩ := owns_any hO3
  clear hO3
  go_wp2_with fail
  refine (alive16 _).mono ?_
  rintro e w4 ⟨rfl, hb4⟩
  go_wp2
  go_ret
  have sz2 := hb1.size
  have sz3 : w.heap.size ≤ w2.heap.size := Nat.le_trans sz2 hb2.size
  have sz4 : w.heap.size ≤ w3.heap.size := Nat.le_trans sz3 hb3.size
  exact ⟨rfl, ((hb1.trans (hb2.mono sz2)).trans (hb3.mono sz3)).trans (hb4.mono sz4)⟩
end Go.Proofs.Ytpbjifohgfpeoaa
