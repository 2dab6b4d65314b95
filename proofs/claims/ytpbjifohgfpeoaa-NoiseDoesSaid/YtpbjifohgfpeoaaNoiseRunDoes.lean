/- NoiseDoes. -/
import Derived.Test.YtpbjifohgfpeoaaNoiseAll
set_option linter.unusedVariables false
namespace Go.Proofs.Ytpbjifohgfpeoaa
open Go.ChangeShapes Go.WideShapes Go.ChangeAt Go.RowKit

theorem seedV_range (g v b : Int) : 0 ≤ (seedV g v b).1 ∧ (seedV g v b).1 < 4294967296 := by
  unfold seedV seedN
  split
  · exact ⟨by decide, by decide⟩
  · exact ⟨Int.emod_nonneg _ (by decide), Int.emod_lt_of_pos _ (by decide)⟩
set_option maxRecDepth 100000 in
set_option maxHeartbeats 2000000 in
theorem does16 (gain win band s step many : Int) (s0 : 0 ≤ s) (s1 : s < 4294967296) (w : World) :
    Calls Try.prog 6 #[.int .i64 gain, .int .i64 win, .int .i64 band, .int .u32 s, .int .i64 step, .int .i64 many] w fun e w' => e = .returned (.bool true) ∧ Below w.heap.size w w' := by
  have A := Lib.hid (fun W => seed_any gain win band W)
  have B := Lib.hid (fun W => refSeed_any gain win band W)
  have F := Lib.hid (fun W => Band_any s step many s0 s1 W)
  have G := Lib.hid (fun W => refBand_any s step many s0 s1 W)
  have hl := bandN_len s step many
  generalize seedV gain win band = sd at *
  generalize bandN s step many = p at *
  obtain ⟨x, e⟩ := sd
  obtain ⟨l, f⟩ := p
  unfold RSeed at A B
  unfold RRowE at F G
  dsimp only at A B F G hl
  have hmax : Hid (l.length ≤ maxLen) := by unfold maxLen; show _ ≤ _; omega
  go_enter Try.func6, Try.ntmps6
  go_wp2_with fail
  refine (A.out _).mono ?_
  rintro e w1 ⟨rfl, hw⟩
  obtain rfl := hw
  go_wp2_with fail
  refine (B.out _).mono ?_
  rintro e w1 ⟨rfl, hw⟩
  obtain rfl := hw
  go_wp2_with fail
  refine (F.out _).mono ?_
  rintro e w1 ⟨v1, rfl, hO, hb1⟩
  obtain ⟨p1, c1, rfl, I1⟩ := owns_any hO
  have HS1 := Lib.hid (Spoil.of hO)
  have HI1 := Lib.hid I1
  clear hO I1 A B
  go_wp2_with fail
  refine (G.out _).mono ?_
  rintro e w2 ⟨v2, rfl, hO2, hb2⟩
  obtain ⟨p2, c2, rfl, I2⟩ := owns_any hO2
  have HI2 := Lib.hid I2
  have HI1' := Lib.hid (HI1.out.ints.keep hb2)
  have HS2 := Lib.hid (HS1.out.keep hb2 (Nat.le_refl _))
  have hb12 := hb1.trans (hb2.mono hb1.size)
  have hsz1 := hb1.size
  have hsz2 := hb2.size
  clear hO2 HI1 I2 HS1 G hb1 hb2
  go_wp2_with fail
  refine (ints_same _ _ l _ _ _ HI1'.out HI2.out.ints hmax.out).mono ?_
  rintro e w3 ⟨rfl, n, rfl⟩
  clear HI1'
  have HS := Lib.hid (HS2.out.drewN n)
  have hbS := below_drewN hb12 n
  have HI3 := Lib.hid (HI2.out.drewN n)
  clear HS2 hb12 HI2
  go_wp2
  go_loopw [21] (fun I wr => ∃ (k : Nat) (xs : List Value), I = .int .i64 k ∧ k ≤ l.length ∧ Hid (Spoil wr p1 l.length c1 w.heap.size w1.heap.size xs) ∧ Hid (∀ j, k ≤ j → j < l.length → xs[j]? = some (.int .i64 ((l).getD j 0))) ∧ Hid (IntsB wr p2 l w1.heap.size w2.heap.size) ∧ Below w.heap.size w wr) (fun I _ => l.length - (intOf I).toNat)
  case atStart => exact ⟨0, _, rfl, Nat.zero_le _, HS, Lib.hid (row_get l), HI3, hbS⟩
  case round =>
    obtain ⟨k, xs, rfl, hk, hS, hxs, hI, hbw⟩ := hrel
    clear HS hbS
    by_cases hklt : k < l.length
    · obtain ⟨g, hgp, hg1, hg2, hc, hf, hnext⟩ := hS.out.at hklt
      rw [hxs.out k (Nat.le_refl _) hklt] at hc
      obtain ⟨z, hz⟩ : ∃ z, (l).getD k 0 = z := ⟨_, rfl⟩
      rw [hz] at hc
      have hS2 := Lib.hid (hnext (.int .i64 (wrap64 (z + 1))))
      have hxs2 := Lib.hid (row_set hxs.out (.int .i64 (wrap64 (z + 1))))
      have hI2 := Lib.hid (hI.out.setCell ⟨g, k, none⟩ (.int .i64 (wrap64 (z + 1))) (.inl hg2))
      have hb2 := hbw.setCell (p := ⟨g, k, none⟩) (show w.heap.size ≤ g by omega) (.int .i64 (wrap64 (z + 1)))
      subst hgp
      clear hz hS hxs hnext hbw hI
      go_wp2
      exact ⟨⟨k + 1, _, by go_num, by omega, hS2, hxs2, hI2, hb2⟩, by simp [intOf]; omega⟩
    · clear hS hxs
      go_wp2_with fail
      refine (F.out _).mono ?_
      rintro e w4 ⟨v4, rfl, hO4, hb4⟩
      obtain ⟨p4, c4, rfl, I4⟩ := owns_any hO4
      have HI4 := Lib.hid I4
      have HI5 := Lib.hid (hI.out.ints.keep hb4)
      have hb5 := hbw.trans (hb4.mono hbw.size)
      clear hO4 hb4 I4 hI F
      go_wp2_with fail
      refine (ints_same _ _ l _ _ _ HI4.out.ints HI5.out hmax.out).mono ?_
      rintro e w5 ⟨rfl, n', rfl⟩
      go_wp2
      go_ret
      exact ⟨rfl, below_drewN hb5 _⟩
end Go.Proofs.Ytpbjifohgfpeoaa
