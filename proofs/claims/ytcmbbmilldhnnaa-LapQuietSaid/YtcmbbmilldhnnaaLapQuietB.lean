/- LapQuiet: the walk, the second error. -/
import Derived.Test.YtcmbbmilldhnnaaLapQuietW
set_option linter.unusedVariables false
set_option linter.unusedSimpArgs false
namespace Go.Proofs.Ytcmbbmilldhnnaa
open Go.ChangeShapes Go.WideShapes Go.ChangeAt Go.RowKit

set_option maxRecDepth 100000 in
set_option maxHeartbeats 4000000 in
theorem quiet_bad2 (p : Option Addr) (c : Nat) (ls lsh one two shape E : Int) (w : World) (P : List Int) (hE : E ≠ 0) (ht : 3 < two)
    (HN : Hid (∀ (W : World) (q : Option Addr), Below w.heap.size w W → IsInts W q (zeroL 256) → Calls Try.prog 9 #[.agg #[.slice p 256 c, .int .u8 ls, .int .u8 lsh], .int .u8 one, .int .u8 shape, .slice q 256 256] W (RNextOk (zeroL 256) P one shape W)))
    (HM0 : Hid (∀ (V : World) (g : Option Addr) (d : Nat), 256 ≤ d → IsInts V g (zeroL 256) → ∀ (W : World) (q : Option Addr), Below V.heap.size V W → IsInts W q (zeroL 256) → Calls Try.prog 9 #[.agg #[.slice g 256 d, .int .u8 one, .int .u8 shape], .int .u8 two, .int .u8 shape, .slice q 256 256] W (RNextBad E W))) : Calls Try.prog 3 #[.agg #[.slice p 256 c, .int .u8 ls, .int .u8 lsh], .int .u8 one, .int .u8 two, .int .u8 shape] w fun e w' => e = .returned (.bool true) ∧ Below w.heap.size w w' := by
  have d1 : (E == 0) = false := beq_eq_false_iff_ne.2 hE
  have d2 : (E != 0) = true := by simp [bne, d1]
  have d3 : decide (3 < two) = true := decide_eq_true ht
  have d0 : decide ((1000 : Int) < ((256 : Nat) : Int)) = false := by decide
  have HZM := Lib.hid (zero_map 256)
  have HZL := Lib.hid (zero_len 256)
  have HZG := Lib.hid (fun j => zero_get 256 j)
  generalize zeroL 256 = Z at *
  have B0 := Box3.new w 24 (.slice p 256 c) (.int .u8 ls) (.int .u8 lsh) rfl
  have hb0 : Below w.heap.size w (w.alloc (.cells #[.slice p 256 c, .int .u8 ls, .int .u8 lsh] 24)) := (Below.refl _ w).alloc (Nat.le_refl _) _
  go_enter Try.func3, Try.ntmps3
  go_wp2_with fail
  refine (alive13 _).mono ?_
  rintro e w1 ⟨rfl, hB1⟩
  have B1 := B0.keep hB1 B0.lt
  have k0 := B1.cell0
  have k1 := B1.cell1
  have k2 := B1.cell2
  have hb1 := hb0.trans (hB1.mono (by simp))
  have hz1 := hb1.size
  have hlt1 := B1.lt
  clear hB1 B0 hb0
  obtain ⟨zz, hzz, HMK⟩ := make_run 256 256 rfl (by omega)
  rw [← HZM.out] at hzz
  have Na := Lib.hid (q_ok_a HN.out hb1 hzz HZL.out)
  have Nb := Lib.hid (q_ok_b HN.out hb1 hzz HZL.out)
  have Nc := Lib.hid (q_ok_c HN.out hb1 hzz HZL.out)
  have Xa := B1.keep (below_a w1 (.cells zz 3)) hlt1
  have Xb := B1.keep (below_b w1 (.cells zz 3) ZLap) hlt1
  have Xc := B1.keep (below_b w1 ZLap (.cells zz 3)) hlt1
  have Xd := B1.keep (below_a w1 ZLap) hlt1
  have xa0 := Xa.cell0
  have xa1 := Xa.cell1
  have xa2 := Xa.cell2
  have xb0 := Xb.cell0
  have xb1 := Xb.cell1
  have xb2 := Xb.cell2
  have xc0 := Xc.cell0
  have xc1 := Xc.cell1
  have xc2 := Xc.cell2
  have xd0 := Xd.cell0
  have xd1 := Xd.cell1
  have xd2 := Xd.cell2
  clear hzz Xa Xb Xc Xd
  go_upto_region 4 with fail
  go_cut [10, 11, 12] from 28 to 36 (fun s10 s11 s12 wx => ∃ ga g1 c1 g2 c2, s10 = .pointer (some ⟨ga, 0, none⟩) ∧ s11 = .slice (some ⟨g2, 0, none⟩) 256 c2 ∧ s12 = .int .i64 0 ∧ Hid (Box3 wx ga 24 (.slice (some ⟨g1, 0, none⟩) 256 c1) (.int .u8 one) (.int .u8 shape)) ∧ Hid (IsInts wx (some ⟨g1, 0, none⟩) Z) ∧ Hid (IsInts wx (some ⟨g2, 0, none⟩) P) ∧ 256 ≤ c1 ∧ Below w1.heap.size w1 wx)
  case first =>
    go_region_with (go_at_call 9; first
      | ((with_reducible refine Na.out.mono ?_); rintro e w3 ⟨g1, c1, g2, c2, rfl, l1, l2, iT, iP, hc1, hY, hX⟩)
      | ((with_reducible refine Nb.out.mono ?_); rintro e w3 ⟨g1, c1, g2, c2, rfl, l1, l2, iT, iP, hc1, hY, hX⟩; have z0 := hX.cell0; have z1 := hX.cell1; have z2 := hX.cell2; have f0 := hX.frozen 0; have f1 := hX.frozen 1; have f2 := hX.frozen 2)
      | ((with_reducible refine Nc.out.mono ?_); rintro e w3 ⟨g1, c1, g2, c2, rfl, l1, l2, iT, iP, hc1, hY, hX⟩; have z0 := hX.cell0; have z1 := hX.cell1; have z2 := hX.cell2; have f0 := hX.frozen 0; have f1 := hX.frozen 1; have f2 := hX.frozen 2))
    all_goals
      go_wp2_with fail
      go_meet
      first
        | exact ⟨_, g1, c1, g2, c2, rfl, rfl, rfl, Lib.hid (Box3.new _ _ _ _ _ rfl), Lib.hid (iT.alloc _), Lib.hid (iP.alloc _), hc1, hY.alloc hY.size _⟩
        | exact ⟨_, g1, c1, g2, c2, rfl, rfl, rfl, Lib.hid (hX.all _ _ _), Lib.hid (ints_3set iT (by omega) _ _ _), Lib.hid (ints_3set iP (by omega) _ _ _), hc1, below_3set hY (by omega) _ _ _⟩
  case rest =>
    obtain ⟨ga, g1, c1, g2, c2, rfl, rfl, rfl, BX, iT, iP, hc1, hBx⟩ := hcut
    obtain ⟨wX, hwX⟩ : ∃ z, z = wc := ⟨_, rfl⟩
    subst hwX
    have HM := Lib.hid (HM0.out wX (some ⟨g1, 0, none⟩) c1 hc1 iT.out)
    have hlX := BX.out.lt
    have BXo := BX.out
    clear k0 k1 k2
    have k0 := BXo.cell0
    have k1 := BXo.cell1
    have k2 := BXo.cell2
    have HbX := Lib.hid hBx
    have HB1 := Lib.hid B1
    have hBr := Below.refl wX.heap.size wX
    clear Na Nb Nc hBx B1 HN HM0 HMK
    obtain ⟨zz, hzz, HMK⟩ := make_run 256 256 rfl (by omega)
    rw [← HZM.out] at hzz
    have Na := Lib.hid (q_bad_a HM.out hBr hzz HZL.out)
    have Nb := Lib.hid (q_bad_b HM.out hBr hzz HZL.out)
    have Nc := Lib.hid (q_bad_c HM.out hBr hzz HZL.out)
    have Xa := BXo.keep (below_a wX (.cells zz 3)) hlX
    have Xb := BXo.keep (below_b wX (.cells zz 3) ZLap) hlX
    have Xc := BXo.keep (below_b wX ZLap (.cells zz 3)) hlX
    have Xd := BXo.keep (below_a wX ZLap) hlX
    have xa0 := Xa.cell0
    have xa1 := Xa.cell1
    have xa2 := Xa.cell2
    have xb0 := Xb.cell0
    have xb1 := Xb.cell1
    have xb2 := Xb.cell2
    have xc0 := Xc.cell0
    have xc1 := Xc.cell1
    have xc2 := Xc.cell2
    have xd0 := Xd.cell0
    have xd1 := Xd.cell1
    have xd2 := Xd.cell2
    clear hzz Xa Xb Xc Xd
    go_upto_region 7 with fail
    go_cut [13, 14, 15] from 45 to 53 (fun s13 s14 s15 wx => ∃ ga q4 c4, s13 = .pointer (some ⟨ga, 0, none⟩) ∧ s14 = .slice q4 0 c4 ∧ s15 = .int .i64 E ∧ Below wX.heap.size wX wx)
    case first =>
      go_region_with (go_at_call 9; first
        | ((with_reducible refine Na.out.mono ?_); rintro e w3 ⟨p3, c3, q3, d3, rfl, hY, hX⟩)
        | ((with_reducible refine Nb.out.mono ?_); rintro e w3 ⟨p3, c3, q3, d3, rfl, hY, hX⟩; have z0 := hX.cell0; have z1 := hX.cell1; have z2 := hX.cell2; have f0 := hX.frozen 0; have f1 := hX.frozen 1; have f2 := hX.frozen 2)
        | ((with_reducible refine Nc.out.mono ?_); rintro e w3 ⟨p3, c3, q3, d3, rfl, hY, hX⟩; have z0 := hX.cell0; have z1 := hX.cell1; have z2 := hX.cell2; have f0 := hX.frozen 0; have f1 := hX.frozen 1; have f2 := hX.frozen 2))
      all_goals
        go_wp2_with fail
        go_meet
        first
          | exact ⟨_, _, _, rfl, rfl, rfl, hY.alloc hY.size _⟩
          | exact ⟨_, _, _, rfl, rfl, rfl, below_3set hY (by omega) _ _ _⟩
    case rest =>
      obtain ⟨gb, q4, c4, rfl, rfl, rfl, hBy⟩ := hcut
      have hbx := (hb1.trans (HbX.out.mono hz1)).trans (hBy.mono (Nat.le_trans hz1 HbX.out.size))
      go_wp2
      go_ret
      exact ⟨rfl, hbx⟩
end Go.Proofs.Ytcmbbmilldhnnaa
