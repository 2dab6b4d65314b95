/- MdctNames: the walk. -/
import Derived.Test.YtbokkfekenmjlaaMdctAlive
set_option linter.unusedVariables false
set_option linter.unusedSimpArgs false
namespace Go.Proofs.Ytbokkfekenmjlaa
open Go.ChangeShapes Go.WideShapes Go.ChangeAt Go.RowKit

theorem made_ints {w1 : World} {g n base : Nat} (hown : w1.ownsRow base 3 1 (.slice (some ⟨g, 0, none⟩) n n) n (List.replicate n (.int .i64 0))) : IntsB w1 (some ⟨g, 0, none⟩) (zeroL n) base w1.heap.size := by
  have h1 := hown
  rw [← zero_map] at h1
  have h2 : w1.ownsRow base 3 1 (.slice (some ⟨g, 0, none⟩) n n) (zeroL n).length ((zeroL n).map (Value.int .i64)) := by rw [zero_len]; exact h1
  rcases Nat.eq_zero_or_pos n with h0 | h0
  · subst h0; exact ⟨Nat.le_refl _, .inl rfl⟩
  · obtain ⟨p, c, hp, h3⟩ := owns_any h2
    have : p = some ⟨g, 0, none⟩ := by have := hp; simp at this; exact this.1.symm
    rwa [this] at h3
theorem zero_fwd512 : fwdN (zeroL 512) = (zeroL 256, 0) := by
  unfold fwdN
  rw [if_neg (by rw [zero_len]; decide), if_neg (by rw [zero_any 512 _ (by decide)]; decide), linesF_zero]
theorem zero_inv32 : invN (zeroL 32) = (zeroL 64, 0) := by
  unfold invN
  rw [if_neg (by rw [zero_len]; decide), if_neg (by rw [zero_any 32 _ (by decide)]; decide), linesI_zero]
theorem zero_fwd511 : fwdN (zeroL 511) = ([], 4) := by
  unfold fwdN
  rw [if_pos (by rw [zero_len]; decide)]
def farX : List Int := (zeroL 256).set 9 268435456
theorem farX_len : farX.length = 256 := by rw [farX, List.length_set, zero_len]
theorem farX_inv : invN farX = ([], 2) := by
  unfold invN
  rw [if_neg (by rw [farX_len]; decide), if_pos (by decide +kernel)]
set_option maxRecDepth 100000 in
set_option maxHeartbeats 4000000 in
theorem names11 (w : World) : Calls Try.prog 4 #[] w fun e w' => e = .returned (.bool true) ∧ Below w.heap.size w w' := by
  obtain ⟨i0, hi, hz0, hz1, hz2⟩ := info_parts Try.infoInt
  have F1 := Lib.hid (fun p c W (h : IsInts W p (zeroL 512)) => fwd_any (zeroL 512) p c (by rw [zero_len]; decide) W h)
  have F2 := Lib.hid (fun p c W (h : IsInts W p (zeroL 32)) => inv_any (zeroL 32) p c (by rw [zero_len]; decide) W h)
  have F3 := Lib.hid (fun p c W (h : IsInts W p (zeroL 511)) => fwd_any (zeroL 511) p c (by rw [zero_len]; decide) W h)
  have F4 := Lib.hid (fun p c W (h : IsInts W p farX) => inv_any farX p c (by rw [farX_len]; decide) W h)
  rw [zero_fwd512, zero_len] at F1
  rw [zero_inv32, zero_len] at F2
  rw [zero_fwd511, zero_len] at F3
  rw [farX_inv, farX_len] at F4
  have N1 := Lib.hid (fun p c W (h : IsInts W p (zeroL 256)) => noughts_ok (zeroL 256) p c 256 W h (by rw [zero_len]; decide))
  have N2 := Lib.hid (fun p c W (h : IsInts W p (zeroL 64)) => noughts_ok (zeroL 64) p c 64 W h (by rw [zero_len]; decide))
  rw [zero_all, zero_len] at N1 N2
  have M1 := Lib.hid (fun (W : World) g b (h : W.ownsRow b 3 1 (.slice (some ⟨g, 0, none⟩) 512 512) 512 (List.replicate 512 (.int .i64 0))) => made_ints h)
  have M2 := Lib.hid (fun (W : World) g b (h : W.ownsRow b 3 1 (.slice (some ⟨g, 0, none⟩) 32 32) 32 (List.replicate 32 (.int .i64 0))) => made_ints h)
  have M3 := Lib.hid (fun (W : World) g b (h : W.ownsRow b 3 1 (.slice (some ⟨g, 0, none⟩) 511 511) 511 (List.replicate 511 (.int .i64 0))) => made_ints h)
  have L1 := Lib.hid (zero_len 256)
  have L2 := Lib.hid (zero_len 64)
  have HX : Hid (((zeroL 256).map (Value.int .i64)).set 9 (.int .i64 268435456) = farX.map (Value.int .i64)) := by show _ = _; rw [farX, List.map_set]
  have LX := Lib.hid farX_len
  have HZ := Lib.hid (zero_map 256)
  generalize zeroL 512 = z1 at *
  generalize zeroL 32 = z2 at *
  generalize zeroL 511 = z3 at *
  generalize zeroL 64 = z5 at *
  generalize zeroL 256 = z4 at *
  generalize farX = zx at *
  unfold RRowE at F1 F2 F3 F4
  dsimp only at F1 F2 F3 F4
  go_enter Try.func4, Try.ntmps4
  have bw := Below.refl w.heap.size w
  go_wp2_with (at_make; refine wpList_make_full _ rfl _ _ 22 rfl w.heap.size 3 i0 (.int .i64 0) 1 Try.underlying22 hi hz0 hz1 .i64 .i64 _ _ 512 rfl rfl ?hL ?hC ?b2 ?b3 ?b4 ?_)
  case hL => rfl
  case hC => rfl
  case b2 => rw [hz2]; decide
  case b3 => decide
  case b4 => exact Nat.le_refl _
  intro w1 hown0 hgrow
  have hbN : Below w.heap.size w w1 := (Below.refl _ _).grown hgrow (by simp) (by simp)
  have hgN : w.heap.size < w1.heap.size := (hown0.lt _ rfl).2
  have hown : w1.ownsRow w.heap.size 3 1 (.slice (some ⟨w.heap.size, 0, none⟩) 512 512) 512 (List.replicate 512 (.int .i64 0)) := by
    have e := toList_madeCells_one (.int .i64 0) 512
    rw [← e]; exact hown0
  clear hgrow hown0
  have HI := Lib.hid (M1.out _ _ _ hown)
  have bw1 := bw.trans (hbN.mono (by omega))
  clear hown hbN 
  go_wp2_with fail
  refine (F1.out _ _ _ HI.out.ints).mono ?_
  rintro e w2 ⟨v1, rfl, hO, hbc⟩
  obtain ⟨p1, c1, rfl, I1⟩ := owns_any hO
  rw [L1.out]
  have R1 := Lib.hid I1
  have bw2 := bw1.trans (hbc.mono (by omega))
  have zw2 := Nat.le_trans (Nat.le_of_lt hgN) hbc.size
  clear hgN
  clear HI hO I1 hbc 
  go_wp2_with (at_make; refine wpList_make_full _ rfl _ _ 22 rfl w2.heap.size 3 i0 (.int .i64 0) 1 Try.underlying22 hi hz0 hz1 .i64 .i64 _ _ 32 rfl rfl ?hL ?hC ?b2 ?b3 ?b4 ?_)
  case hL => rfl
  case hC => rfl
  case b2 => rw [hz2]; decide
  case b3 => decide
  case b4 => exact Nat.le_refl _
  intro w3 hown0 hgrow
  have hbN : Below w2.heap.size w2 w3 := (Below.refl _ _).grown hgrow (by simp) (by simp)
  have hgN : w2.heap.size < w3.heap.size := (hown0.lt _ rfl).2
  have hown : w3.ownsRow w2.heap.size 3 1 (.slice (some ⟨w2.heap.size, 0, none⟩) 32 32) 32 (List.replicate 32 (.int .i64 0)) := by
    have e := toList_madeCells_one (.int .i64 0) 32
    rw [← e]; exact hown0
  clear hgrow hown0
  have HI := Lib.hid (M2.out _ _ _ hown)
  have R1m := Lib.hid (R1.out.keep hbN (by omega))
  have bw3 := bw2.trans (hbN.mono (by omega))
  clear hown hbN R1
  go_wp2_with fail
  refine (F2.out _ _ _ HI.out.ints).mono ?_
  rintro e w4 ⟨v2, rfl, hO, hbc⟩
  obtain ⟨p2, c2, rfl, I2⟩ := owns_any hO
  rw [L2.out]
  have R2 := Lib.hid I2
  have R1 := Lib.hid (R1m.out.keep hbc (by omega))
  have bw4 := bw3.trans (hbc.mono (by omega))
  have zw4 := Nat.le_trans (Nat.le_of_lt hgN) hbc.size
  clear hgN
  clear HI hO I2 hbc R1m
  go_wp2_with (at_make; refine wpList_make_full _ rfl _ _ 22 rfl w4.heap.size 3 i0 (.int .i64 0) 1 Try.underlying22 hi hz0 hz1 .i64 .i64 _ _ 511 rfl rfl ?hL ?hC ?b2 ?b3 ?b4 ?_)
  case hL => rfl
  case hC => rfl
  case b2 => rw [hz2]; decide
  case b3 => decide
  case b4 => exact Nat.le_refl _
  intro w5 hown0 hgrow
  have hbN : Below w4.heap.size w4 w5 := (Below.refl _ _).grown hgrow (by simp) (by simp)
  have hgN : w4.heap.size < w5.heap.size := (hown0.lt _ rfl).2
  have hown : w5.ownsRow w4.heap.size 3 1 (.slice (some ⟨w4.heap.size, 0, none⟩) 511 511) 511 (List.replicate 511 (.int .i64 0)) := by
    have e := toList_madeCells_one (.int .i64 0) 511
    rw [← e]; exact hown0
  clear hgrow hown0
  have HI := Lib.hid (M3.out _ _ _ hown)
  have R1m := Lib.hid (R1.out.keep hbN (by omega))
  have R2m := Lib.hid (R2.out.keep hbN (by omega))
  have bw5 := bw4.trans (hbN.mono (by omega))
  clear hown hbN R1 R2
  go_wp2_with fail
  refine (F3.out _ _ _ HI.out.ints).mono ?_
  rintro e w6 ⟨v3, rfl, hO, hbc⟩
  obtain ⟨p3, c3, rfl, I3⟩ := owns_any hO
  have R1 := Lib.hid (R1m.out.keep hbc (by omega))
  have R2 := Lib.hid (R2m.out.keep hbc (by omega))
  have bw6 := bw5.trans (hbc.mono (by omega))
  have zw6 := Nat.le_trans (Nat.le_of_lt hgN) hbc.size
  clear hgN
  clear HI hO I3 hbc R1m R2m
  go_wp2_with (at_make; refine wpList_make_full _ rfl _ _ 22 rfl w6.heap.size 3 i0 (.int .i64 0) 1 Try.underlying22 hi hz0 hz1 .i64 .i64 _ _ 256 rfl rfl ?hL ?hC ?b2 ?b3 ?b4 ?_)
  case hL => rfl
  case hC => rfl
  case b2 => rw [hz2]; decide
  case b3 => decide
  case b4 => exact Nat.le_refl _
  intro w7 hown0 hgrow
  have hbN : Below w6.heap.size w6 w7 := (Below.refl _ _).grown hgrow (by simp) (by simp)
  have hgN : w6.heap.size < w7.heap.size := (hown0.lt _ rfl).2
  have hown : w7.ownsRow w6.heap.size 3 1 (.slice (some ⟨w6.heap.size, 0, none⟩) 256 256) 256 (List.replicate 256 (.int .i64 0)) := by
    have e := toList_madeCells_one (.int .i64 0) 256
    rw [← e]; exact hown0
  clear hgrow hown0
  rw [← HZ.out] at hown
  have hO2 := (hown.stored 9 (.int .i64 268435456)).1
  rw [HX.out] at hO2
  have hf := hown.frozenAt 9
  have hc := hown.cellAt 9 (by simp)
  rw [HZ.out] at hc
  have hc2 : w7.cell? ⟨w6.heap.size, 9, none⟩ = some (.int .i64 0) := by rw [hc]; simp
  clear hc
  have R1m := Lib.hid (R1.out.keep hbN (by omega))
  have R2m := Lib.hid (R2.out.keep hbN (by omega))
  have R1n := Lib.hid (R1m.out.setCell ⟨w6.heap.size, 9, none⟩ (.int .i64 268435456) (.inr (by show _ ≤ w6.heap.size; omega)))
  have R2n := Lib.hid (R2m.out.setCell ⟨w6.heap.size, 9, none⟩ (.int .i64 268435456) (.inr (by show _ ≤ w6.heap.size; omega)))
  have b7 := (bw6.trans (hbN.mono (by omega))).setCell (p := ⟨w6.heap.size, 9, none⟩) (by show w.heap.size ≤ w6.heap.size; omega) (.int .i64 268435456)
  have HIo : Hid (IntsB (w7.setCell ⟨w6.heap.size, 9, none⟩ (.int .i64 268435456)) (some ⟨w6.heap.size, 0, none⟩) zx w6.heap.size w7.heap.size) := by
    refine ⟨by simp [World.setCell], .inr ⟨w6.heap.size, 0, rfl, Nat.le_refl _, hgN, fun j hj => ?_⟩⟩
    rw [Nat.zero_add, hO2.cellAt j (by rw [LX.out] at hj; omega)]
    exact row_get zx j (Nat.zero_le _) hj
  have z7 : w6.heap.size ≤ (w7.setCell ⟨w6.heap.size, 9, none⟩ (.int .i64 268435456)).heap.size := by simp [World.setCell]; omega
  clear hown hbN hO2 R1 R2 R1m R2m
  go_wp2_with fail
  obtain ⟨w8, hw8⟩ : ∃ w8, w7.setCell ⟨w6.heap.size, 9, none⟩ (.int .i64 268435456) = w8 := ⟨_, rfl⟩
  rw [hw8] at HIo R1n R2n b7 z7 ⊢
  clear hw8 hc2 hf
  refine (F4.out _ _ _ HIo.out.ints).mono ?_
  rintro e w9 ⟨v4, rfl, hO, hbc⟩
  obtain ⟨p4, c4, rfl, I4⟩ := owns_any hO
  have R1 := Lib.hid (R1n.out.keep hbc (by omega))
  have R2 := Lib.hid (R2n.out.keep hbc (by omega))
  have b9 := b7.trans (hbc.mono (by omega))
  have z9 := hbc.size
  clear hO I4 hbc R1n R2n b7
  go_wp2_with fail
  refine (alive11 _).mono ?_
  rintro e w10 ⟨rfl, hbc⟩
  have R1m := Lib.hid (R1.out.keep hbc (by omega))
  have R2m := Lib.hid (R2.out.keep hbc (by omega))
  have b10 := b9.trans (hbc.mono (by omega))
  clear R1 R2 b9 hbc
  go_wp2_with fail
  refine (N1.out _ _ _ R1m.out.ints).mono ?_
  rintro e w5 ⟨rfl, hw⟩
  obtain rfl := hw
  go_wp2_with fail
  refine (N2.out _ _ _ R2m.out.ints).mono ?_
  rintro e w5 ⟨rfl, hw⟩
  obtain rfl := hw
  go_wp2
  go_ret
  exact ⟨rfl, b10⟩
end Go.Proofs.Ytbokkfekenmjlaa
