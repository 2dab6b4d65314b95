/- reedpiperef12: Numbers. -/
import Derived.Test.YtcmbbmilldhnnaaRef12c
set_option linter.unusedVariables false
set_option linter.unusedSimpArgs false
namespace Go.Proofs.Ytcmbbmilldhnnaa
open Go.ChangeShapes Go.WideShapes Go.ChangeAt Go.RowKit

/-- What is put behind a window is what a step adds. -/
theorem put_step {p : Int × List Int} {t H : Nat} (st : (Nat → Int) × List Int) (ht : p.1.toNat = t) (hp : p.2.length = 2 * H) (hH : (st.2.take H).length = H) (hle : t + 2 * H ≤ 512) :
    putL ((List.range 512).map st.1) (linesI (st.2.take H)) p.2 t (2 * H) = (List.range 512).map (stepS st p).1 := by
  unfold putL
  refine List.map_congr_left (fun n hn => ?_)
  have hn' := List.mem_range.1 hn
  have e : ((List.range 512).map st.1).getD n 0 = st.1 n := by rw [List.getD_eq_getElem?_getD, List.getElem?_map, List.getElem?_range hn']; rfl
  unfold putF stepS addS
  simp only
  rw [e, ht, hp, show 2 * H / 2 = H by omega]
  by_cases h : t ≤ n ∧ n < t + 2 * H
  · rw [if_pos h, if_pos h]
    have hl : (linesI (st.2.take H)).length = 2 * H := by unfold linesI; rw [List.length_map, List.length_range, hH]
    unfold partS timesL
    rw [List.getD_eq_getElem?_getD (l := List.map _ _), List.getElem?_map, List.getElem?_range (by rw [hl]; omega)]
    rfl
  · rw [if_neg h, if_neg h]
theorem spoil_made {w : World} {g c : Nat} (h : w.ownsRow g 3 1 (.slice (some ⟨g, 0, none⟩) 512 c) 512 (List.replicate 512 (.int .i64 0))) (hlt : g < w.heap.size) : Spoil w (some ⟨g, 0, none⟩) 512 c g (g + 1) ((zeroL 512).map (Value.int .i64)) := by
  rw [zero_map 512]
  exact ⟨by rw [List.length_replicate], hlt, fun _ => ⟨g, rfl, Nat.le_refl _, Nat.lt_succ_self _, h⟩⟩
theorem spoil_row {w w0 : World} {c : Nat} {l : List Int} (h : Spoil w (some ⟨w0.heap.size, 0, none⟩) 512 c w0.heap.size (w0.heap.size + 1) (l.map (Value.int .i64))) (hl : l.length = 512) : w.ownsRow w0.heap.size 3 1 (.slice (some ⟨w0.heap.size, 0, none⟩) 512 c) l.length (l.map (Value.int .i64)) := by
  obtain ⟨_, _, h3⟩ := h
  obtain ⟨g, hg, _, _, h4⟩ := h3 (by omega)
  cases hg
  rw [hl]; exact h4
set_option maxRecDepth 100000 in
set_option maxHeartbeats 2000000 in
theorem refnums_long (seq was shape : Int) (d2 : (seq == 2) = false) (d2' : (seq != 2) = true) (l Y V : List Int) (p : Option Addr) (c : Nat) (hYV : Hid (V.length = Y.length ∧ Y.length ≤ 512))
    (HB : Hid (∀ W', IsInts W' p l → Calls Try.prog 59 #[.slice p l.length c] W' (RRow Y W')))
    (HV : Hid (∀ W', Calls Try.prog 60 #[.int .u8 seq, .int .u8 was, .int .u8 shape] W' (RRow V W')))
    (bY : Hid (∀ j, -68719476736 ≤ Y.getD j 0 ∧ Y.getD j 0 ≤ 68719476736)) (bV : Hid (∀ j, 0 ≤ V.getD j 0 ∧ V.getD j 0 ≤ 4194304))
    (w : World) (hI : IsInts w p l) : Calls Try.prog 48 #[.int .u8 seq, .int .u8 was, .int .u8 shape, .slice p l.length c] w (RRow (putL (zeroL 512) Y V 0 Y.length) w) := by
  have HP := Lib.hid hI
  have HZL := Lib.hid (zero_len 512)
  have HZB := Lib.hid (show ∀ j, -1099511627776 ≤ (zeroL 512).getD j 0 ∧ (zeroL 512).getD j 0 ≤ 1099511627776 from fun j => by rw [zero_get]; omega)
  have HSM := Lib.hid (fun (W : World) (g : Nat) h1 h2 => spoil_made (w := W) (g := g) (c := 512) h1 h2)
  generalize zeroL 512 = Z at *
  clear hI
  go_enter Try.func48, Try.ntmps48
  go_wp2_with (at_make; refine make_row rfl _ _ rfl 512 (by decide) rfl rfl ?_; intro w1 hz1 hown1 hb1)
  have HS1 := Lib.hid (HSM.out _ _ hown1 hz1)
  have HP1 := Lib.hid (HP.out.keep hb1)
  clear hown1 HP HSM
  go_wp2_with fail
  refine (HB.out _ HP1.out).mono ?_
  rintro e w2 ⟨v2, rfl, hO2, hB2⟩
  obtain ⟨p2, c2, rfl, I2⟩ := owns_any hO2
  have HI2 := Lib.hid I2
  have HS2 := Lib.hid (HS1.out.keep hB2 (by omega))
  have hb2 := hb1.trans (hB2.mono hb1.size)
  have hz2 := hB2.size
  clear hO2 I2 HP1 hB2 HS1
  go_wp2_with fail
  refine (HV.out _).mono ?_
  rintro e w3 ⟨v3, rfl, hO3, hB3⟩
  obtain ⟨p3, c3, rfl, I3⟩ := owns_any hO3
  have hz3 := hB3.size
  have HI3 := Lib.hid (I3.wide (lo' := w.heap.size + 1) (hi' := w3.heap.size) (by omega) (Nat.le_refl _) (Nat.le_refl _))
  have HI23 := Lib.hid ((HI2.out.keep hB3 (Nat.le_refl _)).wide (lo' := w.heap.size + 1) (hi' := w3.heap.size) (by omega) hz3 (Nat.le_refl _))
  have HS3 := Lib.hid (HS2.out.keep hB3 (by omega))
  have hb3 := hb2.trans (hB3.mono (by omega))
  clear hO3 I3 hB3 HS2 HI2 hb2
  go_wp2_with fail
  refine (ref_put Z Y V 0 HZL.out hYV.out.1 (by have := hYV.out.2; omega) HZB.out bY.out bV.out _ _ _ _ _ _ _ w3.heap.size _ HS3.out HI23.out HI3.out).mono ?_
  rintro e w4 ⟨rfl, hS4, hB4⟩
  have HS4 := Lib.hid (spoil_row hS4 (put_len _ _ _ _ _))
  have hb4 := hb3.trans hB4
  clear hS4 HS3 hb3 hB4 HI23 HI3
  go_wp2
  go_ret
  exact ⟨_, rfl, HS4.out, hb4⟩
set_option maxRecDepth 100000 in
set_option maxHeartbeats 4000000 in
theorem refnums_short (was shape : Int) (l : List Int) (Y V outs : Nat → List Int) (p : Option Addr) (c : Nat) (hl : l.length = 256) (hc : 256 ≤ c) (h0 : outs 0 = zeroL 512)
    (hn : Hid (∀ k : Nat, k < 8 → outs (k + 1) = putL (outs k) (Y k) (V k) (112 + 32 * k) (Y k).length)) (hy : Hid (∀ k : Nat, k < 8 → (Y k).length = 64 ∧ (V k).length = 64)) (ho : Hid (∀ k : Nat, k ≤ 8 → (outs k).length = 512 ∧ ∀ j, -1099511627776 ≤ (outs k).getD j 0 ∧ (outs k).getD j 0 ≤ 1099511627776))
    (HB : Hid (∀ k : Nat, k < 8 → ∀ W' q d, IsInts W' q ((l.drop (32 * k)).take 32) → Calls Try.prog 59 #[.slice q 32 d] W' (RRow (Y k) W')))
    (HV : Hid (∀ k : Nat, k < 8 → ∀ W', Calls Try.prog 61 #[.int .i64 k, .int .u8 was, .int .u8 shape] W' (RRow (V k) W')))
    (bY : Hid (∀ k : Nat, k < 8 → ∀ j, -68719476736 ≤ (Y k).getD j 0 ∧ (Y k).getD j 0 ≤ 68719476736)) (bV : Hid (∀ k : Nat, k < 8 → ∀ j, 0 ≤ (V k).getD j 0 ∧ (V k).getD j 0 ≤ 4194304))
    (w : World) (hI : IsInts w p l) : Calls Try.prog 48 #[.int .u8 2, .int .u8 was, .int .u8 shape, .slice p 256 c] w (RRow (outs 8) w) := by
  obtain ⟨bp, op, rfl, hbp, hcell⟩ := hI.at (j := 0) (by omega)
  have HP := Lib.hid hI
  have HLL := Lib.hid hl
  have HSM := Lib.hid (fun (W : World) (g : Nat) h1 h2 => spoil_made (w := W) (g := g) (c := 512) h1 h2)
  rw [← h0] at HSM
  clear hI hcell h0 hl
  go_enter Try.func48, Try.ntmps48
  go_wp2_with (at_make; refine make_row rfl _ _ rfl 512 (by decide) rfl rfl ?_; intro w1 hz1 hown1 hb1)
  have HS1 := Lib.hid (HSM.out _ _ hown1 hz1)
  clear hown1 HSM
  go_loopw [10] (fun I wr => ∃ k : Nat, I = .int .i64 k ∧ k ≤ 8 ∧ Hid (Spoil wr (some ⟨w.heap.size, 0, none⟩) 512 512 w.heap.size (w.heap.size + 1) ((outs k).map (Value.int .i64))) ∧ Below w.heap.size w wr) (fun I _ => 8 - (intOf I).toNat)
  case atStart => exact ⟨0, rfl, by decide, HS1, hb1⟩
  case round =>
    obtain ⟨k, rfl, hk, hS, hb⟩ := hrel
    clear HS1 hb1 hz1
    by_cases hlt : k < 8
    · have HB2 := Lib.hid (HB.out k hlt)
      have HV2 := Lib.hid (HV.out k hlt)
      have HN2 := Lib.hid (hn.out k hlt)
      have HY2 := Lib.hid (hy.out k hlt)
      have HO2 := Lib.hid (ho.out k hk)
      have BY2 := Lib.hid (bY.out k hlt)
      have BV2 := Lib.hid (bV.out k hlt)
      generalize outs k = A at *
      obtain ⟨A', hA'⟩ : ∃ A', outs (k + 1) = A' := ⟨_, rfl⟩
      rw [hA'] at HN2
      have HA' := Lib.hid hA'
      clear hA'
      generalize Y k = Yk at *
      generalize V k = Vk at *
      have hzs := hS.out.2.1
      have HC := Lib.hid (show IsInts wr (some ⟨bp, op + 32 * k, none⟩) ((l.drop (32 * k)).take 32) from by
        have := HP.out.inB.keep hb (Nat.le_refl _)
        have h2 := (intsB_drop this (32 * k)).ints
        exact ints_take h2 32)
      have t1 : IntKind.i64.wrap (32 * (k : Int)) = 32 * (k : Int) := IntWalk.i64_in _ (by omega)
      have t2 : IntKind.i64.wrap (112 + 32 * (k : Int)) = 112 + 32 * (k : Int) := IntWalk.i64_in _ (by omega)
      have t3 : IntKind.i64.wrap (32 * (k : Int) + 32) = 32 * (k : Int) + 32 := IntWalk.i64_in _ (by omega)
      have t4 : (0 : Int) ≤ 32 * (k : Int) := by omega
      have t5 : 32 * (k : Int) ≤ 32 * (k : Int) + 32 := by omega
      have t6 : 32 * (k : Int) + 32 ≤ (c : Int) := by omega
      have t7 : (32 * (k : Int)).toNat = 32 * k := by omega
      have t8 : (32 * (k : Int) + 32).toNat = 32 * k + 32 := by omega
      have t9 : 32 * k + 32 - 32 * k = 32 := by omega
      go_wp2_with fail
      refine (HB2.out _ _ _ HC.out).mono ?_
      rintro e w2 ⟨v2, rfl, hO2, hB2⟩
      obtain ⟨p2, c2, rfl, I2⟩ := owns_any hO2
      have HI2 := Lib.hid I2
      have HS2 := Lib.hid (hS.out.keep hB2 hzs)
      have hb2 := hb.trans (hB2.mono hb.size)
      have hz2 := hB2.size
      clear hO2 I2 hB2 hS
      go_wp2_with fail
      refine (HV2.out _).mono ?_
      rintro e w3 ⟨v3, rfl, hO3, hB3⟩
      obtain ⟨p3, c3, rfl, I3⟩ := owns_any hO3
      have hz3 := hB3.size
      have HI3 := Lib.hid (I3.wide (lo' := w.heap.size + 1) (hi' := w3.heap.size) (by omega) (Nat.le_refl _) (Nat.le_refl _))
      have HI23 := Lib.hid ((HI2.out.keep hB3 (Nat.le_refl _)).wide (lo' := w.heap.size + 1) (hi' := w3.heap.size) (by omega) hz3 (Nat.le_refl _))
      have HS3 := Lib.hid (HS2.out.keep hB3 (by omega))
      have hb3 := hb2.trans (hB3.mono (by omega))
      have HPUT := Lib.hid (fun W' h1 h2 h3 => ref_put A Yk Vk (112 + 32 * k) HO2.out.1 (by rw [HY2.out.1, HY2.out.2]) (by rw [HY2.out.1]; omega) HO2.out.2 BY2.out BV2.out (some ⟨w.heap.size, 0, none⟩) p2 p3 512 c2 c3 w.heap.size w3.heap.size W' h1 h2 h3)
      rw [show ((112 + 32 * k : Nat) : Int) = 112 + 32 * (k : Int) by omega, ← HN2.out] at HPUT
      clear hO3 I3 hB3 HS2 HI2 hb2
      go_wp2_with fail
      refine (HPUT.out _ HS3.out HI23.out HI3.out).mono ?_
      rintro e w4 ⟨rfl, hS4, hB4⟩
      have HS4 := Lib.hid hS4
      have hb4 := hb3.trans hB4
      clear hS4 HS3 hb3 hB4 HI23 HI3 HPUT
      go_wp2
      exact ⟨⟨k + 1, by go_num, by omega, by rw [HA'.out]; exact HS4, hb4⟩, by simp [intOf]; omega⟩
    · have hkM : k = 8 := by omega
      subst hkM
      have HO := Lib.hid (spoil_row hS.out (ho.out 8 (by decide)).1)
      clear hS hlt
      go_wp2
      go_ret
      exact ⟨_, rfl, HO.out, hb⟩
end Go.Proofs.Ytcmbbmilldhnnaa
