/- The law's alive; the examples. -/
import Derived.Test.YtcmbbmilldhnnaaLapZero
import Derived.Test.YtcmbbmilldhnnaaG1
set_option linter.unusedVariables false
set_option linter.unusedSimpArgs false
namespace Go.Proofs.Ytcmbbmilldhnnaa
open Go.ChangeShapes Go.WideShapes Go.ChangeAt Go.RowKit

theorem owns_cap {w : World} {base : Nat} {e : TypeId} {size g n c : Nat} {xs : List Value} (h : w.ownsRow base e size (.slice (some ⟨g, 0, none⟩) n c) n xs) : n ≤ c := by
  rcases h.2 with ⟨h', _⟩ | ⟨g', cap, cur, e', _, _, h2, _⟩
  · simp at h'
  · obtain ⟨rfl, rfl⟩ : g = g' ∧ c = cap := by simpa using e'
    exact h2
theorem pcm_len (l y : List Int) : (pcmL l y).length = l.length := by unfold pcmL sumsL; simp
/-- Next's answer, where it is well: the rows by their blocks. -/
def RNextOk (T P : List Int) (s sh : Int) (w : World) (e : Ending) (w' : World) : Prop :=
  ∃ g1 c1 g2 c2, e = .returned (.tuple #[.agg #[.slice (some ⟨g1, 0, none⟩) 256 c1, .int .u8 s, .int .u8 sh], .slice (some ⟨g2, 0, none⟩) 256 c2, .int .i64 0]) ∧ 256 ≤ c1 ∧ (w.heap.size ≤ g1 ∧ g1 < w'.heap.size ∧ IsInts w' (some ⟨g1, 0, none⟩) T) ∧ (w.heap.size ≤ g2 ∧ g2 < w'.heap.size ∧ IsInts w' (some ⟨g2, 0, none⟩) P) ∧ Below w.heap.size w w'
theorem next_row {T P : List Int} {s sh : Int} (hT : T.length = 256) (hP : P.length = 256) {w : World} {e : Ending} {w' : World} (h : RNext ((T, s, sh), P, 0) w e w') : RNextOk T P s sh w e w' := by
  obtain ⟨v1, v2, rfl, h1, h2, _, hB⟩ := h
  obtain ⟨g1, c1, rfl, a1, a2, a3⟩ := owns_at h1 (by intro e; simp only at e; rw [e] at hT; simp at hT)
  obtain ⟨g2, c2, rfl, b1, b2, b3⟩ := owns_at h2 (by intro e; simp only at e; rw [e] at hP; simp at hP)
  simp only at h1 h2 a3 b3 ⊢
  rw [hT] at h1
  have hc := owns_cap h1
  exact ⟨g1, c1, g2, c2, by simp only [hT, hP], hc, ⟨a1, a2, isInts_of a2 a3⟩, ⟨b1, b2, isInts_of b2 b3⟩, hB⟩
theorem one_lap : lapN (zeroL 256) 0 0 0 0 oneX = (((synL (winsL 0 0 0) oneX).drop 256, 0, 0), pcmL (zeroL 256) (synL (winsL 0 0 0) oneX), 0) := by
  unfold lapN
  rw [may_zero (by omega) (by omega), if_neg (by simp), if_neg (by rw [oneX_syn]; simp)]
set_option maxRecDepth 100000 in
set_option maxHeartbeats 4000000 in
theorem alive13 (w : World) : Calls Try.prog 8 #[] w fun e w' => e = .returned (.bool true) ∧ Below w.heap.size w w' := by
  have HN1 := Lib.hid (fun (W : World) (p q : Option Addr) (h : IsInts W p (zeroL 256)) (h' : IsInts W q (zeroL 256)) => show Calls Try.prog 9 #[.agg #[.slice p 256 256, .int .u8 0, .int .u8 0], .int .u8 0, .int .u8 0, .slice q 256 256] W (RNextOk (zeroL 256) (zeroL 256) 0 0 W) by
    have := next_any (zeroL 256) 0 0 0 0 (zeroL 256) (by omega) (by omega) (by omega) (by rw [zero_len]; omega) (by rw [zero_len]; omega) p q 256 256 (by rw [zero_len]; omega) (by rw [zero_len]; omega) W h h'
    rw [lap_zero (may_zero (by omega) (by omega)) (by omega) (by omega), old_zero, zero_len] at this
    exact this.mono (fun e w' h => next_row (zero_len 256) (zero_len 256) h))
  have hT : ((synL (winsL 0 0 0) oneX).drop 256).length = 256 := by rw [List.length_drop, synL_len]
  have hP : (pcmL (zeroL 256) (synL (winsL 0 0 0) oneX)).length = 256 := by rw [pcm_len, zero_len]
  have HN2 := Lib.hid (fun (W : World) (p q : Option Addr) (c : Nat) (hc : 256 ≤ c) (h : IsInts W p (zeroL 256)) (h' : IsInts W q oneX) => show Calls Try.prog 9 #[.agg #[.slice p 256 c, .int .u8 0, .int .u8 0], .int .u8 0, .int .u8 0, .slice q 256 256] W (RNextOk ((synL (winsL 0 0 0) oneX).drop 256) (pcmL (zeroL 256) (synL (winsL 0 0 0) oneX)) 0 0 W) by
    have := next_any (zeroL 256) 0 0 0 0 oneX (by omega) (by omega) (by omega) (by rw [zero_len]; omega) (by rw [oneX_len]; omega) p q c 256 (by rw [zero_len]; omega) (by rw [oneX_len]; omega) W h h'
    rw [one_lap, zero_len, oneX_len] at this
    exact this.mono (fun e w' h => next_row hT hP h))
  have HPS := Lib.hid oneX_some
  have HNW := Lib.hid (fun W => new_ok W)
  have HX : Hid (((zeroL 256).map (Value.int .i64)).set 3 (.int .i64 16777216) = oneX.map (Value.int .i64)) := by show _ = _; unfold oneX; rw [List.map_set]
  have HXL := Lib.hid oneX_len
  have HZM := Lib.hid (zero_map 256)
  have HZG := Lib.hid (show ∀ j, (zeroL 256).getD j 0 = 0 from fun j => zero_get 256 j)
  have HZL := Lib.hid (zero_len 256)
  have HPL := Lib.hid hP
  unfold RNextOk at HN1 HN2
  generalize (synL (winsL 0 0 0) oneX).drop 256 = T3 at *
  generalize pcmL (zeroL 256) (synL (winsL 0 0 0) oneX) = P3 at *
  generalize oneX = X3 at *
  generalize zeroL 256 = Z at *
  clear hT hP
  go_enter Try.func8, Try.ntmps8
  go_wp2_with (at_make; refine make_row rfl _ _ rfl 256 (by omega) rfl rfl ?_; intro w1 hlt1 hO1 hB1)
  rw [← HZM.out] at hO1
  have HR1 := Lib.hid hO1
  have HB1 := Lib.hid hB1
  clear hO1 hB1
  refine (HNW.out _).mono ?_
  rintro e w2 ⟨g2, rfl, hO2, hg2, hlt2, hB2⟩
  have hz1 := HB1.out.size
  have hz2 := hB2.size
  have HR2 := Lib.hid (owns_keep HR1.out hB2)
  have HI2 := Lib.hid (full_ints hO2 HZL.out hlt2)
  have HX2 := Lib.hid (full_ints HR2.out HZL.out (by omega))
  have HB2 := Lib.hid (HB1.out.trans (hB2.mono hz1))
  clear hO2 hB2 HR1 HB1
  go_wp2_with fail
  refine (HN1.out _ _ _ HI2.out HX2.out).mono ?_
  rintro e w3 ⟨g3, c3, g4, c4, rfl, hc3, ⟨h31, h32, h33⟩, ⟨h41, h42, h43⟩, hB3⟩
  have hz3 := hB3.size
  have HR3 := Lib.hid (owns_keep HR2.out hB3)
  have HB3 := Lib.hid (HB2.out.trans (hB3.mono (by omega)))
  have HI3 := Lib.hid h33
  have HI4 := Lib.hid h43
  clear hB3 h33 h43 HR2 HB2 HI2 HX2
  have HRa := Lib.hid (owns_keep HR3.out ((Below.refl w3.heap.size w3).alloc (Nat.le_refl _) (.cells #[.slice (some ⟨g3, 0, none⟩) 256 c3, .int .u8 0, .int .u8 0] 24)))
  have BX := Lib.hid (Box3.new w3 24 (.slice (some ⟨g3, 0, none⟩) 256 c3) (.int .u8 0) (.int .u8 0) rfl)
  have hcell := HRa.out.cellAt 3 (by omega)
  rw [List.getElem?_map, List.getElem?_eq_getElem (by rw [HZL.out]; omega)] at hcell
  have hfroz := HRa.out.frozenAt 3
  have hst := HRa.out.stored 3 (.int .i64 16777216)
  rw [HX.out] at hst
  have HRb := Lib.hid hst.1
  clear hst
  simp only [Option.map_some] at hcell
  generalize hzz : Z[3]'(by rw [HZL.out]; omega) = z3 at hcell
  clear hzz
  obtain ⟨W4, hW4⟩ : ∃ W4, (w3.alloc (.cells #[.slice (some ⟨g3, 0, none⟩) 256 c3, .int .u8 0, .int .u8 0] 24)).setCell ⟨w.heap.size, 3, none⟩ (.int .i64 16777216) = W4 := ⟨_, rfl⟩
  have hsz4 : W4.heap.size = w3.heap.size + 1 := by rw [← hW4]; simp [World.setCell]
  have hsame : ∀ k, k < w3.heap.size → k ≠ w.heap.size → W4.heap[k]? = w3.heap[k]? := fun k h1 h2 => by rw [← hW4]; exact (Below.heap_setCell _ _ _ _ h2).trans (Below.heap_alloc _ _ _ h1)
  have BX4 : Box3 W4 w3.heap.size 24 (.slice (some ⟨g3, 0, none⟩) 256 c3) (.int .u8 0) (.int .u8 0) := by rw [← hW4]; exact BX.out.other _ (by show w3.heap.size ≠ w.heap.size; omega) _
  have I3 := Lib.hid (ints_block HI3.out (by omega) (hsame g3 (by omega) (by omega)))
  have I4 := Lib.hid (ints_block HI4.out (by omega) (hsame g4 (by omega) (by omega)))
  have IX := Lib.hid (show IsInts W4 (some ⟨w.heap.size, 0, none⟩) X3 by rw [← hW4]; exact full_ints HRb.out HXL.out (by simp [World.setCell]; omega))
  have HB4 := Lib.hid (show Below w.heap.size w W4 by rw [← hW4]; exact (HB3.out.alloc (by omega) _).setCell (p := ⟨w.heap.size, 3, none⟩) (Nat.le_refl _) _)
  have k0 := BX4.cell0
  have k1 := BX4.cell1
  have k2 := BX4.cell2
  go_wp2_with fail
  clear hW4 k0 k1 k2 HRb HRa BX HR3 HI3 HI4 HB3 hcell hfroz hsame
  refine (HN2.out _ _ _ _ hc3 I3.out IX.out).mono ?_
  rintro e w5 ⟨g5, c5, g6, c6, rfl, hc5, ⟨h51, h52, h53⟩, ⟨h61, h62, h63⟩, hB5⟩
  have hz5 := hB5.size
  have hB5' := (hB5.alloc (by omega) (.cells #[.slice (some ⟨g5, 0, none⟩) 256 c5, .int .u8 0, .int .u8 0] 24))
  have BX5 := BX4.keep hB5' BX4.lt
  have J3 := Lib.hid (I3.out.keep hB5')
  have J4 := Lib.hid (I4.out.keep hB5')
  have J6 := Lib.hid (h63.alloc (.cells #[.slice (some ⟨g5, 0, none⟩) 256 c5, .int .u8 0, .int .u8 0] 24))
  have HB5 := Lib.hid (HB4.out.trans (hB5'.mono (by omega)))
  have b0 := BX5.cell0
  clear hB5 hB5' h53 h63 I3 I4 IX HB4 BX4
  go_wp2
  go_loopw [9, 8] (fun I V wr => ∃ (k : Nat) (b : Bool), I = .int .i64 k ∧ V = .bool b ∧ k ≤ 256 ∧ Hid (b = (P3.take k).any (fun x => x != 0)) ∧ wr = w5.alloc (.cells #[.slice (some ⟨g5, 0, none⟩) 256 c5, .int .u8 0, .int .u8 0] 24)) (fun I _ _ => 256 - (intOf I).toNat)
  case atStart => exact ⟨0, false, rfl, rfl, by omega, Lib.hid (by simp), rfl⟩
  case round =>
    obtain ⟨k, b, rfl, rfl, hk, HBV, rfl⟩ := hrel
    by_cases hlt : k < 256
    · have hd : decide ((k : Int) < 256) = true := decide_eq_true (by omega)
      obtain ⟨_, _, e3, _, q3⟩ := J3.out.at (j := k) (by rw [HZL.out]; exact hlt)
      cases e3
      obtain ⟨_, _, e4, _, q4⟩ := J4.out.at (j := k) (by rw [HZL.out]; exact hlt)
      cases e4
      obtain ⟨_, _, e6, _, q6⟩ := J6.out.at (j := k) (by rw [HPL.out]; exact hlt)
      cases e6
      have r3 := q3 k (by rw [HZL.out]; exact hlt)
      have r4 := q4 k (by rw [HZL.out]; exact hlt)
      have r6 := q6 k (by rw [HPL.out]; exact hlt)
      rw [Nat.zero_add, HZG.out] at r3 r4
      rw [Nat.zero_add] at r6
      have HSN : Hid ((P3.take (k + 1)).any (fun x => x != 0) = (b || (P3.getD k 0 != 0))) := by
        show _ = _
        rw [List.take_add_one, List.any_append, ← HBV.out, List.getElem?_eq_getElem (by rw [HPL.out]; exact hlt), List.getD_eq_getElem?_getD, List.getElem?_eq_getElem (by rw [HPL.out]; exact hlt)]
        simp
      generalize P3.getD k 0 = z at *
      clear q3 q4 q6
      cases b
      · by_cases hz : z = 0
        · have d1 : (z != 0) = false := by simp [hz]
          have d2 : (z == 0) = true := by simp [hz]
          have HS2 : Hid ((P3.take (k + 1)).any (fun x => x != 0) = false) := by show _ = _; rw [HSN.out, d1]; rfl
          clear HSN hz
          go_wp2
          exact ⟨⟨k + 1, _, by go_num, rfl, by omega, Lib.hid HS2.out.symm, trivial⟩, by simp [intOf]; omega⟩
        · have d1 : (z != 0) = true := by simp [hz]
          have d2 : (z == 0) = false := by simp [hz]
          have HS2 : Hid ((P3.take (k + 1)).any (fun x => x != 0) = true) := by show _ = _; rw [HSN.out, d1]; rfl
          clear HSN hz
          go_wp2
          exact ⟨⟨k + 1, _, by go_num, rfl, by omega, Lib.hid HS2.out.symm, trivial⟩, by simp [intOf]; omega⟩
      · have HS2 : Hid ((P3.take (k + 1)).any (fun x => x != 0) = true) := by show _ = _; rw [HSN.out]; rfl
        clear HSN
        go_wp2
        exact ⟨⟨k + 1, _, by go_num, rfl, by omega, Lib.hid HS2.out.symm, trivial⟩, by simp [intOf]; omega⟩
    · have hd : decide ((k : Int) < 256) = false := decide_eq_false (by omega)
      have hb : b = true := by
        rw [HBV.out, List.take_of_length_le (by rw [HPL.out]; omega)]
        refine List.any_eq_true.2 ⟨P3.getD 100 0, ?_, by simpa using HPS.out⟩
        rw [List.getD_eq_getElem?_getD, List.getElem?_eq_getElem (by rw [HPL.out]; omega)]
        exact List.getElem_mem _
      have HBB := Lib.hid hb
      clear hb HBV
      go_wp2
      go_ret
      exact ⟨ret_bool HBB.out, HB5.out⟩
theorem lap_none : lapN [] 0 0 0 0 (zeroL 256) = (([], 0, 0), [], 8) := by
  unfold lapN
  rw [if_pos (by decide)]
theorem lap_four : lapN (zeroL 256) 0 0 0 0 [] = (([], 0, 0), [], 4) := by
  unfold lapN
  rw [may_zero (by omega) (by omega), if_neg (by simp)]
  have e : synE 0 0 0 [] = 4 := by unfold synE askedE; rw [if_neg (by omega), if_neg (by decide), if_pos (by simp)]
  rw [e, if_pos (by omega)]
def RNextBad (E : Int) (w : World) (e : Ending) (w' : World) : Prop :=
  ∃ p c q d, e = .returned (.tuple #[.agg #[.slice p 0 c, .int .u8 0, .int .u8 0], .slice q 0 d, .int .i64 E]) ∧ Below w.heap.size w w'
theorem next_none {E : Int} {w : World} {e : Ending} {w' : World} (h : RNext (([], 0, 0), [], E) w e w') : RNextBad E w e w' := by
  obtain ⟨v1, v2, rfl, h1, h2, _, hB⟩ := h
  obtain ⟨p, c, rfl, _⟩ := owns_any h1
  obtain ⟨q, d, rfl, _⟩ := owns_any h2
  exact ⟨p, c, q, d, rfl, hB⟩
set_option maxRecDepth 100000 in
set_option maxHeartbeats 2000000 in
theorem names13 (w : World) : Calls Try.prog 5 #[] w fun e w' => e = .returned (.bool true) ∧ Below w.heap.size w w' := by
  have HE := Lib.hid (fun (W : World) (q : Option Addr) (h' : IsInts W q (zeroL 256)) => show Calls Try.prog 9 #[.agg #[.slice none 0 0, .int .u8 0, .int .u8 0], .int .u8 0, .int .u8 0, .slice q 256 256] W (RNextBad 8 W) by
    have := next_any [] 0 0 0 0 (zeroL 256) (by omega) (by omega) (by omega) (by simp) (by rw [zero_len]; omega) none q 0 256 (by simp) (by rw [zero_len]; omega) W (IsInts.nil W none) h'
    rw [lap_none, zero_len] at this
    exact this.mono (fun e w' h => next_none h))
  have HF := Lib.hid (fun (W : World) (p : Option Addr) (h : IsInts W p (zeroL 256)) => show Calls Try.prog 9 #[.agg #[.slice p 256 256, .int .u8 0, .int .u8 0], .int .u8 0, .int .u8 0, .slice none 0 0] W (RNextBad 4 W) by
    have := next_any (zeroL 256) 0 0 0 0 [] (by omega) (by omega) (by omega) (by rw [zero_len]; omega) (by simp) p none 256 0 (by rw [zero_len]; omega) (by simp) W h (IsInts.nil W none)
    rw [lap_four, zero_len] at this
    exact this.mono (fun e w' h => next_none h))
  have HC := Lib.hid (fun (W : World) (p : Option Addr) (h : IsInts W p (zeroL 256)) => show Calls Try.prog 13 #[.agg #[.slice p 256 256, .int .u8 0, .int .u8 0]] W (RCheck 0 W) by
    have := check_ok (zeroL 256) p 256 0 0 (by rw [zero_len]; omega) W h
    rw [may_zero (by omega) (by omega), zero_len] at this
    exact this)
  have HAL := Lib.hid (fun W => alive13 W)
  have HNW := Lib.hid (fun W => new_ok W)
  have HZM := Lib.hid (zero_map 256)
  have HZL := Lib.hid (zero_len 256)
  unfold RNextBad at HE HF
  unfold RCheck at HC
  generalize zeroL 256 = Z at *
  go_enter Try.func5, Try.ntmps5
  go_wp2_with (at_make; refine make_row rfl _ _ rfl 256 (by omega) rfl rfl ?_; intro w1 hlt1 hO1 hB1)
  rw [← HZM.out] at hO1
  have HI1 := Lib.hid (full_ints hO1 HZL.out hlt1)
  clear hO1
  refine (HE.out _ _ HI1.out).mono ?_
  rintro e w2 ⟨p2, c2, q2, d2, rfl, hB2⟩
  have HB2 := Lib.hid (hB1.trans (hB2.mono hB1.size))
  clear hB1 hB2 HI1 HE
  go_wp2_with fail
  refine (HNW.out _).mono ?_
  rintro e w3 ⟨g3, rfl, hO3, hg3, hlt3, hB3⟩
  have HI3 := Lib.hid (full_ints hO3 HZL.out hlt3)
  have hz2 := HB2.out.size
  have HB3 := Lib.hid ((HB2.out.alloc hz2 (.cells #[.slice p2 0 c2, .int .u8 0, .int .u8 0] 24)).trans (hB3.mono (by simp; omega)))
  clear hO3 hB3 HB2
  go_wp2_with fail
  refine (HF.out _ _ HI3.out).mono ?_
  rintro e w4 ⟨p4, c4, q4, d4, rfl, hB4⟩
  have hz3 := HB3.out.size
  have HB4 := Lib.hid ((HB3.out.trans (hB4.mono hz3)).alloc (by have := hB4.size; omega) (.cells #[.slice p4 0 c4, .int .u8 0, .int .u8 0] 24))
  clear hB4 HI3 HF HB3
  go_wp2_with fail
  refine (HAL.out _).mono ?_
  rintro e w5 ⟨rfl, hB5⟩
  have HB5 := Lib.hid (HB4.out.trans (hB5.mono HB4.out.size))
  clear hB5 HB4
  go_wp2_with fail
  refine (HNW.out _).mono ?_
  rintro e w6 ⟨g6, rfl, hO6, hg6, hlt6, hB6⟩
  have HI6 := Lib.hid (full_ints hO6 HZL.out hlt6)
  have HB6 := Lib.hid (HB5.out.trans (hB6.mono HB5.out.size))
  clear hO6 hB6 HB5
  go_wp2_with fail
  refine (HC.out _ _ HI6.out).mono ?_
  rintro e w7 ⟨rfl, hB7⟩
  have HB7 := Lib.hid (HB6.out.trans (hB7.mono HB6.out.size))
  clear hB7 HB6
  go_wp2
  go_ret
  exact ⟨rfl, HB7.out⟩
end Go.Proofs.Ytcmbbmilldhnnaa
