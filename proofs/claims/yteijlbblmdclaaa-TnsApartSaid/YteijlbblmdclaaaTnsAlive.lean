/- The filters are alive. -/
import Derived.Test.YteijlbblmdclaaaTnsLive0
import Derived.Test.YteijlbblmdclaaaMakeRow
set_option linter.unusedVariables false
set_option linter.unusedSimpArgs false
namespace Go.Proofs.Yteijlbblmdclaaa
open Go.ChangeShapes Go.WideShapes Go.ChangeAt Go.RowKit
theorem zero_row : List.replicate 256 (Value.int .i64 0) = (List.replicate 256 (0 : Int)).map (Value.int .i64) := (List.map_replicate).symm
theorem live_row : ((List.replicate 256 (0 : Int)).map (Value.int .i64)).set 0 (.int .i64 1000) = aliveX.map (Value.int .i64) := by rfl
theorem live_len : aliveX.length = 256 := by unfold aliveX; rw [List.length_cons, List.length_replicate]
theorem filt_new {W : World} {g : Nat} {t : TypeId} {f : FV} (h : CellsAt W g t f.cells) : IsFilts W (some ⟨g, 0, none⟩) [f] := by
  refine .inr ⟨g, 0, rfl, h.lt, fun j hj k hk => ?_⟩
  obtain rfl : j = 0 := by simpa using hj
  rw [show 0 + 0 * 5 + k = k by omega, h.cell k]
  rfl
theorem bank_new {W : World} {g : Nat} {t : TypeId} {v : BV} (h : CellsAt W g t #[.slice v.q v.fs.length v.c]) (hf : IsFilts W v.q v.fs) (ho : FsOk W v.fs) : IsBank W (some ⟨g, 0, none⟩) [v] := by
  refine ⟨.inr ⟨g, 0, rfl, h.lt, fun j hj => ?_⟩, fun j hj => ?_⟩
  · obtain rfl : j = 0 := by simpa using hj
    rw [Nat.add_zero, h.cell 0]
    rfl
  · obtain rfl : j = 0 := by simpa using hj
    exact ⟨hf, ho⟩
theorem fsOk_one {W : World} {f : FV} (h : IsInts W f.p f.cs) (hl : f.cs.length ≤ 1000) : FsOk W [f] := by
  intro j hj
  obtain rfl : j = 0 := by simpa using hj
  exact ⟨h, by show f.cs.length ≤ _; omega⟩
abbrev lv1 (w : World) : World := w.alloc (.cells #[.int .i64 1] 3)
abbrev lv2 (w : World) : World := (lv1 w).alloc (.cells (infC 0 0 2 (some ⟨w.heap.size, 0, none⟩) 1 1) 33)
abbrev lv3 (w : World) : World := (lv2 w).alloc (.cells #[.int .i64 3] 3)
abbrev lv4 (w : World) : World := (lv3 w).alloc (.cells #[.int .i64 2, .int .i64 1, .bool false, .bool false, .slice (some ⟨w.heap.size + 1 + 1, 0, none⟩) 1 1] 24)
abbrev lv5 (w : World) : World := (lv4 w).alloc (.cells #[.slice (some ⟨w.heap.size + 1 + 1 + 1, 0, none⟩) 1 1] 39)
abbrev liveB (w : World) : List BV := aliveB (some ⟨w.heap.size + 1 + 1 + 1, 0, none⟩) 1 (some ⟨w.heap.size + 1 + 1, 0, none⟩) 1
theorem lv_below (w : World) : Below w.heap.size w (lv5 w) := (((((Below.refl _ w).alloc (Nat.le_refl _) _).alloc (by simp) _).alloc (by simp; omega) _).alloc (by simp; omega) _).alloc (by simp; omega) _
theorem lv_in (w : World) (px : Option Addr) (hx : IsInts w px aliveX) : TnsIn (lv5 w) [1] (some ⟨w.heap.size, 0, none⟩) (liveB w) (some ⟨w.heap.size + 1 + 1 + 1 + 1, 0, none⟩) aliveX px := by
  have c1 : CellsAt (lv5 w) w.heap.size 3 (valsL [1]) := ((((CellsAt.new w 3 (valsL [1]) rfl).alloc _).alloc _).alloc _).alloc _
  have c3 : CellsAt (lv5 w) (w.heap.size + 1 + 1) 3 (valsL [3]) := ((CellsAt.new (lv2 w) 3 (valsL [3]) (by simp)).alloc _).alloc _
  have c4 : CellsAt (lv5 w) (w.heap.size + 1 + 1 + 1) 24 (aliveF (some ⟨w.heap.size + 1 + 1, 0, none⟩) 1).cells := (CellsAt.new (lv3 w) 24 _ (by simp)).alloc _
  have c5 : CellsAt (lv5 w) (w.heap.size + 1 + 1 + 1 + 1) 39 #[.slice (some ⟨w.heap.size + 1 + 1 + 1, 0, none⟩) 1 1] := CellsAt.new (lv4 w) 39 _ (by simp)
  refine ⟨c1.ints, by decide, bank_new (v := ⟨some ⟨w.heap.size + 1 + 1 + 1, 0, none⟩, 1, [aliveF (some ⟨w.heap.size + 1 + 1, 0, none⟩) 1]⟩) c5 (filt_new c4) (fsOk_one c3.ints (by simp)), fun j hj hq => ?_, hx.keep (lv_below w), by rw [live_len]; decide, by simp [aliveB]⟩
  obtain rfl : j = 0 := by simpa [aliveB] using hj
  simp [aliveB] at hq
theorem lv_info (w : World) : CellsAt (lv5 w) (w.heap.size + 1) 33 (infC 0 0 2 (some ⟨w.heap.size, 0, none⟩) 1 1) := (((CellsAt.new (lv1 w) 33 _ (by simp)).alloc _).alloc _).alloc _
theorem lv_one (w : World) : IsInts (lv5 w) (some ⟨w.heap.size, 0, none⟩) [1] := by
  have c1 : CellsAt (lv5 w) w.heap.size 3 (valsL [1]) := ((((CellsAt.new w 3 (valsL [1]) rfl).alloc _).alloc _).alloc _).alloc _
  exact c1.ints
theorem lvN_in (w : World) (g : Nat) (px : Option Addr) (h1 : IsInts w (some ⟨g, 0, none⟩) [1]) (hx : IsInts w px aliveX) : TnsIn (w.alloc (.cells #[.slice none 0 0] 39)) [1] (some ⟨g, 0, none⟩) aliveN (some ⟨w.heap.size, 0, none⟩) aliveX px := by
  have hb := (Below.refl w.heap.size w).alloc (Nat.le_refl _) (.cells #[.slice none 0 0] 39)
  refine ⟨h1.keep hb, by decide, bank_new (v := ⟨none, 0, []⟩) (CellsAt.new w 39 #[.slice none 0 0] rfl) (.inl rfl) (fun j hj => by simp at hj), fun j hj hq => ?_, hx.keep hb, by rw [live_len]; decide, by decide⟩
  obtain rfl : j = 0 := by simpa [aliveN] using hj
  exact ⟨rfl, rfl⟩
/-- What one row of 256 reads as. -/
theorem RAll.row {Y : List Int} {E : Int} {w w' : World} {e : Ending} (h : RAll (Y, E) w e w') (hl : Y.length = 256) : ∃ g d, e = .returned (.tuple #[.slice (some ⟨g, 0, none⟩) 256 d, .int .i64 E]) ∧ IsInts w' (some ⟨g, 0, none⟩) Y ∧ Below w.heap.size w w' ∧ w.heap.size ≤ g ∧ g < w'.heap.size := by
  obtain ⟨p, d, a, b, rfl, hS, ha, hB⟩ := h
  rw [hl] at hS ⊢
  obtain ⟨g, rfl, h1, h2, _⟩ := hS.at (k := 0) (by omega)
  have hI := hS.ints
  exact ⟨g, d, rfl, hI.ints, hB, by omega, by have := hS.2.1; omega⟩
theorem live_y (q : Option Addr) (cq : Nat) (p : Option Addr) (c : Nat) : ∃ Y, tnsR 1 0 0 0 2 [1] (aliveB q cq p c) aliveX = (Y, 0) ∧ Y.length = 256 ∧ Y.getD 0 0 = 1000 ∧ 0 < Y.getD 1 0 := by
  refine ⟨allL 1 (bandL 0 ((0 : Int) == 2)) 2 (aliveB q cq p c) aliveX, ?_, runS_len 1 _ _ live_len, alive_y0 q cq p c, ?_⟩
  · unfold tnsR
    rw [alive_ready, if_pos rfl]
    rfl
  · obtain ⟨v, h1, h2⟩ := alive_y1 q cq p c
    rw [h1]; exact h2
theorem live_z : tnsR 1 0 0 0 2 [1] aliveN aliveX = (aliveX, 0) := by
  unfold tnsR
  rw [alive_readyN, if_pos rfl]
  show (allL 1 (bandL 0 ((0 : Int) == 2)) 2 aliveN aliveX, _) = _
  rw [alive_z 0]
set_option maxRecDepth 100000 in
set_option maxHeartbeats 4000000 in
theorem alive_ok (w : World) : Calls Try.prog 12 #[] w fun e w' => e = .returned (.bool true) ∧ Below w.heap.size w w' := by
  go_enter Try.func12, Try.ntmps12
  go_upto_region 2 with (at_make; refine make_row rfl _ _ rfl 256 (by omega) rfl rfl ?_; intro w1 hlt1 hO1 hB1)
  rw [zero_row] at hO1
  have S1 : Spoil w1 (some ⟨w.heap.size, 0, none⟩) 256 256 w.heap.size (w.heap.size + 1) ((List.replicate 256 (0 : Int)).map (Value.int .i64)) := by
    refine ⟨by simp, hlt1, fun _ => ⟨w.heap.size, rfl, Nat.le_refl _, Nat.lt_succ_self _, hO1⟩⟩
  obtain ⟨g', hg', _, _, c0, f0, hput⟩ := S1.at (k := 0) (by omega)
  obtain rfl : g' = w.heap.size := by injection hg' with h1; injection h1 with h2; exact h2.symm
  have S2 := hput (.int .i64 1000)
  have hb2 := hB1.setCell (p := ⟨w.heap.size, 0, none⟩) (Nat.le_refl _) (.int .i64 1000)
  rw [live_row] at S2
  have c0 : w1.cell? ⟨w.heap.size, 0, none⟩ = some (.int .i64 0) := c0.trans rfl
  have HS2 := Lib.hid S2
  have HB2 := Lib.hid hb2
  clear hput hg' hO1 S1 S2 hB1 hb2
  go_upto_region 3 with fail
  obtain ⟨w2, hw2⟩ : ∃ W, w1.setCell ⟨w.heap.size, 0, none⟩ (.int .i64 1000) = W := ⟨_, rfl⟩
  rw [hw2] at HS2 HB2 ⊢
  clear hw2 c0 f0 hlt1
  go_upto_region 4 with fail
  go_wp2_with fail
  have hIX := HS2.out.ints.ints
  have HIN := Lib.hid (lv_in w2 _ hIX)
  obtain ⟨Y, hY, hYl, hY0, hY1⟩ := live_y (some ⟨w2.heap.size + 1 + 1 + 1, 0, none⟩) 1 (some ⟨w2.heap.size + 1 + 1, 0, none⟩) 1
  have HF := Lib.hid (tns_forward 0 0 0 2 [1] (some ⟨w2.heap.size, 0, none⟩) (some ⟨w2.heap.size + 1 + 1 + 1 + 1, 0, none⟩) _ 1 1 256 _ _ (lv5 w2) HIN.out)
  rw [hY] at HF
  rw [live_len] at HF
  refine (HF.out.mono (fun e w' h => h.row hYl)).mono ?_
  rintro e w3 ⟨g3, d3, rfl, hI3, hB3, hg3, hg3'⟩
  have HB3 := Lib.hid ((lv_below w2).trans (hB3.mono (lv_below w2).size))
  have hz3 := HB3.out.size
  have X3 := Lib.hid ((lv_info w2).keep hB3 (lv_info w2).lt)
  have H1 := Lib.hid ((lv_one w2).keep hB3)
  have HX3 := Lib.hid (hIX.keep HB3.out)
  have HI3 := Lib.hid hI3
  have hgg : w2.heap.size ≤ g3 := by have := (lv_below w2).size; omega
  have HG := Lib.hid hgg
  have HY := Lib.hid (And.intro hYl (And.intro hY0 hY1))
  have k0 := X3.out.cell 0
  have k1 := X3.out.cell 1
  have k2 := X3.out.cell 2
  have k3 := X3.out.cell 3
  simp only [List.getElem?_toArray, List.getElem?_cons_zero, List.getElem?_cons_succ] at k0 k1 k2 k3
  clear hIX hB3 hI3 HIN HF hgg hYl hY0 hY1 hY hz3 hg3 HS2
  go_wp2_with fail
  have HF := Lib.hid (tns_forward 0 0 0 2 [1] (some ⟨w2.heap.size, 0, none⟩) (some ⟨w3.heap.size, 0, none⟩) _ 1 1 256 _ _ _ (lvN_in w3 w2.heap.size _ H1.out HX3.out))
  rw [live_z] at HF
  rw [live_len] at HF
  refine (HF.out.mono (fun e w' h => h.row live_len)).mono ?_
  rintro e w4 ⟨g4, d4, rfl, hI4, hB4, hg4, hg4'⟩
  obtain ⟨hl, h0, h1⟩ := HY.out
  obtain ⟨v0, e0⟩ : ∃ v, Y.getD 0 0 = v := ⟨_, rfl⟩
  obtain ⟨v1, e1⟩ : ∃ v, Y.getD 1 0 = v := ⟨_, rfl⟩
  have hb4 := (Below.refl w3.heap.size w3).alloc (Nat.le_refl _) (.cells #[.slice none 0 0] 39)
  have hb5 := hb4.trans (hB4.mono hb4.size)
  have hI5 := HI3.out.keep hb5
  obtain ⟨b1, o1, hp1, _, hc1⟩ := hI5.at (j := 0) (by omega)
  obtain ⟨rfl, rfl⟩ : g3 = b1 ∧ 0 = o1 := by simpa using hp1
  have r0 := hc1 0 (by omega)
  have r1 := hc1 1 (by omega)
  obtain ⟨b2, o2, hp2, _, hc2⟩ := hI4.at (j := 0) (by rw [live_len]; omega)
  obtain ⟨rfl, rfl⟩ : g4 = b2 ∧ 0 = o2 := by simpa using hp2
  have s0 := hc2 0 (by rw [live_len]; omega)
  have s1 := hc2 1 (by rw [live_len]; omega)
  rw [show aliveX.getD 0 0 = 1000 from rfl] at s0
  rw [show aliveX.getD 1 0 = 0 from rfl] at s1
  rw [h0] at r0
  rw [e1] at r1 h1
  rw [Nat.add_zero] at r0 s0
  rw [Nat.zero_add] at r1 s1
  have d1 : decide (v1 > 0) = true := decide_eq_true h1
  have HE := Lib.hid ((HB2.out.trans (HB3.out.mono HB2.out.size)).trans (hb5.mono (Nat.le_trans HB2.out.size HB3.out.size)))
  clear hc1 hc2 hp1 hp2 hI5 hI4 hb4 hb5 hB4 HF HX3 H1 HI3 HY HB2 HB3 X3 k0 k1 k2 k3 h0 h1 e0
  go_wp2
  go_ret
  exact ⟨rfl, HE.out⟩
end Go.Proofs.Yteijlbblmdclaaa
