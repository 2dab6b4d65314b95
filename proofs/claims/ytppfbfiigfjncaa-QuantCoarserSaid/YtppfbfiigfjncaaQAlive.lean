/- The statements' own first example. -/
import Derived.Test.YtppfbfiigfjncaaQuantVal
import Derived.Test.YtppfbfiigfjncaaMakeRow
import Derived.Test.YtppfbfiigfjncaaCells
import Derived.Deep.CutRange
set_option linter.unusedVariables false
set_option linter.unusedSimpArgs false
namespace Go.Proofs.Ytppfbfiigfjncaa
open Go.ChangeShapes Go.WideShapes Go.ChangeAt Go.RowKit
def oneX : List Int := 1 :: List.replicate 255 0
theorem one_len : oneX.length = 256 := by unfold oneX; rw [List.length_cons, List.length_replicate]
theorem zero_row : List.replicate 256 (Value.int .i64 0) = (List.replicate 256 (0 : Int)).map (Value.int .i64) := (List.map_replicate).symm
theorem one_row : ((List.replicate 256 (0 : Int)).map (Value.int .i64)).set 0 (.int .i64 1) = oneX.map (Value.int .i64) := by rfl
def ROne (w : World) (e : Ending) (w' : World) : Prop := ∃ g, e = .returned (.slice (some ⟨g, 0, none⟩) 256 256) ∧ IsInts w' (some ⟨g, 0, none⟩) oneX ∧ Below w.heap.size w w'
set_option maxRecDepth 100000 in
theorem one_ok (w : World) : Calls Try.prog 9 #[] w (ROne w) := by
  go_enter Try.func9, Try.ntmps9
  go_upto_region 2 with (at_make; refine make_row rfl _ _ rfl 256 (by omega) rfl rfl ?_; intro w1 hlt1 hO1 hB1)
  rw [zero_row] at hO1
  have S1 : Spoil w1 (some ⟨w.heap.size, 0, none⟩) 256 256 w.heap.size (w.heap.size + 1) ((List.replicate 256 (0 : Int)).map (Value.int .i64)) := by
    refine ⟨by simp, hlt1, fun _ => ⟨w.heap.size, rfl, Nat.le_refl _, Nat.lt_succ_self _, hO1⟩⟩
  obtain ⟨g', hg', _, _, c0, f0, hput⟩ := S1.at (k := 0) (by omega)
  obtain rfl : g' = w.heap.size := by injection hg' with h1; injection h1 with h2; exact h2.symm
  have S2 := hput (.int .i64 1)
  have hb2 := hB1.setCell (p := ⟨w.heap.size, 0, none⟩) (Nat.le_refl _) (.int .i64 1)
  rw [one_row] at S2
  have c0 : w1.cell? ⟨w.heap.size, 0, none⟩ = some (.int .i64 0) := c0.trans rfl
  have HS2 := Lib.hid S2
  have HB2 := Lib.hid hb2
  clear hput hg' hO1 S1 S2 hB1 hb2
  go_wp2
  go_ret
  exact Exists.intro _ ⟨rfl, HS2.out.ints.ints, HB2.out⟩
/-- One group's one row. -/
theorem rows_new {W : World} {g : Nat} {t : TypeId} {r : RV} (h : CellsAt W g t #[.slice r.q r.l.length r.c]) (hr : IsInts W r.q r.l) : IsRows W (some ⟨g, 0, none⟩) [r] := by
  refine ⟨.inr ⟨g, 0, rfl, h.lt, fun j hj => ?_⟩, fun j hj => ?_⟩
  · obtain rfl : j = 0 := by simpa using hj
    rw [Nat.add_zero, h.cell 0]; rfl
  · obtain rfl : j = 0 := by simpa using hj
    exact hr
/-- One row's answer. -/
theorem RRowE.row {Y : List Int} {E : Int} {w w' : World} {e : Ending} (h : RRowE (Y, E) w e w') : ∃ p d, e = .returned (.tuple #[.slice p Y.length d, .int .i64 E]) ∧ IsInts w' p Y ∧ Below w.heap.size w w' := by
  obtain ⟨v, rfl, hO, hB⟩ := h
  obtain ⟨p, d, rfl, hI⟩ := owns_any hO
  exact ⟨p, d, rfl, hI.ints, hB⟩
def rv (a : Addr) (k : Int) : RV := ⟨some a, 1, [k]⟩
theorem live_ready (a b : Addr) : readyQ 8191 0 0 0 1 [1] [rv a 1] [rv b 100] oneX = 0 := by kernel_rfl
theorem live_zero (a b : Addr) : readyQ 8191 0 0 0 1 [1] [rv a 0] [rv b 100] oneX = 0 := by kernel_rfl
theorem live_nil (b : Addr) : readyQ 8191 0 0 0 1 [1] [] [rv b 100] oneX = 4 := by kernel_rfl
theorem live_odd (a b : Addr) : readyQ 8191 0 0 0 1 [1] [rv a 14] [rv b 100] oneX = 2 := by kernel_rfl
theorem live_p0 : placeAt (plsQ 0 0 1 [1]) 0 = some ⟨0, 0, 0⟩ := by kernel_rfl
theorem live_p255 : placeAt (plsQ 0 0 1 [1]) 255 = none := by kernel_rfl
theorem live_v : (lineV 1 100).2 = 0 ∧ (lineV 1 100).1 ≠ 0 := by decide +kernel
theorem live_y (a b : Addr) : ∃ Y, quantR lineF 8191 0 0 0 1 [1] [rv a 1] [rv b 100] oneX = (Y, 0) ∧ Y.length = 256 ∧ Y.getD 0 0 = (lineV 1 100).1 ∧ Y.getD 255 0 = 0 := by
  have h := qgood (by decide) (live_ready a b)
  refine ⟨_, quantR_good h, rowQ_len _ _ _ _ _ _ _ _, ?_, ?_⟩
  · rw [rowQ_at h _ _ _ (by decide), live_p0]; rfl
  · rw [rowQ_at h _ _ _ (by decide), live_p255]; rfl
theorem live_0 (a b : Addr) : ∃ Y, quantR lineF 8191 0 0 0 1 [1] [rv a 0] [rv b 100] oneX = (Y, 0) ∧ Y.length = 256 ∧ Y.getD 0 0 = 0 := by
  have h := qgood (by decide) (live_zero a b)
  refine ⟨_, quantR_good h, rowQ_len _ _ _ _ _ _ _ _, ?_⟩
  rw [rowQ_at h _ _ _ (by decide), live_p0]; rfl
abbrev q1 (w : World) : World := w.alloc (.cells #[.int .i64 1] 3)
abbrev q2 (w : World) (k : Int) : World := (q1 w).alloc (.cells #[.int .i64 k] 3)
abbrev q3 (w : World) (k : Int) : World := (q2 w k).alloc (.cells #[.slice (some ⟨w.heap.size + 1, 0, none⟩) 1 1] 22)
abbrev q4 (w : World) (k : Int) : World := (q3 w k).alloc (.cells #[.int .i64 100] 3)
abbrev q5 (w : World) (k : Int) : World := (q4 w k).alloc (.cells #[.slice (some ⟨w.heap.size + 1 + 1 + 1, 0, none⟩) 1 1] 22)
theorem q_below (w : World) (k : Int) : Below w.heap.size w (q5 w k) := (((((Below.refl _ w).alloc (Nat.le_refl _) _).alloc (by simp) _).alloc (by simp; omega) _).alloc (by simp; omega) _).alloc (by simp; omega) _
theorem q_grp (w : World) (k : Int) : IsInts (q5 w k) (some ⟨w.heap.size, 0, none⟩) [1] := (((((CellsAt.new w 3 (valsL [1]) rfl).alloc _).alloc _).alloc _).alloc _ : CellsAt (q5 w k) w.heap.size 3 (valsL [1])).ints
theorem q_books (w : World) (k : Int) : IsRows (q5 w k) (some ⟨w.heap.size + 1 + 1, 0, none⟩) [rv ⟨w.heap.size + 1, 0, none⟩ k] := by
  have c2 : CellsAt (q5 w k) (w.heap.size + 1) 3 (valsL [k]) := (((CellsAt.new (q1 w) 3 (valsL [k]) (by simp)).alloc _).alloc _).alloc _
  have c3 : CellsAt (q5 w k) (w.heap.size + 1 + 1) 22 #[.slice (some ⟨w.heap.size + 1, 0, none⟩) 1 1] := ((CellsAt.new (q2 w k) 22 _ (by simp)).alloc _).alloc _
  exact rows_new (r := rv ⟨w.heap.size + 1, 0, none⟩ k) c3 c2.ints
theorem q_steps (w : World) (k : Int) : IsRows (q5 w k) (some ⟨w.heap.size + 1 + 1 + 1 + 1, 0, none⟩) [rv ⟨w.heap.size + 1 + 1 + 1, 0, none⟩ 100] := by
  have c2 : CellsAt (q5 w k) (w.heap.size + 1 + 1 + 1) 3 (valsL [100]) := (CellsAt.new (q3 w k) 3 (valsL [100]) (by simp)).alloc _
  have c3 : CellsAt (q5 w k) (w.heap.size + 1 + 1 + 1 + 1) 22 #[.slice (some ⟨w.heap.size + 1 + 1 + 1, 0, none⟩) 1 1] := CellsAt.new (q4 w k) 22 _ (by simp)
  exact rows_new (r := rv ⟨w.heap.size + 1 + 1 + 1, 0, none⟩ 100) c3 c2.ints
set_option maxRecDepth 100000 in
set_option maxHeartbeats 2000000 in
theorem alive_ok (w : World) : Calls Try.prog 10 #[] w fun e w' => e = .returned (.bool true) ∧ Below w.heap.size w w' := by
  go_enter Try.func10, Try.ntmps10
  go_wp2_with fail
  refine (one_ok (q5 w 1)).mono ?_
  rintro e w1 ⟨g, rfl, hI, hB⟩
  have hG := (q_grp w 1).keep hB
  have hK := (q_books w 1).keep hB
  have hS := (q_steps w 1).keep hB
  obtain ⟨Y, hY, hYl, hY0, hY255⟩ := live_y ⟨w.heap.size + 1, 0, none⟩ ⟨w.heap.size + 1 + 1 + 1, 0, none⟩
  have HL := Lib.hid (lines_any 0 0 0 1 [1] (some ⟨w.heap.size, 0, none⟩) _ _ (some ⟨g, 0, none⟩) 1 1 1 256 _ _ oneX w1 hG (by decide) hK (by simp) hS (by simp) hI (by rw [one_len]; decide))
  rw [hY, one_len] at HL
  have HB1 := Lib.hid ((q_below w 1).trans (hB.mono (q_below w 1).size))
  have HY := Lib.hid (And.intro hYl (And.intro hY0 hY255))
  clear hG hK hS hI hB hY hYl hY0 hY255
  go_wp2_with fail
  refine (HL.out.mono (fun e w' h => h.row)).mono ?_
  rintro e w2 ⟨p2, d2, rfl, hI2, hB2⟩
  obtain ⟨hYl, hY0, hY255⟩ := HY.out
  have HI2 := Lib.hid hI2
  have HB2 := Lib.hid (HB1.out.trans (hB2.mono HB1.out.size))
  have HLN := Lib.hid (Line_any 1 100 w2)
  have HLV := Lib.hid live_v
  obtain ⟨V, hV⟩ : ∃ V, lineV 1 100 = V := ⟨_, rfl⟩
  rw [hV] at HLN HLV hY0
  obtain ⟨V1, V2⟩ := V
  unfold RP2 at HLN
  dsimp only at HLN HLV hY0
  obtain ⟨rfl, hV1⟩ := HLV.out
  have HY0 := Lib.hid hY0
  have HYl := Lib.hid hYl
  have HY255 := Lib.hid hY255
  rw [hYl]
  clear hI2 hB2 HL HB1 HY hYl hY0 hY255 HLV hV
  go_wp2_with fail
  refine HLN.out.mono ?_
  rintro e w3 ⟨rfl, hB3⟩
  obtain ⟨b, o, rfl, _, hc⟩ := (HI2.out.keep hB3).at (j := 0) (by rw [HYl.out]; decide)
  have r0 := hc 0 (by rw [HYl.out]; decide)
  have r1 := hc 255 (by rw [HYl.out]; decide)
  rw [HY0.out, Nat.add_zero] at r0
  rw [HY255.out] at r1
  have HB3 := Lib.hid (HB2.out.trans (hB3.mono HB2.out.size))
  have e1 : (V1 != 0) = true := by simp [hV1]
  clear hc HB2 hB3 HLN HI2 hV1 HYl
  go_wp2
  go_ret
  exact ⟨rfl, HB3.out⟩
end Go.Proofs.Ytppfbfiigfjncaa
