/- QuantNames: the walk. -/
import Derived.Test.YtppfbfiigfjncaaQAlive
set_option linter.unusedVariables false
set_option linter.unusedSimpArgs false
namespace Go.Proofs.Ytppfbfiigfjncaa
open Go.ChangeShapes Go.WideShapes Go.ChangeAt Go.RowKit
abbrev n2 (w : World) : World := (q1 w).alloc (.cells #[.int .i64 100] 3)
abbrev n3 (w : World) : World := (n2 w).alloc (.cells #[.slice (some ⟨w.heap.size + 1, 0, none⟩) 1 1] 22)
theorem n_below (w : World) : Below w.heap.size w (n3 w) := (((Below.refl _ w).alloc (Nat.le_refl _) _).alloc (by simp) _).alloc (by simp; omega) _
theorem n_grp (w : World) : IsInts (n3 w) (some ⟨w.heap.size, 0, none⟩) [1] := (((CellsAt.new w 3 (valsL [1]) rfl).alloc _).alloc _ : CellsAt (n3 w) w.heap.size 3 (valsL [1])).ints
theorem n_steps (w : World) : IsRows (n3 w) (some ⟨w.heap.size + 1 + 1, 0, none⟩) [rv ⟨w.heap.size + 1, 0, none⟩ 100] := by
  have c2 : CellsAt (n3 w) (w.heap.size + 1) 3 (valsL [100]) := (CellsAt.new (q1 w) 3 (valsL [100]) (by simp)).alloc _
  have c3 : CellsAt (n3 w) (w.heap.size + 1 + 1) 22 #[.slice (some ⟨w.heap.size + 1, 0, none⟩) 1 1] := CellsAt.new (n2 w) 22 _ (by simp)
  exact rows_new (r := rv ⟨w.heap.size + 1, 0, none⟩ 100) c3 c2.ints
theorem isRows_nil (W : World) (p : Option Addr) : IsRows W p [] := ⟨.inl rfl, fun j hj => by simp at hj⟩
set_option maxRecDepth 100000 in
set_option maxHeartbeats 4000000 in
theorem quant_names (w : World) : Calls Try.prog 3 #[] w fun e w' => e = .returned (.bool true) ∧ Below w.heap.size w w' := by
  go_enter Try.func3, Try.ntmps3
  go_wp2_with fail
  refine (one_ok (q5 w 0)).mono ?_
  rintro e w1 ⟨g, rfl, hI, hB⟩
  have hG := (q_grp w 0).keep hB
  have hK := (q_books w 0).keep hB
  have hS := (q_steps w 0).keep hB
  obtain ⟨Y, hY, hYl, hY0⟩ := live_0 ⟨w.heap.size + 1, 0, none⟩ ⟨w.heap.size + 1 + 1 + 1, 0, none⟩
  have HL := Lib.hid (lines_any 0 0 0 1 [1] (some ⟨w.heap.size, 0, none⟩) _ _ (some ⟨g, 0, none⟩) 1 1 1 256 _ _ oneX w1 hG (by decide) hK (by simp) hS (by simp) hI (by rw [one_len]; decide))
  rw [hY, one_len] at HL
  have HB1 := Lib.hid ((q_below w 0).trans (hB.mono (q_below w 0).size))
  have HY := Lib.hid (And.intro hYl hY0)
  clear hG hK hS hI hB hY hYl hY0
  go_wp2_with fail
  refine (HL.out.mono (fun e w' h => h.row)).mono ?_
  rintro e w2 ⟨p2, d2, rfl, hI2, hB2⟩
  obtain ⟨hYl, hY0⟩ := HY.out
  have HI2 := Lib.hid hI2
  have HB2 := Lib.hid (HB1.out.trans (hB2.mono HB1.out.size))
  have HY0 := Lib.hid hY0
  have HYl := Lib.hid hYl
  rw [hYl]
  clear hI2 hB2 HL HB1 HY hYl hY0
  go_wp2_with fail
  refine (one_ok (n3 w2)).mono ?_
  rintro e w3 ⟨g3, rfl, hI, hB⟩
  have hG := (n_grp w2).keep hB
  have hS := (n_steps w2).keep hB
  have HL := Lib.hid (lines_any 0 0 0 1 [1] (some ⟨w2.heap.size, 0, none⟩) none _ (some ⟨g3, 0, none⟩) 1 0 1 256 [] _ oneX w3 hG (by decide) (isRows_nil _ _) (by simp) hS (by simp) hI (by rw [one_len]; decide))
  rw [quantR_bad (by rw [live_nil]; decide), live_nil, one_len] at HL
  have hb3 := (n_below w2).trans (hB.mono (n_below w2).size)
  have HI3 := Lib.hid (HI2.out.keep hb3)
  have HB3 := Lib.hid (HB2.out.trans (hb3.mono HB2.out.size))
  clear hG hS hI hB hb3 HI2 HB2
  go_wp2_with fail
  refine (HL.out.mono (fun e w' h => h.row)).mono ?_
  rintro e w4 ⟨p4, d4, rfl, hI4, hB4⟩
  have HI4 := Lib.hid (HI3.out.keep hB4)
  have HB4 := Lib.hid (HB3.out.trans (hB4.mono HB3.out.size))
  clear hI4 hB4 HL HI3 HB3
  go_wp2_with fail
  refine (one_ok (q5 w4 14)).mono ?_
  rintro e w5 ⟨g5, rfl, hI, hB⟩
  have hG := (q_grp w4 14).keep hB
  have hK := (q_books w4 14).keep hB
  have hS := (q_steps w4 14).keep hB
  have HL := Lib.hid (lines_any 0 0 0 1 [1] (some ⟨w4.heap.size, 0, none⟩) _ _ (some ⟨g5, 0, none⟩) 1 1 1 256 _ _ oneX w5 hG (by decide) hK (by simp) hS (by simp) hI (by rw [one_len]; decide))
  rw [quantR_bad (by rw [live_odd]; decide), live_odd, one_len] at HL
  have hb5 := (q_below w4 14).trans (hB.mono (q_below w4 14).size)
  have HI5 := Lib.hid (HI4.out.keep hb5)
  have HB5 := Lib.hid (HB4.out.trans (hb5.mono HB4.out.size))
  clear hG hK hS hI hB hb5 HI4 HB4
  go_wp2_with fail
  refine (HL.out.mono (fun e w' h => h.row)).mono ?_
  rintro e w6 ⟨p6, d6, rfl, hI6, hB6⟩
  have HI6 := Lib.hid (HI5.out.keep hB6)
  have HB6 := Lib.hid (HB5.out.trans (hB6.mono HB5.out.size))
  clear hI6 hB6 HL HI5 HB5
  go_wp2_with fail
  refine (alive_ok w6).mono ?_
  rintro e w7 ⟨rfl, hB7⟩
  obtain ⟨b, o, rfl, _, hc⟩ := (HI6.out.keep hB7).at (j := 0) (by rw [HYl.out]; decide)
  have r0 := hc 0 (by rw [HYl.out]; decide)
  rw [HY0.out, Nat.add_zero] at r0
  have HB7 := Lib.hid (HB6.out.trans (hB7.mono HB6.out.size))
  clear hc HB6 hB7 HI6 HYl
  go_wp2
  go_ret
  exact ⟨rfl, HB7.out⟩
end Go.Proofs.Ytppfbfiigfjncaa
