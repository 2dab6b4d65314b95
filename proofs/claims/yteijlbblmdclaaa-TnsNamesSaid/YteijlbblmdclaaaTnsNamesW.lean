/- TnsNames: the walk. -/
import Derived.Test.YteijlbblmdclaaaTnsAlive
set_option linter.unusedVariables false
set_option linter.unusedSimpArgs false
namespace Go.Proofs.Yteijlbblmdclaaa
open Go.ChangeShapes Go.WideShapes Go.ChangeAt Go.RowKit
theorem z13_row : List.replicate 13 (Value.int .i64 0) = (List.replicate 13 (0 : Int)).map (Value.int .i64) := (List.map_replicate).symm
theorem z13_len : (List.replicate 13 (0 : Int)).length = 13 := List.length_replicate
set_option maxRecDepth 100000 in
set_option maxHeartbeats 4000000 in
theorem tns_names (w : World) : Calls Try.prog 7 #[] w fun e w' => e = .returned (.bool true) ∧ Below w.heap.size w w' := by
  have HA := Lib.hid (fun W => alive_ok W)
  have P1 := Lib.hid (fun (W : World) p (h : IsInts W p [0]) => tns_Predict 0 1 false false [0] p 1 (by decide) W h)
  have P2 := Lib.hid (fun (W : World) p (h : IsInts W p (List.replicate 13 0)) => tns_Predict 0 13 false false (List.replicate 13 0) p 13 (by decide) W h)
  have P3 := Lib.hid (fun (W : World) p (h : IsInts W p [4]) => tns_Predict 0 1 false false [4] p 1 (by decide) W h)
  rw [show predN 0 1 false [0] = ([0], 0) by decide +kernel] at P1
  rw [show predN 0 13 false (List.replicate 13 0) = ([], 4) by decide +kernel] at P2
  rw [show predN 0 1 false [4] = ([], 2) by decide +kernel] at P3
  unfold RPred at P1 P2 P3
  simp only at P1 P2 P3
  rw [z13_len] at P2
  have hb0 := (Below.refl w.heap.size w).alloc (Nat.le_refl _) (.cells #[.int .i64 0] 3)
  have hI0 : IsInts (w.alloc (.cells #[.int .i64 0] 3)) (some ⟨w.heap.size, 0, none⟩) [0] := (CellsAt.new w 3 (valsL [0]) rfl).ints
  have HB0 := Lib.hid hb0
  have HI0 := Lib.hid hI0
  clear hb0 hI0
  go_enter Try.func7, Try.ntmps7
  go_wp2_with fail
  refine (P1.out _ _ HI0.out).mono ?_
  rintro e w1 ⟨p1, d1, rfl, hL, hB1⟩
  obtain ⟨g1, l1, t1, rfl, hg1, hC1⟩ := hL.resolve_left (by simp)
  have c0 : w1.cell? ⟨g1, 0, none⟩ = some (.int .i64 0) := app_cell hC1 (k := 0) (by simp)
  have hlt1 := hC1.lt
  have HB1 := Lib.hid (HB0.out.trans (hB1.mono HB0.out.size))
  clear hL hC1 hB1 HI0 P1 HB0
  go_wp2_with (at_make; refine make_row rfl _ _ rfl 13 (by omega) rfl rfl ?_; intro w2 hlt2 hO2 hB2)
  rw [z13_row] at hO2
  have S2 : Spoil w2 (some ⟨w1.heap.size, 0, none⟩) 13 13 w1.heap.size (w1.heap.size + 1) ((List.replicate 13 (0 : Int)).map (Value.int .i64)) :=
    ⟨by rw [List.length_map, z13_len], hlt2, fun _ => ⟨w1.heap.size, rfl, Nat.le_refl _, Nat.lt_succ_self _, hO2⟩⟩
  have HI2 := Lib.hid S2.ints.ints
  have HB2 := Lib.hid (HB1.out.trans (hB2.mono HB1.out.size))
  have c1 := (hB2.cell (p := ⟨g1, 0, none⟩) hlt1).trans c0
  have hlt3 : g1 < w2.heap.size := Nat.lt_of_lt_of_le hlt1 hB2.size
  clear S2 hO2 hB2 c0 HB1
  refine (P2.out _ _ HI2.out).mono ?_
  rintro e w3 ⟨p3, d3, rfl, hL, hB3⟩
  have HB3 := Lib.hid (HB2.out.trans (hB3.mono HB2.out.size))
  have c2 := (hB3.cell (p := ⟨g1, 0, none⟩) hlt3).trans c1
  have hlt4 : g1 < w3.heap.size := Nat.lt_of_lt_of_le hlt3 hB3.size
  have hb4 := (Below.refl w3.heap.size w3).alloc (Nat.le_refl _) (.cells #[.int .i64 4] 3)
  have HI4 := Lib.hid (show IsInts (w3.alloc (.cells #[.int .i64 4] 3)) (some ⟨w3.heap.size, 0, none⟩) [4] from (CellsAt.new w3 3 (valsL [4]) rfl).ints)
  have HB4 := Lib.hid (HB3.out.trans (hb4.mono HB3.out.size))
  have c4 := (hb4.cell (p := ⟨g1, 0, none⟩) hlt4).trans c2
  have hlt5 : g1 < (w3.alloc (.cells #[.int .i64 4] 3)).heap.size := Nat.lt_of_lt_of_le hlt4 hb4.size
  have HC4 := Lib.hid c4
  clear hL hB3 HI2 P2 hb4 c1 c2 HB2 HB3 c4
  go_wp2_with fail
  refine (P3.out _ _ HI4.out).mono ?_
  rintro e w5 ⟨p5, d5, rfl, hL, hB5⟩
  have HB5 := Lib.hid (HB4.out.trans (hB5.mono HB4.out.size))
  have c5 := (hB5.cell (p := ⟨g1, 0, none⟩) hlt5).trans HC4.out
  have hlt6 : g1 < w5.heap.size := Nat.lt_of_lt_of_le hlt5 hB5.size
  clear hL hB5 P3 HC4 HB4
  go_wp2_with fail
  refine (HA.out _).mono ?_
  rintro e w6 ⟨rfl, hB6⟩
  have c6 := (hB6.cell (p := ⟨g1, 0, none⟩) hlt6).trans c5
  have HB6 := Lib.hid (HB5.out.trans (hB6.mono HB5.out.size))
  clear hB6 c5 HB5
  go_wp2
  go_ret
  exact ⟨rfl, HB6.out⟩
end Go.Proofs.Yteijlbblmdclaaa
