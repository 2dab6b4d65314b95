/- info.Check, info.some, info.Windows: what each call answers. -/
import Derived.Test.YteijlbblmdclaaaInfoGrp
set_option linter.unusedVariables false
set_option linter.unusedSimpArgs false
namespace Go.Proofs.Yteijlbblmdclaaa
open Go.ChangeShapes Go.WideShapes Go.ChangeAt Go.RowKit

/-- May windows be, at a rate that may be? -/
def mayB (rate seq shape max : Int) (G : List Int) : Bool := !(decide (3 < seq) || (decide (1 < shape) || (decide (max < 0) || (decide ((bandL rate (seq == 2)).length - 1 < max) || !grpB seq G))))
def infoE (rate seq shape max : Int) (G : List Int) : Int := if rate < 0 ∨ 11 < rate then 2 else if mayB rate seq shape max G then 0 else 8
def RE (c : Int) (w : World) (e : Ending) (w' : World) : Prop := e = .returned (.int .i64 c) ∧ Below w.heap.size w w'
set_option maxRecDepth 100000 in
set_option maxHeartbeats 4000000 in
theorem check_may (rate seq shape max : Int) (h0 : 0 ≤ rate) (h1 : rate ≤ 11) (G : List Int) (pg : Option Addr) (cg : Nat) (w : World) (hG : IsInts w pg G) (hl : G.length ≤ 100) :
    Calls Try.prog 49 #[.int .i64 rate, .agg (infoC seq shape max pg G.length cg)] w (RE (if mayB rate seq shape max G then 0 else 8) w) := by
  have hb0 : Below w.heap.size w (w.alloc (.cells (infoC seq shape max pg G.length cg) 33)) := (Below.refl _ w).alloc (Nat.le_refl _) _
  have X0 := Lib.hid (CellsAt.new w 33 (infoC seq shape max pg G.length cg) rfl)
  have HG := Lib.hid hG
  have HM := Lib.hid (fun W => many_ok rate (seq == 2) h0 h1 W)
  have HGR := Lib.hid (fun (W : World) (h : Below w.heap.size w W) => grouped_ok seq shape max G pg cg W (hG.keep h) hl)
  obtain ⟨k1, k2, _, _, _⟩ := band_len rate (seq == 2) h0 h1
  have k2' : (bandL rate (seq == 2)).length ≤ 41 := Nat.le_trans k2 (by split <;> omega)
  clear k2
  unfold mayB
  unfold RMany at HM
  unfold RGrp at HGR
  generalize grpB seq G = gb at *
  generalize (bandL rate (seq == 2)).length = many at *
  unfold RE
  obtain ⟨cc, hcc⟩ : ∃ c, (if (!(decide (3 < seq) || (decide (1 < shape) || (decide (max < 0) || (decide ((many : Int) - 1 < max) || !gb))))) = true then (0 : Int) else 8) = c := ⟨_, rfl⟩
  rw [hcc]
  have HCC := Lib.hid hcc
  clear hG hcc
  go_enter Try.func49, Try.ntmps49
  go_wp2_with fail
  refine (HM.out _).mono ?_
  rintro e w1 ⟨rfl, hB1⟩
  have hb1 := hb0.trans (hB1.mono hb0.size)
  have X1 := Lib.hid (X0.out.keep hB1 X0.out.lt)
  have HGC := Lib.hid (HGR.out _ hb1)
  have kx0 := X1.out.cell 0
  have kx1 := X1.out.cell 1
  have kx2 := X1.out.cell 2
  have kx3 := X1.out.cell 3
  simp only [List.getElem?_toArray, List.getElem?_cons_zero, List.getElem?_cons_succ] at kx0 kx1 kx2 kx3
  clear hB1 hb0 X0 HM HGR
  by_cases c1 : 3 < seq
  · have e1 : decide (seq > 3) = true := decide_eq_true c1
    go_wp2
    go_ret
    exact ⟨ret_int (by rw [← HCC.out]; simp [c1]), hb1⟩
  have e1 : decide (seq > 3) = false := decide_eq_false c1
  by_cases c2 : 1 < shape
  · have e2 : decide (shape > 1) = true := decide_eq_true c2
    go_wp2
    go_ret
    exact ⟨ret_int (by rw [← HCC.out]; simp [c2]), hb1⟩
  have e2 : decide (shape > 1) = false := decide_eq_false c2
  by_cases c3 : max < 0
  · have e3 : decide (max < 0) = true := decide_eq_true c3
    go_wp2
    go_ret
    exact ⟨ret_int (by rw [← HCC.out]; simp [c3]), hb1⟩
  have e3 : decide (max < 0) = false := decide_eq_false c3
  by_cases c4 : (many : Int) - 1 < max
  · have e4 : decide (max > (many : Int) - 1) = true := decide_eq_true c4
    go_wp2
    go_ret
    exact ⟨ret_int (by rw [← HCC.out]; simp [c4]), hb1⟩
  have e4 : decide (max > (many : Int) - 1) = false := decide_eq_false c4
  have C := Lib.hid (And.intro c1 (And.intro c2 (And.intro c3 c4)))
  clear c1 c2 c3 c4
  go_wp2_with fail
  refine HGC.out.mono ?_
  rintro e w2 ⟨rfl, hB2⟩
  have hb2 := hb1.trans (hB2.mono hb1.size)
  clear hB2 hb1 X1 kx0 kx1 kx2 kx3 HGC
  cases gb
  · go_wp2
    go_ret
    exact ⟨ret_int (by rw [← HCC.out]; simp), hb2⟩
  · go_wp2
    go_ret
    exact ⟨ret_int (by rw [← HCC.out]; obtain ⟨c1, c2, c3, c4⟩ := C.out; simp [c1, c2, c3, c4]), hb2⟩
set_option maxRecDepth 100000 in
theorem check_rate (rate seq shape max : Int) (h : rate < 0 ∨ 11 < rate) (pg : Option Addr) (ng cg : Nat) (w : World) :
    Calls Try.prog 49 #[.int .i64 rate, .agg (infoC seq shape max pg ng cg)] w (RE 2 w) := by
  have hb0 : Below w.heap.size w (w.alloc (.cells (infoC seq shape max pg ng cg) 33)) := (Below.refl _ w).alloc (Nat.le_refl _) _
  have HM := Lib.hid (fun W => many_bad rate (seq == 2) h W)
  clear h
  unfold RE
  go_enter Try.func49, Try.ntmps49
  go_wp2_with fail
  refine (HM.out _).mono ?_
  rintro e w1 ⟨rfl, rfl⟩
  go_wp2
  go_ret
  exact ⟨rfl, hb0⟩
theorem info_check (rate seq shape max : Int) (G : List Int) (pg : Option Addr) (cg : Nat) (w : World) (hG : IsInts w pg G) (hl : G.length ≤ 100) :
    Calls Try.prog 49 #[.int .i64 rate, .agg (infoC seq shape max pg G.length cg)] w (RE (infoE rate seq shape max G) w) := by
  unfold infoE
  by_cases h : rate < 0 ∨ 11 < rate
  · rw [if_pos h]; exact check_rate rate seq shape max h pg G.length cg w
  · rw [if_neg h]; exact check_may rate seq shape max (by omega) (by omega) G pg cg w hG hl
set_option maxRecDepth 100000 in
theorem info_some (seq shape max : Int) (G : List Int) (pg : Option Addr) (cg : Nat) (w : World) (hG : IsInts w pg G) (hl : G.length ≤ 100) :
    Calls Try.prog 66 #[.agg (infoC seq shape max pg G.length cg)] w fun e w' => e = .returned (.bool (mayB 11 seq shape max G)) ∧ Below w.heap.size w w' := by
  have hb0 : Below w.heap.size w (w.alloc (.cells (infoC seq shape max pg G.length cg) 33)) := (Below.refl _ w).alloc (Nat.le_refl _) _
  have HC := Lib.hid (fun (W : World) (h : Below w.heap.size w W) => check_may 11 seq shape max (by decide) (by decide) G pg cg W (hG.keep h) hl)
  clear hG
  unfold RE at HC
  generalize mayB 11 seq shape max G = b at *
  go_enter Try.func66, Try.ntmps66
  go_wp2_with fail
  refine (HC.out _ hb0).mono ?_
  rintro e w1 ⟨rfl, hB⟩
  have hb1 := hb0.trans (hB.mono hb0.size)
  clear hB hb0 HC
  cases b
  · go_wp2
    go_ret
    exact ⟨rfl, hb1⟩
  · go_wp2
    go_ret
    exact ⟨rfl, hb1⟩
/-- How many windows. -/
def winN (seq : Int) : Nat := if seq = 2 then 8 else 1
set_option maxRecDepth 100000 in
theorem info_windows (seq shape max : Int) (G : List Int) (pg : Option Addr) (cg : Nat) (w : World) (hG : IsInts w pg G) (hl : G.length ≤ 100) :
    Calls Try.prog 50 #[.agg (infoC seq shape max pg G.length cg)] w fun e w' => e = .returned (.tuple #[.int .i64 (if mayB 11 seq shape max G then (winN seq : Int) else 0), .int .i64 (if mayB 11 seq shape max G then 0 else 8)]) ∧ Below w.heap.size w w' := by
  have hb0 : Below w.heap.size w (w.alloc (.cells (infoC seq shape max pg G.length cg) 33)) := (Below.refl _ w).alloc (Nat.le_refl _) _
  have X0 := Lib.hid (CellsAt.new w 33 (infoC seq shape max pg G.length cg) rfl)
  have HC := Lib.hid (fun (W : World) (h : Below w.heap.size w W) => info_some seq shape max G pg cg W (hG.keep h) hl)
  clear hG
  generalize mayB 11 seq shape max G = b at *
  go_enter Try.func50, Try.ntmps50
  go_wp2_with fail
  refine (HC.out _ hb0).mono ?_
  rintro e w1 ⟨rfl, hB⟩
  have hb1 := hb0.trans (hB.mono hb0.size)
  have X1 := Lib.hid (X0.out.keep hB X0.out.lt)
  have kx0 := X1.out.cell 0
  simp only [List.getElem?_toArray, List.getElem?_cons_zero, List.getElem?_cons_succ] at kx0
  clear hB hb0 HC X0
  cases b
  · go_wp2
    go_ret2
    exact ⟨rfl, hb1⟩
  · by_cases hs : seq = 2
    · subst hs
      go_wp2
      go_ret2
      exact ⟨rfl, hb1⟩
    · have e1 : (seq == 2) = false := by simpa using hs
      have HS := Lib.hid hs
      clear hs
      go_wp2
      go_ret2
      exact ⟨by simp [winN, HS.out], hb1⟩
end Go.Proofs.Yteijlbblmdclaaa
