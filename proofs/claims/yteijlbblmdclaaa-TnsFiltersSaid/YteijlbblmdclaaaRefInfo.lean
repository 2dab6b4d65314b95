/- reedpiperef10: Windows: what a call answers. -/
import Derived.Test.YteijlbblmdclaaaRefSome
set_option linter.unusedVariables false
set_option linter.unusedSimpArgs false
namespace Go.Proofs.Yteijlbblmdclaaa
open Go.ChangeShapes Go.WideShapes Go.ChangeAt Go.RowKit
set_option maxRecDepth 100000 in
theorem ref_windows (seq shape max : Int) (G : List Int) (pg : Option Addr) (cg : Nat) (w : World) (hG : IsInts w pg G) (hl : G.length ≤ 100) :
    Calls Try.prog 41 #[.agg (infoC seq shape max pg G.length cg)] w fun e w' => e = .returned (.tuple #[.int .i64 (if mayB 11 seq shape max G then (winN seq : Int) else 0), .int .i64 (if mayB 11 seq shape max G then 0 else 8)]) ∧ Below w.heap.size w w' := by
  have hb0 : Below w.heap.size w (w.alloc (.cells (infoC seq shape max pg G.length cg) 33)) := (Below.refl _ w).alloc (Nat.le_refl _) _
  have X0 := Lib.hid (CellsAt.new w 33 (infoC seq shape max pg G.length cg) rfl)
  have HC := Lib.hid (fun (W : World) (h : Below w.heap.size w W) => ref_some seq shape max G pg cg W (hG.keep h) hl)
  have HN := Lib.hid (fun W => ref_wmany seq shape max pg G.length cg W)
  unfold RGrp at HC
  unfold RE at HN
  clear hG
  generalize mayB 11 seq shape max G = b at *
  generalize winN seq = wn at *
  go_enter Try.func41, Try.ntmps41
  go_wp2_with fail
  refine (HC.out _ hb0).mono ?_
  rintro e w1 ⟨rfl, hB⟩
  have hb1 := hb0.trans (hB.mono hb0.size)
  have X1 := Lib.hid (X0.out.keep hB X0.out.lt)
  have kx0 := X1.out.cell 0
  have kx1 := X1.out.cell 1
  have kx2 := X1.out.cell 2
  have kx3 := X1.out.cell 3
  simp only [List.getElem?_toArray, List.getElem?_cons_zero, List.getElem?_cons_succ] at kx0 kx1 kx2 kx3
  clear hB hb0 HC X0
  cases b
  · go_wp2
    go_ret2
    exact ⟨rfl, hb1⟩
  · go_wp2_with fail
    refine (HN.out _).mono ?_
    rintro e w2 ⟨rfl, hB⟩
    have hb2 := hb1.trans (hB.mono hb1.size)
    clear hB HN
    go_wp2
    go_ret2
    exact ⟨rfl, hb2⟩
end Go.Proofs.Yteijlbblmdclaaa
