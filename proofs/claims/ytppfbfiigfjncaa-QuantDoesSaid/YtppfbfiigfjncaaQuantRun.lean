/- quant.Lines and quant.Quantise: what each call answers. -/
import Derived.Test.YtppfbfiigfjncaaQuantEach
import Derived.Test.YtppfbfiigfjncaaQuantReady
import Derived.Test.YtppfbfiigfjncaaQuantAll
import Derived.Test.YtppfbfiigfjncaaRefInfoP
set_option linter.unusedVariables false
set_option linter.unusedSimpArgs false
namespace Go.Proofs.Ytppfbfiigfjncaa
open Go.ChangeShapes Go.WideShapes Go.ChangeAt Go.RowKit

def lineF (q s : Int) : Int := (lineV q s).1
def quanF (x s : Int) : Int := (quantV x s).1
theorem row_len (F : Int → Int → Int) (Bk St : List (List Int)) (x : List Int) (ps : List Pl) : (runQ F Bk St x ps (List.replicate 256 0)).length = 256 := by rw [runQ_len, List.length_replicate]
set_option maxRecDepth 100000 in
set_option maxHeartbeats 4000000 in
theorem lines_any (rate seq shape max : Int) (G : List Int) (pg qb qs px : Option Addr) (cg cb cs cx : Nat) (Bk St : List RV) (x : List Int) (w : World)
    (hG : IsInts w pg G) (hGl : G.length ≤ 100) (hB : IsRows w qb Bk) (hBl : Bk.length ≤ 100) (hS : IsRows w qs St) (hSl : St.length ≤ 100) (hX : IsInts w px x) (hxl : x.length ≤ 1000) :
    Calls Try.prog 8 #[.int .i64 rate, .agg (infoC seq shape max pg G.length cg), .slice qb Bk.length cb, .slice qs St.length cs, .slice px x.length cx] w (RRowE (quantR lineF 8191 rate seq shape max G Bk St x) w) := by
  obtain ⟨W0, hW0⟩ : ∃ W0, w.alloc (.cells (infoC seq shape max pg G.length cg) 27) = W0 := ⟨_, rfl⟩
  have hb0 : Below w.heap.size w W0 := by rw [← hW0]; exact (Below.refl _ w).alloc (Nat.le_refl _) _
  have X0 := Lib.hid (show CellsAt W0 w.heap.size 27 (infoC seq shape max pg G.length cg) by rw [← hW0]; exact CellsAt.new w _ _ rfl)
  have hz0 : W0.heap.size = w.heap.size + 1 := by rw [← hW0]; simp
  have HR := Lib.hid (ready_ok 8191 rate seq shape max (by decide) (by decide) G pg qb qs px cg cb cs cx Bk St x W0 (hG.keep hb0) hGl (hB.keep hb0) hBl (hS.keep hb0) hSl (hX.keep hb0) hxl)
  have HE := Lib.hid (fun (W : World) (hW : Below w.heap.size w W) (h : QGood 8191 rate seq shape max G Bk St x) (hx : x.length = 256) => show Calls Try.prog 25 #[.int .i64 rate, .agg (infoC seq shape max pg G.length cg), .slice qb Bk.length cb, .slice qs St.length cs, .slice px 256 cx, .func (.func 22) #[] #[]] W (REach (runQ lineF (rowsOf Bk) (rowsOf St) x (allPl (bandL rate (seq == 2)) G max.toNat (winN seq)) (List.replicate 256 0)) W) from
    each_ok 22 lineF (fun q s => (lineV q s).2) (fun q s W => Line_any q s W) (enters_of Try.func22 (by kernel_rfl) rfl) rate seq shape max h.r0 h.r1 G pg cg hGl (may_most h.r0 h.r1 h.may) max.toNat (by have := h.m0; omega) h.m1 Bk St qb qs cb cs h.bl h.sl (fun g hg => by have := h.br g hg; omega) (fun g hg => by have := h.sr g hg; omega) x px cx hx W (hG.keep hW) (hB.keep hW) (hS.keep hW) (hX.keep hW))
  have kx := X0.out.cell 0
  rw [← hW0] at kx
  have ky := X0.out.cell 1
  rw [← hW0] at ky
  have kz := X0.out.cell 2
  rw [← hW0] at kz
  have kt := X0.out.cell 3
  rw [← hW0] at kt
  simp only [infoC, List.getElem?_toArray, List.getElem?_cons_zero, List.getElem?_cons_succ] at kx ky kz kt
  unfold quantR
  obtain ⟨rc, hrc⟩ : ∃ r, readyQ 8191 rate seq shape max G Bk St x = r := ⟨_, rfl⟩
  have HRC := Lib.hid hrc
  rw [hrc] at HR ⊢
  obtain ⟨R, hR⟩ : ∃ R, runQ lineF (rowsOf Bk) (rowsOf St) x (allPl (bandL rate (seq == 2)) G max.toNat (winN seq)) (List.replicate 256 0) = R := ⟨_, rfl⟩
  rw [hR] at HE ⊢
  have HRR := Lib.hid hR
  clear hR
  have HW0 := Lib.hid hW0
  unfold RRowE RE at *
  unfold REach at HE
  dsimp only
  clear hG hB hS hX hrc hW0
  go_enter Try.func8, Try.ntmps8
  go_wp2_with fail
  rw [HW0.out]
  refine HR.out.mono ?_
  rintro e W1 ⟨rfl, hB1⟩
  have hb1 := hb0.trans (hB1.mono (by omega))
  have X1 := Lib.hid (X0.out.keep hB1 X0.out.lt)
  clear hB1 hb0 X0 HR HW0 kx ky kz kt hz0
  by_cases hrc0 : rc = 0
  · subst hrc0
    have hg := qgood (by decide) HRC.out
    have hx := hg.xl
    have HEE := Lib.hid (HE.out W1 hb1 hg hx)
    have HRL := Lib.hid (show R.length = 256 by rw [← HRR.out]; exact row_len _ _ _ _ _)
    have m0 := X1.out.cell 0
    have m1 := X1.out.cell 1
    have m2 := X1.out.cell 2
    have m3 := X1.out.cell 3
    simp only [infoC, List.getElem?_toArray, List.getElem?_cons_zero, List.getElem?_cons_succ] at m0 m1 m2 m3
    rw [hx]
    clear HE hg hx
    go_wp2_with fail
    refine HEE.out.mono ?_
    rintro e W2 ⟨v, rfl, hO, hB2⟩
    have HO := Lib.hid hO
    have hb2 := hb1.trans (hB2.mono hb1.size)
    have hz1 := hb1.size
    clear hO hB2 HEE
    go_wp2
    go_ret2
    refine ⟨_, rfl, ?_, hb2⟩
    first | (rw [if_pos rfl, HRL.out]; exact owns_lower HO.out hz1) | (rw [HRL.out]; exact owns_lower HO.out hz1)
  · have e1 : (rc != 0) = true := by simp [hrc0]
    have HN := Lib.hid hrc0
    clear hrc0 HE
    go_wp2
    go_ret2
    refine ⟨_, rfl, ?_, hb1⟩
    first | (rw [if_neg HN.out]; exact World.ownsRow_nil _ _ _ _) | exact World.ownsRow_nil _ _ _ _
set_option maxRecDepth 100000 in
set_option maxHeartbeats 4000000 in
theorem quan_any (rate seq shape max : Int) (G : List Int) (pg qb qs px : Option Addr) (cg cb cs cx : Nat) (Bk St : List RV) (x : List Int) (w : World)
    (hG : IsInts w pg G) (hGl : G.length ≤ 100) (hB : IsRows w qb Bk) (hBl : Bk.length ≤ 100) (hS : IsRows w qs St) (hSl : St.length ≤ 100) (hX : IsInts w px x) (hxl : x.length ≤ 1000) :
    Calls Try.prog 14 #[.int .i64 rate, .agg (infoC seq shape max pg G.length cg), .slice qb Bk.length cb, .slice qs St.length cs, .slice px x.length cx] w (RRowE (quantR quanF 268435455 rate seq shape max G Bk St x) w) := by
  obtain ⟨W0, hW0⟩ : ∃ W0, w.alloc (.cells (infoC seq shape max pg G.length cg) 27) = W0 := ⟨_, rfl⟩
  have hb0 : Below w.heap.size w W0 := by rw [← hW0]; exact (Below.refl _ w).alloc (Nat.le_refl _) _
  have X0 := Lib.hid (show CellsAt W0 w.heap.size 27 (infoC seq shape max pg G.length cg) by rw [← hW0]; exact CellsAt.new w _ _ rfl)
  have hz0 : W0.heap.size = w.heap.size + 1 := by rw [← hW0]; simp
  have HR := Lib.hid (ready_ok 268435455 rate seq shape max (by decide) (by decide) G pg qb qs px cg cb cs cx Bk St x W0 (hG.keep hb0) hGl (hB.keep hb0) hBl (hS.keep hb0) hSl (hX.keep hb0) hxl)
  have HE := Lib.hid (fun (W : World) (hW : Below w.heap.size w W) (h : QGood 268435455 rate seq shape max G Bk St x) (hx : x.length = 256) => show Calls Try.prog 25 #[.int .i64 rate, .agg (infoC seq shape max pg G.length cg), .slice qb Bk.length cb, .slice qs St.length cs, .slice px 256 cx, .func (.func 23) #[] #[]] W (REach (runQ quanF (rowsOf Bk) (rowsOf St) x (allPl (bandL rate (seq == 2)) G max.toNat (winN seq)) (List.replicate 256 0)) W) from
    each_ok 23 quanF (fun q s => (quantV q s).2) (fun q s W => Quant_any q s W) (enters_of Try.func23 (by kernel_rfl) rfl) rate seq shape max h.r0 h.r1 G pg cg hGl (may_most h.r0 h.r1 h.may) max.toNat (by have := h.m0; omega) h.m1 Bk St qb qs cb cs h.bl h.sl (fun g hg => by have := h.br g hg; omega) (fun g hg => by have := h.sr g hg; omega) x px cx hx W (hG.keep hW) (hB.keep hW) (hS.keep hW) (hX.keep hW))
  have kx := X0.out.cell 0
  rw [← hW0] at kx
  have ky := X0.out.cell 1
  rw [← hW0] at ky
  have kz := X0.out.cell 2
  rw [← hW0] at kz
  have kt := X0.out.cell 3
  rw [← hW0] at kt
  simp only [infoC, List.getElem?_toArray, List.getElem?_cons_zero, List.getElem?_cons_succ] at kx ky kz kt
  unfold quantR
  obtain ⟨rc, hrc⟩ : ∃ r, readyQ 268435455 rate seq shape max G Bk St x = r := ⟨_, rfl⟩
  have HRC := Lib.hid hrc
  rw [hrc] at HR ⊢
  obtain ⟨R, hR⟩ : ∃ R, runQ quanF (rowsOf Bk) (rowsOf St) x (allPl (bandL rate (seq == 2)) G max.toNat (winN seq)) (List.replicate 256 0) = R := ⟨_, rfl⟩
  rw [hR] at HE ⊢
  have HRR := Lib.hid hR
  clear hR
  have HW0 := Lib.hid hW0
  unfold RRowE RE at *
  unfold REach at HE
  dsimp only
  clear hG hB hS hX hrc hW0
  go_enter Try.func14, Try.ntmps14
  go_wp2_with fail
  rw [HW0.out]
  refine HR.out.mono ?_
  rintro e W1 ⟨rfl, hB1⟩
  have hb1 := hb0.trans (hB1.mono (by omega))
  have X1 := Lib.hid (X0.out.keep hB1 X0.out.lt)
  clear hB1 hb0 X0 HR HW0 kx ky kz kt hz0
  by_cases hrc0 : rc = 0
  · subst hrc0
    have hg := qgood (by decide) HRC.out
    have hx := hg.xl
    have HEE := Lib.hid (HE.out W1 hb1 hg hx)
    have HRL := Lib.hid (show R.length = 256 by rw [← HRR.out]; exact row_len _ _ _ _ _)
    have m0 := X1.out.cell 0
    have m1 := X1.out.cell 1
    have m2 := X1.out.cell 2
    have m3 := X1.out.cell 3
    simp only [infoC, List.getElem?_toArray, List.getElem?_cons_zero, List.getElem?_cons_succ] at m0 m1 m2 m3
    rw [hx]
    clear HE hg hx
    go_wp2_with fail
    refine HEE.out.mono ?_
    rintro e W2 ⟨v, rfl, hO, hB2⟩
    have HO := Lib.hid hO
    have hb2 := hb1.trans (hB2.mono hb1.size)
    have hz1 := hb1.size
    clear hO hB2 HEE
    go_wp2
    go_ret2
    refine ⟨_, rfl, ?_, hb2⟩
    first | (rw [if_pos rfl, HRL.out]; exact owns_lower HO.out hz1) | (rw [HRL.out]; exact owns_lower HO.out hz1)
  · have e1 : (rc != 0) = true := by simp [hrc0]
    have HN := Lib.hid hrc0
    clear hrc0 HE
    go_wp2
    go_ret2
    refine ⟨_, rfl, ?_, hb1⟩
    first | (rw [if_neg HN.out]; exact World.ownsRow_nil _ _ _ _) | exact World.ownsRow_nil _ _ _ _
end Go.Proofs.Ytppfbfiigfjncaa
