/- reedpiperef15: Forward, Back: what each call answers. -/
import Derived.Test.YteijlbblmdclaaaTnsRefL
import Derived.Test.YteijlbblmdclaaaTnsRefA
set_option linter.unusedVariables false
set_option linter.unusedSimpArgs false
namespace Go.Proofs.Yteijlbblmdclaaa
open Go.ChangeShapes Go.WideShapes Go.ChangeAt Go.RowKit
def RRefR (p : List Int × Int) (w : World) (e : Ending) (w' : World) : Prop := ∃ q d, e = .returned (.tuple #[.slice q p.1.length d, .int .i64 p.2]) ∧ IsInts w' q p.1 ∧ Below w.heap.size w w'
set_option maxRecDepth 100000 in
set_option maxHeartbeats 2000000 in
theorem ref_forward (rate seq shape max : Int) (G : List Int) (pg q px : Option Addr) (cg cB cx : Nat) (B : List BV) (x : List Int) (w : World) (H : TnsIn w G pg B q x px) (hX : IsArg w px cx x) :
    Calls Try.prog 16 #[.int .i64 rate, .agg (infoC seq shape max pg G.length cg), .slice q B.length cB, .slice px x.length cx] w (RRefR (tnsR 1 rate seq shape max G B x) w) := by
  have hb0 : Below w.heap.size w (w.alloc (.cells (infoC seq shape max pg G.length cg) 33)) := (Below.refl _ w).alloc (Nat.le_refl _) _
  have X0 := Lib.hid (CellsAt.new w 33 (infoC seq shape max pg G.length cg) rfl)
  have HA := Lib.hid (fun (W : World) (h : Below w.heap.size w W) => ref_asked rate seq shape max G pg q px cg cB cx B x W (H.keep h).g H.gl (H.keep h).b (H.keep h).lx H.xl H.bl)
  have HB0 := Lib.hid hb0
  unfold RE at HA
  unfold RRefR tnsR
  by_cases hE : readyE rate seq shape max G B x = 0
  · have hg := tns_good hE
    rw [if_pos hE, hE]
    rw [hE] at HA
    have hw8 : winN seq = 8 ∧ (seq == 2) = true ∨ winN seq = 1 ∧ (seq == 2) = false := by
      unfold winN
      by_cases hs : seq = 2
      · left; simp [hs]
      · right; simp [hs]
    have hol : (bandL rate (seq == 2)).length ≤ 41 := Nat.le_trans (band_len rate (seq == 2) hg.r0 hg.r1).2.1 (by split <;> omega)
    have HLL := Lib.hid (fun (W : World) (h : Below w.heap.size w W) => ref_all 1 false rate seq shape max hg.r0 hg.r1 pg q px G.length cg cB cx (if (seq == 2) then 32 else 256) max.toNat B x W (Lib.hid (fun a P pa pp ca cp h1 h2 h3 h4 W hA hP => ref_filt_on a P pa pp ca cp h1 h2 h3 h4 W hA hP)) (H.keep h).b (by have := hg.bl; omega) (hX.keep h) hg.xl hg.xb (by have := hg.m0; omega) (offsOk rate (seq == 2) hg.r0 hg.r1 hg.m1) hol (fun j hj => by
        have := hg.bl
        rcases hw8 with ⟨h1, h2⟩ | ⟨h1, h2⟩ <;> rw [h2] <;> simp <;> omega) (fun j hj => ⟨hg.f3 j hj, fun i hi => hg.fE j hj i hi⟩))
    have hYl : (allL 1 (bandL rate (seq == 2)) max.toNat B x).length = 256 := runS_len 1 _ x hg.xl
    obtain ⟨Y, hY⟩ : ∃ l, allL 1 (bandL rate (seq == 2)) max.toNat B x = l := ⟨_, rfl⟩
    rw [hY] at HLL hYl ⊢
    have HYL := Lib.hid hYl
    unfold RFl at HLL
    clear H hX hg hw8 hol hY hYl hE hb0
    go_enter Try.func16, Try.ntmps16
    go_wp2_with fail
    refine (HA.out _ HB0.out).mono ?_
    rintro e w1 ⟨rfl, hB1⟩
    have HB1 := Lib.hid (HB0.out.trans (hB1.mono HB0.out.size))
    have X1 := Lib.hid (X0.out.keep hB1 X0.out.lt)
    have k0 := X1.out.cell 0
    have k1 := X1.out.cell 1
    have k2 := X1.out.cell 2
    have k3 := X1.out.cell 3
    simp only [infoC, List.getElem?_toArray, List.getElem?_cons_zero, List.getElem?_cons_succ] at k0 k1 k2 k3
    clear hB1 HA X0 HB0
    go_wp2_with fail
    refine (HLL.out _ HB1.out).mono ?_
    rintro e w2 ⟨p, d, rfl, hI, hB2⟩
    have hb2 := HB1.out.trans (hB2.mono HB1.out.size)
    have HI := Lib.hid hI
    clear hB2 HLL hI
    go_wp2
    go_ret2
    exact ⟨p, d, by rw [HYL.out]; rfl, HI.out, hb2⟩
  · rw [if_neg hE]
    obtain ⟨E, hEE⟩ : ∃ e, readyE rate seq shape max G B x = e := ⟨_, rfl⟩
    rw [hEE] at hE HA ⊢
    have f1 : (E != 0) = true := by simp [hE]
    clear hE hEE H hX hb0
    go_enter Try.func16, Try.ntmps16
    go_wp2_with fail
    refine (HA.out _ HB0.out).mono ?_
    rintro e w1 ⟨rfl, hB1⟩
    have hb1 := HB0.out.trans (hB1.mono HB0.out.size)
    clear hB1 HA HB0 X0
    go_wp2
    go_ret2
    exact ⟨none, 0, rfl, .inl rfl, hb1⟩
set_option maxRecDepth 100000 in
set_option maxHeartbeats 2000000 in
theorem ref_backward (rate seq shape max : Int) (G : List Int) (pg q px : Option Addr) (cg cB cx : Nat) (B : List BV) (x : List Int) (w : World) (H : TnsIn w G pg B q x px) (hX : IsArg w px cx x) :
    Calls Try.prog 18 #[.int .i64 rate, .agg (infoC seq shape max pg G.length cg), .slice q B.length cB, .slice px x.length cx] w (RRefR (tnsR (-1) rate seq shape max G B x) w) := by
  have hb0 : Below w.heap.size w (w.alloc (.cells (infoC seq shape max pg G.length cg) 33)) := (Below.refl _ w).alloc (Nat.le_refl _) _
  have X0 := Lib.hid (CellsAt.new w 33 (infoC seq shape max pg G.length cg) rfl)
  have HA := Lib.hid (fun (W : World) (h : Below w.heap.size w W) => ref_asked rate seq shape max G pg q px cg cB cx B x W (H.keep h).g H.gl (H.keep h).b (H.keep h).lx H.xl H.bl)
  have HB0 := Lib.hid hb0
  unfold RE at HA
  unfold RRefR tnsR
  by_cases hE : readyE rate seq shape max G B x = 0
  · have hg := tns_good hE
    rw [if_pos hE, hE]
    rw [hE] at HA
    have hw8 : winN seq = 8 ∧ (seq == 2) = true ∨ winN seq = 1 ∧ (seq == 2) = false := by
      unfold winN
      by_cases hs : seq = 2
      · left; simp [hs]
      · right; simp [hs]
    have hol : (bandL rate (seq == 2)).length ≤ 41 := Nat.le_trans (band_len rate (seq == 2) hg.r0 hg.r1).2.1 (by split <;> omega)
    have HLL := Lib.hid (fun (W : World) (h : Below w.heap.size w W) => ref_all (-1) true rate seq shape max hg.r0 hg.r1 pg q px G.length cg cB cx (if (seq == 2) then 32 else 256) max.toNat B x W (Lib.hid (fun a P pa pp ca cp h1 h2 h3 h4 W hA hP => ref_filt_back a P pa pp ca cp h1 h2 h3 h4 W hA hP)) (H.keep h).b (by have := hg.bl; omega) (hX.keep h) hg.xl hg.xb (by have := hg.m0; omega) (offsOk rate (seq == 2) hg.r0 hg.r1 hg.m1) hol (fun j hj => by
        have := hg.bl
        rcases hw8 with ⟨h1, h2⟩ | ⟨h1, h2⟩ <;> rw [h2] <;> simp <;> omega) (fun j hj => ⟨hg.f3 j hj, fun i hi => hg.fE j hj i hi⟩))
    have hYl : (allL (-1) (bandL rate (seq == 2)) max.toNat B x).length = 256 := runS_len (-1) _ x hg.xl
    obtain ⟨Y, hY⟩ : ∃ l, allL (-1) (bandL rate (seq == 2)) max.toNat B x = l := ⟨_, rfl⟩
    rw [hY] at HLL hYl ⊢
    have HYL := Lib.hid hYl
    unfold RFl at HLL
    clear H hX hg hw8 hol hY hYl hE hb0
    go_enter Try.func18, Try.ntmps18
    go_wp2_with fail
    refine (HA.out _ HB0.out).mono ?_
    rintro e w1 ⟨rfl, hB1⟩
    have HB1 := Lib.hid (HB0.out.trans (hB1.mono HB0.out.size))
    have X1 := Lib.hid (X0.out.keep hB1 X0.out.lt)
    have k0 := X1.out.cell 0
    have k1 := X1.out.cell 1
    have k2 := X1.out.cell 2
    have k3 := X1.out.cell 3
    simp only [infoC, List.getElem?_toArray, List.getElem?_cons_zero, List.getElem?_cons_succ] at k0 k1 k2 k3
    clear hB1 HA X0 HB0
    go_wp2_with fail
    refine (HLL.out _ HB1.out).mono ?_
    rintro e w2 ⟨p, d, rfl, hI, hB2⟩
    have hb2 := HB1.out.trans (hB2.mono HB1.out.size)
    have HI := Lib.hid hI
    clear hB2 HLL hI
    go_wp2
    go_ret2
    exact ⟨p, d, by rw [HYL.out]; rfl, HI.out, hb2⟩
  · rw [if_neg hE]
    obtain ⟨E, hEE⟩ : ∃ e, readyE rate seq shape max G B x = e := ⟨_, rfl⟩
    rw [hEE] at hE HA ⊢
    have f1 : (E != 0) = true := by simp [hE]
    clear hE hEE H hX hb0
    go_enter Try.func18, Try.ntmps18
    go_wp2_with fail
    refine (HA.out _ HB0.out).mono ?_
    rintro e w1 ⟨rfl, hB1⟩
    have hb1 := HB0.out.trans (hB1.mono HB0.out.size)
    clear hB1 HA HB0 X0
    go_wp2
    go_ret2
    exact ⟨none, 0, rfl, .inl rfl, hb1⟩
end Go.Proofs.Yteijlbblmdclaaa
