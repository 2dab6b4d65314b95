/- reedpiperef14: Lines, Quantise: what each call answers. -/
import Derived.Test.YtppfbfiigfjncaaRefAsk14
import Derived.Test.YtppfbfiigfjncaaRefPlace
import Derived.Test.YtppfbfiigfjncaaRefNear
import Derived.Test.YtppfbfiigfjncaaQOwnP
import Derived.Test.YtppfbfiigfjncaaMakeRow
import Derived.StillTailTactics
set_option linter.unusedVariables false
set_option linter.unusedSimpArgs false
namespace Go.Proofs.Ytppfbfiigfjncaa
open Go.ChangeShapes Go.WideShapes Go.ChangeAt Go.RowKit
theorem zero_row0 : List.replicate 256 (Value.int .i64 0) = (List.replicate 256 (0 : Int)).map (Value.int .i64) := (List.map_replicate).symm
set_option maxRecDepth 100000 in
/-- Is a line sent, by its book? -/
theorem ref_sent (seq shape max : Int) (pg qb : Option Addr) (ng cg cb : Nat) (Bk : List RV) (g b : Nat) (hg : g < Bk.length) (hb : (b : Int) < max → b < (Bk.getD g default).l.length) (w : World) (hB : IsRows w qb Bk) :
    Calls Try.prog 28 #[.agg (infoC seq shape max pg ng cg), .slice qb Bk.length cb, .int .i64 g, .int .i64 b] w fun e w' => e = .returned (.bool (decide ((b : Int) < max) && sentB ((Bk.getD g default).l.getD b 0))) ∧ Below w.heap.size w w' := by
  have hb0 : Below w.heap.size w (w.alloc (.cells (infoC seq shape max pg ng cg) 27)) := (Below.refl _ w).alloc (Nat.le_refl _) _
  obtain ⟨bq, oq, rfl, _, r1, hi⟩ := (hB.keep hb0).at hg
  have hgI : (g : Int) < (Bk.length : Int) := by omega
  by_cases hbm : (b : Int) < max
  · have hbl := hb hbm
    have d0 : decide ((b : Int) < max) = true := decide_eq_true hbm
    rw [d0, Bool.true_and]
    obtain ⟨r, hr⟩ : ∃ r, Bk.getD g default = r := ⟨_, rfl⟩
    rw [hr] at r1 hi hbl ⊢
    obtain ⟨q, c, l⟩ := r
    dsimp only at r1 hi hbl ⊢
    obtain ⟨bl, ol, rfl, _, hc⟩ := hi.at hbl
    have r2 := hc b hbl
    obtain ⟨k, hk⟩ : ∃ k, l.getD b 0 = k := ⟨_, rfl⟩
    rw [hk] at r2 ⊢
    have hbI : (b : Int) < (l.length : Int) := by omega
    clear hc hk hi hr hb hB
    by_cases c1 : 1 ≤ k
    · have d1 : decide (k ≥ 1) = true := decide_eq_true c1
      have HS : Hid (sentB k = decide (k ≤ 11)) := Lib.hid (by unfold sentB; simp [c1])
      clear c1
      go_enter Try.func28, Try.ntmps28
      go_wp2
      go_ret
      exact ⟨ret_bool HS.out.symm, hb0⟩
    · have d1 : decide (k ≥ 1) = false := decide_eq_false c1
      have HS : Hid (sentB k = false) := Lib.hid (by unfold sentB; simp [c1])
      clear c1
      go_enter Try.func28, Try.ntmps28
      go_wp2
      go_ret
      exact ⟨ret_bool HS.out.symm, hb0⟩
  · have d0 : decide ((b : Int) < max) = false := decide_eq_false hbm
    rw [d0, Bool.false_and]
    clear hbm hb hi r1 hB
    go_enter Try.func28, Try.ntmps28
    go_wp2
    go_ret
    exact ⟨rfl, hb0⟩
def RRefR (p : List Int × Int) (w : World) (e : Ending) (w' : World) : Prop := ∃ q d, e = .returned (.tuple #[.slice q p.1.length d, .int .i64 p.2]) ∧ IsInts w' q p.1 ∧ Below w.heap.size w w'
set_option maxRecDepth 100000 in
set_option maxHeartbeats 8000000 in
theorem ref_lines (rate seq shape max : Int) (G : List Int) (pg qb qs px : Option Addr) (cg cb cs cx : Nat) (Bk St : List RV) (x : List Int) (w : World)
    (hG : IsInts w pg G) (hGl : G.length ≤ 100) (hB : IsRows w qb Bk) (hBl : Bk.length ≤ 100) (hS : IsRows w qs St) (hSl : St.length ≤ 100) (hX : IsInts w px x) (hxl : x.length ≤ 1000) :
    Calls Try.prog 13 #[.int .i64 rate, .agg (infoC seq shape max pg G.length cg), .slice qb Bk.length cb, .slice qs St.length cs, .slice px x.length cx] w (RRefR (quantR lineF 8191 rate seq shape max G Bk St x) w) := by
  have hb0 : Below w.heap.size w (w.alloc (.cells (infoC seq shape max pg G.length cg) 27)) := (Below.refl _ w).alloc (Nat.le_refl _) _
  have X0 := Lib.hid (CellsAt.new w 27 (infoC seq shape max pg G.length cg) rfl)
  have HA := Lib.hid (fun (W : World) (h : Below w.heap.size w W) => ref_ask 8191 rate seq shape max (by decide) (by decide) G pg qb qs px cg cb cs cx Bk St x W (hG.keep h) hGl (hB.keep h) hBl (hS.keep h) hSl (hX.keep h) hxl)
  have HGI := Lib.hid (fun (W : World) (h : Below w.heap.size w W) => hG.keep h)
  have HBK := Lib.hid hB
  have HST := Lib.hid hS
  have HXI := Lib.hid hX
  have HB0 := Lib.hid hb0
  unfold RE at HA
  unfold RRefR
  clear hG hB hS hX hb0
  by_cases hE : readyQ 8191 rate seq shape max G Bk St x = 0
  · have hg := qgood (by decide) hE
    rw [quantR_good hg]
    rw [hE] at HA
    have HG := Lib.hid hg
    have HXL := Lib.hid hg.xl
    have HOC := Lib.hid (fun (W N b : Nat) (hW : W < winN seq) (hn : N < 256 / winN seq) (hb : InBand rate (seq == 2) N b) => own_cell hg lineF hW hn hb)
    have HPL := Lib.hid (fun (n : Nat) (hn : n < 256) (W : World) (h : Below w.heap.size w W) => ref_place rate seq shape max hg.r0 hg.r1 G pg cg n W (HGI.out W h) hGl (may_most hg.r0 hg.r1 hg.may) hn)
    obtain ⟨R, hR⟩ : ∃ R, rowQ lineF rate seq max G Bk St x = R := ⟨_, rfl⟩
    rw [hR] at HOC ⊢
    have hRl : R.length = 256 := by rw [← hR, rowQ_len]
    have HRL := Lib.hid hRl
    have HMB := Lib.hid (may_most hg.r0 hg.r1 hg.may)
    clear hg hR hE hRl
    go_enter Try.func13, Try.ntmps13
    go_wp2_with fail
    refine (HA.out _ HB0.out).mono ?_
    rintro e w1 ⟨rfl, hB1⟩
    have HB1 := Lib.hid (HB0.out.trans (hB1.mono HB0.out.size))
    have X1 := Lib.hid (X0.out.keep hB1 X0.out.lt)
    clear hB1 X0 HB0 HA
    go_wp2_with (at_make; refine make_row rfl _ _ rfl 256 (by omega) rfl rfl ?_; intro w2 hlt2 hO2 hB2)
    obtain ⟨g0, hg0⟩ : ∃ n, w1.heap.size = n := ⟨_, rfl⟩
    rw [hg0] at hlt2 hO2 hB2 ⊢
    have HG0 := Lib.hid hg0
    have S2 := Lib.hid (show Spoil w2 (some ⟨g0, 0, none⟩) 256 256 g0 (g0 + 1) (List.replicate 256 (.int .i64 0)) from ⟨by simp, hlt2, fun _ => ⟨g0, rfl, Nat.le_refl _, Nat.lt_succ_self _, hO2⟩⟩)
    have Z2 := Lib.hid (show ∀ j, 0 ≤ j → j < 256 → (List.replicate 256 (Value.int .i64 0))[j]? = some (.int .i64 ((List.replicate 256 (0 : Int)).getD j 0)) by intro j _ hj; rw [zero_row0]; exact row_get _ j (Nat.zero_le _) (by simpa using hj))
    have HB2 := Lib.hid hB2
    clear hO2 hB2 hlt2 hg0
    go_loopw [14, 15, 16] (fun K _ _ wr => ∃ (k : Nat) (xs : List Value), K = .int .i64 k ∧ k ≤ 256 ∧ Hid (Spoil wr (some ⟨g0, 0, none⟩) 256 256 g0 (g0 + 1) xs) ∧ Hid (∀ j, k ≤ j → j < 256 → xs[j]? = some (.int .i64 ((List.replicate 256 (0 : Int)).getD j 0))) ∧ Hid (∀ j, j < k → xs[j]? = some (.int .i64 (R.getD j 0))) ∧ Hid (Below g0 w1 wr)) (fun K _ _ _ => 256 - (intOf K).toNat)
    case atStart => exact ⟨0, _, rfl, Nat.zero_le _, S2, Z2, fun j hj => by omega, HB2⟩
    case round =>
      obtain ⟨k, xs, rfl, hk, hS, hxs, hys, hbw⟩ := hrel
      clear S2 Z2 HB2
      have hb1r : Below w1.heap.size w1 wr := by rw [HG0.out]; exact hbw.out
      have hb0r := HB1.out.trans (hb1r.mono HB1.out.size)
      by_cases hklt : k < 256
      · have hd : decide ((k : Int) < 256) = true := decide_eq_true (by omega)
        have X3 := Lib.hid (X1.out.keep hb1r X1.out.lt)
        have k0 := X3.out.cell 0
        have k1 := X3.out.cell 1
        have k2 := X3.out.cell 2
        have k3 := X3.out.cell 3
        simp only [infoC, List.getElem?_toArray, List.getElem?_cons_zero, List.getElem?_cons_succ] at k0 k1 k2 k3
        have HP := Lib.hid (HPL.out k hklt wr hb0r)
        unfold RPlace at HP
        go_wp2_with fail
        refine HP.out.mono ?_
        rintro e w3 ⟨W, N, b, ⟨hW, hN, hkn, hIB⟩, rfl, hB3⟩
        have hoc := HOC.out W N b hW hN hIB
        rw [← hkn] at hoc
        have HB3 := Lib.hid (hbw.out.trans (hB3.mono (by have := hbw.out.size; have := hb1r.size; have := HG0.out; omega)))
        have hS3 := Lib.hid (hS.out.keep hB3 hS.out.2.1)
        have X4 := Lib.hid (X3.out.keep hB3 X3.out.lt)
        have hgr := grp_lt HMB.out hW
        obtain ⟨gr, hgg⟩ : ∃ g, grpOf G (W : Int) = g := ⟨_, rfl⟩
        rw [hgg] at hgr hoc ⊢
        have hbl := HG.out.bl
        have hsl := HG.out.sl
        have hgB : gr < Bk.length := by omega
        have hgS : gr < St.length := by omega
        have hbr := HG.out.br gr hgr
        have hsr := HG.out.sr gr hgr
        have hw13 : Below w1.heap.size w1 w3 := by rw [HG0.out]; exact HB3.out
        have HSN := Lib.hid (ref_sent seq shape max pg qb G.length cg cb Bk gr b hgB (fun h => by omega) w3 ((HBK.out.keep (HB1.out.trans (hw13.mono HB1.out.size)))))
        have HOK := Lib.hid (fun (h : (b : Int) < max) => HG.out.ok gr b hgr h)
        have k0 := X4.out.cell 0
        have k1 := X4.out.cell 1
        have k2 := X4.out.cell 2
        have k3 := X4.out.cell 3
        simp only [infoC, List.getElem?_toArray, List.getElem?_cons_zero, List.getElem?_cons_succ] at k0 k1 k2 k3
        have HOE := Lib.hid hoc
        have HBR := Lib.hid hbr
        have HSR := Lib.hid hsr
        have HHG := Lib.hid hgS
        obtain ⟨sb, hsb⟩ : ∃ s, (decide ((b : Int) < max) && sentB ((Bk.getD gr default).l.getD b 0)) = s := ⟨_, rfl⟩
        rw [hsb] at HSN
        have HSB := Lib.hid hsb
        clear hB3 hIB hoc hgg hbl hsl hbr hsr hw13 hN hkn hS hbw X3 HP hb1r hb0r hgB hgS hsb hgr
        go_wp2_with fail
        refine HSN.out.mono ?_
        rintro e w4 ⟨rfl, hB4⟩
        have HB4 := Lib.hid (HB3.out.trans (hB4.mono (by have := HB3.out.size; have := hS3.out.2.1; omega)))
        have hS4 := Lib.hid (hS3.out.keep hB4 hS3.out.2.1)
        clear hB4 HSN X4 k0 k1 k2 k3 HB3 hS3
        cases sb
        · have HR0 := Lib.hid (show R.getD k 0 = 0 by
            rw [HOE.out, if_neg]
            intro h
            have := HSB.out
            rw [decide_eq_true h.1, h.2] at this
            simp at this)
          have HYS := Lib.hid (show ∀ j, j < k + 1 → xs[j]? = some (.int .i64 (R.getD j 0)) by
            intro j hj
            by_cases e : j = k
            · rw [e, hxs.out k (Nat.le_refl _) hklt, HR0.out, List.getD_eq_getElem?_getD, List.getElem?_replicate]
              simp [hklt]
            · exact hys.out j (by omega))
          have HXS := Lib.hid (fun (j : Nat) (h1 : k + 1 ≤ j) (h2 : j < 256) => hxs.out j (by omega) h2)
          clear hxs hys
          go_wp2_with fail
          exact ⟨⟨k + 1, xs, by go_num, by omega, hS4, HXS, HYS, HB4⟩, by simp [intOf]; omega⟩
        · have hsb := HSB.out
          have hbm : (b : Int) < max := by
            by_cases h : (b : Int) < max
            · exact h
            · rw [decide_eq_false h] at hsb; simp at hsb
          rw [decide_eq_true hbm, Bool.true_and] at hsb
          have hst := sent_step (HOK.out hbm) hsb
          have hoc := HOE.out
          rw [if_pos ⟨hbm, hsb⟩] at hoc
          have hw14 : Below w1.heap.size w1 w4 := by rw [HG0.out]; exact HB4.out
          have hw4 := HB1.out.trans (hw14.mono HB1.out.size)
          obtain ⟨bx, ox, rfl, _, hcx⟩ := (HXI.out.keep hw4).at (j := k) (by rw [HXL.out]; exact hklt)
          have q1 := hcx k (by rw [HXL.out]; exact hklt)
          have hxb := HG.out.xb k
          obtain ⟨bs, os_, rfl, _, q2, hi2⟩ := (HST.out.keep hw4).at HHG.out
          have hsr := HSR.out
          obtain ⟨rw_, hrw⟩ : ∃ r, St.getD gr default = r := ⟨_, rfl⟩
          rw [hrw] at q2 hi2 hsr hoc hst
          obtain ⟨qt, ct, lt⟩ := rw_
          dsimp only at q2 hi2 hsr hoc hst
          obtain ⟨bt, ot, rfl, _, hct⟩ := hi2.at (j := b) (by omega)
          have q3 := hct b (by omega)
          have hbI : (b : Int) < (lt.length : Int) := by omega
          have hgI : (gr : Int) < (St.length : Int) := by have := HHG.out; omega
          have hkI : (k : Int) < (x.length : Int) := by rw [HXL.out]; omega
          have hkI2 : (k : Int) < 256 := by omega
          obtain ⟨X, hX⟩ : ∃ v, x.getD k 0 = v := ⟨_, rfl⟩
          rw [hX] at q1 hxb hoc
          obtain ⟨s, hs⟩ : ∃ v, lt.getD b 0 = v := ⟨_, rfl⟩
          rw [hs] at q3 hoc hst
          obtain ⟨sn, rfl⟩ : ∃ n : Nat, s = n := ⟨s.toNat, by omega⟩
          rw [lineF_eq hxb.1 hxb.2 (by omega)] at hoc
          have CV := Lib.hid (fun W' => refvalue_ok X sn hxb.1 hxb.2 (by omega) W')
          obtain ⟨v, hv⟩ : ∃ v, lineL X sn = v := ⟨_, rfl⟩
          rw [hv] at hoc CV
          have hS5 := (show Spoil w4.drew _ _ _ _ _ _ from hS4.out)
          have hB5 := HB4.out.drew
          obtain ⟨w5, hw5⟩ : ∃ z, w4.drew = z := ⟨_, rfl⟩
          rw [hw5] at hS5 hB5
          have HW5 := Lib.hid hw5
          obtain ⟨g, hgp, hg1, hg2, hc, hf, hnext⟩ := hS5.at hklt
          obtain rfl : g0 = g := by injection hgp with h1; injection h1
          rw [hxs.out k (Nat.le_refl _) hklt] at hc
          obtain ⟨z, hz⟩ : ∃ z, (List.replicate 256 (0 : Int)).getD k 0 = z := ⟨_, rfl⟩
          rw [hz] at hc
          have HNX := Lib.hid (hnext (.int .i64 v))
          have HXN := Lib.hid (row_set hxs.out (.int .i64 v))
          have HYN := Lib.hid (fill_step (f := fun j => R.getD j 0) hS5.1 hklt hys.out hoc)
          have HBN := Lib.hid (hB5.setCell (p := ⟨g0, k, none⟩) (Nat.le_refl _) (.int .i64 v))
          have hself := HG0.out
          clear hcx hct hi2 hrw hX hs hv hz hgp hnext hxs hys hoc hxb hst hsr hsb hw14 hw4 hS4 hS5 hB5 hw5
          go_wp2_with fail
          go_still_tail 15, (by kernel_rfl)
          still_call ((CV.out _).mono fun _ _ ⟨h, hw⟩ => ⟨h, hw.symm⟩)
          repeat still_step
          refine wpStill_nil ?_
          change wpList _ _ _ _ _ w4.drew
          rw [HW5.out]
          go_wp2
          exact ⟨⟨k + 1, _, by go_num, by omega, HNX, HXN, HYN, HBN⟩, by simp [intOf]; omega⟩
      · have hk256 : k = 256 := by omega
        subst hk256
        have hd : decide (((256 : Nat) : Int) < 256) = false := by simp
        have hfill := fill_eq (f := fun j => R.getD j 0) hS.out.1 hys.out
        have hRR : (List.range 256).map (fun j => R.getD j 0) = R := by
          apply List.ext_getElem (by simp [HRL.out])
          intro j h1 h2
          rw [List.getElem_map, List.getElem_range, List.getD_eq_getElem?_getD, List.getElem?_eq_getElem h2]
          rfl
        have hS2 := hS.out
        rw [hfill, hRR] at hS2
        have HO := Lib.hid hS2.ints.ints
        have HE := Lib.hid hb0r
        clear hS hxs hys hbw hb1r hb0r hfill hRR hS2 hklt
        go_wp2
        go_ret2
        exact ⟨_, _, by rw [HRL.out]; rfl, HO.out, HE.out⟩
  · rw [quantR_bad hE]
    obtain ⟨E, hEE⟩ : ∃ e, readyQ 8191 rate seq shape max G Bk St x = e := ⟨_, rfl⟩
    rw [hEE] at hE HA ⊢
    have f1 : (E != 0) = true := by simp [hE]
    clear hE hEE
    go_enter Try.func13, Try.ntmps13
    go_wp2_with fail
    refine (HA.out _ HB0.out).mono ?_
    rintro e w1 ⟨rfl, hB1⟩
    have hb1 := HB0.out.trans (hB1.mono HB0.out.size)
    clear hB1 HA HB0 X0
    go_wp2
    go_ret2
    exact ⟨none, 0, rfl, .inl rfl, hb1⟩
set_option maxRecDepth 100000 in
set_option maxHeartbeats 8000000 in
theorem ref_quan (rate seq shape max : Int) (G : List Int) (pg qb qs px : Option Addr) (cg cb cs cx : Nat) (Bk St : List RV) (x : List Int) (w : World)
    (hG : IsInts w pg G) (hGl : G.length ≤ 100) (hB : IsRows w qb Bk) (hBl : Bk.length ≤ 100) (hS : IsRows w qs St) (hSl : St.length ≤ 100) (hX : IsInts w px x) (hxl : x.length ≤ 1000) :
    Calls Try.prog 15 #[.int .i64 rate, .agg (infoC seq shape max pg G.length cg), .slice qb Bk.length cb, .slice qs St.length cs, .slice px x.length cx] w (RRefR (quantR quanF 268435455 rate seq shape max G Bk St x) w) := by
  have hb0 : Below w.heap.size w (w.alloc (.cells (infoC seq shape max pg G.length cg) 27)) := (Below.refl _ w).alloc (Nat.le_refl _) _
  have X0 := Lib.hid (CellsAt.new w 27 (infoC seq shape max pg G.length cg) rfl)
  have HA := Lib.hid (fun (W : World) (h : Below w.heap.size w W) => ref_ask 268435455 rate seq shape max (by decide) (by decide) G pg qb qs px cg cb cs cx Bk St x W (hG.keep h) hGl (hB.keep h) hBl (hS.keep h) hSl (hX.keep h) hxl)
  have HGI := Lib.hid (fun (W : World) (h : Below w.heap.size w W) => hG.keep h)
  have HBK := Lib.hid hB
  have HST := Lib.hid hS
  have HXI := Lib.hid hX
  have HB0 := Lib.hid hb0
  unfold RE at HA
  unfold RRefR
  clear hG hB hS hX hb0
  by_cases hE : readyQ 268435455 rate seq shape max G Bk St x = 0
  · have hg := qgood (by decide) hE
    rw [quantR_good hg]
    rw [hE] at HA
    have HG := Lib.hid hg
    have HXL := Lib.hid hg.xl
    have HOC := Lib.hid (fun (W N b : Nat) (hW : W < winN seq) (hn : N < 256 / winN seq) (hb : InBand rate (seq == 2) N b) => own_cell hg quanF hW hn hb)
    have HPL := Lib.hid (fun (n : Nat) (hn : n < 256) (W : World) (h : Below w.heap.size w W) => ref_place rate seq shape max hg.r0 hg.r1 G pg cg n W (HGI.out W h) hGl (may_most hg.r0 hg.r1 hg.may) hn)
    obtain ⟨R, hR⟩ : ∃ R, rowQ quanF rate seq max G Bk St x = R := ⟨_, rfl⟩
    rw [hR] at HOC ⊢
    have hRl : R.length = 256 := by rw [← hR, rowQ_len]
    have HRL := Lib.hid hRl
    have HMB := Lib.hid (may_most hg.r0 hg.r1 hg.may)
    clear hg hR hE hRl
    go_enter Try.func15, Try.ntmps15
    go_wp2_with fail
    refine (HA.out _ HB0.out).mono ?_
    rintro e w1 ⟨rfl, hB1⟩
    have HB1 := Lib.hid (HB0.out.trans (hB1.mono HB0.out.size))
    have X1 := Lib.hid (X0.out.keep hB1 X0.out.lt)
    clear hB1 X0 HB0 HA
    go_wp2_with (at_make; refine make_row rfl _ _ rfl 256 (by omega) rfl rfl ?_; intro w2 hlt2 hO2 hB2)
    obtain ⟨g0, hg0⟩ : ∃ n, w1.heap.size = n := ⟨_, rfl⟩
    rw [hg0] at hlt2 hO2 hB2 ⊢
    have HG0 := Lib.hid hg0
    have S2 := Lib.hid (show Spoil w2 (some ⟨g0, 0, none⟩) 256 256 g0 (g0 + 1) (List.replicate 256 (.int .i64 0)) from ⟨by simp, hlt2, fun _ => ⟨g0, rfl, Nat.le_refl _, Nat.lt_succ_self _, hO2⟩⟩)
    have Z2 := Lib.hid (show ∀ j, 0 ≤ j → j < 256 → (List.replicate 256 (Value.int .i64 0))[j]? = some (.int .i64 ((List.replicate 256 (0 : Int)).getD j 0)) by intro j _ hj; rw [zero_row0]; exact row_get _ j (Nat.zero_le _) (by simpa using hj))
    have HB2 := Lib.hid hB2
    clear hO2 hB2 hlt2 hg0
    go_loopw [14, 15, 16] (fun K _ _ wr => ∃ (k : Nat) (xs : List Value), K = .int .i64 k ∧ k ≤ 256 ∧ Hid (Spoil wr (some ⟨g0, 0, none⟩) 256 256 g0 (g0 + 1) xs) ∧ Hid (∀ j, k ≤ j → j < 256 → xs[j]? = some (.int .i64 ((List.replicate 256 (0 : Int)).getD j 0))) ∧ Hid (∀ j, j < k → xs[j]? = some (.int .i64 (R.getD j 0))) ∧ Hid (Below g0 w1 wr)) (fun K _ _ _ => 256 - (intOf K).toNat)
    case atStart => exact ⟨0, _, rfl, Nat.zero_le _, S2, Z2, fun j hj => by omega, HB2⟩
    case round =>
      obtain ⟨k, xs, rfl, hk, hS, hxs, hys, hbw⟩ := hrel
      clear S2 Z2 HB2
      have hb1r : Below w1.heap.size w1 wr := by rw [HG0.out]; exact hbw.out
      have hb0r := HB1.out.trans (hb1r.mono HB1.out.size)
      by_cases hklt : k < 256
      · have hd : decide ((k : Int) < 256) = true := decide_eq_true (by omega)
        have X3 := Lib.hid (X1.out.keep hb1r X1.out.lt)
        have k0 := X3.out.cell 0
        have k1 := X3.out.cell 1
        have k2 := X3.out.cell 2
        have k3 := X3.out.cell 3
        simp only [infoC, List.getElem?_toArray, List.getElem?_cons_zero, List.getElem?_cons_succ] at k0 k1 k2 k3
        have HP := Lib.hid (HPL.out k hklt wr hb0r)
        unfold RPlace at HP
        go_wp2_with fail
        refine HP.out.mono ?_
        rintro e w3 ⟨W, N, b, ⟨hW, hN, hkn, hIB⟩, rfl, hB3⟩
        have hoc := HOC.out W N b hW hN hIB
        rw [← hkn] at hoc
        have HB3 := Lib.hid (hbw.out.trans (hB3.mono (by have := hbw.out.size; have := hb1r.size; have := HG0.out; omega)))
        have hS3 := Lib.hid (hS.out.keep hB3 hS.out.2.1)
        have X4 := Lib.hid (X3.out.keep hB3 X3.out.lt)
        have hgr := grp_lt HMB.out hW
        obtain ⟨gr, hgg⟩ : ∃ g, grpOf G (W : Int) = g := ⟨_, rfl⟩
        rw [hgg] at hgr hoc ⊢
        have hbl := HG.out.bl
        have hsl := HG.out.sl
        have hgB : gr < Bk.length := by omega
        have hgS : gr < St.length := by omega
        have hbr := HG.out.br gr hgr
        have hsr := HG.out.sr gr hgr
        have hw13 : Below w1.heap.size w1 w3 := by rw [HG0.out]; exact HB3.out
        have HSN := Lib.hid (ref_sent seq shape max pg qb G.length cg cb Bk gr b hgB (fun h => by omega) w3 ((HBK.out.keep (HB1.out.trans (hw13.mono HB1.out.size)))))
        have HOK := Lib.hid (fun (h : (b : Int) < max) => HG.out.ok gr b hgr h)
        have k0 := X4.out.cell 0
        have k1 := X4.out.cell 1
        have k2 := X4.out.cell 2
        have k3 := X4.out.cell 3
        simp only [infoC, List.getElem?_toArray, List.getElem?_cons_zero, List.getElem?_cons_succ] at k0 k1 k2 k3
        have HOE := Lib.hid hoc
        have HBR := Lib.hid hbr
        have HSR := Lib.hid hsr
        have HHG := Lib.hid hgS
        obtain ⟨sb, hsb⟩ : ∃ s, (decide ((b : Int) < max) && sentB ((Bk.getD gr default).l.getD b 0)) = s := ⟨_, rfl⟩
        rw [hsb] at HSN
        have HSB := Lib.hid hsb
        clear hB3 hIB hoc hgg hbl hsl hbr hsr hw13 hN hkn hS hbw X3 HP hb1r hb0r hgB hgS hsb hgr
        go_wp2_with fail
        refine HSN.out.mono ?_
        rintro e w4 ⟨rfl, hB4⟩
        have HB4 := Lib.hid (HB3.out.trans (hB4.mono (by have := HB3.out.size; have := hS3.out.2.1; omega)))
        have hS4 := Lib.hid (hS3.out.keep hB4 hS3.out.2.1)
        clear hB4 HSN X4 k0 k1 k2 k3 HB3 hS3
        cases sb
        · have HR0 := Lib.hid (show R.getD k 0 = 0 by
            rw [HOE.out, if_neg]
            intro h
            have := HSB.out
            rw [decide_eq_true h.1, h.2] at this
            simp at this)
          have HYS := Lib.hid (show ∀ j, j < k + 1 → xs[j]? = some (.int .i64 (R.getD j 0)) by
            intro j hj
            by_cases e : j = k
            · rw [e, hxs.out k (Nat.le_refl _) hklt, HR0.out, List.getD_eq_getElem?_getD, List.getElem?_replicate]
              simp [hklt]
            · exact hys.out j (by omega))
          have HXS := Lib.hid (fun (j : Nat) (h1 : k + 1 ≤ j) (h2 : j < 256) => hxs.out j (by omega) h2)
          clear hxs hys
          go_wp2_with fail
          exact ⟨⟨k + 1, xs, by go_num, by omega, hS4, HXS, HYS, HB4⟩, by simp [intOf]; omega⟩
        · have hsb := HSB.out
          have hbm : (b : Int) < max := by
            by_cases h : (b : Int) < max
            · exact h
            · rw [decide_eq_false h] at hsb; simp at hsb
          rw [decide_eq_true hbm, Bool.true_and] at hsb
          have hst := sent_step (HOK.out hbm) hsb
          have hoc := HOE.out
          rw [if_pos ⟨hbm, hsb⟩] at hoc
          have hw14 : Below w1.heap.size w1 w4 := by rw [HG0.out]; exact HB4.out
          have hw4 := HB1.out.trans (hw14.mono HB1.out.size)
          obtain ⟨bx, ox, rfl, _, hcx⟩ := (HXI.out.keep hw4).at (j := k) (by rw [HXL.out]; exact hklt)
          have q1 := hcx k (by rw [HXL.out]; exact hklt)
          have hxb := HG.out.xb k
          obtain ⟨bs, os_, rfl, _, q2, hi2⟩ := (HST.out.keep hw4).at HHG.out
          have hsr := HSR.out
          obtain ⟨rw_, hrw⟩ : ∃ r, St.getD gr default = r := ⟨_, rfl⟩
          rw [hrw] at q2 hi2 hsr hoc hst
          obtain ⟨qt, ct, lt⟩ := rw_
          dsimp only at q2 hi2 hsr hoc hst
          obtain ⟨bt, ot, rfl, _, hct⟩ := hi2.at (j := b) (by omega)
          have q3 := hct b (by omega)
          have hbI : (b : Int) < (lt.length : Int) := by omega
          have hgI : (gr : Int) < (St.length : Int) := by have := HHG.out; omega
          have hkI : (k : Int) < (x.length : Int) := by rw [HXL.out]; omega
          have hkI2 : (k : Int) < 256 := by omega
          obtain ⟨X, hX⟩ : ∃ v, x.getD k 0 = v := ⟨_, rfl⟩
          rw [hX] at q1 hxb hoc
          obtain ⟨s, hs⟩ : ∃ v, lt.getD b 0 = v := ⟨_, rfl⟩
          rw [hs] at q3 hoc hst
          obtain ⟨sn, rfl⟩ : ∃ n : Nat, s = n := ⟨s.toNat, by omega⟩
          rw [quanF_eq hxb.1 hxb.2 (by omega)] at hoc
          have CV := Lib.hid (fun W' => refnear_ok X sn hxb.1 hxb.2 (by omega) W')
          obtain ⟨v, hv⟩ : ∃ v, quantL X sn = v := ⟨_, rfl⟩
          rw [hv] at hoc CV
          have hS5 := (show Spoil w4.drew _ _ _ _ _ _ from hS4.out)
          have hB5 := HB4.out.drew
          obtain ⟨w5, hw5⟩ : ∃ z, w4.drew = z := ⟨_, rfl⟩
          rw [hw5] at hS5 hB5
          have HW5 := Lib.hid hw5
          obtain ⟨g, hgp, hg1, hg2, hc, hf, hnext⟩ := hS5.at hklt
          obtain rfl : g0 = g := by injection hgp with h1; injection h1
          rw [hxs.out k (Nat.le_refl _) hklt] at hc
          obtain ⟨z, hz⟩ : ∃ z, (List.replicate 256 (0 : Int)).getD k 0 = z := ⟨_, rfl⟩
          rw [hz] at hc
          have HNX := Lib.hid (hnext (.int .i64 v))
          have HXN := Lib.hid (row_set hxs.out (.int .i64 v))
          have HYN := Lib.hid (fill_step (f := fun j => R.getD j 0) hS5.1 hklt hys.out hoc)
          have HBN := Lib.hid (hB5.setCell (p := ⟨g0, k, none⟩) (Nat.le_refl _) (.int .i64 v))
          have hself := HG0.out
          clear hcx hct hi2 hrw hX hs hv hz hgp hnext hxs hys hoc hxb hst hsr hsb hw14 hw4 hS4 hS5 hB5 hw5
          go_wp2_with fail
          go_still_tail 15, (by kernel_rfl)
          still_call ((CV.out _).mono fun _ _ ⟨h, hw⟩ => ⟨h, hw.symm⟩)
          repeat still_step
          refine wpStill_nil ?_
          change wpList _ _ _ _ _ w4.drew
          rw [HW5.out]
          go_wp2
          exact ⟨⟨k + 1, _, by go_num, by omega, HNX, HXN, HYN, HBN⟩, by simp [intOf]; omega⟩
      · have hk256 : k = 256 := by omega
        subst hk256
        have hd : decide (((256 : Nat) : Int) < 256) = false := by simp
        have hfill := fill_eq (f := fun j => R.getD j 0) hS.out.1 hys.out
        have hRR : (List.range 256).map (fun j => R.getD j 0) = R := by
          apply List.ext_getElem (by simp [HRL.out])
          intro j h1 h2
          rw [List.getElem_map, List.getElem_range, List.getD_eq_getElem?_getD, List.getElem?_eq_getElem h2]
          rfl
        have hS2 := hS.out
        rw [hfill, hRR] at hS2
        have HO := Lib.hid hS2.ints.ints
        have HE := Lib.hid hb0r
        clear hS hxs hys hbw hb1r hb0r hfill hRR hS2 hklt
        go_wp2
        go_ret2
        exact ⟨_, _, by rw [HRL.out]; rfl, HO.out, HE.out⟩
  · rw [quantR_bad hE]
    obtain ⟨E, hEE⟩ : ∃ e, readyQ 268435455 rate seq shape max G Bk St x = e := ⟨_, rfl⟩
    rw [hEE] at hE HA ⊢
    have f1 : (E != 0) = true := by simp [hE]
    clear hE hEE
    go_enter Try.func15, Try.ntmps15
    go_wp2_with fail
    refine (HA.out _ HB0.out).mono ?_
    rintro e w1 ⟨rfl, hB1⟩
    have hb1 := HB0.out.trans (hB1.mono HB0.out.size)
    clear hB1 HA HB0 X0
    go_wp2
    go_ret2
    exact ⟨none, 0, rfl, .inl rfl, hb1⟩
end Go.Proofs.Ytppfbfiigfjncaa
