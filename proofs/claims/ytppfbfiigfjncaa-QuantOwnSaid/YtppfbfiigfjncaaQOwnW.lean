/- QuantOwn: the walk. -/
import Derived.Test.YtppfbfiigfjncaaQOwnP
import Derived.Test.YtppfbfiigfjncaaQAlive
import Derived.Test.YtppfbfiigfjncaaQGreat
import Derived.Test.YtppfbfiigfjncaaOpenRows
import Derived.Deep.CutRange
import Derived.Deep.RegionHeld3
set_option linter.unusedVariables false
set_option linter.unusedSimpArgs false
namespace Go.Proofs.Ytppfbfiigfjncaa
open Go.ChangeShapes Go.WideShapes Go.ChangeAt Go.RowKit
set_option maxRecDepth 100000 in
set_option maxHeartbeats 8000000 in
theorem quant_own (rate seq shape max : Int) (G : List Int) (pg qb qs px : Option Addr) (cg cb cs cx : Nat) (Bk St : List RV) (x : List Int) (window n : Int) (w : World) (H0 : QArg w G pg Bk qb St qs x px) :
    Calls Try.prog 7 #[.int .i64 rate, .agg (infoC seq shape max pg G.length cg), .slice qb Bk.length cb, .slice qs St.length cs, .slice px x.length cx, .int .i64 window, .int .i64 n] w fun e w' => e = .returned (.bool true) ∧ Below w.heap.size w w' := by
  have hb0 : Below w.heap.size w (w.alloc (.cells (infoC seq shape max pg G.length cg) 27)) := (Below.refl _ w).alloc (Nat.le_refl _) _
  have X0 := Lib.hid (CellsAt.new w 27 (infoC seq shape max pg G.length cg) rfl)
  have HH := Lib.hid H0
  have HB0 := Lib.hid hb0
  clear hb0 H0
  go_enter Try.func7, Try.ntmps7
  go_wp2_with fail
  refine (alive_ok _).mono ?_
  rintro e w1 ⟨rfl, hB⟩
  have HB1 := Lib.hid (HB0.out.trans (hB.mono HB0.out.size))
  have X1 := Lib.hid (X0.out.keep hB X0.out.lt)
  have k1_0 := X1.out.cell 0
  have k1_1 := X1.out.cell 1
  have k1_2 := X1.out.cell 2
  have k1_3 := X1.out.cell 3
  simp only [infoC, List.getElem?_toArray, List.getElem?_cons_zero, List.getElem?_cons_succ] at k1_0 k1_1 k1_2 k1_3
  clear hB HB0 X0
  go_wp2_with fail
  have HH1 := HH.out.keep HB1.out
  refine (q_great seq shape max G pg qb qs px cg cb cs cx Bk St x w1 HH1.b HH1.s HH1.lb HH1.ls).mono ?_
  rintro e w2 ⟨b, rfl, hgr, hB⟩
  have HB2 := Lib.hid (HB1.out.trans (hB.mono HB1.out.size))
  have X2 := Lib.hid (X1.out.keep hB X1.out.lt)
  have k2_0 := X2.out.cell 0
  have k2_1 := X2.out.cell 1
  have k2_2 := X2.out.cell 2
  have k2_3 := X2.out.cell 3
  simp only [infoC, List.getElem?_toArray, List.getElem?_cons_zero, List.getElem?_cons_succ] at k2_0 k2_1 k2_2 k2_3
  clear hB HB1 X1 HH1 k1_0 k1_1 k1_2 k1_3
  cases b
  · obtain ⟨lg, lbk, lst, lx⟩ := hgr rfl
    have HH2 := HH.out.keep HB2.out
    have HL := Lib.hid (lines_any rate seq shape max G pg qb qs px cg cb cs cx Bk St x w2 HH2.g lg HH2.b lbk HH2.s lst HH2.x lx)
    have HQ := Lib.hid (fun (W : World) (h : Below w2.heap.size w2 W) => quan_any rate seq shape max G pg qb qs px cg cb cs cx Bk St x W (HH2.keep h).g lg (HH2.keep h).b lbk (HH2.keep h).s lst (HH2.keep h).x lx)
    have HWN := Lib.hid (fun (W : World) (h : Below w2.heap.size w2 W) => info_windows seq shape max G pg cg W (HH2.keep h).g lg)
    have HGP := Lib.hid (fun (hm : mayB 11 seq shape max G = true) (k : Nat) (hk : k < winN seq) (W : World) (h : Below w2.heap.size w2 W) => info_group seq shape max G pg cg (k : Int) W (HH2.keep h).g lg hm (by omega) (by omega))
    have HI := Lib.hid HH2
    obtain ⟨⟨Y1, E1⟩, hP1⟩ : ∃ p, quantR lineF 8191 rate seq shape max G Bk St x = p := ⟨_, rfl⟩
    obtain ⟨⟨Y2, E2⟩, hP2⟩ : ∃ p, quantR quanF 268435455 rate seq shape max G Bk St x = p := ⟨_, rfl⟩
    rw [hP1] at HL
    rw [hP2] at HQ
    have HP1 := Lib.hid hP1
    have HP2 := Lib.hid hP2
    have lbk2 := lbk
    clear hP1 hP2 hgr HH2 lg lbk lst
    go_wp2_with fail
    refine (HL.out.mono (fun e w' h => h.row)).mono ?_
    rintro e w3 ⟨p3, d3, rfl, hI3, hB3⟩
    have X3 := Lib.hid (X2.out.keep hB3 X2.out.lt)
    have k3_0 := X3.out.cell 0
    have k3_1 := X3.out.cell 1
    have k3_2 := X3.out.cell 2
    have k3_3 := X3.out.cell 3
    simp only [infoC, List.getElem?_toArray, List.getElem?_cons_zero, List.getElem?_cons_succ] at k3_0 k3_1 k3_2 k3_3
    have HY1 := Lib.hid hI3
    have HB3 := Lib.hid hB3
    clear hI3 hB3 HL X2 k2_0 k2_1 k2_2 k2_3
    go_wp2_with fail
    refine ((HQ.out w3 HB3.out).mono (fun e w' h => h.row)).mono ?_
    rintro e w4 ⟨p4, d4, rfl, hI4, hB4⟩
    have X4 := Lib.hid (X3.out.keep hB4 X3.out.lt)
    have k4_0 := X4.out.cell 0
    have k4_1 := X4.out.cell 1
    have k4_2 := X4.out.cell 2
    have k4_3 := X4.out.cell 3
    simp only [infoC, List.getElem?_toArray, List.getElem?_cons_zero, List.getElem?_cons_succ] at k4_0 k4_1 k4_2 k4_3
    have HY1 := Lib.hid (HY1.out.keep hB4)
    have HY2 := Lib.hid hI4
    have HB4 := Lib.hid (HB3.out.trans (hB4.mono HB3.out.size))
    clear hI4 hB4 HQ X3 HB3 k3_0 k3_1 k3_2 k3_3
    go_wp2_with fail
    refine (HWN.out w4 HB4.out).mono ?_
    rintro e w5 ⟨rfl, hB5⟩
    have X5 := Lib.hid (X4.out.keep hB5 X4.out.lt)
    have k5_0 := X5.out.cell 0
    have k5_1 := X5.out.cell 1
    have k5_2 := X5.out.cell 2
    have k5_3 := X5.out.cell 3
    simp only [infoC, List.getElem?_toArray, List.getElem?_cons_zero, List.getElem?_cons_succ] at k5_0 k5_1 k5_2 k5_3
    have HY1 := Lib.hid (HY1.out.keep hB5)
    have HY2 := Lib.hid (HY2.out.keep hB5)
    have HB5 := Lib.hid (HB4.out.trans (hB5.mono HB4.out.size))
    have HE5 := Lib.hid (HB2.out.trans (HB5.out.mono HB2.out.size))
    clear hB5 HWN X4 HB4 k4_0 k4_1 k4_2 k4_3
    cases hm : mayB 11 seq shape max G
    · simp only [Bool.false_eq_true, if_false]
      clear hm
      go_wp2
      go_ret
      exact ⟨rfl, HE5.out⟩
    simp only [if_true]
    have HM := Lib.hid hm
    have hwn8 : winN seq = 8 ∧ (seq == 2) = true ∨ winN seq = 1 ∧ (seq == 2) = false := by
      unfold winN
      by_cases h : seq = 2
      · left; simp [h]
      · right; simp [h]
    obtain ⟨many, hmany⟩ : ∃ m, winN seq = m := ⟨_, rfl⟩
    have HMN := Lib.hid hmany
    rw [hmany] at hwn8 ⊢
    clear hm hmany
    by_cases c1 : window < 0
    · have e1 : decide (window < 0) = true := decide_eq_true c1
      go_wp2
      go_ret
      exact ⟨rfl, HE5.out⟩
    have e1 : decide (window < 0) = false := decide_eq_false c1
    by_cases c2 : (many : Int) ≤ window
    · have e2 : decide (window ≥ (many : Int)) = true := decide_eq_true c2
      go_wp2
      go_ret
      exact ⟨rfl, HE5.out⟩
    have e2 : decide (window ≥ (many : Int)) = false := decide_eq_false c2
    by_cases c3 : n < 0
    · have e3 : decide (n < 0) = true := decide_eq_true c3
      go_wp2
      go_ret
      exact ⟨rfl, HE5.out⟩
    have e3 : decide (n < 0) = false := decide_eq_false c3
    obtain ⟨W, rfl⟩ : ∃ m : Nat, window = m := ⟨window.toNat, by omega⟩
    obtain ⟨N, rfl⟩ : ∃ m : Nat, n = m := ⟨n.toNat, by omega⟩
    have hW : W < many := by omega
    have hdv : (256 : Int) / (many : Int) = 32 ∧ many = 8 ∨ (256 : Int) / (many : Int) = 256 ∧ many = 1 := by
      rcases hwn8 with ⟨rfl, _⟩ | ⟨rfl, _⟩
      · left; decide
      · right; decide
    by_cases c4 : (256 : Int) / (many : Int) ≤ (N : Int)
    · have e4 : decide ((N : Int) ≥ 256 / (many : Int)) = true := decide_eq_true c4
      go_wp2
      go_ret
      exact ⟨rfl, HE5.out⟩
    have e4 : decide ((N : Int) ≥ 256 / (many : Int)) = false := decide_eq_false c4
    have hN : (N : Int) < 256 / (many : Int) := by omega
    by_cases c5 : ¬ x.length = 256
    · have e5 : ((x.length : Int) != 256) = true := by simp; omega
      go_wp2
      go_ret
      exact ⟨rfl, HE5.out⟩
    have c5 : x.length = 256 := by omega
    have e5 : ((x.length : Int) != 256) = false := by simp [c5]
    have v1 : IntKind.i64.wrap ((W : Int) * (256 / (many : Int))) = 32 * (W : Int) := by
      rcases hdv with ⟨h, rfl⟩ | ⟨h, rfl⟩
      · rw [h, Int.mul_comm]; exact IntWalk.i64_in _ (by omega)
      · rw [h]; obtain rfl : W = 0 := by omega
        rfl
    have v2 : IntKind.i64.wrap (32 * (W : Int) + (N : Int)) = ((32 * W + N : Nat) : Int) := by
      rw [show ((32 * W + N : Nat) : Int) = 32 * (W : Int) + (N : Int) by omega]
      exact IntWalk.i64_in _ (by omega)
    have hNn : N < 256 / many := by
      rcases hdv with ⟨h, rfl⟩ | ⟨h, rfl⟩ <;> omega
    have hat : 32 * W + N < 256 := by
      rcases hdv with ⟨h, rfl⟩ | ⟨h, rfl⟩ <;> omega
    have HGW := Lib.hid (HGP.out HM.out W (by rw [HMN.out]; exact hW))
    have HSQ := Lib.hid hwn8
    have HNN := Lib.hid hNn
    clear c1 c2 c3 c4 hdv hwn8 HGP hNn
    by_cases hE : E1 ≠ 0 ∧ E2 ≠ 0
    · have f1 : (E1 != 0) = true := by simp [hE.1]
      have f2 : (E2 != 0) = true := by simp [hE.2]
      clear hE
      go_wp2_with fail
      refine (of_any _ _ _ _).mono ?_
      rintro e w6 ⟨a6, b6, rfl, hB6⟩
      have X6 := Lib.hid (X5.out.keep hB6 X5.out.lt)
      have k6_0 := X6.out.cell 0
      have k6_1 := X6.out.cell 1
      have k6_2 := X6.out.cell 2
      have k6_3 := X6.out.cell 3
      simp only [infoC, List.getElem?_toArray, List.getElem?_cons_zero, List.getElem?_cons_succ] at k6_0 k6_1 k6_2 k6_3
      have HB6 := Lib.hid (HB5.out.trans (hB6.mono HB5.out.size))
      clear hB6 X5 k5_0 k5_1 k5_2 k5_3
      go_wp2_with fail
      refine (HGW.out w6 HB6.out).mono ?_
      rintro e w7 ⟨rfl, hB7⟩
      have HB7 := Lib.hid (HB2.out.trans ((HB6.out.trans (hB7.mono HB6.out.size)).mono HB2.out.size))
      clear hB7
      go_wp2
      go_ret
      exact ⟨rfl, HB7.out⟩
    have r1 : readyQ 8191 rate seq shape max G Bk St x = E1 := congrArg Prod.snd HP1.out
    have r2 : readyQ 268435455 rate seq shape max G Bk St x = E2 := congrArg Prod.snd HP2.out
    have hE2 : E2 = 0 := by
      by_cases h1 : E1 = 0
      · rw [← r2]; exact ready_less (by rw [r1, h1])
      · by_cases h2 : E2 = 0
        · exact h2
        · exact absurd ⟨h1, h2⟩ hE
    subst hE2
    have hg := qgood (by decide) r2
    have hg1 : E1 = 0 → QGood 8191 rate seq shape max G Bk St x := fun h => qgood (by decide) (by rw [r1, h])
    have hy2 : Y2 = rowQ quanF rate seq max G Bk St x := by have := HP2.out; rw [quantR_good hg] at this; exact (congrArg Prod.fst this).symm
    have hy1 : E1 = 0 → Y1 = rowQ lineF rate seq max G Bk St x := fun h => by have := HP1.out; rw [quantR_good (hg1 h)] at this; exact (congrArg Prod.fst this).symm
    have hln : (N : Int) < linesOf (seq == 2) := by
      unfold linesOf
      rcases HSQ.out with ⟨h, h'⟩ | ⟨h, h'⟩
      · rw [h']; simp only [if_true]; rw [h] at hN; omega
      · rw [h']; simp only [Bool.false_eq_true, if_false]; rw [h] at hN; omega
    have HOF := Lib.hid (fun W => of_ok rate (seq == 2) (N : Int) hg.r0 hg.r1 (by omega) hln W)
    unfold ROf at HOF
    have HG1 := Lib.hid hg
    have HG8 := Lib.hid hg1
    have HYE1 := Lib.hid hy1
    have HYE2 := Lib.hid hy2
    clear hE r1 r2 hg hg1 hy1 hy2 hln
    go_wp2_with fail
    refine (HOF.out _).mono ?_
    rintro e w6 ⟨b, hin, rfl, hB6⟩
    have X6 := Lib.hid (X5.out.keep hB6 X5.out.lt)
    have k6_0 := X6.out.cell 0
    have k6_1 := X6.out.cell 1
    have k6_2 := X6.out.cell 2
    have k6_3 := X6.out.cell 3
    simp only [infoC, List.getElem?_toArray, List.getElem?_cons_zero, List.getElem?_cons_succ] at k6_0 k6_1 k6_2 k6_3
    have HIN := Lib.hid hin
    have HY1 := Lib.hid (HY1.out.keep hB6)
    have HY2 := Lib.hid (HY2.out.keep hB6)
    have HB6 := Lib.hid (HB5.out.trans (hB6.mono HB5.out.size))
    clear hB6 X5 hin HOF k5_0 k5_1 k5_2 k5_3
    go_wp2_with fail
    refine (HGW.out w6 HB6.out).mono ?_
    rintro e w7 ⟨rfl, hB7⟩
    have X7 := Lib.hid (X6.out.keep hB7 X6.out.lt)
    have k7_0 := X7.out.cell 0
    have k7_1 := X7.out.cell 1
    have k7_2 := X7.out.cell 2
    have k7_3 := X7.out.cell 3
    simp only [infoC, List.getElem?_toArray, List.getElem?_cons_zero, List.getElem?_cons_succ] at k7_0 k7_1 k7_2 k7_3
    have HY1 := Lib.hid (HY1.out.keep hB7)
    have HY2 := Lib.hid (HY2.out.keep hB7)
    have hb7 := HB6.out.trans (hB7.mono HB6.out.size)
    have HA7 := Lib.hid (HI.out.keep hb7)
    have HE7 := Lib.hid (HB2.out.trans (hb7.mono HB2.out.size))
    have C1 := Lib.hid (fun h : E1 = 0 => own_cell (HG8.out h) lineF (by rw [HMN.out]; exact hW) (by rw [HMN.out]; exact HNN.out) HIN.out)
    have C2 := Lib.hid (own_cell HG1.out quanF (by rw [HMN.out]; exact hW) (by rw [HMN.out]; exact HNN.out) HIN.out)
    have hgr := grp_lt HM.out (w := W) (by rw [HMN.out]; exact hW)
    have HOK := Lib.hid (fun (j : Nat) (hj : (j : Int) < max) => HG1.out.ok (grpOf G W) j hgr hj)
    have hbr := HG1.out.br _ hgr
    have hsr := HG1.out.sr _ hgr
    have hbl := HG1.out.bl
    have hsl := HG1.out.sl
    obtain ⟨gr, hgg⟩ : ∃ g, grpOf G W = g := ⟨_, rfl⟩
    rw [hgg] at C1 C2 hgr HOK hbr hsr ⊢
    have e6 : gr < Bk.length := by omega
    have e7 : gr < St.length := by omega
    have e8 : decide (Bk.length ≤ gr) = false := decide_eq_false (by omega)
    have t1 : (32 * (W : Int) + (N : Int)).toNat = 32 * W + N := by omega
    have t2 : (0 : Int) ≤ 32 * (W : Int) + (N : Int) := by omega
    have t3 : 32 * (W : Int) + (N : Int) < 256 := by omega
    obtain ⟨bk, ok, rfl, _, r3, hi3⟩ := HA7.out.b.at (j := gr) (by omega)
    obtain ⟨bs, os_, rfl, hbs, r4, hi4⟩ := HA7.out.s.at (j := gr) (by omega)
    obtain ⟨bx, ox, rfl, hbx, hcx⟩ := HA7.out.x.at (j := 32 * W + N) (by omega)
    have r5 := hcx (32 * W + N) (by omega)
    have hxb := HG1.out.xb (32 * W + N)
    have HXB := Lib.hid (fun h : E1 = 0 => (HG8.out h).xb (32 * W + N))
    have hl1 : E1 = 0 → Y1.length = 256 := fun h => by rw [HYE1.out h, rowQ_len]
    have HL1 := Lib.hid hl1
    have hl2 : Y2.length = 256 := by rw [HYE2.out, rowQ_len]
    have HC2 := Lib.hid ((congrArg (fun l => List.getD l (32 * W + N) 0) HYE2.out).trans C2.out)
    have HC1 := Lib.hid (fun h : E1 = 0 => (congrArg (fun l => List.getD l (32 * W + N) 0) (HYE1.out h)).trans (C1.out h))

    obtain ⟨X, hX⟩ : ∃ v, x.getD (32 * W + N) 0 = v := ⟨_, rfl⟩
    rw [hX] at r5 hxb HXB HC1 HC2
    obtain ⟨q2, o2, hp2, hq2, hc2⟩ := HY2.out.at (j := 32 * W + N) (by omega)
    have r6 := hc2 (32 * W + N) (by omega)
    rw [hl2]
    obtain ⟨rk, hrk⟩ : ∃ r, Bk.getD gr default = r := ⟨_, rfl⟩
    rw [hrk] at r3 hi3 hbr HC1 HC2 HOK
    obtain ⟨rs, hrs⟩ : ∃ r, St.getD gr default = r := ⟨_, rfl⟩
    rw [hrs] at r4 hi4 hsr HC1 HC2 HOK
    obtain ⟨qk, ck, lk⟩ := rk
    obtain ⟨qt, ct, lt⟩ := rs
    dsimp only at r3 hi3 hbr HC1 HC2 HOK r4 hi4 hsr
    have HI3 := Lib.hid hi3
    have HI4 := Lib.hid hi4
    have HRK := Lib.hid hrk
    subst hp2
    clear hX hcx hc2 hgg hrk hrs hi3 hi4 HGW HSQ HNN HYE1 HYE2 HP1 HP2 HG1 HG8 hl1 hl2 C1 C2 HI HB6 hb7 hB7 X6 k6_0 k6_1 k6_2 k6_3 hbl hsl HIN HMN
    by_cases hbm : (b : Int) < max
    · have hd0 : decide ((b : Int) < max) = true := decide_eq_true hbm
      have hok := HOK.out b hbm
      obtain ⟨bj, oj, rfl, _, hcj⟩ := HI3.out.at (j := b) (by omega)
      have r8 := hcj b (by omega)
      obtain ⟨bt, ot, rfl, hbt, hct⟩ := HI4.out.at (j := b) (by omega)
      have r9 := hct b (by omega)
      simp only [hbm, true_and] at HC1 HC2
      obtain ⟨k, hk⟩ : ∃ v, lk.getD b 0 = v := ⟨_, rfl⟩
      rw [hk] at r8 HC1 HC2 hok
      obtain ⟨s, hs⟩ : ∃ v, lt.getD b 0 = v := ⟨_, rfl⟩
      rw [hs] at r9 HC1 HC2 hok
      have hbl2 : (b : Int) < (lk.length : Int) := by omega
      have hbl3 : (b : Int) < (lt.length : Int) := by omega
      clear hcj hct hk hs HOK HI3 HI4
      by_cases hk1 : 1 ≤ k
      · have hd1 : decide (k ≥ 1) = true := decide_eq_true hk1
        by_cases hk2 : k ≤ 11
        · have hd2 : decide (k ≤ 11) = true := decide_eq_true hk2
          have hsb : sentB k = true := by unfold sentB; simp [hk1, hk2]
          have hst := sent_step hok hsb
          simp only [hsb, if_true] at HC1 HC2
          clear hok hsb
          have hq2' := hq2
          have CQ := Lib.hid (fun W' => Quant_any X s W')
          have HE := Lib.hid (show (quantV X s).2 = 0 ∧ quanF X s = (quantV X s).1 from ⟨by have := quant_err (x := X) (s := s.toNat) hxb.1 hxb.2 (by omega); rwa [Int.toNat_of_nonneg hst.1] at this, rfl⟩)
          obtain ⟨V, hV⟩ : ∃ v, quantV X s = v := ⟨_, rfl⟩
          rw [hV] at CQ HE
          obtain ⟨Q1, V2⟩ := V
          obtain ⟨he2, hv⟩ := HE.out
          dsimp only at he2 hv
          subst he2
          unfold RP2 at CQ
          dsimp only at CQ
          clear hV HE
          rw [HC2.out, hv] at r6
          clear hv HC2
          by_cases hE1 : E1 = 0
          · subst hE1
            have hl1 := HL1.out rfl
            have h1 := HC1.out rfl
            obtain ⟨q1, o1, hp1, hq1, hc1⟩ := HY1.out.at (j := 32 * W + N) (by omega)
            have r7 := hc1 (32 * W + N) (by omega)
            have CL := Lib.hid (fun W' => Line_any X s W')
            have HE := Lib.hid (show (lineV X s).2 = 0 ∧ lineF X s = (lineV X s).1 from ⟨by have := line_err (q := X) (s := s.toNat) (HXB.out rfl).1 (HXB.out rfl).2 (by omega); rwa [Int.toNat_of_nonneg hst.1] at this, rfl⟩)
            obtain ⟨V, hV⟩ : ∃ v, lineV X s = v := ⟨_, rfl⟩
            rw [hV] at CL HE
            obtain ⟨L1, V2⟩ := V
            obtain ⟨he2, hv⟩ := HE.out
            dsimp only at he2 hv
            subst he2
            unfold RP2 at CL
            dsimp only at CL
            clear hV HE
            rw [h1, hv] at r7
            subst hp1
            rw [hl1]
            clear hc1 h1 HC1 hv
            go_upto_region 20 with fail
            go_cut [24, 28] from 158 to 172 (fun s24 s28 wx => s24 = .int .i64 0 ∧ s28 = .int .i64 L1 ∧ Below w7.heap.size w7 wx)
            case first =>
              have HS := Lib.hid (fun (V : World) (h : Below w7.heap.size w7 V) => show Below w7.heap.size w7 V ∧ V.cell? ⟨bx, ox + (32 * W + N), none⟩ = some (.int .i64 X) ∧ V.cell? ⟨bs, os_ + gr, none⟩ = some (.slice (some ⟨bt, ot, none⟩) lt.length ct) ∧ V.cell? ⟨bt, ot + b, none⟩ = some (.int .i64 s) from ⟨h, (h.cell (p := ⟨bx, _, none⟩) hbx).trans r5, (h.cell (p := ⟨bs, _, none⟩) hbs).trans r4, (h.cell (p := ⟨bt, _, none⟩) hbt).trans r9⟩)
              have h0 := Lib.hid (HS.out w7.drew (below_drewN (Below.refl _ _) 1))
              go_region_held3 (fun V => Below w7.heap.size w7 V ∧ V.cell? ⟨bx, ox + (32 * W + N), none⟩ = some (.int .i64 X) ∧ V.cell? ⟨bs, os_ + gr, none⟩ = some (.slice (some ⟨bt, ot, none⟩) lt.length ct) ∧ V.cell? ⟨bt, ot + b, none⟩ = some (.int .i64 s))
                (first | assumption | exact h0.out | exact HS.out _ ((below_drewN (Below.refl _ _) 1).trans hBc))
                (first | (go_at_call 22; ((with_reducible refine (CL.out _).mono ?_); rintro e w' ⟨rfl, hBc⟩)))
              all_goals
                go_wp2_with fail
                go_meet
                exact ⟨rfl, rfl, (below_drewN (Below.refl _ _) 1).trans hBc⟩
            case rest =>
            obtain ⟨rfl, rfl, hbz⟩ := hcut
            have y7 := (hbz.cell (p := ⟨q1, _, none⟩) hq1).trans r7
            have y6 := (hbz.cell (p := ⟨q2, _, none⟩) hq2).trans r6
            have y5 := (hbz.cell (p := ⟨bx, _, none⟩) hbx).trans r5
            have y4 := (hbz.cell (p := ⟨bs, _, none⟩) hbs).trans r4
            have y9 := (hbz.cell (p := ⟨bt, _, none⟩) hbt).trans r9
            have HEY := Lib.hid (HE7.out.trans (hbz.mono HE7.out.size))
            have hsz := hbz.size
            have hbx := Nat.lt_of_lt_of_le hbx hsz
            have hbs := Nat.lt_of_lt_of_le hbs hsz
            have hbt := Nat.lt_of_lt_of_le hbt hsz
            have hq2 := Nat.lt_of_lt_of_le hq2 hsz
            obtain ⟨wy, hwy⟩ : ∃ z, z = wc := ⟨_, rfl⟩
            subst hwy
            clear r3 r4 r5 r6 r7 r8 r9 hbz
            have r4 := y4
            have r5 := y5
            have r6 := y6
            have r9 := y9
            clear y4 y5 y6 y9
            go_upto_region 26 with fail
            go_cut [24, 29] from 191 to 205 (fun s24 s28 wx => s24 = .int .i64 0 ∧ s28 = .int .i64 Q1 ∧ Below wy.heap.size wy wx)
            case first =>
              have HS := Lib.hid (fun (V : World) (h : Below wy.heap.size wy V) => show Below wy.heap.size wy V ∧ V.cell? ⟨bx, ox + (32 * W + N), none⟩ = some (.int .i64 X) ∧ V.cell? ⟨bs, os_ + gr, none⟩ = some (.slice (some ⟨bt, ot, none⟩) lt.length ct) ∧ V.cell? ⟨bt, ot + b, none⟩ = some (.int .i64 s) from ⟨h, (h.cell (p := ⟨bx, _, none⟩) hbx).trans r5, (h.cell (p := ⟨bs, _, none⟩) hbs).trans r4, (h.cell (p := ⟨bt, _, none⟩) hbt).trans r9⟩)
              have h0 := Lib.hid (HS.out wy.drew (below_drewN (Below.refl _ _) 1))
              go_region_held3 (fun V => Below wy.heap.size wy V ∧ V.cell? ⟨bx, ox + (32 * W + N), none⟩ = some (.int .i64 X) ∧ V.cell? ⟨bs, os_ + gr, none⟩ = some (.slice (some ⟨bt, ot, none⟩) lt.length ct) ∧ V.cell? ⟨bt, ot + b, none⟩ = some (.int .i64 s))
                (first | assumption | exact h0.out | exact HS.out _ ((below_drewN (Below.refl _ _) 1).trans hBc))
                (first | (go_at_call 23; ((with_reducible refine (CQ.out _).mono ?_); rintro e w' ⟨rfl, hBc⟩)))
              all_goals
                go_wp2_with fail
                go_meet
                exact ⟨rfl, rfl, (below_drewN (Below.refl _ _) 1).trans hBc⟩
            case rest =>
            obtain ⟨rfl, rfl, hbz⟩ := hcut
            have y6 := (hbz.cell (p := ⟨q2, _, none⟩) hq2).trans r6
            have HEZ := Lib.hid (HEY.out.trans (hbz.mono HEY.out.size))
            clear hbz r4 r5 r6 r9
            go_wp2
            go_ret
            exact ⟨rfl, HEZ.out⟩
          · have f1 : (E1 == 0) = false := by simp [hE1]
            have f2 : (E1 != 0) = true := by simp [hE1]
            clear HC1 hE1
            go_upto_region 26 with fail
            go_cut [24, 29] from 191 to 205 (fun s24 s28 wx => s24 = .int .i64 0 ∧ s28 = .int .i64 Q1 ∧ Below w7.heap.size w7 wx)
            case first =>
              have HS := Lib.hid (fun (V : World) (h : Below w7.heap.size w7 V) => show Below w7.heap.size w7 V ∧ V.cell? ⟨bx, ox + (32 * W + N), none⟩ = some (.int .i64 X) ∧ V.cell? ⟨bs, os_ + gr, none⟩ = some (.slice (some ⟨bt, ot, none⟩) lt.length ct) ∧ V.cell? ⟨bt, ot + b, none⟩ = some (.int .i64 s) from ⟨h, (h.cell (p := ⟨bx, _, none⟩) hbx).trans r5, (h.cell (p := ⟨bs, _, none⟩) hbs).trans r4, (h.cell (p := ⟨bt, _, none⟩) hbt).trans r9⟩)
              have h0 := Lib.hid (HS.out w7.drew (below_drewN (Below.refl _ _) 1))
              go_region_held3 (fun V => Below w7.heap.size w7 V ∧ V.cell? ⟨bx, ox + (32 * W + N), none⟩ = some (.int .i64 X) ∧ V.cell? ⟨bs, os_ + gr, none⟩ = some (.slice (some ⟨bt, ot, none⟩) lt.length ct) ∧ V.cell? ⟨bt, ot + b, none⟩ = some (.int .i64 s))
                (first | assumption | exact h0.out | exact HS.out _ ((below_drewN (Below.refl _ _) 1).trans hBc))
                (first | (go_at_call 23; ((with_reducible refine (CQ.out _).mono ?_); rintro e w' ⟨rfl, hBc⟩)))
              all_goals
                go_wp2_with fail
                go_meet
                exact ⟨rfl, rfl, (below_drewN (Below.refl _ _) 1).trans hBc⟩
            case rest =>
            obtain ⟨rfl, rfl, hbz⟩ := hcut
            have y6 := (hbz.cell (p := ⟨q2, _, none⟩) hq2).trans r6
            have HEZ := Lib.hid (HE7.out.trans (hbz.mono HE7.out.size))
            clear hbz r3 r4 r5 r6 r8 r9
            go_wp2
            go_ret
            exact ⟨rfl, HEZ.out⟩
        · have hd2 : decide (k ≤ 11) = false := decide_eq_false hk2
          have hsb : sentB k = false := by unfold sentB; simp [hk2]
          simp only [hsb, Bool.false_eq_true, if_false] at HC1 HC2
          clear hok hsb
          by_cases hE1 : E1 = 0
          · subst hE1
            have hl1 := HL1.out rfl
            have h1 := HC1.out rfl
            obtain ⟨q1, o1, hp1, _, hc1⟩ := HY1.out.at (j := 32 * W + N) (by omega)
            have r7 := hc1 (32 * W + N) (by omega)
            rw [h1] at r7
            rw [HC2.out] at r6
            subst hp1
            rw [hl1]
            clear hc1 h1 HC1 HC2
            go_wp2
            go_ret
            exact ⟨rfl, HE7.out⟩
          · have f1 : (E1 == 0) = false := by simp [hE1]
            have f2 : (E1 != 0) = true := by simp [hE1]
            rw [HC2.out] at r6
            clear HC1 HC2 hE1
            go_wp2
            go_ret
            exact ⟨rfl, HE7.out⟩
      · have hd1 : decide (k ≥ 1) = false := decide_eq_false hk1
        have hsb : sentB k = false := by unfold sentB; simp [hk1]
        simp only [hsb, Bool.false_eq_true, if_false] at HC1 HC2
        clear hok hsb
        by_cases hE1 : E1 = 0
        · subst hE1
          have hl1 := HL1.out rfl
          have h1 := HC1.out rfl
          obtain ⟨q1, o1, hp1, _, hc1⟩ := HY1.out.at (j := 32 * W + N) (by omega)
          have r7 := hc1 (32 * W + N) (by omega)
          rw [h1] at r7
          rw [HC2.out] at r6
          subst hp1
          rw [hl1]
          clear hc1 h1 HC1 HC2
          go_wp2
          go_ret
          exact ⟨rfl, HE7.out⟩
        · have f1 : (E1 == 0) = false := by simp [hE1]
          have f2 : (E1 != 0) = true := by simp [hE1]
          rw [HC2.out] at r6
          clear HC1 HC2 hE1
          go_wp2
          go_ret
          exact ⟨rfl, HE7.out⟩
    · have hd0 : decide ((b : Int) < max) = false := decide_eq_false hbm
      simp only [hbm, false_and, if_false] at HC1 HC2
      clear HOK HI3 HI4
      by_cases hE1 : E1 = 0
      · subst hE1
        have hl1 := HL1.out rfl
        have h1 := HC1.out rfl
        obtain ⟨q1, o1, hp1, _, hc1⟩ := HY1.out.at (j := 32 * W + N) (by omega)
        have r7 := hc1 (32 * W + N) (by omega)
        rw [h1] at r7
        rw [HC2.out] at r6
        subst hp1
        rw [hl1]
        clear hc1 h1 HC1 HC2
        go_wp2
        go_ret
        exact ⟨rfl, HE7.out⟩
      · have f1 : (E1 == 0) = false := by simp [hE1]
        have f2 : (E1 != 0) = true := by simp [hE1]
        rw [HC2.out] at r6
        clear HC1 HC2 hE1
        go_wp2
        go_ret
        exact ⟨rfl, HE7.out⟩
  · clear hgr
    go_wp2
    go_ret
    exact ⟨rfl, HB2.out⟩
end Go.Proofs.Ytppfbfiigfjncaa
