/- QuantBack: the walk. -/
import Derived.Test.YtppfbfiigfjncaaQBackP
import Derived.Test.YtppfbfiigfjncaaQAlive
import Derived.Test.YtppfbfiigfjncaaQGreat
import Derived.Test.YtppfbfiigfjncaaOpenRows
import Derived.Deep.CutRange
import Derived.Deep.QuietTactic
set_option linter.unusedVariables false
set_option linter.unusedSimpArgs false
namespace Go.Proofs.Ytppfbfiigfjncaa
open Go.ChangeShapes Go.WideShapes Go.ChangeAt Go.RowKit
set_option maxRecDepth 100000 in
set_option maxHeartbeats 8000000 in
theorem quant_back (rate seq shape max : Int) (G : List Int) (pg qb qs px : Option Addr) (cg cb cs cx : Nat) (Bk St : List RV) (x : List Int) (by_ : Int) (w : World) (H0 : QArg w G pg Bk qb St qs x px) (hby : -32768 ≤ by_ ∧ by_ ≤ 32767) :
    Calls Try.prog 5 #[.int .i64 rate, .agg (infoC seq shape max pg G.length cg), .slice qb Bk.length cb, .slice qs St.length cs, .slice px x.length cx, .int .i16 by_] w fun e w' => e = .returned (.bool true) ∧ Below w.heap.size w w' := by
  have hb0 : Below w.heap.size w (w.alloc (.cells (infoC seq shape max pg G.length cg) 27)) := (Below.refl _ w).alloc (Nat.le_refl _) _
  have X0 := Lib.hid (CellsAt.new w 27 (infoC seq shape max pg G.length cg) rfl)
  have HH := Lib.hid H0
  have HB0 := Lib.hid hb0
  have HBY := Lib.hid hby
  clear hb0 H0 hby
  go_enter Try.func5, Try.ntmps5
  go_wp2_with fail
  refine (alive_ok _).mono ?_
  rintro e w1 ⟨rfl, hB⟩
  have HB1 := Lib.hid (HB0.out.trans (hB.mono HB0.out.size))
  have X1 := Lib.hid (X0.out.keep hB X0.out.lt)
  have k1_0 := X1.out.cell 0
  have k1_1 := X1.out.cell 1
  have k1_2 := X1.out.cell 2
  have k1_3 := X1.out.cell 3
  simp only [infoC, List.getElem?_toArray, List.getElem?_cons_zero, List.getElem?_cons_succ] at k1_0 k1_1 k1_2 k1_3
  clear hB HB0 X0
  go_wp2_with fail
  have HH1 := HH.out.keep HB1.out
  refine (q_great seq shape max G pg qb qs px cg cb cs cx Bk St x w1 HH1.b HH1.s HH1.lb HH1.ls).mono ?_
  rintro e w2 ⟨b, rfl, hgr, hB⟩
  have HB2 := Lib.hid (HB1.out.trans (hB.mono HB1.out.size))
  have X2 := Lib.hid (X1.out.keep hB X1.out.lt)
  have k2_0 := X2.out.cell 0
  have k2_1 := X2.out.cell 1
  have k2_2 := X2.out.cell 2
  have k2_3 := X2.out.cell 3
  simp only [infoC, List.getElem?_toArray, List.getElem?_cons_zero, List.getElem?_cons_succ] at k2_0 k2_1 k2_2 k2_3
  clear hB HB1 X1 HH1 k1_0 k1_1 k1_2 k1_3
  cases b
  · obtain ⟨lg, lbk, lst, lx⟩ := hgr rfl
    have HH2 := HH.out.keep HB2.out
    have HQX := Lib.hid (quan_any rate seq shape max G pg qb qs px cg cb cs cx Bk St x w2 HH2.g lg HH2.b lbk HH2.s lst HH2.x lx)
    have HLL := Lib.hid (fun (y : List Int) (py : Option Addr) (cy : Nat) (W : World) (h : Below w2.heap.size w2 W) (hy : IsInts W py y) (hl : y.length = 256) => lines_any rate seq shape max G pg qb qs py cg cb cs cy Bk St y W (HH2.keep h).g lg (HH2.keep h).b lbk (HH2.keep h).s lst hy (by omega))
    have HQQ := Lib.hid (fun (y : List Int) (py : Option Addr) (cy : Nat) (W : World) (h : Below w2.heap.size w2 W) (hy : IsInts W py y) (hl : y.length = 256) => quan_any rate seq shape max G pg qb qs py cg cb cs cy Bk St y W (HH2.keep h).g lg (HH2.keep h).b lbk (HH2.keep h).s lst hy (by omega))
    have HXI := Lib.hid HH2.x
    clear hgr HH2 lg lbk lst
    by_cases hE : readyQ 268435455 rate seq shape max G Bk St x = 0
    · have hg := qgood (by decide) hE
      have HG := Lib.hid hg
      rw [quantR_good hg] at HQX
      obtain ⟨Q, hQ⟩ : ∃ l, rowQ quanF rate seq max G Bk St x = l := ⟨_, rfl⟩
      have hQl : Q.length = 256 := by rw [← hQ, rowQ_len]
      have hgQ : QGood 8191 rate seq shape max G Bk St Q := by rw [← hQ]; exact quan_good hg hg
      obtain ⟨L1, hL1⟩ : ∃ l, rowQ lineF rate seq max G Bk St Q = l := ⟨_, rfl⟩
      have hL1l : L1.length = 256 := by rw [← hL1, rowQ_len]
      have hg1 : QGood 268435455 rate seq shape max G Bk St L1 := by rw [← hL1]; exact lines_good hg hgQ
      obtain ⟨R1, hR1⟩ : ∃ l, rowQ quanF rate seq max G Bk St L1 = l := ⟨_, rfl⟩
      have hR1l : R1.length = 256 := by rw [← hR1, rowQ_len]
      have hgR : QGood 8191 rate seq shape max G Bk St R1 := by rw [← hR1]; exact quan_good hg hg1
      obtain ⟨L2, hL2⟩ : ∃ l, rowQ lineF rate seq max G Bk St R1 = l := ⟨_, rfl⟩
      have hL2l : L2.length = 256 := by rw [← hL2, rowQ_len]
      obtain ⟨L3, hL3⟩ : ∃ l, rowQ lineF rate seq max G Bk St (othL Q by_) = l := ⟨_, rfl⟩
      have hL3l : L3.length = 256 := by rw [← hL3, rowQ_len]
      have HSAME := Lib.hid (show ∀ j, j < 256 → L2.getD j 0 = L1.getD j 0 by
        intro j hj
        rw [← hL2, ← hR1, ← hL1]; exact back_same hg hgQ j hj)
      have HNEAR := Lib.hid (show ∀ j, j < 256 → farI (x.getD j 0) (L1.getD j 0) ≤ farI (x.getD j 0) (L3.getD j 0) by
        intro j hj
        rw [← hL3, ← hL1, ← hQ]; exact back_near hg hg (oth_good hg by_) j hj)
      have HQB := Lib.hid hgQ.xb
      have H1B := Lib.hid hg1.xb
      have H3B := Lib.hid (show ∀ j, -268435455 ≤ L3.getD j 0 ∧ L3.getD j 0 ≤ 268435455 by rw [← hL3]; exact (lines_good hg (oth_good hg by_)).xb)
      have HXB := Lib.hid hg.xb
      have D1 := Lib.hid (show quantR lineF 8191 rate seq shape max G Bk St Q = (L1, 0) by rw [quantR_good hgQ, hL1])
      have D2 := Lib.hid (show quantR quanF 268435455 rate seq shape max G Bk St L1 = (R1, 0) by rw [quantR_good hg1, hR1])
      have D3 := Lib.hid (show quantR lineF 8191 rate seq shape max G Bk St R1 = (L2, 0) by rw [quantR_good hgR, hL2])
      have D4 := Lib.hid (show quantR lineF 8191 rate seq shape max G Bk St (othL Q by_) = (L3, 0) by rw [quantR_good (oth_good hg by_), hL3])
      have hxl : x.length = 256 := hg.xl
      rw [hQ] at HQX
      rw [hxl] at HQX ⊢
      clear hg hgQ hg1 hgR hQ hL1 hR1 hL2 hL3 hE
      go_wp2_with fail
      refine (HQX.out.mono (fun e w' h => h.row)).mono ?_
      rw [hQl]
      rintro e w3 ⟨pQ, cQ, rfl, hI3, hB3⟩
      have X3 := Lib.hid (X2.out.keep hB3 X2.out.lt)
      have k3_0 := X3.out.cell 0
      have k3_1 := X3.out.cell 1
      have k3_2 := X3.out.cell 2
      have k3_3 := X3.out.cell 3
      simp only [infoC, List.getElem?_toArray, List.getElem?_cons_zero, List.getElem?_cons_succ] at k3_0 k3_1 k3_2 k3_3
      have HYQ := Lib.hid hI3
      have HB3 := Lib.hid hB3
      have HL := Lib.hid (HLL.out Q pQ cQ w3 HB3.out HYQ.out hQl)
      rw [D1.out, hQl] at HL
      clear hI3 hB3 HQX X2 k2_0 k2_1 k2_2 k2_3
      go_wp2_with fail
      refine (HL.out.mono (fun e w' h => h.row)).mono ?_
      rw [hL1l]
      rintro e w4 ⟨p1, c1, rfl, hI4, hB4⟩
      have X4 := Lib.hid (X3.out.keep hB4 X3.out.lt)
      have k4_0 := X4.out.cell 0
      have k4_1 := X4.out.cell 1
      have k4_2 := X4.out.cell 2
      have k4_3 := X4.out.cell 3
      simp only [infoC, List.getElem?_toArray, List.getElem?_cons_zero, List.getElem?_cons_succ] at k4_0 k4_1 k4_2 k4_3
      have HYQ := Lib.hid (HYQ.out.keep hB4)
      have HY1 := Lib.hid hI4
      have HB4 := Lib.hid (HB3.out.trans (hB4.mono HB3.out.size))
      have HQ := Lib.hid (HQQ.out L1 p1 c1 w4 HB4.out HY1.out hL1l)
      rw [D2.out, hL1l] at HQ
      clear hI4 hB4 HL X3 HB3 k3_0 k3_1 k3_2 k3_3
      go_wp2_with fail
      refine (HQ.out.mono (fun e w' h => h.row)).mono ?_
      rw [hR1l]
      rintro e w5 ⟨pR, cR, rfl, hI5, hB5⟩
      have X5 := Lib.hid (X4.out.keep hB5 X4.out.lt)
      have k5_0 := X5.out.cell 0
      have k5_1 := X5.out.cell 1
      have k5_2 := X5.out.cell 2
      have k5_3 := X5.out.cell 3
      simp only [infoC, List.getElem?_toArray, List.getElem?_cons_zero, List.getElem?_cons_succ] at k5_0 k5_1 k5_2 k5_3
      have HYQ := Lib.hid (HYQ.out.keep hB5)
      have HY1 := Lib.hid (HY1.out.keep hB5)
      have HB5 := Lib.hid (HB4.out.trans (hB5.mono HB4.out.size))
      have HL := Lib.hid (HLL.out R1 pR cR w5 HB5.out hI5 hR1l)
      rw [D3.out, hR1l] at HL
      clear hI5 hB5 HQ X4 HB4 k4_0 k4_1 k4_2 k4_3
      go_wp2_with fail
      refine (HL.out.mono (fun e w' h => h.row)).mono ?_
      rw [hL2l]
      rintro e w6 ⟨p2, c2, rfl, hI6, hB6⟩
      have X6 := Lib.hid (X5.out.keep hB6 X5.out.lt)
      have k6_0 := X6.out.cell 0
      have k6_1 := X6.out.cell 1
      have k6_2 := X6.out.cell 2
      have k6_3 := X6.out.cell 3
      simp only [infoC, List.getElem?_toArray, List.getElem?_cons_zero, List.getElem?_cons_succ] at k6_0 k6_1 k6_2 k6_3
      have HYQ := Lib.hid (HYQ.out.keep hB6)
      have HY1 := Lib.hid (HY1.out.keep hB6)
      have HY2 := Lib.hid hI6
      have HB6 := Lib.hid (HB5.out.trans (hB6.mono HB5.out.size))
      clear hI6 hB6 HL X5 HB5 k5_0 k5_1 k5_2 k5_3 HQQ
      go_wp2_with (at_make; refine make_row rfl _ _ rfl 256 (by omega) rfl rfl ?_; intro w7 hlt7 hO7 hB7)
      obtain ⟨g0, hg0⟩ : ∃ n, w6.heap.size = n := ⟨_, rfl⟩
      rw [hg0] at hlt7 hO7 hB7 ⊢
      have HG0 := Lib.hid hg0
      have S7 := Lib.hid (show Spoil w7 (some ⟨g0, 0, none⟩) 256 256 g0 (g0 + 1) (List.replicate 256 (.int .i64 0)) from ⟨by simp, hlt7, fun _ => ⟨g0, rfl, Nat.le_refl _, Nat.lt_succ_self _, hO7⟩⟩)
      have Z7 := Lib.hid (show ∀ j, 0 ≤ j → j < 256 → (List.replicate 256 (Value.int .i64 0))[j]? = some (.int .i64 ((List.replicate 256 (0 : Int)).getD j 0)) by intro j _ hj; rw [zero_row]; exact row_get _ j (Nat.zero_le _) (by simpa using hj))
      have HB7 := Lib.hid hB7
      have vby : IntKind.i64.wrap by_ = by_ := IntWalk.i64_in _ (by have := HBY.out; omega)
      clear hO7 hB7 hlt7 hg0
      skip
      go_loopw [23] (fun I wr => ∃ (k : Nat) (xs : List Value), I = .int .i64 k ∧ k ≤ 256 ∧ Hid (Spoil wr (some ⟨g0, 0, none⟩) 256 256 g0 (g0 + 1) xs) ∧ Hid (∀ j, k ≤ j → j < 256 → xs[j]? = some (.int .i64 ((List.replicate 256 (0 : Int)).getD j 0))) ∧ Hid (∀ j, j < k → xs[j]? = some (.int .i64 (othF Q by_ j))) ∧ Hid (Below g0 w6 wr)) (fun I _ => 256 - (intOf I).toNat)
      case atStart => exact ⟨0, _, rfl, Nat.zero_le _, S7, Z7, fun j hj => by omega, HB7⟩
      case round =>
        obtain ⟨k, xs, rfl, hk, hS, hxs, hys, hbw⟩ := hrel
        clear S7 Z7 HB7
        by_cases hklt : k < 256
        · have hd : decide ((k : Int) < 256) = true := decide_eq_true (by omega)
          obtain ⟨g, hgp, hg1, hg2, hc, hf, hnext⟩ := hS.out.at hklt
          obtain rfl : g0 = g := by injection hgp with h1; injection h1
          rw [hxs.out k (Nat.le_refl _) hklt] at hc
          obtain ⟨z, hz⟩ : ∃ z, (List.replicate 256 (0 : Int)).getD k 0 = z := ⟨_, rfl⟩
          rw [hz] at hc
          have hbw6 : Below w6.heap.size w6 wr := by rw [HG0.out]; exact hbw.out
          obtain ⟨bq, oq, rfl, _, hq⟩ := (HYQ.out.keep hbw6).at (j := k) (by omega)
          have r1 := hq k (by omega)
          have HO := Lib.hid (oth_eq Q by_ k)
          have hqb := HQB.out k
          obtain ⟨y, hy⟩ : ∃ y, Q.getD k 0 = y := ⟨_, rfl⟩
          rw [hy] at r1 HO hqb
          have v1 : IntKind.i64.wrap (y + by_) = y + by_ := IntWalk.i64_in _ (by have := HBY.out; omega)
          clear hgp hq hz hy
          have hself := HG0.out
          rcases (show (8191 < y + by_ ∧ othF Q by_ k = 8191) ∨ (¬ 8191 < y + by_ ∧ y + by_ < -8191 ∧ othF Q by_ k = -8191) ∨ (¬ 8191 < y + by_ ∧ ¬ y + by_ < -8191 ∧ othF Q by_ k = y + by_) by rw [HO.out]; omega) with ⟨m1, ho⟩ | ⟨m1, m2, ho⟩ | ⟨m1, m2, ho⟩
          all_goals
            have HOV := Lib.hid ho
            have HNX := Lib.hid (hnext (.int .i64 (othF Q by_ k)))
            have HXN := Lib.hid (row_set hxs.out (.int .i64 (othF Q by_ k)))
            have HYN := Lib.hid (fill_step hS.out.1 hklt hys.out (v := othF Q by_ k) rfl)
            have HBN := Lib.hid (hbw.out.setCell (p := ⟨g0, k, none⟩) (Nat.le_refl _) (.int .i64 (othF Q by_ k)))
            obtain ⟨W8, hW8⟩ : ∃ z, wr.setCell ⟨g0, k, none⟩ (.int .i64 (othF Q by_ k)) = z := ⟨_, rfl⟩
            rw [hW8] at HNX HBN
            rw [HOV.out] at hW8
            have HW8 := Lib.hid hW8
            have hb8 : Below w6.heap.size w6 W8 := by rw [HG0.out]; exact HBN.out
            obtain ⟨b1, o1, rfl, _, h1⟩ := (HY1.out.keep hb8).at (j := k) (by omega)
            have r2 := h1 k (by omega)
            obtain ⟨b2, o2, rfl, _, h2⟩ := (HY2.out.keep hb8).at (j := k) (by omega)
            have r3 := h2 k (by omega)
            rw [HSAME.out k hklt] at r3
            obtain ⟨v, hv⟩ : ∃ v, L1.getD k 0 = v := ⟨_, rfl⟩
            rw [hv] at r2 r3
            clear ho hnext hS hxs hys hbw HO h1 h2 hv hb8 hbw6 hW8
            go_upto_region 17 with fail
            rw [HW8.out]
            go_quiet (fail)
            go_wp2_with fail
            exact ⟨⟨k + 1, _, by go_num, by omega, Lib.hid (HNX.out.drewN nq), HXN, HYN, Lib.hid (below_drewN HBN.out nq)⟩, by simp [intOf]; omega⟩
        · have hk256 : k = 256 := by omega
          subst hk256
          have hbw6 : Below w6.heap.size w6 wr := by rw [HG0.out]; exact hbw.out
          have hfill := fill_eq hS.out.1 hys.out
          have hS2 := hS.out
          rw [hfill] at hS2
          have hO : IsInts wr (some ⟨g0, 0, none⟩) (othL Q by_) := hS2.ints.ints
          have X9 := Lib.hid (X6.out.keep hbw6 X6.out.lt)
          have k9_0 := X9.out.cell 0
          have k9_1 := X9.out.cell 1
          have k9_2 := X9.out.cell 2
          have k9_3 := X9.out.cell 3
          simp only [infoC, List.getElem?_toArray, List.getElem?_cons_zero, List.getElem?_cons_succ] at k9_0 k9_1 k9_2 k9_3
          have HY1 := Lib.hid (HY1.out.keep hbw6)
          have HB9 := Lib.hid (HB6.out.trans (hbw6.mono HB6.out.size))
          have HL := Lib.hid (HLL.out (othL Q by_) (some ⟨g0, 0, none⟩) 256 wr HB9.out hO (oth_len _ _))
          rw [D4.out, oth_len] at HL
          clear hS hxs hys hbw hbw6 hfill hS2 hO X6 HB6 k6_0 k6_1 k6_2 k6_3 hklt HYQ HY2 HLL
          go_wp2_with fail
          refine (HL.out.mono (fun e w' h => h.row)).mono ?_
          rw [hL3l]
          rintro e wa ⟨p3, c3, rfl, hIa, hBa⟩
          have HY1 := Lib.hid (HY1.out.keep hBa)
          have HY3 := Lib.hid hIa
          have hb := HB9.out.trans (hBa.mono HB9.out.size)
          have HXI := Lib.hid (HXI.out.keep hb)
          have HE := Lib.hid (HB2.out.trans (hb.mono HB2.out.size))
          clear hIa hBa HL X9 HB9 k9_0 k9_1 k9_2 k9_3 hb
          go_wp2_with fail
          go_loopw [26] (fun I wq => ∃ k m : Nat, I = .int .i64 k ∧ k ≤ 256 ∧ wq = wa.drewN m) (fun I _ => 256 - (intOf I).toNat)
          case atStart => exact ⟨0, 0, rfl, Nat.zero_le _, rfl⟩
          case round =>
            obtain ⟨k, m, rfl, hk, rfl⟩ := hrel
            by_cases hklt : k < 256
            · have hd : decide ((k : Int) < 256) = true := decide_eq_true (by omega)
              have hXo := HXI.out.drewN m
              have h1o := HY1.out.drewN m
              have h3o := HY3.out.drewN m
              obtain ⟨wo, hwo⟩ : ∃ z, wa.drewN m = z := ⟨_, rfl⟩
              rw [hwo] at hXo h1o h3o ⊢
              have HWO := Lib.hid hwo
              obtain ⟨bx, ox, rfl, _, hx⟩ := hXo.at (j := k) (by omega)
              have r1 := hx k (by omega)
              obtain ⟨b1, o1, rfl, _, h1⟩ := h1o.at (j := k) (by omega)
              have r2 := h1 k (by omega)
              obtain ⟨b3, o3, rfl, _, h3⟩ := h3o.at (j := k) (by omega)
              have r3 := h3 k (by omega)
              have hnear := HNEAR.out k hklt
              have HF1 := Lib.hid (fun W => far_same (x.getD k 0) (L3.getD k 0) (HXB.out k) (H3B.out k) W)
              have HF2 := Lib.hid (fun W => far_same (x.getD k 0) (L1.getD k 0) (HXB.out k) (H1B.out k) W)
              obtain ⟨a, ha⟩ : ∃ v, x.getD k 0 = v := ⟨_, rfl⟩
              rw [ha] at r1 hnear HF1 HF2
              obtain ⟨b, hb⟩ : ∃ v, L1.getD k 0 = v := ⟨_, rfl⟩
              rw [hb] at r2 hnear HF2
              obtain ⟨c, hc⟩ : ∃ v, L3.getD k 0 = v := ⟨_, rfl⟩
              rw [hc] at r3 hnear HF1
              obtain ⟨f1, hf1⟩ : ∃ v, farI a c = v := ⟨_, rfl⟩
              rw [hf1] at hnear HF1
              obtain ⟨f2, hf2⟩ : ∃ v, farI a b = v := ⟨_, rfl⟩
              rw [hf2] at hnear HF2
              have e1 : decide (f1 < f2) = false := decide_eq_false (by omega)
              clear hx h1 h3 ha hb hc hf1 hf2 hXo h1o h3o hwo
              go_wp2_with fail
              have hkI : (k : Int) < 256 := by omega
              go_quiet ((go_at_call 18; first | (with_reducible exact Calls.quiet_of_same (HF1.out _)) | (with_reducible exact Calls.quiet_of_same (HF2.out _))))
              go_wp2_with fail
              exact ⟨⟨k + 1, m + nq, by go_num, by omega, by rw [← HWO.out, World.drewN_drewN]⟩, by simp [intOf]; omega⟩
            · have hd : decide ((k : Int) < 256) = false := decide_eq_false (by omega)
              go_wp2
              go_ret
              exact ⟨rfl, below_drewN HE.out _⟩
    · rw [quantR_bad hE] at HQX
      obtain ⟨E, hEE⟩ : ∃ e, readyQ 268435455 rate seq shape max G Bk St x = e := ⟨_, rfl⟩
      rw [hEE] at hE HQX
      have f1 : (E != 0) = true := by simp [hE]
      clear hE hEE
      go_wp2_with fail
      refine (HQX.out.mono (fun e w' h => h.row)).mono ?_
      rintro e w3 ⟨p3, d3, rfl, hI3, hB3⟩
      have HB3 := Lib.hid (HB2.out.trans (hB3.mono HB2.out.size))
      clear hI3 hB3 HQX X2
      go_wp2
      go_ret
      exact ⟨rfl, HB3.out⟩
  · clear hgr
    go_wp2
    go_ret
    exact ⟨rfl, HB2.out⟩
end Go.Proofs.Ytppfbfiigfjncaa
