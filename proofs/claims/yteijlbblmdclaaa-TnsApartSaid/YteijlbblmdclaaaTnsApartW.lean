/- TnsApart: the walk. -/
import Derived.Test.YteijlbblmdclaaaTnsBackW
import Derived.Test.YteijlbblmdclaaaTnsApartP
import Derived.Test.YteijlbblmdclaaaMakeBank
import Derived.Deep.CutRange
set_option linter.unusedVariables false
set_option linter.unusedSimpArgs false
namespace Go.Proofs.Yteijlbblmdclaaa
open Go.ChangeShapes Go.WideShapes Go.ChangeAt Go.RowKit
theorem offsets_any (rate : Int) (short : Bool) (w : World) : Calls Try.prog 15 #[.int .i64 rate, .bool short] w fun e w' => ∃ p n c v, e = .returned (.tuple #[.slice p n c, .int .i64 v]) ∧ Below w.heap.size w w' := by
  by_cases h : rate < 0 ∨ 11 < rate
  · exact (offsets_bad rate short h w).mono (fun e w' h => ⟨none, 0, 0, 2, h.1, by rw [← h.2]; exact Below.refl _ _⟩)
  · exact (offsets_row rate short (by omega) (by omega) w).mono (fun e w' ⟨g, c, h, _, hb, _⟩ => ⟨_, _, _, _, h, hb⟩)
set_option maxRecDepth 100000 in
set_option maxHeartbeats 8000000 in
theorem tns_apart (rate seq shape max : Int) (G : List Int) (pg q px : Option Addr) (cg cB cx : Nat) (B : List BV) (x : List Int) (window : Int) (w : World) (H0 : TnsArg w G pg B q x px) :
    Calls Try.prog 4 #[.int .i64 rate, .agg (infC seq shape max pg G.length cg), .slice q B.length cB, .slice px x.length cx, .int .i64 window] w fun e w' => e = .returned (.bool true) ∧ Below w.heap.size w w' := by
  have hb0 : Below w.heap.size w (w.alloc (.cells (infC seq shape max pg G.length cg) 33)) := (Below.refl _ w).alloc (Nat.le_refl _) _
  have X0 := Lib.hid (CellsAt.new w 33 (infC seq shape max pg G.length cg) rfl)
  have HH := Lib.hid H0
  have HB0 := Lib.hid hb0
  clear hb0 H0
  go_enter Try.func4, Try.ntmps4
  go_wp2_with fail
  refine (alive_ok _).mono ?_
  rintro e w1 ⟨rfl, hB⟩
  have HB1 := Lib.hid (HB0.out.trans (hB.mono HB0.out.size))
  have X1 := Lib.hid (X0.out.keep hB X0.out.lt)
  have k1_0 := X1.out.cell 0
  have k1_1 := X1.out.cell 1
  have k1_2 := X1.out.cell 2
  have k1_3 := X1.out.cell 3
  simp only [List.getElem?_toArray, List.getElem?_cons_zero, List.getElem?_cons_succ] at k1_0 k1_1 k1_2 k1_3
  clear hB HB0 X0
  go_wp2_with fail
  refine (tns_great seq shape max G pg q px cg cB cx B x w1 (HH.out.keep HB1.out).b).mono ?_
  rintro e w2 ⟨b, rfl, hgr, hB⟩
  have HB2 := Lib.hid (HB1.out.trans (hB.mono HB1.out.size))
  have X2 := Lib.hid (X1.out.keep hB X1.out.lt)
  have k2_0 := X2.out.cell 0
  have k2_1 := X2.out.cell 1
  have k2_2 := X2.out.cell 2
  have k2_3 := X2.out.cell 3
  simp only [List.getElem?_toArray, List.getElem?_cons_zero, List.getElem?_cons_succ] at k2_0 k2_1 k2_2 k2_3
  clear k1_0 k1_1 k1_2 k1_3
  clear hB HB1 X1
  cases b
  · have HI := Lib.hid ((HH.out.keep HB2.out).tns (hgr rfl))
    clear hgr
    have HF := Lib.hid (fun (W : World) (h : Below w2.heap.size w2 W) => tns_forward rate seq shape max G pg q px cg cB cx B x W (HI.out.keep h))
    by_cases hE : readyE rate seq shape max G B x = 0
    · have hg := tns_good hE
      have hr1 : tnsR 1 rate seq shape max G B x = (allL 1 (bandL rate (seq == 2)) max.toNat B x, 0) := by unfold tnsR; rw [hE, if_pos rfl]
      rw [hr1] at HF
      have hYl := allL_len (sg := 1) (offs := bandL rate (seq == 2)) (mx := max.toNat) (B := B) hg.xl
      have HRG := Lib.hid (good_regs hg)
      have HAR := Lib.hid (fun W (hW : W < B.length) => alone_ready hE hW)
      have HOF := Lib.hid (fun W => offsets_row rate (seq == 2) hg.r0 hg.r1 W)
      have hol : (bandL rate (seq == 2)).length ≤ 41 := Nat.le_trans (band_len rate (seq == 2) hg.r0 hg.r1).2.1 (by split <;> omega)
      have hm1 := hg.m1
      have H63 := Lib.hid (fun j (hj : j < B.length) i (hi : i < (B.getD j default).fs.length) => (filt_len (hg.fE j hj i hi)).2)
      have HF3 := Lib.hid (fun j (hj : j < B.length) => hg.f3 j hj)
      have HXL := Lib.hid hg.xl
      have HXB := Lib.hid hg.xb
      have HSQ := Lib.hid (show B.length = 8 ∧ (seq == 2) = true ∨ B.length = 1 ∧ (seq == 2) = false by
        have := hg.bl
        unfold winN at this
        by_cases hs : seq = 2
        · rw [if_pos hs] at this; left; simp [hs, this]
        · rw [if_neg hs] at this; right; simp [hs, this])
      obtain ⟨mx, rfl⟩ : ∃ m : Nat, max = m := ⟨max.toNat, by have := hg.m0; omega⟩
      rw [Int.toNat_natCast] at hYl HRG hm1 HF
      obtain ⟨offs, hofs⟩ : ∃ l, bandL rate (seq == 2) = l := ⟨_, rfl⟩
      rw [hofs] at hYl HRG hm1 HF HOF hol
      have HOFE := Lib.hid hofs
      obtain ⟨Y, hY⟩ : ∃ l, allL 1 offs mx B x = l := ⟨_, rfl⟩
      rw [hY] at hYl HF
      have HYE := Lib.hid hY
      have HLY := Lib.hid hYl
      clear hg hr1 hE hofs hY hYl
      go_wp2_with fail
      refine ((HF.out _ (Below.refl _ _)).mono (fun e w' h => h.row HLY.out)).mono ?_
      rintro e w3 ⟨g3, d3, rfl, hI3, hB3, hg3, _⟩
      have X3 := Lib.hid (X2.out.keep hB3 X2.out.lt)
      have k3_0 := X3.out.cell 0
      have k3_1 := X3.out.cell 1
      have k3_2 := X3.out.cell 2
      have k3_3 := X3.out.cell 3
      simp only [List.getElem?_toArray, List.getElem?_cons_zero, List.getElem?_cons_succ] at k3_0 k3_1 k3_2 k3_3
      clear k2_0 k2_1 k2_2 k2_3
      have HY3 := Lib.hid hI3
      have HB3 := Lib.hid hB3
      have hz3 := hB3.size
      clear hI3 hB3 HF X2
      go_wp2_with fail
      refine (HOF.out _).mono ?_
      rintro e w4 ⟨gf, cf4, rfl, hI4, hB4, _⟩
      have X4 := Lib.hid (X3.out.keep hB4 X3.out.lt)
      have k4_0 := X4.out.cell 0
      have k4_1 := X4.out.cell 1
      have k4_2 := X4.out.cell 2
      have k4_3 := X4.out.cell 3
      simp only [List.getElem?_toArray, List.getElem?_cons_zero, List.getElem?_cons_succ] at k4_0 k4_1 k4_2 k4_3
      clear k3_0 k3_1 k3_2 k3_3
      have HY4 := Lib.hid (HY3.out.keep hB4)
      have HO4 := Lib.hid hI4
      have HB4 := Lib.hid (HB3.out.trans (hB4.mono hz3))
      have hz4 := HB4.out.size
      have HE4 := Lib.hid (HB2.out.trans (HB4.out.mono HB2.out.size))
      clear hI4 hB4 HOF X3 HY3 HB3 hz3
      by_cases c1 : window < 0
      · have e1 : decide (window < 0) = true := decide_eq_true c1
        go_wp2
        go_ret
        exact ⟨rfl, HE4.out⟩
      have e1 : decide (window < 0) = false := decide_eq_false c1
      by_cases c2 : (B.length : Int) ≤ window
      · have e2 : decide (window ≥ (B.length : Int)) = true := decide_eq_true c2
        go_wp2
        go_ret
        exact ⟨rfl, HE4.out⟩
      have e2 : decide (window ≥ (B.length : Int)) = false := decide_eq_false c2
      obtain ⟨W0, rfl⟩ : ∃ m : Nat, window = m := ⟨window.toNat, by omega⟩
      have hW0 : W0 < B.length := by omega
      clear c1 c2
      have e3 : decide ((mx : Int) ≥ (offs.length : Int)) = false := decide_eq_false (by omega)
      have hbk := (HI.out.keep HB4.out).b
      obtain ⟨bq, oq, rfl, hbq, hcell⟩ := hbk.at hW0
      have r1 := hcell W0 hW0
      have hfl := (hbk.2 W0 hW0).1
      have HLP := Lib.hid (HRG.out.p W0 hW0)
      have HLU := Lib.hid (H63.out W0 hW0)
      have hfs3 := HF3.out W0 hW0
      obtain ⟨bv, hbv⟩ : ∃ v, B.getD W0 default = v := ⟨_, rfl⟩
      have HBV := Lib.hid hbv
      rw [hbv] at r1 hfl HLP HLU hfs3
      obtain ⟨qf, cf, fs⟩ := bv
      dsimp only at r1 hfl HLP HLU hfs3
      have HFL := Lib.hid hfl
      have HBK := Lib.hid hbk
      have HW0 := Lib.hid hW0
      clear hcell hbv hfl hbk
      go_wp2_with fail
      clear e1 e2 e3
      go_loop [16, 17] (fun T K => ∃ k : Nat, K = .int .i64 k ∧ k ≤ fs.length ∧ T = .int .i64 (topP mx fs k : Nat)) (fun _ K => fs.length - (intOf K).toNat)
      case atStart => exact ⟨0, rfl, Nat.zero_le _, rfl⟩
      case round =>
        obtain ⟨k, rfl, hk, rfl⟩ := hrel
        by_cases hlt : k < fs.length
        · have hd : decide ((k : Int) < (fs.length : Int)) = true := decide_eq_true (by omega)
          obtain ⟨bf, of_, rfl, _, hcf⟩ := HFL.out.at hlt
          have z0 := (hcf k hlt).1
          have hp := HLP.out k hlt
          have hp2 := HLU.out k hlt
          have hs : topP mx fs (k + 1) = botN (topP mx fs k) (fs.getD k default) := rfl
          unfold botN at hs
          have HS := Lib.hid hs
          have ht := topP_le mx fs HLP.out k (by omega)
          clear hcf hs
          generalize (fs.getD k default).len = flen at z0 hp hp2 HS
          obtain ⟨T, hT⟩ : ∃ t, topP mx fs k = t := ⟨_, rfl⟩
          rw [hT] at HS ht ⊢
          clear hT
          have v0 : IntKind.i64.wrap ((T : Int) - flen) = (T : Int) - flen := IntWalk.i64_in _ (by omega)
          go_wp2
          all_goals
            go_round
            case rel => exact ⟨k + 1, by go_num, hlt, by rw [HS.out]; exact congrArg _ (by omega)⟩
            case measure => simp [intOf]; omega
        · have hkM : k = fs.length := by omega
          subst hkM
          have hd : decide ((fs.length : Int) < (fs.length : Int)) = false := decide_eq_false (by omega)
          obtain ⟨many, hmany, hm0, hm1, hm2⟩ : ∃ m : Nat, (256 : Int) / (B.length : Int) = (m : Int) ∧ W0 * m = 32 * W0 ∧ (m ≤ 32 ∨ B.length = 1) ∧ 32 * W0 + m ≤ 256 := by
            rcases HSQ.out with ⟨h, _⟩ | ⟨h, _⟩
            · exact ⟨32, by rw [h]; decide, by omega, by omega, by omega⟩
            · exact ⟨256, by rw [h]; decide, by omega, by omega, by omega⟩
          have HM := Lib.hid (And.intro hm0 (And.intro hm1 hm2))
          have HMY := Lib.hid hmany
          obtain ⟨bot, hbot⟩ : ∃ t, topP mx fs fs.length = t := ⟨_, rfl⟩
          have hbl : bot ≤ mx := by rw [← hbot]; exact topP_le mx fs HLP.out _ (Nat.le_refl _)
          have HBT := Lib.hid hbot
          rw [hbot]
          have HOUT := Lib.hid (fun (n : Nat) (hn : n < many) (h : (n : Int) < offs.getD bot 0 ∨ offs.getD mx 0 ≤ n) => show Y.getD (32 * W0 + n) 0 = x.getD (32 * W0 + n) 0 by
            rw [← HYE.out]
            refine runS_out 1 (by omega) _ x (out_lines HRG.out HW0.out hm1 hn ?_)
            rw [HBV.out]
            show _ < offs.getD (topP mx fs fs.length) 0 ∨ _
            rw [hbot]
            exact h)
          have hx4 := (HI.out.keep HB4.out).lx
          obtain ⟨bx, ox, rfl, _, hxc⟩ := hx4.at (j := 0) (by rw [HXL.out]; omega)
          obtain ⟨by_, oy, hpy, _, hyc⟩ := HY4.out.at (j := 0) (by rw [HLY.out]; omega)
          obtain ⟨rfl, rfl⟩ : g3 = by_ ∧ 0 = oy := by simpa using hpy
          obtain ⟨bo, oo, hpo, _, hoc⟩ := HO4.out.at (j := 0) (by omega)
          obtain ⟨rfl, rfl⟩ : gf = bo ∧ 0 = oo := by simpa using hpo
          have HXC := Lib.hid hxc
          have HYC := Lib.hid hyc
          have s1 := hoc bot (by omega)
          have s2 := hoc mx (by omega)
          rw [Nat.zero_add] at s1 s2
          obtain ⟨ob, hob⟩ : ∃ v, offs.getD bot 0 = v := ⟨_, rfl⟩
          obtain ⟨om, hom⟩ : ∃ v, offs.getD mx 0 = v := ⟨_, rfl⟩
          rw [hob] at s1 HOUT
          rw [hom] at s2 HOUT
          clear hm0 hm1 hm2 hbot hx4 hxc hyc hpy hpo hoc hob hom
          rw [HXL.out]
          go_wp2_with fail
          go_loopw [19] (fun K wr => ∃ n m : Nat, K = .int .i64 n ∧ n ≤ many ∧ wr = w4.drewN m) (fun K _ => many - (intOf K).toNat)
          case atStart => exact ⟨0, 0, rfl, Nat.zero_le _, rfl⟩
          case round =>
            obtain ⟨n, m, rfl, hn, rfl⟩ := hrel
            obtain ⟨hq0, hq1, hq2⟩ := HM.out
            by_cases hlt2 : n < many
            · have hd2 : decide ((n : Int) < (many : Int)) = true := decide_eq_true (by omega)
              have y1 := HYC.out (32 * W0 + n) (by rw [HLY.out]; omega)
              have x1 := HXC.out (32 * W0 + n) (by rw [HXL.out]; omega)
              have heq := HOUT.out n hlt2
              rw [Nat.zero_add] at y1
              have v1 : IntKind.i64.wrap ((W0 : Int) * (many : Int)) = 32 * (W0 : Int) := by
                have : (W0 : Int) * (many : Int) = ((W0 * many : Nat) : Int) := by push_cast; rfl
                rw [this, hq0, IntWalk.i64_in _ (by omega)]; omega
              have v2 : IntKind.i64.wrap (32 * (W0 : Int) + (n : Int)) = ((32 * W0 + n : Nat) : Int) := by rw [IntWalk.i64_in _ (by omega)]; omega
              obtain ⟨p, hp⟩ : ∃ p, 32 * W0 + n = p := ⟨_, rfl⟩
              rw [hp] at y1 x1 heq v2
              have hp256 : p < 256 := by omega
              by_cases d1 : (n : Int) < ob
              · have f1 : decide ((n : Int) < ob) = true := decide_eq_true d1
                rw [heq (.inl d1)] at y1
                generalize x.getD p 0 = xv at y1 x1
                clear heq hp d1
                go_wp2
                go_quiet (fail)
                go_wp2
                go_round
                case rel => exact ⟨n + 1, _, by go_num, hlt2, rfl⟩
                case measure => simp [intOf]; omega
              have f1 : decide ((n : Int) < ob) = false := decide_eq_false d1
              by_cases d2 : om ≤ (n : Int)
              · have f2 : decide ((n : Int) ≥ om) = true := decide_eq_true d2
                rw [heq (.inr d2)] at y1
                generalize x.getD p 0 = xv at y1 x1
                clear heq hp d1 d2
                go_wp2
                go_quiet (fail)
                go_wp2
                go_round
                case rel => exact ⟨n + 1, _, by go_num, hlt2, rfl⟩
                case measure => simp [intOf]; omega
              · have f2 : decide ((n : Int) ≥ om) = false := decide_eq_false d2
                clear heq hp d1 d2 y1 x1
                go_wp2
                go_quiet (fail)
                go_wp2
                go_round
                case rel => exact ⟨n + 1, _, by go_num, hlt2, rfl⟩
                case measure => simp [intOf]; omega
            · have hd2 : decide ((n : Int) < (many : Int)) = false := decide_eq_false (by omega)
              have hb8 : B.length ≤ 4096 := by rcases HSQ.out with ⟨h, _⟩ | ⟨h, _⟩ <;> omega
              clear hd
              go_wp2_with (at_make; refine make_bank rfl _ _ rfl B.length hb8 rfl rfl ?_)
              intro w6 hlt6 hO6 hB6
              have S6 := hO6.stored W0 (.slice qf fs.length cf)
              have f6 := hO6.frozenAt W0
              have f6 : w6.frozen? ⟨w4.heap.size, W0, none⟩ = false := f6
              have k6 : w6.cell? ⟨w4.heap.size, W0, none⟩ = some (.slice none 0 0) := (hO6.cellAt W0 (by omega)).trans (by rw [List.getElem?_replicate, if_pos HW0.out])
              have r6 := (hB6.cell (p := ⟨bq, oq + W0, none⟩) hbq).trans r1
              have HS6 := Lib.hid S6
              have HB6 := Lib.hid hB6
              clear S6 hO6 hB6
              go_upto_region 23 with fail
              obtain ⟨w7, hw7⟩ : ∃ W, w6.setCell ⟨w4.heap.size, W0, none⟩ (.slice qf fs.length cf) = W := ⟨_, rfl⟩
              have hb47 : Below w4.heap.size w4 w7 := by
                rw [← hw7]
                exact ((below_drewN (Below.refl w4.heap.size w4) m).trans HB6.out).setCell (p := ⟨w4.heap.size, W0, none⟩) (Nat.le_refl _) _
              have HO7 := Lib.hid (show w7.ownsRow w4.heap.size 39 1 (.slice (some ⟨w4.heap.size, 0, none⟩) B.length B.length) B.length ((List.replicate B.length (.slice none 0 0)).set W0 (.slice qf fs.length cf)) from by rw [← hw7]; exact HS6.out.1)
              rw [hw7]
              have hb27 := HB4.out.trans (hb47.mono HB4.out.size)
              have HI7 := HI.out.keep hb27
              have hbk7 := HI7.b.2 W0 HW0.out
              rw [HBV.out] at hbk7
              have HBA := alone_bank HW0.out HBV.out HO7.out hbk7.1 hbk7.2
              have hE0 : tnsR 1 rate seq shape mx G (aloneB B W0) x = (allL 1 offs mx (aloneB B W0) x, 0) := by unfold tnsR; rw [HAR.out W0 HW0.out, if_pos rfl, HOFE.out, Int.toNat_natCast]
              have hZl := allL_len (sg := 1) (offs := offs) (mx := mx) (B := aloneB B W0) HXL.out
              have hMV : B.length = 8 ∧ many = 32 ∨ B.length = 1 ∧ many = 256 := by
                have h := HMY.out
                rcases HSQ.out with ⟨h8, _⟩ | ⟨h8, _⟩
                · rw [h8] at h; left; refine ⟨h8, ?_⟩; have : (256 : Int) / ((8 : Nat) : Int) = 32 := by decide
                  omega
                · rw [h8] at h; right; refine ⟨h8, ?_⟩; have : (256 : Int) / ((1 : Nat) : Int) = 256 := by decide
                  omega
              have hQ : ∀ n : Nat, n < 256 → ∃ q : Nat, (n : Int) / (many : Int) = (q : Int) ∧ (q = W0 → (allL 1 offs mx (aloneB B W0) x).getD n 0 = Y.getD n 0) ∧ (q ≠ W0 → (allL 1 offs mx (aloneB B W0) x).getD n 0 = x.getD n 0) := by
                intro n hn9
                rcases hMV with ⟨h8, rfl⟩ | ⟨h8, rfl⟩
                · refine ⟨n / 32, by omega, fun h => ?_, fun h => ?_⟩
                  · rw [← HYE.out]; exact alone_in HRG.out HW0.out x hn9 (.inr (by omega))
                  · exact alone_out HRG.out HW0.out x hn9 (by omega) (by omega)
                · have := HW0.out
                  refine ⟨0, by omega, fun h => ?_, fun h => by omega⟩
                  rw [← HYE.out]; exact alone_in HRG.out HW0.out x hn9 (.inl h8)
              have HQ := Lib.hid hQ
              have hm0 : 0 < many := by rcases hMV with ⟨_, h⟩ | ⟨_, h⟩ <;> omega
              have HZ := tns_forward rate seq shape mx G pg (some ⟨w4.heap.size, 0, none⟩) _ cg B.length cx (aloneB B W0) x w7 ⟨HI7.g, HI7.gl, HBA, alone_nil HW0.out HI7.nil, HI7.lx, HI7.xl, by rw [alone_len]; exact HI7.bl⟩
              rw [hE0, alone_len, HXL.out] at HZ
              obtain ⟨Z, hZ⟩ : ∃ l, allL 1 offs mx (aloneB B W0) x = l := ⟨_, rfl⟩
              rw [hZ] at HZ HQ hZl
              have HZ := Lib.hid (HZ.mono (fun e w' h => h.row hZl))
              have HZL := Lib.hid hZl
              have X7 := Lib.hid (X4.out.keep hb47 X4.out.lt)
              have k7_0 := X7.out.cell 0
              have k7_1 := X7.out.cell 1
              have k7_2 := X7.out.cell 2
              have k7_3 := X7.out.cell 3
              simp only [List.getElem?_toArray, List.getElem?_cons_zero, List.getElem?_cons_succ] at k7_0 k7_1 k7_2 k7_3
              clear k4_0 k4_1 k4_2 k4_3
              have HY7 := Lib.hid (HY4.out.keep hb47)
              have HX7 := Lib.hid HI7.lx
              have HE7 := Lib.hid (HE4.out.trans (hb47.mono HE4.out.size))
              clear hE0 hMV hQ hZ hZl HBA hbk7 HI7 hb27 hw7 hb47 k6 f6 r6 HS6 HB6 HO7 X4 HY4 HE4 hlt6
              go_wp2_with fail
              refine HZ.out.mono ?_
              rintro e w8 ⟨g8, d8, rfl, hI8, hB8, _⟩
              have HZ8 := Lib.hid hI8
              have HY8 := Lib.hid (HY7.out.keep hB8)
              have HX8 := Lib.hid (HX7.out.keep hB8)
              have HE8 := Lib.hid (HE7.out.trans (hB8.mono HE7.out.size))
              clear hI8 hB8 HZ X7 HY7 HX7 HE7 k7_0 k7_1 k7_2 k7_3
              go_wp2_with fail
              go_loopw [23] (fun K wr => ∃ n m : Nat, K = .int .i64 n ∧ n ≤ 256 ∧ wr = w8.drewN m) (fun K _ => 256 - (intOf K).toNat)
              case atStart => exact ⟨0, 0, rfl, Nat.zero_le _, rfl⟩
              case round =>
                obtain ⟨n, m, rfl, hn, rfl⟩ := hrel
                by_cases hlt3 : n < 256
                · have hd3 : decide ((n : Int) < 256) = true := decide_eq_true (by omega)
                  obtain ⟨q, hq, hq1, hq2⟩ := HQ.out n hlt3
                  obtain ⟨by8, oy8, hpy, _, hyc⟩ := HY8.out.at (j := 0) (by rw [HLY.out]; omega)
                  obtain ⟨bx8, ox8, hpx, _, hxc⟩ := HX8.out.at (j := 0) (by rw [HXL.out]; omega)
                  obtain ⟨bz8, oz8, hpz, _, hzc⟩ := HZ8.out.at (j := 0) (by rw [HZL.out]; omega)
                  obtain ⟨rfl, rfl⟩ : g3 = by8 ∧ 0 = oy8 := by simpa using hpy
                  obtain ⟨rfl, rfl⟩ : bx = bx8 ∧ ox = ox8 := by simpa using hpx
                  obtain ⟨rfl, rfl⟩ : g8 = bz8 ∧ 0 = oz8 := by simpa using hpz
                  have y1 := hyc n (by rw [HLY.out]; omega)
                  have x1 := hxc n (by rw [HXL.out]; omega)
                  have z1 := hzc n (by rw [HZL.out]; omega)
                  rw [Nat.zero_add] at y1 z1
                  have hnI : (n : Int) < 256 := by omega
                  have hmI : ((many : Int) == 0) = false := by simp; omega
                  have hmN : ¬ ((many : Int) = 0) := by omega
                  have hmN2 : ¬ (many = 0) := by omega
                  have hmT : (n : Int).tdiv (many : Int) = (q : Int) := by rw [Int.tdiv_eq_ediv_of_nonneg (by omega)]; exact hq
                  have hqs := HW0.out
                  have hq256 : q ≤ 256 := by
                    have := IntWalk.tdiv_le (n : Int) (many : Int) (by omega) (by omega)
                    omega
                  have hmW : IntKind.i64.wrap (q : Int) = (q : Int) := IntWalk.i64_in _ (by omega)
                  have hmW2 : IntKind.i64.wrap ((n : Int).tdiv (many : Int)) = (q : Int) := by rw [hmT]; exact hmW
                  clear hyc hxc hzc hpy hpx hpz
                  by_cases hw : q = W0
                  · rw [hq1 hw] at z1
                    have g1 : ((q : Int) == (W0 : Int)) = true := by simp [hw]
                    have g2 : ((q : Int) != (W0 : Int)) = false := by simp [hw]
                    generalize Y.getD n 0 = yv at y1 z1
                    generalize x.getD n 0 = xv at x1
                    clear hq1 hq2 hw
                    go_wp2
                    go_quiet (fail)
                    go_wp2
                    go_round
                    case rel => exact ⟨n + 1, _, by go_num, hlt3, rfl⟩
                    case measure => simp [intOf]; omega
                  · rw [hq2 hw] at z1
                    have g1 : ((q : Int) == (W0 : Int)) = false := by simp; omega
                    have g2 : ((q : Int) != (W0 : Int)) = true := by simp; omega
                    generalize Y.getD n 0 = yv at y1
                    generalize x.getD n 0 = xv at x1 z1
                    clear hq1 hq2 hw
                    go_wp2
                    go_quiet (fail)
                    go_wp2
                    go_round
                    case rel => exact ⟨n + 1, _, by go_num, hlt3, rfl⟩
                    case measure => simp [intOf]; omega
                · have hd3 : decide ((n : Int) < 256) = false := decide_eq_false (by omega)
                  go_wp2
                  go_ret
                  exact ⟨rfl, below_drewN HE8.out m⟩
    · have hr1 : tnsR 1 rate seq shape max G B x = ([], readyE rate seq shape max G B x) := by unfold tnsR; rw [if_neg hE]
      rw [hr1] at HF
      generalize readyE rate seq shape max G B x = ec at *
      have e1 : (ec != 0) = true := by simpa using hE
      unfold RAll at HF
      clear hr1 hE HI HH
      go_wp2_with fail
      refine (HF.out _ (Below.refl _ _)).mono ?_
      rintro e w3 ⟨p3, d3, _, _, rfl, _, _, hB3⟩
      have X3 := Lib.hid (X2.out.keep hB3 X2.out.lt)
      have k3_0 := X3.out.cell 0
      have k3_1 := X3.out.cell 1
      have k3_2 := X3.out.cell 2
      have k3_3 := X3.out.cell 3
      simp only [List.getElem?_toArray, List.getElem?_cons_zero, List.getElem?_cons_succ] at k3_0 k3_1 k3_2 k3_3
      clear k2_0 k2_1 k2_2 k2_3
      have HB3 := Lib.hid (HB2.out.trans (hB3.mono HB2.out.size))
      clear hB3 HF X2 HB2
      go_wp2_with fail
      refine (offsets_any rate (seq == 2) _).mono ?_
      rintro e w4 ⟨p4, n4, c4, v4, rfl, hB4⟩
      have HB4 := Lib.hid (HB3.out.trans (hB4.mono HB3.out.size))
      clear hB4 HB3 X3
      go_wp2
      go_ret
      exact ⟨rfl, HB4.out⟩
  · clear hgr
    go_wp2
    go_ret
    exact ⟨rfl, HB2.out⟩
end Go.Proofs.Yteijlbblmdclaaa
