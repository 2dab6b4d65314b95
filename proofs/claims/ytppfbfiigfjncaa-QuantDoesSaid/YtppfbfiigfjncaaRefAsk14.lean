/- reedpiperef14.asked: what a call answers. -/
import Derived.Test.YtppfbfiigfjncaaQuantReady
import Derived.Test.YtppfbfiigfjncaaRefSome
import Derived.Deep.QuietTactic
set_option linter.unusedVariables false
set_option linter.unusedSimpArgs false
namespace Go.Proofs.Ytppfbfiigfjncaa
open Go.ChangeShapes Go.WideShapes Go.ChangeAt Go.RowKit
section
variable {most rate seq shape max : Int} {G : List Int} {Bk St : List RV} {x : List Int}
theorem qa_info (h : infoE rate seq shape max G ≠ 0) : readyQ most rate seq shape max G Bk St x = infoE rate seq shape max G := by unfold readyQ; rw [if_pos h]
theorem qa_many (h : infoE rate seq shape max G = 0) (h2 : manyB max G Bk St = true) : readyQ most rate seq shape max G Bk St x = 4 := by
  unfold readyQ; rw [if_neg (by simp [h]), if_pos h2]
theorem qa_bad (h : infoE rate seq shape max G = 0) (h2 : manyB max G Bk St = false) (h3 : badG Bk St = true) : readyQ most rate seq shape max G Bk St x = 2 := by
  unfold readyQ; rw [if_neg (by simp [h]), if_neg (by simp [h2]), if_pos h3]
theorem qa_len (h : infoE rate seq shape max G = 0) (h2 : manyB max G Bk St = false) (h3 : badG Bk St = false) (h4 : x.length ≠ 256) : readyQ most rate seq shape max G Bk St x = 4 := by
  unfold readyQ; rw [if_neg (by simp [h]), if_neg (by simp [h2]), if_neg (by simp [h3]), if_pos h4]
theorem qa_far (h : infoE rate seq shape max G = 0) (h2 : manyB max G Bk St = false) (h3 : badG Bk St = false) (h4 : x.length = 256) {j : Nat} (hj : j < 256) (h5 : x.getD j 0 < -most ∨ most < x.getD j 0) : readyQ most rate seq shape max G Bk St x = 2 := by
  unfold readyQ
  rw [if_neg (by simp [h]), if_neg (by simp [h2]), if_neg (by simp [h3]), if_neg (by simp [h4]), if_pos]
  rw [List.any_eq_true]
  refine ⟨x.getD j 0, by rw [List.getD_eq_getElem?_getD, List.getElem?_eq_getElem (by omega)]; exact List.getElem_mem (by omega), ?_⟩
  unfold farB
  rcases h5 with h5 | h5
  · rw [decide_eq_true h5]; rfl
  · rw [decide_eq_true h5, Bool.or_true]
theorem qa_fine (h : infoE rate seq shape max G = 0) (h2 : manyB max G Bk St = false) (h3 : badG Bk St = false) (h4 : x.length = 256) (h5 : ∀ j, j < 256 → -most ≤ x.getD j 0 ∧ x.getD j 0 ≤ most) : readyQ most rate seq shape max G Bk St x = 0 := by
  unfold readyQ
  rw [if_neg (by simp [h]), if_neg (by simp [h2]), if_neg (by simp [h3]), if_neg (by simp [h4]), if_neg]
  rw [far_none' (fun j hj => h5 j (by omega))]; simp
theorem many_a (h : Bk.length ≠ G.length) : manyB max G Bk St = true := by unfold manyB; simp [h]
theorem many_b (h : St.length ≠ G.length) : manyB max G Bk St = true := by unfold manyB; simp [h]
theorem any_row_short {R : List RV} {g : Nat} (hg : g < R.length) (h : ((R.getD g default).l.length : Int) ≠ max) : R.any (shortB max) = true := by
  rw [List.any_eq_true]
  refine ⟨R.getD g default, by rw [List.getD_eq_getElem?_getD, List.getElem?_eq_getElem hg]; exact List.getElem_mem hg, ?_⟩
  unfold shortB
  rw [decide_eq_false h]; rfl
theorem many_c {g : Nat} (hg : g < Bk.length) (h : ((Bk.getD g default).l.length : Int) ≠ max) : manyB max G Bk St = true := by
  unfold manyB; rw [any_row_short hg h]; simp
theorem many_d {g : Nat} (hg : g < St.length) (h : ((St.getD g default).l.length : Int) ≠ max) : manyB max G Bk St = true := by
  unfold manyB; rw [any_row_short hg h]; simp
theorem many_none (h1 : Bk.length = G.length) (h2 : St.length = G.length) (h3 : ∀ g, g < G.length → ((Bk.getD g default).l.length : Int) = max ∧ ((St.getD g default).l.length : Int) = max) : manyB max G Bk St = false := by
  unfold manyB
  rw [any_row' (fun g hg => (h3 g (by omega)).1), any_row' (fun g hg => (h3 g (by omega)).2)]
  simp [h1, h2]
end
set_option maxRecDepth 100000 in
set_option maxHeartbeats 8000000 in
theorem ref_ask (most rate seq shape max : Int) (hm0 : 0 ≤ most) (hm1 : most ≤ 4611686018427387904) (G : List Int) (pg qb qs px : Option Addr) (cg cb cs cx : Nat) (Bk St : List RV) (x : List Int) (w : World)
    (hG : IsInts w pg G) (hGl : G.length ≤ 100) (hB : IsRows w qb Bk) (hBl : Bk.length ≤ 100) (hS : IsRows w qs St) (hSl : St.length ≤ 100) (hX : IsInts w px x) (hxl : x.length ≤ 1000) :
    Calls Try.prog 26 #[.int .i64 rate, .agg (infoC seq shape max pg G.length cg), .slice qb Bk.length cb, .slice qs St.length cs, .slice px x.length cx, .int .i64 most] w (RE (readyQ most rate seq shape max G Bk St x) w) := by
  have hb0 : Below w.heap.size w (w.alloc (.cells (infoC seq shape max pg G.length cg) 27)) := (Below.refl _ w).alloc (Nat.le_refl _) _
  have X0 := Lib.hid (CellsAt.new w 27 (infoC seq shape max pg G.length cg) rfl)
  have HC := Lib.hid (fun (W : World) (h : Below w.heap.size w W) => refi_check rate seq shape max G pg cg W (hG.keep h) hGl)
  have HBK := Lib.hid hB
  have HST := Lib.hid hS
  have HXI := Lib.hid hX
  have HB0 := Lib.hid hb0
  unfold RE at HC ⊢
  obtain ⟨rc, hrc⟩ : ∃ r, readyQ most rate seq shape max G Bk St x = r := ⟨_, rfl⟩
  rw [hrc]
  have HRC := Lib.hid hrc
  obtain ⟨ic, hic⟩ : ∃ c, infoE rate seq shape max G = c := ⟨_, rfl⟩
  rw [hic] at HC
  have HIC := Lib.hid hic
  have vm : IntKind.i64.wrap (-most) = -most := IntWalk.i64_in _ (by omega)
  clear hG hB hS hX hb0 hrc hic
  go_enter Try.func26, Try.ntmps26
  go_wp2_with fail
  refine (HC.out _ HB0.out).mono ?_
  rintro e w1 ⟨rfl, hB1⟩
  have HB1 := Lib.hid (HB0.out.trans (hB1.mono HB0.out.size))
  have X1 := Lib.hid (X0.out.keep hB1 X0.out.lt)
  have k2 := X1.out.cell 2
  have k3 := X1.out.cell 3
  simp only [infoC, List.getElem?_toArray, List.getElem?_cons_zero, List.getElem?_cons_succ] at k2 k3
  clear hB1 HC X0
  by_cases hic0 : ic = 0
  · subst hic0
    obtain ⟨r0, r1, hmay⟩ := mayI HIC.out
    have hmx : 0 ≤ max ∧ max ≤ 60 := by
      obtain ⟨_, k2', _⟩ := band_len rate (seq == 2) r0 r1
      unfold mayB at hmay
      simp at hmay
      obtain ⟨_, _, m0, m1, _⟩ := hmay
      split at k2' <;> omega
    clear r0 r1 hmay
    by_cases c1 : Bk.length = G.length
    · have e1 : ((Bk.length : Int) != (G.length : Int)) = false := by simp [c1]
      by_cases c2 : St.length = G.length
      · have e2 : ((St.length : Int) != (G.length : Int)) = false := by simp [c2]
        have HL1 := Lib.hid c1
        have HL2 := Lib.hid c2
        clear c1 c2
        obtain ⟨mx, rfl⟩ : ∃ m : Nat, max = m := ⟨max.toNat, by omega⟩
        go_wp2_with fail
        clear e1 e2
        go_loopw [14] (fun K wr => ∃ k m : Nat, K = .int .i64 k ∧ k ≤ Bk.length ∧ Hid (∀ g, g < k → ((Bk.getD g default).l.length : Int) = mx ∧ ((St.getD g default).l.length : Int) = mx) ∧ wr = w1.drewN m) (fun K _ => Bk.length - (intOf K).toNat)
        case atStart => exact ⟨0, 0, rfl, Nat.zero_le _, fun g hg => by omega, rfl⟩
        case round =>
          obtain ⟨k, m, rfl, hk, hall, rfl⟩ := hrel
          have hbk := (HBK.out.keep HB1.out)
          have hst := (HST.out.keep HB1.out)
          obtain ⟨wo, hwo⟩ : ∃ z, w1.drewN m = z := ⟨_, rfl⟩
          have HWO := Lib.hid hwo
          have hBo := below_drewN HB1.out m
          have k2 : (w1.drewN m).cell? ⟨w.heap.size, 2, none⟩ = some (.int .i64 (mx : Int)) := k2
          have k3 : (w1.drewN m).cell? ⟨w.heap.size, 3, none⟩ = some (.slice pg G.length cg) := k3
          rw [hwo] at hBo k2 k3 ⊢
          by_cases hlt : k < Bk.length
          · have hd : decide ((k : Int) < (Bk.length : Int)) = true := decide_eq_true (by omega)
            have hlt2 : k < St.length := by have := HL1.out; have := HL2.out; omega
            obtain ⟨bq, oq, rfl, _, r1, _⟩ := (HBK.out.keep hBo).at hlt
            obtain ⟨bs, os_, rfl, _, r2, _⟩ := (HST.out.keep hBo).at hlt2
            have HMC := Lib.hid (fun h => many_c (max := (mx : Int)) (G := G) (St := St) hlt h)
            have HMD := Lib.hid (fun h => many_d (max := (mx : Int)) (G := G) (Bk := Bk) hlt2 h)
            have HNX := Lib.hid (fun (h : ((Bk.getD k default).l.length : Int) = mx ∧ ((St.getD k default).l.length : Int) = mx) => show ∀ g, g < k + 1 → ((Bk.getD g default).l.length : Int) = mx ∧ ((St.getD g default).l.length : Int) = mx by
              intro g hg
              by_cases e : g = k
              · rw [e]; exact h
              · exact hall.out g (by omega))
            obtain ⟨n1, hn1⟩ : ∃ n, (Bk.getD k default).l.length = n := ⟨_, rfl⟩
            obtain ⟨n2, hn2⟩ : ∃ n, (St.getD k default).l.length = n := ⟨_, rfl⟩
            rw [hn1] at r1 HMC HNX
            rw [hn2] at r2 HMD HNX
            have hkI : (k : Int) < (Bk.length : Int) := by omega
            have hkI2 : (k : Int) < (St.length : Int) := by omega
            clear hall hn1 hn2 hwo hbk hst
            by_cases c3 : n1 = mx
            · have f1 : ((n1 : Int) != (mx : Int)) = false := by simp [c3]
              by_cases c4 : n2 = mx
              · have f2 : ((n2 : Int) != (mx : Int)) = false := by simp [c4]
                have HN2 := Lib.hid (HNX.out ⟨by omega, by omega⟩)
                clear HMC HMD HNX c3 c4
                go_wp2_with fail
                go_quiet (fail)
                go_wp2_with fail
                exact ⟨⟨k + 1, m + nq, by go_num, by omega, HN2, by rw [← HWO.out, World.drewN_drewN]⟩, by simp [intOf]; omega⟩
              · have f2 : ((n2 : Int) != (mx : Int)) = true := by simp; omega
                have HF := Lib.hid (qa_many (most := most) (x := x) HIC.out (HMD.out (by omega)))
                clear HMC HMD HNX c3 c4
                go_wp2_with fail
                go_quiet (fail)
                go_wp2
                go_ret
                exact ⟨ret_int (by rw [← HRC.out, HF.out]), below_drewN hBo _⟩
            · have f1 : ((n1 : Int) != (mx : Int)) = true := by simp; omega
              have HF := Lib.hid (qa_many (most := most) (x := x) HIC.out (HMC.out (by omega)))
              clear HMC HMD HNX c3
              go_wp2_with fail
              go_quiet (fail)
              go_wp2
              go_ret
              exact ⟨ret_int (by rw [← HRC.out, HF.out]), below_drewN hBo _⟩
          · have hkB : k = Bk.length := by omega
            subst hkB
            have hd : decide ((Bk.length : Int) < (Bk.length : Int)) = false := by simp
            have HMN := Lib.hid (many_none (max := (mx : Int)) HL1.out HL2.out (fun g hg => hall.out g (by have := HL1.out; omega)))
            have HALL := hall
            clear hlt hall hwo HWO
            go_wp2_with fail
            clear hd
            go_loop [15, 16, 17] (fun K _ _ => ∃ g : Nat, K = .int .i64 g ∧ g ≤ Bk.length ∧ Hid (∀ h, h < g → ∀ j, j < mx → badK ((Bk.getD h default).l.getD j 0) ((St.getD h default).l.getD j 0) = false)) (fun K _ _ => Bk.length - (intOf K).toNat)
            case atStart => exact ⟨0, rfl, Nat.zero_le _, fun h hh => by omega⟩
            case round =>
              obtain ⟨g, rfl, hg, hgd⟩ := hrel
              by_cases hlt : g < Bk.length
              · have hd : decide ((g : Int) < (Bk.length : Int)) = true := decide_eq_true (by omega)
                have hlt2 : g < St.length := by have := HL1.out; have := HL2.out; omega
                obtain ⟨bq, oq, rfl, _, r1, hi1⟩ := (HBK.out.keep hBo).at hlt
                obtain ⟨bs, os_, rfl, _, r2, hi2⟩ := (HST.out.keep hBo).at hlt2
                have hml := HALL.out g hlt
                have HBG := Lib.hid (fun (j : Nat) (hj : j < (Bk.getD g default).l.length) h => badG_true (St := St) hlt hj h)
                have HRW := Lib.hid (fun (hall : ∀ j, j < mx → badK ((Bk.getD g default).l.getD j 0) ((St.getD g default).l.getD j 0) = false) => show ∀ h, h < g + 1 → ∀ j, j < mx → badK ((Bk.getD h default).l.getD j 0) ((St.getD h default).l.getD j 0) = false by
                  intro h hh
                  by_cases e : h = g
                  · rw [e]; exact hall
                  · exact hgd.out h (by omega))
                obtain ⟨r, hr⟩ : ∃ r, Bk.getD g default = r := ⟨_, rfl⟩
                obtain ⟨t, ht⟩ : ∃ r, St.getD g default = r := ⟨_, rfl⟩
                rw [hr] at r1 hi1 hml HBG HRW
                rw [ht] at r2 hi2 hml HBG HRW
                obtain ⟨qr, cr, lr⟩ := r
                obtain ⟨qt, ct, lt⟩ := t
                dsimp only at r1 r2 hi1 hi2 hml HBG HRW
                obtain ⟨e1, e2⟩ := hml
                have e1 : lr.length = mx := by omega
                have e2 : lt.length = mx := by omega
                rw [e1] at r1 HBG
                rw [e2] at r2
                have HE1 := Lib.hid e1
                have HE2 := Lib.hid e2
                have HI1 := Lib.hid hi1
                have HI2 := Lib.hid hi2
                have HGD := hgd
                have hmx60 := hmx
                clear hr ht hi1 hi2 e1 e2 hgd
                go_wp2_with fail
                go_loop [16, 17] (fun J _ => ∃ j : Nat, J = .int .i64 j ∧ j ≤ mx ∧ Hid (∀ i, i < j → badK (lr.getD i 0) (lt.getD i 0) = false)) (fun J _ => mx - (intOf J).toNat)
                case atStart => exact ⟨0, rfl, Nat.zero_le _, fun i hi => by omega⟩
                case round =>
                  obtain ⟨j, rfl, hj, hjd⟩ := hrel
                  by_cases hjm : j < mx
                  · have hd2 : decide ((j : Int) < (mx : Int)) = true := decide_eq_true (by omega)
                    obtain ⟨bl, ol, rfl, _, hc1⟩ := HI1.out.at (j := j) (by rw [HE1.out]; exact hjm)
                    obtain ⟨bt, ot, rfl, _, hc2⟩ := HI2.out.at (j := j) (by rw [HE2.out]; exact hjm)
                    have y1 := hc1 j (by rw [HE1.out]; exact hjm)
                    have y2 := hc2 j (by rw [HE2.out]; exact hjm)
                    have HBG := Lib.hid (fun h => HBG.out j hjm h)
                    have HNX := Lib.hid (fun (h : badK (lr.getD j 0) (lt.getD j 0) = false) => show ∀ i, i < j + 1 → badK (lr.getD i 0) (lt.getD i 0) = false by
                      intro i hi
                      by_cases e : i = j
                      · rw [e]; exact h
                      · exact hjd.out i (by omega))
                    obtain ⟨v, hv⟩ : ∃ v, lr.getD j 0 = v := ⟨_, rfl⟩
                    obtain ⟨s, hs⟩ : ∃ v, lt.getD j 0 = v := ⟨_, rfl⟩
                    rw [hv] at y1 HBG HNX
                    rw [hs] at y2 HBG HNX
                    clear hc1 hc2 hjd hv hs
                    rcases badK_cases v s with ⟨c1, hb⟩ | ⟨c1, c2, hb⟩ | ⟨c1, c2, c3, hb⟩ | ⟨c1, c2, c3, c4, hb⟩ | ⟨c1, c2, c3, c4, c5, hb⟩ | ⟨c1, c2, c3, c4, c5, hb⟩
                    · have d1 : decide (v < 0) = true := decide_eq_true c1
                      have HF := Lib.hid (qa_bad (most := most) (x := x) HIC.out HMN.out (HBG.out hb))
                      clear hb HBG HNX
                      go_wp2
                      go_ret
                      exact ⟨ret_int (by rw [← HRC.out, HF.out]), hBo⟩
                    · have d1 : decide (v < 0) = false := decide_eq_false (by omega)
                      have d2 : decide (v > 13) = true := decide_eq_true c2
                      have HF := Lib.hid (qa_bad (most := most) (x := x) HIC.out HMN.out (HBG.out hb))
                      clear hb HBG HNX
                      go_wp2
                      go_ret
                      exact ⟨ret_int (by rw [← HRC.out, HF.out]), hBo⟩
                    · have d1 : decide (v < 0) = false := decide_eq_false (by omega)
                      have d2 : decide (v > 13) = false := decide_eq_false (by omega)
                      by_cases c4 : 1 ≤ v
                      · have d3 : decide (v ≥ 1) = true := decide_eq_true (by omega)
                        have d4 : decide (v ≤ 11) = false := decide_eq_false (fun h => by unfold sentB at c3; simp [c4, h] at c3)
                        clear c3
                        have HN2 := Lib.hid (HNX.out hb)
                        clear hb HBG HNX
                        go_wp2
                        go_round
                        case rel => exact ⟨j + 1, by go_num, by omega, HN2⟩
                        case measure => simp [intOf]; omega
                      · have d3 : decide (v ≥ 1) = false := decide_eq_false (by omega)
                        clear c3
                        have HN2 := Lib.hid (HNX.out hb)
                        clear hb HBG HNX
                        go_wp2
                        go_round
                        case rel => exact ⟨j + 1, by go_num, by omega, HN2⟩
                        case measure => simp [intOf]; omega
                    · have d1 : decide (v < 0) = false := decide_eq_false (by omega)
                      have d2 : decide (v > 13) = false := decide_eq_false (by omega)
                      have hse : 1 ≤ v ∧ v ≤ 11 := by unfold sentB at c3; simpa using c3
                      have d3 : decide (v ≥ 1) = true := decide_eq_true (by omega)
                      have d4 : decide (v ≤ 11) = true := decide_eq_true (by omega)
                      clear c3 hse
                      have d5 : decide (s < 0) = true := decide_eq_true c4
                      have HF := Lib.hid (qa_bad (most := most) (x := x) HIC.out HMN.out (HBG.out hb))
                      clear hb HBG HNX
                      go_wp2
                      go_ret
                      exact ⟨ret_int (by rw [← HRC.out, HF.out]), hBo⟩
                    · have d1 : decide (v < 0) = false := decide_eq_false (by omega)
                      have d2 : decide (v > 13) = false := decide_eq_false (by omega)
                      have hse : 1 ≤ v ∧ v ≤ 11 := by unfold sentB at c3; simpa using c3
                      have d3 : decide (v ≥ 1) = true := decide_eq_true (by omega)
                      have d4 : decide (v ≤ 11) = true := decide_eq_true (by omega)
                      clear c3 hse
                      have d5 : decide (s < 0) = false := decide_eq_false (by omega)
                      have d6 : decide (s > 255) = true := decide_eq_true c5
                      have HF := Lib.hid (qa_bad (most := most) (x := x) HIC.out HMN.out (HBG.out hb))
                      clear hb HBG HNX
                      go_wp2
                      go_ret
                      exact ⟨ret_int (by rw [← HRC.out, HF.out]), hBo⟩
                    · have d1 : decide (v < 0) = false := decide_eq_false (by omega)
                      have d2 : decide (v > 13) = false := decide_eq_false (by omega)
                      have hse : 1 ≤ v ∧ v ≤ 11 := by unfold sentB at c3; simpa using c3
                      have d3 : decide (v ≥ 1) = true := decide_eq_true (by omega)
                      have d4 : decide (v ≤ 11) = true := decide_eq_true (by omega)
                      clear c3 hse
                      have d5 : decide (s < 0) = false := decide_eq_false (by omega)
                      have d6 : decide (s > 255) = false := decide_eq_false (by omega)
                      have HN2 := Lib.hid (HNX.out hb)
                      clear hb HBG HNX
                      go_wp2
                      go_round
                      case rel => exact ⟨j + 1, by go_num, by omega, HN2⟩
                      case measure => simp [intOf]; omega
                  · have hjx : j = mx := by omega
                    subst hjx
                    have hd2 : decide ((j : Int) < (j : Int)) = false := by simp
                    have HR2 := Lib.hid (HRW.out hjd.out)
                    clear hjd HBG
                    go_wp2_with fail
                    go_round
                    case rel => exact ⟨g + 1, by go_num, hlt, HR2⟩
                    case measure => simp [intOf]; omega
              · have hgB : g = Bk.length := by omega
                subst hgB
                have hd : decide ((Bk.length : Int) < (Bk.length : Int)) = false := by simp
                have HNB := Lib.hid (show badG Bk St = false from bad_none' (fun g j hg hj => hgd.out g hg j (by have := (HALL.out g hg).1; omega)))
                clear hgd hlt
                by_cases hx : x.length = 256
                · have e1 : ((x.length : Int) != 256) = false := by simp [hx]
                  have HXL := Lib.hid hx
                  have HXW := Lib.hid (HXI.out.keep hBo)
                  clear hx
                  go_wp2_with fail
                  clear e1 hd
                  go_loop [18] (fun K => ∃ k : Nat, K = .int .i64 k ∧ k ≤ 256 ∧ Hid (∀ j, j < k → -most ≤ x.getD j 0 ∧ x.getD j 0 ≤ most)) (fun K => 256 - (intOf K).toNat)
                  case atStart => exact ⟨0, rfl, Nat.zero_le _, fun j hj => by omega⟩
                  case round =>
                    obtain ⟨k, rfl, hk, hall⟩ := hrel
                    by_cases hlt : k < 256
                    · have hd : decide ((k : Int) < 256) = true := decide_eq_true (by omega)
                      obtain ⟨bx, ox, rfl, _, hc⟩ := HXW.out.at (j := k) (by rw [HXL.out]; exact hlt)
                      have y1 := hc k (by rw [HXL.out]; exact hlt)
                      have hki : (k : Int) < (x.length : Int) := by rw [HXL.out]; omega
                      have HOD := Lib.hid (fun h => qa_far (most := most) HIC.out HMN.out HNB.out HXL.out hlt h)
                      have HNX := Lib.hid (fun (h : -most ≤ x.getD k 0 ∧ x.getD k 0 ≤ most) => show ∀ j, j < k + 1 → -most ≤ x.getD j 0 ∧ x.getD j 0 ≤ most by
                        intro j hj
                        by_cases e : j = k
                        · rw [e]; exact h
                        · exact hall.out j (by omega))
                      obtain ⟨v, hv⟩ : ∃ v, x.getD k 0 = v := ⟨_, rfl⟩
                      rw [hv] at y1 HOD HNX
                      clear hc hv hall
                      by_cases c1 : v < -most
                      · have d1 : decide (v < -most) = true := decide_eq_true c1
                        have HF := Lib.hid (HOD.out (.inl c1))
                        clear c1 HOD HNX
                        go_wp2
                        go_ret
                        exact ⟨ret_int (by rw [← HRC.out, HF.out]), hBo⟩
                      have d1 : decide (v < -most) = false := decide_eq_false c1
                      by_cases c2 : most < v
                      · have d2 : decide (v > most) = true := decide_eq_true c2
                        have HF := Lib.hid (HOD.out (.inr c2))
                        clear c1 c2 HOD HNX
                        go_wp2
                        go_ret
                        exact ⟨ret_int (by rw [← HRC.out, HF.out]), hBo⟩
                      have d2 : decide (v > most) = false := decide_eq_false c2
                      have HN2 := Lib.hid (HNX.out (by omega))
                      clear c1 c2 HOD HNX
                      go_wp2
                      go_round
                      case rel => exact ⟨k + 1, by go_num, hlt, HN2⟩
                      case measure => simp [intOf]; omega
                    · have hk256 : k = 256 := by omega
                      subst hk256
                      have hd : decide (((256 : Nat) : Int) < 256) = false := by simp
                      have HF := Lib.hid (qa_fine HIC.out HMN.out HNB.out HXL.out hall.out)
                      clear hall
                      go_wp2
                      go_ret
                      exact ⟨ret_int (by rw [← HRC.out, HF.out]), hBo⟩
                · have e1 : ((x.length : Int) != 256) = true := by simp; omega
                  have HF := Lib.hid (qa_len (most := most) HIC.out HMN.out HNB.out hx)
                  clear hx
                  go_wp2
                  go_ret
                  exact ⟨ret_int (by rw [← HRC.out, HF.out]), hBo⟩
      · have e2 : ((St.length : Int) != (G.length : Int)) = true := by simp; omega
        have HF := Lib.hid (qa_many (most := most) (x := x) HIC.out (many_b (max := max) (Bk := Bk) c2))
        clear c1 c2
        go_wp2
        go_ret
        exact ⟨ret_int (by rw [← HRC.out, HF.out]), HB1.out⟩
    · have e1 : ((Bk.length : Int) != (G.length : Int)) = true := by simp; omega
      have HF := Lib.hid (qa_many (most := most) (x := x) HIC.out (many_a (max := max) (St := St) c1))
      clear c1
      go_wp2
      go_ret
      exact ⟨ret_int (by rw [← HRC.out, HF.out]), HB1.out⟩
  · have e1 : (ic != 0) = true := by simp [hic0]
    have HNE := Lib.hid hic0
    clear hic0
    go_wp2
    go_ret
    exact ⟨ret_int (by rw [← HRC.out, qa_info (by rw [HIC.out]; exact HNE.out), HIC.out]), HB1.out⟩
end Go.Proofs.Ytppfbfiigfjncaa
