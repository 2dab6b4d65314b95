/- quant.ready: what a call answers. -/
import Derived.Test.YtppfbfiigfjncaaGP
import Derived.Laws.EntriesVeiled
set_option linter.unusedVariables false
set_option linter.unusedSimpArgs false
namespace Go.Proofs.Ytppfbfiigfjncaa
open Go.ChangeShapes Go.WideShapes Go.ChangeAt Go.RowKit

theorem badG_true {Bk St : List RV} {g j : Nat} (hg : g < Bk.length) (hj : j < (Bk.getD g default).l.length) (h : badK ((Bk.getD g default).l.getD j 0) ((St.getD g default).l.getD j 0) = true) : badG Bk St = true := by
  unfold badG
  rw [List.any_eq_true]
  refine ⟨g, List.mem_range.2 hg, ?_⟩
  unfold badR
  rw [List.any_eq_true]
  exact ⟨j, List.mem_range.2 hj, h⟩
/-- What is said of one band's book and step. -/
theorem badK_cases (k s : Int) : (k < 0 ∧ badK k s = true) ∨ (0 ≤ k ∧ 13 < k ∧ badK k s = true) ∨ (0 ≤ k ∧ k ≤ 13 ∧ sentB k = false ∧ badK k s = false) ∨ (0 ≤ k ∧ k ≤ 13 ∧ sentB k = true ∧ s < 0 ∧ badK k s = true) ∨ (0 ≤ k ∧ k ≤ 13 ∧ sentB k = true ∧ 0 ≤ s ∧ 255 < s ∧ badK k s = true) ∨ (0 ≤ k ∧ k ≤ 13 ∧ sentB k = true ∧ 0 ≤ s ∧ s ≤ 255 ∧ badK k s = false) := by
  unfold badK
  by_cases h1 : k < 0
  · left; simp [h1]
  · by_cases h2 : 13 < k
    · right; left; exact ⟨by omega, h2, by simp [h2]⟩
    · cases h3 : sentB k with
      | false => right; right; left; exact ⟨by omega, by omega, rfl, by simp [h1, h2]⟩
      | true =>
        by_cases h4 : s < 0
        · right; right; right; left; exact ⟨by omega, by omega, rfl, h4, by simp [h1, h2, h4]⟩
        · by_cases h5 : 255 < s
          · right; right; right; right; left; exact ⟨by omega, by omega, rfl, by omega, h5, by simp [h1, h2, h4, h5]⟩
          · right; right; right; right; right; exact ⟨by omega, by omega, rfl, by omega, by omega, by simp [h1, h2, h4, h5]⟩
set_option maxRecDepth 100000 in
set_option maxHeartbeats 8000000 in
theorem ready_ok (most rate seq shape max : Int) (hm0 : 0 ≤ most) (hm1 : most ≤ 4611686018427387904) (G : List Int) (pg qb qs px : Option Addr) (cg cb cs cx : Nat) (Bk St : List RV) (x : List Int) (w : World)
    (hG : IsInts w pg G) (hGl : G.length ≤ 100) (hB : IsRows w qb Bk) (hBl : Bk.length ≤ 100) (hS : IsRows w qs St) (hSl : St.length ≤ 100) (hX : IsInts w px x) (hxl : x.length ≤ 1000) :
    Calls Try.prog 24 #[.int .i64 rate, .agg (infoC seq shape max pg G.length cg), .slice qb Bk.length cb, .slice qs St.length cs, .slice px x.length cx, .int .i64 most] w (RE (readyQ most rate seq shape max G Bk St x) w) := by
  obtain ⟨W0, hW0⟩ : ∃ W0, (w.alloc (.cells (infoC seq shape max pg G.length cg) 27)).alloc (.cells #[.int .i64 most] 3) = W0 := ⟨_, rfl⟩
  have hb0 : Below w.heap.size w W0 := by rw [← hW0]; exact ((Below.refl _ w).alloc (Nat.le_refl _) _).alloc (by simp) _
  have X0 := Lib.hid (show CellsAt W0 w.heap.size 27 (infoC seq shape max pg G.length cg) by rw [← hW0]; exact (CellsAt.new w _ _ rfl).alloc _)
  have h10 := Lib.hid (show W0.cell? ⟨w.heap.size + 1, 0, none⟩ = some (.int .i64 most) by rw [← hW0]; exact (CellsAt.new _ 3 #[.int .i64 most] (by simp)).cell 0)
  have hz0 : W0.heap.size = w.heap.size + 2 := by rw [← hW0]; simp
  have HC := Lib.hid (info_check rate seq shape max G pg cg W0 (hG.keep hb0) hGl)
  have HBK := Lib.hid hB
  have HST := Lib.hid hS
  have HX := Lib.hid hX
  have kx0 := (CellsAt.new w 27 (infoC seq shape max pg G.length cg) rfl).alloc (.cells #[.int .i64 most] 3)
  have kx := X0.out.cell 0
  rw [← hW0] at kx
  have ky := X0.out.cell 1
  rw [← hW0] at ky
  have kz := X0.out.cell 2
  rw [← hW0] at kz
  have kt := X0.out.cell 3
  rw [← hW0] at kt
  obtain ⟨rc, hrc⟩ : ∃ r, readyQ most rate seq shape max G Bk St x = r := ⟨_, rfl⟩
  rw [hrc]
  unfold readyQ at hrc
  unfold RE at HC ⊢
  obtain ⟨ic, hic⟩ : ∃ c, infoE rate seq shape max G = c := ⟨_, rfl⟩
  rw [hic] at HC hrc
  have HHR := Lib.hid hrc
  have HW0 := Lib.hid hW0
  have HIC := Lib.hid hic
  simp only [infoC, List.getElem?_toArray, List.getElem?_cons_zero, List.getElem?_cons_succ] at kx ky kz kt
  clear hG hB hS hX hrc hic kx0 hW0
  go_enter Try.func24, Try.ntmps24
  go_wp2_with fail
  rw [HW0.out]
  refine HC.out.mono ?_
  rintro e W1 ⟨rfl, hB1⟩
  have hb1 := hb0.trans (hB1.mono (by omega))
  have X1 := Lib.hid (X0.out.keep hB1 X0.out.lt)
  have m1 := (hB1.cell (p := ⟨w.heap.size + 1, 0, none⟩) (by show _ + 1 < _; omega)).trans h10.out
  have HB1 := Lib.hid (HBK.out.keep hb1)
  have HS1 := Lib.hid (HST.out.keep hb1)
  have HX1 := Lib.hid (HX.out.keep hb1)
  clear hB1 hb0 X0 h10 HC HW0 kx ky kz kt hz0 HBK HST HX
  by_cases hic0 : ic = 0
  · subst hic0
    have hmb : max ≤ 60 := by
      obtain ⟨r0, r1, hmay⟩ := mayI HIC.out
      obtain ⟨k1, k2, _⟩ := band_len rate (seq == 2) r0 r1
      unfold mayB at hmay
      simp at hmay
      obtain ⟨_, _, _, m1, _⟩ := hmay
      split at k2 <;> omega
    have HHR := Lib.hid (show (if manyB max G Bk St = true then 4 else if badG Bk St = true then 2 else if x.length ≠ 256 then 4 else if x.any (farB most) = true then 2 else 0) = rc by have := HHR.out; rwa [if_neg (by simp)] at this)
    have m2 := X1.out.cell 2
    have m3 := X1.out.cell 3
    simp only [infoC, List.getElem?_toArray, List.getElem?_cons_zero, List.getElem?_cons_succ] at m2 m3
    have hM : manyB max G Bk St = (!decide (Bk.length = G.length) || (!decide (St.length = G.length) || (Bk.any (shortB max) || St.any (shortB max)))) := rfl
    by_cases hbl : Bk.length = G.length
    · have e1 : ((Bk.length : Int) != (G.length : Int)) = false := by simp [hbl]
      by_cases hsl : St.length = G.length
      · have e2 : ((St.length : Int) != (G.length : Int)) = false := by simp [hsl]
        have HCB := Lib.hid (contains_rows Bk qb cb max w.heap.size W1 HB1.out hBl m2)
        have HCS := Lib.hid (contains_rows St qs cs max w.heap.size W1 HS1.out hSl m2)
        have HBL := Lib.hid hbl
        have HSL := Lib.hid hsl
        rw [show decide (Bk.length = G.length) = true from decide_eq_true hbl, show decide (St.length = G.length) = true from decide_eq_true hsl] at hM
        clear hbl hsl m2
        go_wp2_with fail
        refine HCB.out.mono ?_
        rintro e w' ⟨rfl, hw⟩
        obtain rfl := hw
        clear HCB
        cases hab : Bk.any (shortB max)
        · rw [hab] at hM
          have HAB := Lib.hid hab
          clear hab
          go_wp2_with fail
          refine HCS.out.mono ?_
          rintro e w' ⟨rfl, hw⟩
          obtain rfl := hw
          clear HCS
          cases has : St.any (shortB max)
          · rw [has] at hM
            have hmf := Lib.hid (show manyB max G Bk St = false from hM)
            have HAS := Lib.hid has
            have HRB := Lib.hid (fun g (hg : g < Bk.length) => any_row HAB.out hg)
            have HRS := Lib.hid (fun g (hg : g < St.length) => any_row HAS.out hg)
            obtain ⟨N, hN⟩ : ∃ N, Bk.length = N := ⟨_, rfl⟩
            have HN := Lib.hid hN
            have hSN : St.length = N := by rw [← hN, HBL.out, HSL.out]
            have HSN := Lib.hid hSN
            rw [hN] at hBl HRB ⊢
            rw [hSN] at HRS ⊢
            clear hM has hN hSN e1 e2 m3
            go_wp2_with fail
            go_loop [54] (fun I => ∃ k : Nat, I = .int .i64 k ∧ k ≤ N ∧ Hid (∀ g j, g < k → j < (Bk.getD g default).l.length → badK ((Bk.getD g default).l.getD j 0) ((St.getD g default).l.getD j 0) = false)) (fun I => N - (intOf I).toNat)
            case atStart => exact ⟨0, rfl, Nat.zero_le _, Lib.hid (fun g j h => by omega)⟩
            case round =>
              obtain ⟨k, rfl, hk, hok⟩ := hrel
              by_cases hlt : k < N
              · have hd0 : decide ((k : Int) < (N : Int)) = true := decide_eq_true (by omega)
                obtain ⟨b1, o1, rfl, _, c1, i1⟩ := HB1.out.at (show k < Bk.length by rw [HN.out]; exact hlt)
                obtain ⟨b2, o2, rfl, _, c2, i2⟩ := HS1.out.at (show k < St.length by rw [HSN.out]; exact hlt)
                have hr1 := HRB.out k hlt
                have hr2 := HRS.out k hlt
                obtain ⟨bq, bc, bl, hRV⟩ : ∃ q c l, Bk.getD k default = ⟨q, c, l⟩ := ⟨_, _, _, rfl⟩
                obtain ⟨sq, sc, sl, hSV⟩ : ∃ q c l, St.getD k default = ⟨q, c, l⟩ := ⟨_, _, _, rfl⟩
                have HRV := Lib.hid hRV
                have HSV := Lib.hid hSV
                rw [hRV] at c1 i1 hr1
                rw [hSV] at c2 i2 hr2
                dsimp only at c1 i1 hr1 c2 i2 hr2
                have hls : sl.length = bl.length := by omega
                rw [hls] at c2
                have HI1 := Lib.hid i1
                have HI2 := Lib.hid i2
                have hlm : (bl.length : Int) = max := hr1
                have hm60 : bl.length ≤ 60 := by omega
                obtain ⟨m, hml⟩ : ∃ m, bl.length = m := ⟨_, rfl⟩
                rw [hml] at c1 c2 hls hm60
                have HML := Lib.hid hml
                have HSLN := Lib.hid hls
                clear hRV hSV i1 i2 hr1 hr2 hls hlm hml
                go_wp2_with fail
                go_loop [61] (fun I => ∃ j : Nat, I = .int .i64 j ∧ j ≤ m ∧ Hid (∀ i, i < j → badK (bl.getD i 0) (sl.getD i 0) = false)) (fun I => m - (intOf I).toNat)
                case atStart => exact ⟨0, rfl, Nat.zero_le _, Lib.hid (fun i h => by omega)⟩
                case round =>
                  obtain ⟨j, rfl, hj, hjk⟩ := hrel
                  by_cases hltj : j < m
                  · have hd1 : decide ((j : Int) < (m : Int)) = true := decide_eq_true (by omega)
                    obtain ⟨b3, o3, rfl, _, c3⟩ := HI1.out.at (show j < bl.length by rw [HML.out]; exact hltj)
                    obtain ⟨b4, o4, rfl, _, c4⟩ := HI2.out.at (show j < sl.length by rw [HSLN.out]; exact hltj)
                    have c3 := c3 j (by rw [HML.out]; exact hltj)
                    have c4 := c4 j (by rw [HSLN.out]; exact hltj)
                    have HQ := Lib.hid (q_sent (bl.getD j 0) W1)
                    have hcs := badK_cases (bl.getD j 0) (sl.getD j 0)
                    have HBAD := Lib.hid (fun (hbad : badK (bl.getD j 0) (sl.getD j 0) = true) => show rc = 2 by
                      have := HHR.out
                      rw [if_neg (by rw [hmf.out]; simp), if_pos (badG_true (St := St) (show k < Bk.length by rw [HN.out]; exact hlt) (show j < (Bk.getD k default).l.length by rw [HRV.out]; show j < bl.length; rw [HML.out]; exact hltj) (by rw [HRV.out, HSV.out]; exact hbad))] at this
                      exact this.symm)
                    have HFINE := Lib.hid (fun (hbad : badK (bl.getD j 0) (sl.getD j 0) = false) => show ∀ i, i < j + 1 → badK (bl.getD i 0) (sl.getD i 0) = false by
                      intro i hi
                      by_cases e : i = j
                      · subst e; exact hbad
                      · exact hjk.out i (by omega))
                    generalize hgk : bl.getD j 0 = kk at c3 HQ hcs HBAD HFINE
                    generalize hgs : sl.getD j 0 = ss at c4 hcs HBAD HFINE
                    have HGK := Lib.hid hgk
                    have HGS := Lib.hid hgs
                    clear hgk hgs
                    rcases hcs with ⟨h1, hb⟩ | ⟨h1, h2, hb⟩ | ⟨h1, h2, h3, hb⟩ | ⟨h1, h2, h3, h4, hb⟩ | ⟨h1, h2, h3, h4, h5, hb⟩ | ⟨h1, h2, h3, h4, h5, hb⟩
                    · have d1 : decide (kk < 0) = true := decide_eq_true h1
                      have HRC := Lib.hid (HBAD.out hb)
                      clear h1 hb
                      go_wp2
                      go_ret
                      exact ⟨by rw [HRC.out]; rfl, hb1⟩
                    · have d1 : decide (kk < 0) = false := decide_eq_false (by omega)
                      have d2 : decide (kk > 13) = true := decide_eq_true h2
                      have HRC := Lib.hid (HBAD.out hb)
                      clear h1 h2 hb
                      go_wp2
                      go_ret
                      exact ⟨by rw [HRC.out]; rfl, hb1⟩
                    · have d1 : decide (kk < 0) = false := decide_eq_false (by omega)
                      have d2 : decide (kk > 13) = false := decide_eq_false (by omega)
                      have HFI := Lib.hid (HFINE.out hb)
                      rw [h3] at HQ
                      clear h1 h2 h3 hb
                      go_wp2_with fail
                      refine HQ.out.mono ?_
                      rintro e w' ⟨rfl, hw⟩
                      obtain rfl := hw
                      go_wp2
                      go_round
                      case rel => exact ⟨j + 1, by go_num, hltj, HFI⟩
                      case measure => simp [intOf]; omega
                    · have d1 : decide (kk < 0) = false := decide_eq_false (by omega)
                      have d2 : decide (kk > 13) = false := decide_eq_false (by omega)
                      have d3 : decide (ss < 0) = true := decide_eq_true h4
                      have HRC := Lib.hid (HBAD.out hb)
                      rw [h3] at HQ
                      clear h1 h2 h3 h4 hb
                      go_wp2_with fail
                      refine HQ.out.mono ?_
                      rintro e w' ⟨rfl, hw⟩
                      obtain rfl := hw
                      go_wp2
                      go_ret
                      exact ⟨by rw [HRC.out]; rfl, hb1⟩
                    · have d1 : decide (kk < 0) = false := decide_eq_false (by omega)
                      have d2 : decide (kk > 13) = false := decide_eq_false (by omega)
                      have d3 : decide (ss < 0) = false := decide_eq_false (by omega)
                      have d4 : decide (ss > 255) = true := decide_eq_true h5
                      have HRC := Lib.hid (HBAD.out hb)
                      rw [h3] at HQ
                      clear h1 h2 h3 h4 h5 hb
                      go_wp2_with fail
                      refine HQ.out.mono ?_
                      rintro e w' ⟨rfl, hw⟩
                      obtain rfl := hw
                      go_wp2
                      go_ret
                      exact ⟨by rw [HRC.out]; rfl, hb1⟩
                    · have d1 : decide (kk < 0) = false := decide_eq_false (by omega)
                      have d2 : decide (kk > 13) = false := decide_eq_false (by omega)
                      have d3 : decide (ss < 0) = false := decide_eq_false (by omega)
                      have d4 : decide (ss > 255) = false := decide_eq_false (by omega)
                      have HFI := Lib.hid (HFINE.out hb)
                      rw [h3] at HQ
                      clear h1 h2 h3 h4 h5 hb
                      go_wp2_with fail
                      refine HQ.out.mono ?_
                      rintro e w' ⟨rfl, hw⟩
                      obtain rfl := hw
                      go_wp2
                      go_round
                      case rel => exact ⟨j + 1, by go_num, hltj, HFI⟩
                      case measure => simp [intOf]; omega
                  · have hjm : j = m := by omega
                    subst hjm
                    have hd1 : decide ((j : Int) < (j : Int)) = false := decide_eq_false (by omega)
                    have HOK := Lib.hid (show ∀ g i, g < k + 1 → i < (Bk.getD g default).l.length → badK ((Bk.getD g default).l.getD i 0) ((St.getD g default).l.getD i 0) = false by
                      intro g i hg hi
                      by_cases e : g = k
                      · subst e
                        rw [HRV.out] at hi ⊢
                        rw [HSV.out]
                        exact hjk.out i (by rw [← HML.out]; exact hi)
                      · exact hok.out g i (by omega) hi)
                    clear c1 c2
                    go_wp2
                    go_round
                    case rel => exact ⟨k + 1, by go_num, hlt, HOK⟩
                    case measure => simp [intOf]; omega
              · have hkN : k = N := by omega
                subst hkN
                have hd0 : decide ((k : Int) < (k : Int)) = false := decide_eq_false (by omega)
                have hbg : badG Bk St = false := bad_none' (fun g j hg hj => hok.out g j (by rw [← HN.out]; exact hg) hj)
                have HH2 := Lib.hid (show (if x.length ≠ 256 then 4 else if x.any (farB most) = true then 2 else 0) = rc by have := HHR.out; rwa [if_neg (by rw [hmf.out]; simp), if_neg (by rw [hbg]; simp)] at this)
                clear hbg
                by_cases hx : x.length = 256
                · have e5 : ((x.length : Int) != 256) = false := by simp [hx]
                  have HF := Lib.hid (contains_far x px cx most ⟨w.heap.size + 1, 0, none⟩ W1 HX1.out hxl hm0 hm1 m1)
                  have HXL := Lib.hid hx
                  clear hx
                  go_wp2_with fail
                  refine HF.out.mono ?_
                  rintro e w' ⟨rfl, hw⟩
                  obtain rfl := hw
                  cases hfa : x.any (farB most)
                  · have HRC := Lib.hid (show rc = 0 by have := HH2.out; rw [if_neg (by rw [HXL.out]; simp), if_neg (by rw [hfa]; simp)] at this; exact this.symm)
                    clear HF hfa
                    go_wp2
                    go_ret
                    exact ⟨by rw [HRC.out]; rfl, hb1⟩
                  · have HRC := Lib.hid (show rc = 2 by have := HH2.out; rw [if_neg (by rw [HXL.out]; simp), if_pos hfa] at this; exact this.symm)
                    clear HF hfa
                    go_wp2
                    go_ret
                    exact ⟨by rw [HRC.out]; rfl, hb1⟩
                · have e5 : ((x.length : Int) != 256) = true := by simp; omega
                  have HRC := Lib.hid (show rc = 4 by have := HH2.out; rw [if_pos hx] at this; exact this.symm)
                  go_wp2
                  go_ret
                  exact ⟨by rw [HRC.out]; rfl, hb1⟩
          · rw [has] at hM
            have HRC := Lib.hid (show rc = 4 by have := HHR.out; rw [if_pos (by rw [hM]; simp)] at this; exact this.symm)
            clear hM has
            go_wp2
            go_ret
            exact ⟨by rw [HRC.out]; rfl, hb1⟩
        · rw [hab] at hM
          have HRC := Lib.hid (show rc = 4 by have := HHR.out; rw [if_pos (by rw [hM]; simp)] at this; exact this.symm)
          clear hM hab
          go_wp2
          go_ret
          exact ⟨by rw [HRC.out]; rfl, hb1⟩
      · have e2 : ((St.length : Int) != (G.length : Int)) = true := by simp; omega
        rw [show decide (St.length = G.length) = false from decide_eq_false hsl] at hM
        have HRC := Lib.hid (show rc = 4 by have := HHR.out; rw [if_pos (by rw [hM]; simp)] at this; exact this.symm)
        clear hM hsl hbl
        go_wp2
        go_ret
        exact ⟨by rw [HRC.out]; rfl, hb1⟩
    · have e1 : ((Bk.length : Int) != (G.length : Int)) = true := by simp; omega
      rw [show decide (Bk.length = G.length) = false from decide_eq_false hbl] at hM
      have HRC := Lib.hid (show rc = 4 by have := HHR.out; rw [if_pos (by rw [hM]; simp)] at this; exact this.symm)
      clear hM hbl
      go_wp2
      go_ret
      exact ⟨by rw [HRC.out]; rfl, hb1⟩
  · have e1 : (ic != 0) = true := by simp [hic0]
    have HRC := Lib.hid (show rc = ic by have := HHR.out; rw [if_pos hic0] at this; exact this.symm)
    clear hic0
    go_wp2
    go_ret
    exact ⟨by rw [HRC.out]; rfl, hb1⟩
end Go.Proofs.Ytppfbfiigfjncaa
