/- QuantDoes: the walk. -/
import Derived.Test.YtppfbfiigfjncaaQDoesP
import Derived.Test.YtppfbfiigfjncaaRefRun14
import Derived.Test.YtppfbfiigfjncaaTwins
import Derived.Test.YtppfbfiigfjncaaQGreat
import Derived.Test.YtppfbfiigfjncaaOpenRows2
import Derived.Deep.CutRange
set_option linter.unusedVariables false
set_option linter.unusedSimpArgs false
namespace Go.Proofs.Ytppfbfiigfjncaa
open Go.ChangeShapes Go.WideShapes Go.ChangeAt Go.RowKit
/-- A row that is answered, to be written. -/
theorem RRowE.spoil {Y : List Int} {E : Int} {w w' : World} {e : Ending} (h : RRowE (Y, E) w e w') : ∃ p d, e = .returned (.tuple #[.slice p Y.length d, .int .i64 E]) ∧ Spoil w' p Y.length d w.heap.size w'.heap.size (Y.map (Value.int .i64)) ∧ Below w.heap.size w w' := by
  obtain ⟨v, rfl, hO, hB⟩ := h
  obtain ⟨p, d, rfl, _⟩ := owns_any hO
  exact ⟨p, d, rfl, Spoil.of hO, hB⟩
set_option maxRecDepth 100000 in
set_option maxHeartbeats 8000000 in
theorem quant_does (rate seq shape max : Int) (G : List Int) (pg qb qs px : Option Addr) (cg cb cs cx : Nat) (Bk St : List RV) (x : List Int) (w : World) (H0 : QIn w G pg cg Bk qb St qs x px cx) :
    Calls Try.prog 4 #[.int .i64 rate, .agg (infoC seq shape max pg G.length cg), .slice qb Bk.length cb, .slice qs St.length cs, .slice px x.length cx] w fun e w' => e = .returned (.bool true) ∧ Below w.heap.size w w' := by
  have hb0 : Below w.heap.size w (w.alloc (.cells (infoC seq shape max pg G.length cg) 27)) := (Below.refl _ w).alloc (Nat.le_refl _) _
  have X0 := Lib.hid (CellsAt.new w 27 (infoC seq shape max pg G.length cg) rfl)
  have HH := Lib.hid H0
  have HB0 := Lib.hid hb0
  have hmx : maxLen = 9223372036854775807 := rfl
  clear hb0 H0
  go_enter Try.func4, Try.ntmps4
  go_wp2_with fail
  have HH1 := HH.out.keep HB0.out
  refine (q_great seq shape max G pg qb qs px cg cb cs cx Bk St x _ HH1.b HH1.s (fun j hj => (HH1.ab j hj).2.2.1) (fun j hj => (HH1.as_ j hj).2.2.1)).mono ?_
  rintro e w2 ⟨b, rfl, hgr, hB⟩
  have HB2 := Lib.hid (HB0.out.trans (hB.mono HB0.out.size))
  have X2 := Lib.hid (X0.out.keep hB X0.out.lt)
  clear hB HB0 X0 HH1
  cases b
  · obtain ⟨lg, lbk, lst, lx⟩ := hgr rfl
    have HH2 := Lib.hid (HH.out.keep HB2.out)
    have HT := Lib.hid (twins_ok Bk qb cb w2 HH2.out.b HH2.out.ab HH2.out.nb lbk)
    clear hgr
    go_wp2_with fail
    refine HT.out.mono ?_
    rintro e w3 ⟨qA, cA, A, rfl, hIA, hAl, hAe, hB3⟩
    have HB3 := Lib.hid hB3
    have HIA := Lib.hid hIA
    have HAE := Lib.hid hAe
    have HAL := Lib.hid hAl
    have HH3 := HH2.out.keep hB3
    have HT := Lib.hid (twins_ok St qs cs w3 HH3.s HH3.as_ HH3.ns lst)
    clear hB3 hIA hAe hAl HH3
    go_wp2_with fail
    refine HT.out.mono ?_
    rintro e w4 ⟨qS, cS, S, rfl, hIS, hSl, hSe, hB4⟩
    have HB4 := Lib.hid (HB3.out.trans (hB4.mono HB3.out.size))
    have HIA := Lib.hid (HIA.out.keep hB4)
    have HIS := Lib.hid hIS
    have HSE := Lib.hid hSe
    have HSL := Lib.hid hSl
    have HXA := Lib.hid (HH2.out.keep HB4.out).x
    clear hB4 hIS hSe hSl HB3 HT
    go_wp2_with (at_builtin; refine append_ints rfl _ _ rfl w4.heap.size _ 0 [] rfl (World.ownsRow_nil _ _ _ _) px cx x rfl HXA.out ?b1 ?b2 ?b3 ?_)
    case b1 => omega
    case b2 => omega
    case b3 => exact Nat.le_refl _
    intro v5 w5 hown5 hg5
    have hB5 : Below w4.heap.size w4 w5 := (Below.refl _ w4).grown hg5 (Nat.le_refl _) (fun k hk => by simp [Value.ownBlock] at hk)
    have hown5' : w5.ownsRow w4.heap.size 3 1 v5 x.length (x.map (Value.int .i64)) := by simpa using hown5
    obtain ⟨pz, cz, rfl, hIZ⟩ := owns_any hown5'
    have HB5 := Lib.hid (HB4.out.trans (hB5.mono HB4.out.size))
    have HIA := Lib.hid (HIA.out.keep hB5)
    have HIS := Lib.hid (HIS.out.keep hB5)
    have HIZ := Lib.hid hIZ.ints
    have X5 := Lib.hid (X2.out.keep HB5.out X2.out.lt)
    have k3 := X5.out.cell 3
    simp only [infoC, List.getElem?_toArray, List.getElem?_cons_zero, List.getElem?_cons_succ] at k3
    have HGA := Lib.hid (HH2.out.keep HB5.out).g
    clear hB5 hown5 hown5' hg5 hIZ HB4 HXA
    go_wp2_with (at_builtin; refine append_ints rfl _ _ rfl w5.heap.size _ 0 [] rfl (World.ownsRow_nil _ _ _ _) pg cg G rfl HGA.out ?b1 ?b2 ?b3 ?_)
    case b1 => omega
    case b2 => omega
    case b3 => exact Nat.le_refl _
    intro v6 w6 hown6 hg6
    have hB6 : Below w5.heap.size w5 w6 := (Below.refl _ w5).grown hg6 (Nat.le_refl _) (fun k hk => by simp [Value.ownBlock] at hk)
    have hown6' : w6.ownsRow w5.heap.size 3 1 v6 G.length (G.map (Value.int .i64)) := by simpa using hown6
    obtain ⟨pk, ck, rfl, hIK⟩ := owns_any hown6'
    have HB6 := Lib.hid (HB5.out.trans (hB6.mono HB5.out.size))
    have HIA := Lib.hid (HIA.out.keep hB6)
    have HIS := Lib.hid (HIS.out.keep hB6)
    have HIZ := Lib.hid (HIZ.out.keep hB6)
    have HIK := Lib.hid hIK.ints
    have X6 := Lib.hid (X5.out.keep hB6 X5.out.lt)
    have k0 := X6.out.cell 0
    have k1 := X6.out.cell 1
    have k2 := X6.out.cell 2
    have k3 := X6.out.cell 3
    simp only [infoC, List.getElem?_toArray, List.getElem?_cons_zero, List.getElem?_cons_succ] at k0 k1 k2 k3
    have HH6 := Lib.hid (HH2.out.keep HB6.out)
    have HE6 := Lib.hid (HB2.out.trans (HB6.out.mono HB2.out.size))
    clear hB6 hown6 hown6' hg6 hIK HB5 HGA X5 X2 HB6 HB2 HH2 HH
    have hra := rowsOf_eq HAL.out HAE.out
    have hrs := rowsOf_eq HSL.out HSE.out
    have HLA := Lib.hid (lines_any rate seq shape max G pg qA qS pz cg cA cS cz A S x w6 HH6.out.g.1 lg HIA.out (by have := HAL.out; omega) HIS.out (by have := HSL.out; omega) HIZ.out lx)
    have HRA := Lib.hid (fun (W : World) (h : Below w6.heap.size w6 W) => ref_lines rate seq shape max G pg qb qs px cg cb cs cx Bk St x W (HH6.out.keep h).g.1 lg (HH6.out.keep h).b lbk (HH6.out.keep h).s lst (HH6.out.keep h).x.1 lx)
    have HQA := Lib.hid (fun (W : World) (h : Below w6.heap.size w6 W) => quan_any rate seq shape max G pg qA qS pz cg cA cS cz A S x W (HH6.out.keep h).g.1 lg (HIA.out.keep h) (by have := HAL.out; omega) (HIS.out.keep h) (by have := HSL.out; omega) (HIZ.out.keep h) lx)
    have HRQ := Lib.hid (fun (W : World) (h : Below w6.heap.size w6 W) => ref_quan rate seq shape max G pg qb qs px cg cb cs cx Bk St x W (HH6.out.keep h).g.1 lg (HH6.out.keep h).b lbk (HH6.out.keep h).s lst (HH6.out.keep h).x.1 lx)
    rw [quantR_rows hra hrs] at HLA
    rw [quantR_rows hra hrs] at HQA
    have hY1 : (quantR lineF 8191 rate seq shape max G Bk St x).1.length ≤ 256 := by unfold quantR; dsimp only; split <;> simp [runQ_len]
    have hY2 : (quantR quanF 268435455 rate seq shape max G Bk St x).1.length ≤ 256 := by unfold quantR; dsimp only; split <;> simp [runQ_len]
    obtain ⟨⟨Y1, E1⟩, hP1⟩ : ∃ p, quantR lineF 8191 rate seq shape max G Bk St x = p := ⟨_, rfl⟩
    obtain ⟨⟨Y2, E2⟩, hP2⟩ : ∃ p, quantR quanF 268435455 rate seq shape max G Bk St x = p := ⟨_, rfl⟩
    rw [hP1] at HLA HRA hY1
    rw [hP2] at HQA HRQ hY2
    unfold RRefR at HRA HRQ
    dsimp only at HRA HRQ hY1 hY2
    clear hra hrs hP1 hP2
    go_wp2_with fail
    refine (HLA.out.mono (fun e w' h => h.spoil)).mono ?_
    rintro e w7 ⟨pa, ca, rfl, hSA, hB7⟩
    have HB7S := Lib.hid (hB7.size)
    have HB7 := Lib.hid hB7
    have HSA := Lib.hid hSA
    have X7 := Lib.hid (X6.out.keep hB7 X6.out.lt)
    have k0 := X7.out.cell 0
    have k1 := X7.out.cell 1
    have k2 := X7.out.cell 2
    have k3 := X7.out.cell 3
    simp only [infoC, List.getElem?_toArray, List.getElem?_cons_zero, List.getElem?_cons_succ] at k0 k1 k2 k3
    clear hB7 hSA HLA
    go_wp2_with fail
    refine (HRA.out _ HB7.out).mono ?_
    rintro e w8 ⟨pb, cb', rfl, hIb, hB8⟩
    have HB8 := Lib.hid (HB7.out.trans (hB8.mono HB7.out.size))
    have HSA := Lib.hid (HSA.out.keep hB8 HSA.out.2.1)
    have HIb := Lib.hid hIb
    have X8 := Lib.hid (X7.out.keep hB8 X7.out.lt)
    have h78 := hB8.size
    have k0 := X8.out.cell 0
    have k1 := X8.out.cell 1
    have k2 := X8.out.cell 2
    have k3 := X8.out.cell 3
    simp only [infoC, List.getElem?_toArray, List.getElem?_cons_zero, List.getElem?_cons_succ] at k0 k1 k2 k3
    clear hB8 hIb HRA X7
    go_wp2_with fail
    refine ((HQA.out _ HB8.out).mono (fun e w' h => h.spoil)).mono ?_
    rintro e w9 ⟨pc, cc, rfl, hSC, hB9⟩
    have HB9 := Lib.hid (HB8.out.trans (hB9.mono HB8.out.size))
    have HSA := Lib.hid (HSA.out.keep hB9 (by omega))
    have HIb := Lib.hid (HIb.out.keep hB9)
    have HSC := Lib.hid hSC
    have X9 := Lib.hid (X8.out.keep hB9 X8.out.lt)
    have h89 := hB9.size
    have k0 := X9.out.cell 0
    have k1 := X9.out.cell 1
    have k2 := X9.out.cell 2
    have k3 := X9.out.cell 3
    simp only [infoC, List.getElem?_toArray, List.getElem?_cons_zero, List.getElem?_cons_succ] at k0 k1 k2 k3
    clear hB9 hSC HQA X8
    go_wp2_with fail
    refine (HRQ.out _ HB9.out).mono ?_
    rintro e w10 ⟨pd, cd, rfl, hId, hB10⟩
    have HB10 := Lib.hid (HB9.out.trans (hB10.mono HB9.out.size))
    have HSA := Lib.hid (HSA.out.keep hB10 (by omega))
    have HIb := Lib.hid (HIb.out.keep hB10)
    have HSC := Lib.hid (HSC.out.keep hB10 HSC.out.2.1)
    have HId := Lib.hid hId
    have X10 := Lib.hid (X9.out.keep hB10 X9.out.lt)
    have h910 := hB10.size
    clear hB10 hId HRQ X9 HB9 HB8 HB7
    go_wp2_with fail
    refine (sameI_same pa pb Y1 ca cb' w10 HSA.out.ints.ints HIb.out (by omega)).mono ?_
    rintro e wx ⟨rfl, m1, rfl⟩
    have e1 : (E1 != E1) = false := by simp
    have e2 : (E2 != E2) = false := by simp
    go_wp2_with fail
    refine (sameI_same pc pd Y2 cc cd (w10.drewN m1) (HSC.out.ints.ints.drewN m1) (HId.out.drewN m1) (by omega)).mono ?_
    rintro e wx ⟨rfl, m2, rfl⟩
    rw [World.drewN_drewN]
    have HB11 := Lib.hid (below_drewN HB10.out (m1 + m2))
    have HSA := Lib.hid (HSA.out.drewN (m1 + m2))
    have HSC := Lib.hid (HSC.out.drewN (m1 + m2))
    obtain ⟨w11, hw11⟩ : ∃ z, w10.drewN (m1 + m2) = z := ⟨_, rfl⟩
    rw [hw11] at HB11 HSA HSC ⊢
    clear hw11 HIb HId HB10 X10
    go_wp2_with fail
    have SA0 := HSA
    have SC0 := HSC
    have HZA := Lib.hid (row_get Y1)
    have HZC := Lib.hid (row_get Y2)
    go_loopw [23] (fun K wr => ∃ (k : Nat) (xs : List Value), K = .int .i64 k ∧ k ≤ Y1.length ∧ Hid (Spoil wr pa Y1.length ca w6.heap.size w7.heap.size xs) ∧ Hid (∀ j, k ≤ j → j < Y1.length → xs[j]? = some (.int .i64 (Y1.getD j 0))) ∧ Hid (Spoil wr pc Y2.length cc w8.heap.size w9.heap.size (Y2.map (Value.int .i64))) ∧ Hid (Below w6.heap.size w6 wr)) (fun K _ => Y1.length - (intOf K).toNat)
    case atStart => exact ⟨0, _, rfl, Nat.zero_le _, SA0, HZA, SC0, HB11⟩
    case round =>
      obtain ⟨k, xs, rfl, hk, hS, hxs, hSC, hbw⟩ := hrel
      clear SA0 SC0 HB11 HSA HSC
      by_cases hklt : k < Y1.length
      · have hd : decide ((k : Int) < (Y1.length : Int)) = true := decide_eq_true (by omega)
        obtain ⟨g, rfl, hg1, hg2, hc, hf, hnext⟩ := hS.out.at hklt
        rw [hxs.out k (Nat.le_refl _) hklt] at hc
        obtain ⟨z, hz⟩ : ∃ z, Y1.getD k 0 = z := ⟨_, rfl⟩
        rw [hz] at hc
        have HNX := Lib.hid (hnext (.int .i64 7))
        have HXN := Lib.hid (row_set hxs.out (.int .i64 7))
        have HSN := Lib.hid (hSC.out.apart ⟨g, k, none⟩ (.int .i64 7) (.inl (by show g < _; omega)))
        have HBN := Lib.hid (hbw.out.setCell (p := ⟨g, k, none⟩) hg1 (.int .i64 7))
        clear hz hnext hxs hS hSC hbw
        go_wp2
        exact ⟨⟨k + 1, _, by go_num, by omega, HNX, HXN, HSN, HBN⟩, by simp [intOf]; omega⟩
      · have hkY : k = Y1.length := by omega
        subst hkY
        have hd : decide ((Y1.length : Int) < (Y1.length : Int)) = false := by simp
        have SC0 := hSC
        have HB0 := hbw
        clear hS hxs hSC hbw hklt
        go_wp2_with fail
        go_loopw [24] (fun K wr => ∃ (k : Nat) (xs : List Value), K = .int .i64 k ∧ k ≤ Y2.length ∧ Hid (Spoil wr pc Y2.length cc w8.heap.size w9.heap.size xs) ∧ Hid (∀ j, k ≤ j → j < Y2.length → xs[j]? = some (.int .i64 (Y2.getD j 0))) ∧ Hid (Below w6.heap.size w6 wr)) (fun K _ => Y2.length - (intOf K).toNat)
        case atStart => exact ⟨0, _, rfl, Nat.zero_le _, SC0, HZC, HB0⟩
        case round =>
          obtain ⟨k, xs, rfl, hk, hS, hxs, hbw⟩ := hrel
          clear SC0 HB0
          by_cases hklt : k < Y2.length
          · have hd : decide ((k : Int) < (Y2.length : Int)) = true := decide_eq_true (by omega)
            obtain ⟨g, rfl, hg1, hg2, hc, hf, hnext⟩ := hS.out.at hklt
            rw [hxs.out k (Nat.le_refl _) hklt] at hc
            obtain ⟨z, hz⟩ : ∃ z, Y2.getD k 0 = z := ⟨_, rfl⟩
            rw [hz] at hc
            have HNX := Lib.hid (hnext (.int .i64 7))
            have HXN := Lib.hid (row_set hxs.out (.int .i64 7))
            have HBN := Lib.hid (hbw.out.setCell (p := ⟨g, k, none⟩) (show w6.heap.size ≤ g by have := HB7S.out; omega) (.int .i64 7))
            clear hz hnext hxs hS hbw
            go_wp2
            exact ⟨⟨k + 1, _, by go_num, by omega, HNX, HXN, HBN⟩, by simp [intOf]; omega⟩
          · have hkY : k = Y2.length := by omega
            subst hkY
            have hd : decide ((Y2.length : Int) < (Y2.length : Int)) = false := by simp
            have HHr := HH6.out.keep hbw.out
            have HC1 := Lib.hid (same_ok A Bk qA qb cA cb wr (HIA.out.keep hbw.out) HHr.b HAL.out HAE.out (fun j hj => (HHr.ab j hj).2.2.1) lbk)
            rw [HAL.out] at HC1
            have X9 := Lib.hid (X6.out.keep hbw.out X6.out.lt)
            have HER := Lib.hid (HE6.out.trans (hbw.out.mono HE6.out.size))
            have HBW := hbw
            have hAL := HAL.out
            have hSL := HSL.out
            clear hS hxs hbw hklt HHr
            rw [hAL, hSL]
            clear hAL hSL
            go_wp2_with fail
            refine HC1.out.mono ?_
            rintro e wz ⟨rfl, m1, rfl⟩
            have hbz := below_drewN HBW.out m1
            have HHz := HH6.out.keep hbz
            have HC2 := Lib.hid (same_ok S St qS qs cS cs (wr.drewN m1) (HIS.out.keep hbz) HHz.s HSL.out HSE.out (fun j hj => (HHz.as_ j hj).2.2.1) lst)
            rw [HSL.out] at HC2
            clear hbz HHz HC1
            go_wp2_with fail
            refine HC2.out.mono ?_
            rintro e wz ⟨rfl, m2, rfl⟩
            rw [World.drewN_drewN]
            have hbz := below_drewN HBW.out (m1 + m2)
            have HHz := HH6.out.keep hbz
            have HC3 := Lib.hid (sameI_same pz px x cz cx (wr.drewN (m1 + m2)) (HIZ.out.keep hbz) HHz.x.1 (by omega))
            clear hbz HHz HC2
            go_wp2_with fail
            refine HC3.out.mono ?_
            rintro e wz ⟨rfl, m3, rfl⟩
            rw [World.drewN_drewN]
            have hbz := below_drewN HBW.out (m1 + m2 + m3)
            have HHz := HH6.out.keep hbz
            have k3 : (wr.drewN (m1 + m2 + m3)).cell? ⟨w.heap.size, 3, none⟩ = some (.slice pg G.length cg) := X9.out.cell 3
            have HC4 := Lib.hid (sameI_same pk pg G ck cg (wr.drewN (m1 + m2 + m3)) (HIK.out.keep hbz) HHz.g.1 (by omega))
            have HEZ := Lib.hid (below_drewN HER.out (m1 + m2 + m3))
            obtain ⟨wy, hwy⟩ : ∃ z, wr.drewN (m1 + m2 + m3) = z := ⟨_, rfl⟩
            rw [hwy] at k3 HC4 HEZ ⊢
            clear hbz HHz HC3 hwy
            go_wp2_with fail
            refine HC4.out.mono ?_
            rintro e wz ⟨rfl, m4, rfl⟩
            have HEE := Lib.hid (below_drewN HEZ.out m4)
            clear HC4 HEZ
            go_wp2
            go_ret
            exact ⟨rfl, HEE.out⟩
  · clear hgr
    go_wp2
    go_ret
    exact ⟨rfl, HB2.out⟩
end Go.Proofs.Ytppfbfiigfjncaa
