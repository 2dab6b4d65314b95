/- TnsFilters: the walk. -/
import Derived.Test.YteijlbblmdclaaaTnsRefO
import Derived.Test.YteijlbblmdclaaaTnsGreat
import Derived.Test.YteijlbblmdclaaaSameR
import Derived.Test.YteijlbblmdclaaaOpenBank
import Derived.Deep.CutRange
set_option linter.unusedVariables false
set_option linter.unusedSimpArgs false
namespace Go.Proofs.Yteijlbblmdclaaa
open Go.ChangeShapes Go.WideShapes Go.ChangeAt Go.RowKit
/-- What came in, with its room. -/
structure TnsRoom (W : World) (G : List Int) (pg : Option Addr) (B : List BV) (q : Option Addr) (x : List Int) (px : Option Addr) (cx : Nat) : Prop where
  g : IsInts W pg G
  b : IsBank W q B
  nil : ∀ j, j < B.length → (B.getD j default).q = none → (B.getD j default).fs = [] ∧ (B.getD j default).c = 0
  x : IsArg W px cx x
theorem TnsRoom.keep {W W' : World} {G : List Int} {pg : Option Addr} {B : List BV} {q : Option Addr} {x : List Int} {px : Option Addr} {cx : Nat} (h : TnsRoom W G pg B q x px cx) (hb : Below W.heap.size W W') : TnsRoom W' G pg B q x px cx :=
  ⟨h.g.keep hb, h.b.keep hb, h.nil, h.x.keep hb⟩
theorem TnsRoom.tns {W : World} {G : List Int} {pg : Option Addr} {B : List BV} {q : Option Addr} {x : List Int} {px : Option Addr} {cx : Nat} (h : TnsRoom W G pg B q x px cx) (hl : G.length ≤ 100 ∧ B.length ≤ 100 ∧ x.length ≤ 1000) {p2 : Option Addr} (h2 : IsInts W p2 x) : TnsIn W G pg B q x p2 :=
  ⟨h.g, hl.1, h.b, h.nil, h2, hl.2.2, hl.2.1⟩
theorem tnsR_len (sg rate seq shape max : Int) (G : List Int) (B : List BV) (x : List Int) : (tnsR sg rate seq shape max G B x).1.length ≤ 256 := by
  unfold tnsR
  split
  · rename_i h
    have := runS_len sg (regsTo (bandL rate (seq == 2)) max.toNat B B.length) x (tns_good h).xl
    exact Nat.le_of_eq this
  · exact Nat.zero_le _
set_option maxRecDepth 100000 in
set_option maxHeartbeats 8000000 in
theorem tns_filters (rate seq shape max : Int) (G : List Int) (pg q px : Option Addr) (cg cB cx : Nat) (B : List BV) (x : List Int) (w : World) (H0 : TnsRoom w G pg B q x px cx) :
    Calls Try.prog 5 #[.int .i64 rate, .agg (infC seq shape max pg G.length cg), .slice q B.length cB, .slice px x.length cx] w fun e w' => e = .returned (.bool true) ∧ Below w.heap.size w w' := by
  have hb0 : Below w.heap.size w (w.alloc (.cells (infC seq shape max pg G.length cg) 33)) := (Below.refl _ w).alloc (Nat.le_refl _) _
  have X0 := Lib.hid (CellsAt.new w 33 (infC seq shape max pg G.length cg) rfl)
  have HH := Lib.hid H0
  have HB0 := Lib.hid hb0
  have hmx : maxLen = 9223372036854775807 := rfl
  clear hb0 H0
  go_enter Try.func5, Try.ntmps5
  go_wp2_with fail
  refine (tns_great seq shape max G pg q px cg cB cx B x _ (HH.out.keep HB0.out).b).mono ?_
  rintro e w2 ⟨b, rfl, hgr, hB⟩
  have HB2 := Lib.hid (HB0.out.trans (hB.mono HB0.out.size))
  have X2 := Lib.hid (X0.out.keep hB X0.out.lt)
  clear hB HB0 X0
  cases b
  · have hls := hgr rfl
    obtain ⟨lg, lb, lx⟩ := hls
    have HLS := Lib.hid (hgr rfl)
    have HH2 := Lib.hid (HH.out.keep HB2.out)
    have HXA := Lib.hid HH2.out.x
    clear hgr
    go_wp2_with (at_builtin; refine append_ints rfl _ _ rfl w2.heap.size _ 0 [] rfl (World.ownsRow_nil _ _ _ _) px cx x rfl HXA.out ?b1 ?b2 ?b3 ?_)
    case b1 => omega
    case b2 => omega
    case b3 => exact Nat.le_refl _
    intro v6 w6 hown6 hg6
    have hB6 : Below w2.heap.size w2 w6 := (Below.refl _ w2).grown hg6 (Nat.le_refl _) (fun k hk => by simp [Value.ownBlock] at hk)
    have hown6' : w6.ownsRow w2.heap.size 3 1 v6 x.length (x.map (Value.int .i64)) := by simpa using hown6
    obtain ⟨pz, cz, rfl, hIZ⟩ := owns_any hown6'
    have HH6 := Lib.hid (HH2.out.keep hB6)
    have HIZ := Lib.hid hIZ.ints
    have X6 := Lib.hid (X2.out.keep hB6 X2.out.lt)
    have HE6 := Lib.hid (HB2.out.trans (hB6.mono HB2.out.size))
    have k0 := X6.out.cell 0
    have k1 := X6.out.cell 1
    have k2 := X6.out.cell 2
    have k3 := X6.out.cell 3
    simp only [List.getElem?_toArray, List.getElem?_cons_zero, List.getElem?_cons_succ] at k0 k1 k2 k3
    clear hB6 hown6 hown6' hg6 hIZ X2 HXA HH2 HH HB2
    have HLA := Lib.hid (tns_forward rate seq shape max G pg q pz cg cB cz B x w6 (HH6.out.tns HLS.out HIZ.out))
    have HRA := Lib.hid (fun (W : World) (h : Below w6.heap.size w6 W) => ref_forward rate seq shape max G pg q px cg cB cx B x W ((HH6.out.keep h).tns HLS.out (HH6.out.keep h).x.1) (HH6.out.keep h).x)
    have HQA := Lib.hid (fun (W : World) (h : Below w6.heap.size w6 W) => tns_back rate seq shape max G pg q pz cg cB cz B x W ((HH6.out.keep h).tns HLS.out (HIZ.out.keep h)))
    have HRQ := Lib.hid (fun (W : World) (h : Below w6.heap.size w6 W) => ref_backward rate seq shape max G pg q px cg cB cx B x W ((HH6.out.keep h).tns HLS.out (HH6.out.keep h).x.1) (HH6.out.keep h).x)
    have hY1 := tnsR_len 1 rate seq shape max G B x
    have hY2 := tnsR_len (-1) rate seq shape max G B x
    obtain ⟨⟨Y1, E1⟩, hP1⟩ : ∃ p, tnsR 1 rate seq shape max G B x = p := ⟨_, rfl⟩
    obtain ⟨⟨Y2, E2⟩, hP2⟩ : ∃ p, tnsR (-1) rate seq shape max G B x = p := ⟨_, rfl⟩
    rw [hP1] at HLA HRA hY1
    rw [hP2] at HQA HRQ hY2
    unfold RRefR at HRA HRQ
    unfold RAll at HLA HQA
    dsimp only at HRA HRQ hY1 hY2 HLA HQA
    clear hP1 hP2
    go_wp2_with fail
    refine HLA.out.mono ?_
    rintro e w7 ⟨pa, ca, a1, b1, rfl, hSA, ha1, hB7⟩
    have HB7 := Lib.hid hB7
    have HSA := Lib.hid hSA
    have X7 := Lib.hid (X6.out.keep hB7 X6.out.lt)
    have hb1w := hSA.2.1
    have k0 := X7.out.cell 0
    have k1 := X7.out.cell 1
    have k2 := X7.out.cell 2
    have k3 := X7.out.cell 3
    simp only [List.getElem?_toArray, List.getElem?_cons_zero, List.getElem?_cons_succ] at k0 k1 k2 k3
    clear hB7 hSA HLA
    go_wp2_with fail
    refine (HRA.out _ HB7.out).mono ?_
    rintro e w8 ⟨pb, cb', rfl, hIb, hB8⟩
    have HB8 := Lib.hid (HB7.out.trans (hB8.mono HB7.out.size))
    have HSA := Lib.hid (HSA.out.keep hB8 hb1w)
    have HIb := Lib.hid hIb
    have X8 := Lib.hid (X7.out.keep hB8 X7.out.lt)
    have h78 := hB8.size
    have k0 := X8.out.cell 0
    have k1 := X8.out.cell 1
    have k2 := X8.out.cell 2
    have k3 := X8.out.cell 3
    simp only [List.getElem?_toArray, List.getElem?_cons_zero, List.getElem?_cons_succ] at k0 k1 k2 k3
    clear hB8 hIb HRA X7
    go_wp2_with fail
    refine (HQA.out _ HB8.out).mono ?_
    rintro e w9 ⟨pc, cc, a2, b2, rfl, hSC, ha2, hB9⟩
    have HB9 := Lib.hid (HB8.out.trans (hB9.mono HB8.out.size))
    have HSA := Lib.hid (HSA.out.keep hB9 (by omega))
    have HIb := Lib.hid (HIb.out.keep hB9)
    have HSC := Lib.hid hSC
    have X9 := Lib.hid (X8.out.keep hB9 X8.out.lt)
    have h89 := hB9.size
    have hb2w := hSC.2.1
    have k0 := X9.out.cell 0
    have k1 := X9.out.cell 1
    have k2 := X9.out.cell 2
    have k3 := X9.out.cell 3
    simp only [List.getElem?_toArray, List.getElem?_cons_zero, List.getElem?_cons_succ] at k0 k1 k2 k3
    clear hB9 hSC HQA X8
    go_wp2_with fail
    refine (HRQ.out _ HB9.out).mono ?_
    rintro e w10 ⟨pd, cd, rfl, hId, hB10⟩
    have HB10 := Lib.hid (HB9.out.trans (hB10.mono HB9.out.size))
    have HSA := Lib.hid (HSA.out.keep hB10 (by omega))
    have HIb := Lib.hid (HIb.out.keep hB10)
    have HSC := Lib.hid (HSC.out.keep hB10 hb2w)
    have HId := Lib.hid hId
    have h910 := hB10.size
    clear hB10 hId HRQ X9 HB9 HB8 k0 k1 k2 k3
    have h67 := HB7.out.size
    go_wp2_with fail
    refine (sameI_same pa pb Y1 ca cb' w10 HSA.out.ints.ints HIb.out (by omega)).mono ?_
    rintro e wx ⟨rfl, m1, rfl⟩
    have e1 : (E1 != E1) = false := by simp
    have e2 : (E2 != E2) = false := by simp
    go_wp2_with fail
    refine (sameI_same pc pd Y2 cc cd (w10.drewN m1) (HSC.out.ints.ints.drewN m1) (HId.out.drewN m1) (by omega)).mono ?_
    rintro e wx ⟨rfl, m2, rfl⟩
    rw [World.drewN_drewN]
    have HB11 := Lib.hid (below_drewN HB10.out (m1 + m2))
    have HSA := Lib.hid (HSA.out.drewN (m1 + m2))
    have HSC := Lib.hid (HSC.out.drewN (m1 + m2))
    obtain ⟨w11, hw11⟩ : ∃ z, w10.drewN (m1 + m2) = z := ⟨_, rfl⟩
    rw [hw11] at HB11 HSA HSC ⊢
    clear hw11 HIb HId HB10
    go_wp2_with fail
    have SA0 := HSA
    have SC0 := HSC
    have HZA := Lib.hid (row_get Y1)
    have HZC := Lib.hid (row_get Y2)
    go_loopw [18] (fun K wr => ∃ (k : Nat) (xs : List Value), K = .int .i64 k ∧ k ≤ Y1.length ∧ Hid (Spoil wr pa Y1.length ca a1 b1 xs) ∧ Hid (∀ j, k ≤ j → j < Y1.length → xs[j]? = some (.int .i64 (Y1.getD j 0))) ∧ Hid (Spoil wr pc Y2.length cc a2 b2 (Y2.map (Value.int .i64))) ∧ Hid (Below w6.heap.size w6 wr)) (fun K _ => Y1.length - (intOf K).toNat)
    case atStart => exact ⟨0, _, rfl, Nat.zero_le _, SA0, HZA, SC0, HB11⟩
    case round =>
      obtain ⟨k, xs, rfl, hk, hS, hxs, hSC, hbw⟩ := hrel
      clear SA0 SC0 HB11 HSA HSC
      by_cases hklt : k < Y1.length
      · have hd : decide ((k : Int) < (Y1.length : Int)) = true := decide_eq_true (by omega)
        obtain ⟨g, rfl, hg1, hg2, hc, hf, hnext⟩ := hS.out.at hklt
        rw [hxs.out k (Nat.le_refl _) hklt] at hc
        obtain ⟨z, hz⟩ : ∃ z, Y1.getD k 0 = z := ⟨_, rfl⟩
        rw [hz] at hc
        have HNX := Lib.hid (hnext (.int .i64 1))
        have HXN := Lib.hid (row_set hxs.out (.int .i64 1))
        have HSN := Lib.hid (hSC.out.apart ⟨g, k, none⟩ (.int .i64 1) (.inl (by show g < _; omega)))
        have HBN := Lib.hid (hbw.out.setCell (p := ⟨g, k, none⟩) (show w6.heap.size ≤ g by omega) (.int .i64 1))
        clear hz hnext hxs hS hSC hbw
        go_wp2
        exact ⟨⟨k + 1, _, by go_num, by omega, HNX, HXN, HSN, HBN⟩, by simp [intOf]; omega⟩
      · have hkY : k = Y1.length := by omega
        subst hkY
        have hd : decide ((Y1.length : Int) < (Y1.length : Int)) = false := by simp
        have SC0 := hSC
        have HB0 := hbw
        clear hS hxs hSC hbw hklt
        go_wp2_with fail
        go_loopw [19] (fun K wr => ∃ (k : Nat) (xs : List Value), K = .int .i64 k ∧ k ≤ Y2.length ∧ Hid (Spoil wr pc Y2.length cc a2 b2 xs) ∧ Hid (∀ j, k ≤ j → j < Y2.length → xs[j]? = some (.int .i64 (Y2.getD j 0))) ∧ Hid (Below w6.heap.size w6 wr)) (fun K _ => Y2.length - (intOf K).toNat)
        case atStart => exact ⟨0, _, rfl, Nat.zero_le _, SC0, HZC, HB0⟩
        case round =>
          obtain ⟨k, xs, rfl, hk, hS, hxs, hbw⟩ := hrel
          clear SC0 HB0
          by_cases hklt : k < Y2.length
          · have hd : decide ((k : Int) < (Y2.length : Int)) = true := decide_eq_true (by omega)
            obtain ⟨g, rfl, hg1, hg2, hc, hf, hnext⟩ := hS.out.at hklt
            rw [hxs.out k (Nat.le_refl _) hklt] at hc
            obtain ⟨z, hz⟩ : ∃ z, Y2.getD k 0 = z := ⟨_, rfl⟩
            rw [hz] at hc
            have HNX := Lib.hid (hnext (.int .i64 1))
            have HXN := Lib.hid (row_set hxs.out (.int .i64 1))
            have HBN := Lib.hid (hbw.out.setCell (p := ⟨g, k, none⟩) (show w6.heap.size ≤ g by omega) (.int .i64 1))
            clear hz hnext hxs hS hbw
            go_wp2
            exact ⟨⟨k + 1, _, by go_num, by omega, HNX, HXN, HBN⟩, by simp [intOf]; omega⟩
          · have hkY : k = Y2.length := by omega
            subst hkY
            have hd : decide ((Y2.length : Int) < (Y2.length : Int)) = false := by simp
            have HHr := HH6.out.keep hbw.out
            have HC1 := Lib.hid (sameI_same pz px x cz cx wr (HIZ.out.keep hbw.out) HHr.x.1 (by omega))
            have HER := Lib.hid (HE6.out.trans (hbw.out.mono HE6.out.size))
            clear hS hxs hbw hklt HHr
            go_wp2_with fail
            refine HC1.out.mono ?_
            rintro e wz ⟨rfl, m1, rfl⟩
            have HEE := Lib.hid (below_drewN HER.out m1)
            clear HC1 HER
            go_wp2
            go_ret
            exact ⟨rfl, HEE.out⟩
  · clear hgr
    go_wp2
    go_ret
    exact ⟨rfl, HB2.out⟩
end Go.Proofs.Yteijlbblmdclaaa
