/- TnsBack: the walk. -/
import Derived.Test.YteijlbblmdclaaaTnsAlive
import Derived.Test.YteijlbblmdclaaaTnsGreat
import Derived.Test.YteijlbblmdclaaaTnsRegs
import Derived.Test.YteijlbblmdclaaaTnsLoud
import Derived.Test.YteijlbblmdclaaaOpenBank
set_option linter.unusedVariables false
set_option linter.unusedSimpArgs false
namespace Go.Proofs.Yteijlbblmdclaaa
open Go.ChangeShapes Go.WideShapes Go.ChangeAt Go.RowKit
theorem allL_len {sg : Int} {offs : List Int} {mx : Nat} {B : List BV} {x : List Int} (h : x.length = 256) : (allL sg offs mx B x).length = 256 := runS_len sg _ x h
theorem allL_fit {sg : Int} {offs : List Int} {mx : Nat} {B : List BV} {x : List Int} (h : ∀ j, -268435455 ≤ x.getD j 0 ∧ x.getD j 0 ≤ 268435455) (j : Nat) : -268435455 ≤ (allL sg offs mx B x).getD j 0 ∧ (allL sg offs mx B x).getD j 0 ≤ 268435455 := runS_fit sg _ x h j
/-- What came in, whatever it is. -/
structure TnsArg (W : World) (G : List Int) (pg : Option Addr) (B : List BV) (q : Option Addr) (x : List Int) (px : Option Addr) : Prop where
  g : IsInts W pg G
  b : IsBank W q B
  nil : ∀ j, j < B.length → (B.getD j default).q = none → (B.getD j default).fs = [] ∧ (B.getD j default).c = 0
  lx : IsInts W px x
theorem TnsArg.keep {W W' : World} {G : List Int} {pg : Option Addr} {B : List BV} {q : Option Addr} {x : List Int} {px : Option Addr} (h : TnsArg W G pg B q x px) (hb : Below W.heap.size W W') : TnsArg W' G pg B q x px :=
  ⟨h.g.keep hb, h.b.keep hb, h.nil, h.lx.keep hb⟩
theorem TnsArg.tns {W : World} {G : List Int} {pg : Option Addr} {B : List BV} {q : Option Addr} {x : List Int} {px : Option Addr} (h : TnsArg W G pg B q x px) (hl : G.length ≤ 100 ∧ B.length ≤ 100 ∧ x.length ≤ 1000) : TnsIn W G pg B q x px :=
  ⟨h.g, hl.1, h.b, h.nil, h.lx, hl.2.2, hl.2.1⟩
set_option maxRecDepth 100000 in
set_option maxHeartbeats 8000000 in
theorem tns_backs (rate seq shape max : Int) (G : List Int) (pg q px : Option Addr) (cg cB cx : Nat) (B : List BV) (x : List Int) (w : World) (H0 : TnsArg w G pg B q x px) :
    Calls Try.prog 6 #[.int .i64 rate, .agg (infC seq shape max pg G.length cg), .slice q B.length cB, .slice px x.length cx] w fun e w' => e = .returned (.bool true) ∧ Below w.heap.size w w' := by
  have hb0 : Below w.heap.size w (w.alloc (.cells (infC seq shape max pg G.length cg) 33)) := (Below.refl _ w).alloc (Nat.le_refl _) _
  have X0 := Lib.hid (CellsAt.new w 33 (infC seq shape max pg G.length cg) rfl)
  have HH := Lib.hid H0
  have HB0 := Lib.hid hb0
  clear hb0 H0
  go_enter Try.func6, Try.ntmps6
  go_wp2_with fail
  refine (alive_ok _).mono ?_
  rintro e w1 ⟨rfl, hB⟩
  have HB1 := Lib.hid (HB0.out.trans (hB.mono HB0.out.size))
  have X1 := Lib.hid (X0.out.keep hB X0.out.lt)
  have k1_0 := X1.out.cell 0
  have k1_1 := X1.out.cell 1
  have k1_2 := X1.out.cell 2
  have k1_3 := X1.out.cell 3
  simp only [List.getElem?_toArray, List.getElem?_cons_zero, List.getElem?_cons_succ] at k1_0 k1_1 k1_2 k1_3
  clear hB HB0 X0
  go_wp2_with fail
  refine (tns_great seq shape max G pg q px cg cB cx B x w1 (HH.out.keep HB1.out).b).mono ?_
  rintro e w2 ⟨b, rfl, hgr, hB⟩
  have HB2 := Lib.hid (HB1.out.trans (hB.mono HB1.out.size))
  have X2 := Lib.hid (X1.out.keep hB X1.out.lt)
  have k2_0 := X2.out.cell 0
  have k2_1 := X2.out.cell 1
  have k2_2 := X2.out.cell 2
  have k2_3 := X2.out.cell 3
  simp only [List.getElem?_toArray, List.getElem?_cons_zero, List.getElem?_cons_succ] at k2_0 k2_1 k2_2 k2_3
  clear k1_0 k1_1 k1_2 k1_3
  clear hB HB1 X1
  cases b
  · have HI := Lib.hid ((HH.out.keep HB2.out).tns (hgr rfl))
    clear hgr
    have HF := Lib.hid (fun (W : World) (h : Below w2.heap.size w2 W) => tns_forward rate seq shape max G pg q px cg cB cx B x W (HI.out.keep h))
    have HK := Lib.hid (fun (W : World) (h : Below w2.heap.size w2 W) => tns_back rate seq shape max G pg q px cg cB cx B x W (HI.out.keep h))
    by_cases hE : readyE rate seq shape max G B x = 0
    · have hg := tns_good hE
      have hr1 : tnsR 1 rate seq shape max G B x = (allL 1 (bandL rate (seq == 2)) max.toNat B x, 0) := by unfold tnsR; rw [hE, if_pos rfl]
      have hr2 : tnsR (-1) rate seq shape max G B x = (allL (-1) (bandL rate (seq == 2)) max.toNat B x, 0) := by unfold tnsR; rw [hE, if_pos rfl]
      rw [hr1] at HF
      rw [hr2] at HK
      have hYl := allL_len (sg := 1) (offs := bandL rate (seq == 2)) (mx := max.toNat) (B := B) hg.xl
      have hZl := allL_len (sg := -1) (offs := bandL rate (seq == 2)) (mx := max.toNat) (B := B) hg.xl
      have hYr := ready_of hE hYl (allL_fit hg.xb)
      have hZr := ready_of hE hZl (allL_fit hg.xb)
      have hu1 := all_undo (sg := 1) (.inl rfl) hg
      have hu2 := all_undo (sg := -1) (.inr rfl) hg
      obtain ⟨Y, hY⟩ : ∃ l, allL 1 (bandL rate (seq == 2)) max.toNat B x = l := ⟨_, rfl⟩
      obtain ⟨Z, hZ⟩ : ∃ l, allL (-1) (bandL rate (seq == 2)) max.toNat B x = l := ⟨_, rfl⟩
      rw [hY] at HF hYl hYr hu1
      rw [hZ] at HK hZl hZr hu2
      obtain ⟨A, hA⟩ : ∃ l, allL (-1) (bandL rate (seq == 2)) max.toNat B Y = l := ⟨_, rfl⟩
      obtain ⟨C, hC⟩ : ∃ l, allL 1 (bandL rate (seq == 2)) max.toNat B Z = l := ⟨_, rfl⟩
      have hAl : A.length = 256 := by rw [← hA]; exact allL_len hYl
      have hCl : C.length = 256 := by rw [← hC]; exact allL_len hZl
      have hr3 : tnsR (-1) rate seq shape max G B Y = (A, 0) := by unfold tnsR; rw [hYr, if_pos rfl, hA]
      have hr4 : tnsR 1 rate seq shape max G B Z = (C, 0) := by unfold tnsR; rw [hZr, if_pos rfl, hC]
      have HU1 := Lib.hid (fun (h : Y.any loudP = false) => (show A = x by rw [← hA]; exact hu1 (fun p hp => not_loud h p (by omega))))
      have HU2 := Lib.hid (fun (h : Z.any loudP = false) => (show C = x by rw [← hC]; exact hu2 (fun p hp => not_loud h p (by omega))))
      have HLY := Lib.hid hYl
      have HLZ := Lib.hid hZl
      have HLA := Lib.hid hAl
      have HLC := Lib.hid hCl
      have HXL := Lib.hid hg.xl
      have HKY := Lib.hid (fun (W : World) (p : Option Addr) (d : Nat) (h : Below w2.heap.size w2 W) (hI : IsInts W p Y) => by
        have h1 := HI.out.keep h
        have h2 := tns_back rate seq shape max G pg q p cg cB d B Y W ⟨h1.g, h1.gl, h1.b, h1.nil, hI, by omega, h1.bl⟩
        rw [hr3, hYl] at h2
        exact h2)
      have HFZ := Lib.hid (fun (W : World) (p : Option Addr) (d : Nat) (h : Below w2.heap.size w2 W) (hI : IsInts W p Z) => by
        have h1 := HI.out.keep h
        have h2 := tns_forward rate seq shape max G pg q p cg cB d B Z W ⟨h1.g, h1.gl, h1.b, h1.nil, hI, by omega, h1.bl⟩
        rw [hr4, hZl] at h2
        exact h2)
      have HXX := Lib.hid (fun (W : World) (h : Below w2.heap.size w2 W) => (HI.out.keep h).lx)
      have HCX := Lib.hid hg.xl
      clear hr1 hr2 hr3 hr4 hY hZ hA hC hYr hZr hu1 hu2 hE hg HI HH hYl hZl hAl hCl
      go_wp2_with fail
      refine ((HF.out _ (Below.refl _ _)).mono (fun e w' h => h.row HLY.out)).mono ?_
      rintro e w3 ⟨g3, d3, rfl, hI3, hB3, hg3, _⟩
      have X3 := Lib.hid (X2.out.keep hB3 X2.out.lt)
      have k3_0 := X3.out.cell 0
      have k3_1 := X3.out.cell 1
      have k3_2 := X3.out.cell 2
      have k3_3 := X3.out.cell 3
      simp only [List.getElem?_toArray, List.getElem?_cons_zero, List.getElem?_cons_succ] at k3_0 k3_1 k3_2 k3_3
      clear k2_0 k2_1 k2_2 k2_3
      have HY3 := Lib.hid hI3
      have HB3 := Lib.hid hB3
      have hz3 := hB3.size
      clear hI3 hB3 HF X2
      go_wp2_with fail
      refine ((HK.out _ HB3.out).mono (fun e w' h => h.row HLZ.out)).mono ?_
      rintro e w4 ⟨g4, d4, rfl, hI4, hB4, hg4, _⟩
      have X4 := Lib.hid (X3.out.keep hB4 X3.out.lt)
      have k4_0 := X4.out.cell 0
      have k4_1 := X4.out.cell 1
      have k4_2 := X4.out.cell 2
      have k4_3 := X4.out.cell 3
      simp only [List.getElem?_toArray, List.getElem?_cons_zero, List.getElem?_cons_succ] at k4_0 k4_1 k4_2 k4_3
      clear k3_0 k3_1 k3_2 k3_3
      have HY4 := Lib.hid (HY3.out.keep hB4)
      have HZ4 := Lib.hid hI4
      have HB4 := Lib.hid (HB3.out.trans (hB4.mono hz3))
      have hz4 := HB4.out.size
      clear hI4 hB4 HK X3 HY3 HB3 hz3
      go_wp2_with fail
      refine ((HKY.out _ _ _ HB4.out HY4.out).mono (fun e w' h => h.row HLA.out)).mono ?_
      rintro e w5 ⟨g5, d5, rfl, hI5, hB5, hg5, _⟩
      have X5 := Lib.hid (X4.out.keep hB5 X4.out.lt)
      have k5_0 := X5.out.cell 0
      have k5_1 := X5.out.cell 1
      have k5_2 := X5.out.cell 2
      have k5_3 := X5.out.cell 3
      simp only [List.getElem?_toArray, List.getElem?_cons_zero, List.getElem?_cons_succ] at k5_0 k5_1 k5_2 k5_3
      clear k4_0 k4_1 k4_2 k4_3
      have HY5 := Lib.hid (HY4.out.keep hB5)
      have HZ5 := Lib.hid (HZ4.out.keep hB5)
      have HA5 := Lib.hid hI5
      have HB5 := Lib.hid (HB4.out.trans (hB5.mono hz4))
      have hz5 := HB5.out.size
      clear hI5 hB5 HKY X4 HY4 HZ4 HB4 hz4
      go_wp2_with fail
      refine ((HFZ.out _ _ _ HB5.out HZ5.out).mono (fun e w' h => h.row HLC.out)).mono ?_
      rintro e w6 ⟨g6, d6, rfl, hI6, hB6, hg6, _⟩
      have HY6 := HY5.out.keep hB6
      have HZ6 := HZ5.out.keep hB6
      have HA6 := HA5.out.keep hB6
      have HB6 := Lib.hid (HB5.out.trans (hB6.mono hz5))
      have HX6 := HXX.out _ HB6.out
      have HE := Lib.hid (HB2.out.trans (HB6.out.mono HB2.out.size))
      have L1 := loud_ok (some ⟨g3, 0, none⟩) Y d3 w6 HY6 (by rw [HLY.out]; omega)
      have L2 := Lib.hid (fun n => loud_ok (some ⟨g4, 0, none⟩) Z d4 (w6.drewN n) HZ6 (by rw [HLZ.out]; omega))
      have S1 := sm_any (some ⟨g5, 0, none⟩) px A x d5 cx w6 HA6 HX6 (by rw [HLA.out]; unfold maxLen; omega) (by rw [HXL.out]; unfold maxLen; omega)
      have S2 := Lib.hid (fun n => sm_any (some ⟨g6, 0, none⟩) px C x d6 cx (w6.drewN n) hI6 HX6 (by rw [HLC.out]; unfold maxLen; omega) (by rw [HXL.out]; unfold maxLen; omega))
      rw [HLY.out] at L1
      rw [HLZ.out] at L2
      rw [HLA.out, HXL.out] at S1
      rw [HLC.out, HXL.out] at S2
      rw [HXL.out]
      have L1 := Lib.hid L1
      have S1 := Lib.hid S1
      unfold RSm at S1 S2
      clear hI6 hB6 HFZ X5 HY5 HZ5 HA5 HB5 hz5 HY6 HZ6 HA6 HX6 HXX k5_0 k5_1 k5_2 k5_3
      go_wp2_with fail
      refine L1.out.mono ?_
      rintro e w7 ⟨rfl, hw⟩
      obtain rfl := hw
      cases hl1 : Y.any loudP
      · have hA := HU1.out hl1
        have HL1 := Lib.hid hl1
        rw [show decide (A = x) = true from decide_eq_true hA] at S1
        clear hl1 hA
        go_wp2_with fail
        refine S1.out.mono ?_
        rintro e w7 ⟨rfl, n, rfl⟩
        go_wp2_with fail
        refine (L2.out n).mono ?_
        rintro e w7 ⟨rfl, hw⟩
        obtain rfl := hw
        cases hl2 : Z.any loudP
        · have hC := HU2.out hl2
          have HL2 := Lib.hid hl2
          rw [show decide (C = x) = true from decide_eq_true hC] at S2
          clear hl2 hC
          go_wp2_with fail
          refine (S2.out n).mono ?_
          rintro e w7 ⟨rfl, m, rfl⟩
          go_wp2
          go_ret
          exact ⟨rfl, below_drewN HE.out _⟩
        · have HL2 := Lib.hid hl2
          clear hl2
          go_wp2
          go_ret
          exact ⟨rfl, below_drewN HE.out _⟩
      · have HL1 := Lib.hid hl1
        clear hl1
        go_wp2_with fail
        refine (L2.out 0).mono ?_
        rintro e w7 ⟨rfl, hw⟩
        obtain rfl := hw
        cases hl2 : Z.any loudP
        · have hC := HU2.out hl2
          have HL2 := Lib.hid hl2
          rw [show decide (C = x) = true from decide_eq_true hC] at S2
          clear hl2 hC
          go_wp2_with fail
          refine (S2.out 0).mono ?_
          rintro e w7 ⟨rfl, m, rfl⟩
          go_wp2
          go_ret
          exact ⟨rfl, below_drewN HE.out _⟩
        · have HL2 := Lib.hid hl2
          clear hl2
          go_wp2
          go_ret
          exact ⟨rfl, HE.out⟩
    · have hr1 : tnsR 1 rate seq shape max G B x = ([], readyE rate seq shape max G B x) := by unfold tnsR; rw [if_neg hE]
      have hr2 : tnsR (-1) rate seq shape max G B x = ([], readyE rate seq shape max G B x) := by unfold tnsR; rw [if_neg hE]
      rw [hr1] at HF
      rw [hr2] at HK
      generalize readyE rate seq shape max G B x = ec at *
      have e1 : (ec != 0) = true := by simpa using hE
      have e2 : (ec != ec) = false := by simp
      unfold RAll at HF HK
      clear hr1 hr2 hE HI HH
      go_wp2_with fail
      refine (HF.out _ (Below.refl _ _)).mono ?_
      rintro e w3 ⟨p3, d3, _, _, rfl, _, _, hB3⟩
      have X3 := Lib.hid (X2.out.keep hB3 X2.out.lt)
      have k3_0 := X3.out.cell 0
      have k3_1 := X3.out.cell 1
      have k3_2 := X3.out.cell 2
      have k3_3 := X3.out.cell 3
      simp only [List.getElem?_toArray, List.getElem?_cons_zero, List.getElem?_cons_succ] at k3_0 k3_1 k3_2 k3_3
      clear k2_0 k2_1 k2_2 k2_3
      have HB3 := Lib.hid hB3
      clear hB3 HF X2
      go_wp2_with fail
      refine (HK.out _ HB3.out).mono ?_
      rintro e w4 ⟨p4, d4, _, _, rfl, _, _, hB4⟩
      have HB4 := Lib.hid (HB2.out.trans ((HB3.out.trans (hB4.mono HB3.out.size)).mono HB2.out.size))
      clear hB4 HB3 HK X3
      go_wp2
      go_ret
      exact ⟨rfl, HB4.out⟩
  · clear hgr
    go_wp2
    go_ret
    exact ⟨rfl, HB2.out⟩
end Go.Proofs.Yteijlbblmdclaaa
