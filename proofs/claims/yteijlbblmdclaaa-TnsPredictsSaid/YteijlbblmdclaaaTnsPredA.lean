/- TnsPredicts: the walk. -/
import Derived.Test.YteijlbblmdclaaaTnsRef2
import Derived.Test.YteijlbblmdclaaaSame11
import Derived.Test.YteijlbblmdclaaaArgs
import Derived.Test.YteijlbblmdclaaaOpenFilt
import Derived.Deep.CutRange
set_option linter.unusedVariables false
set_option linter.unusedSimpArgs false
namespace Go.Proofs.Yteijlbblmdclaaa
open Go.ChangeShapes Go.WideShapes Go.ChangeAt Go.RowKit

set_option maxRecDepth 100000 in
theorem predicts_long (len order : Int) (down fine : Bool) (cs : List Int) (p : Option Addr) (c : Nat) (w : World) (hn : 1000 < cs.length) :
    Calls Try.prog 3 #[.agg #[.int .i64 len, .int .i64 order, .bool down, .bool fine, .slice p cs.length c]] w fun e w' => e = .returned (.bool true) ∧ Below w.heap.size w w' := by
  have d0 : decide ((1000 : Int) < (cs.length : Int)) = true := decide_eq_true (by omega)
  have hb0 : Below w.heap.size w (w.alloc (.cells #[.int .i64 len, .int .i64 order, .bool down, .bool fine, .slice p cs.length c] 24)) := (Below.refl _ w).alloc (Nat.le_refl _) _
  go_enter Try.func3, Try.ntmps3
  go_wp2
  go_ret
  exact ⟨rfl, hb0⟩
theorem predN_len (len order : Int) (fine : Bool) (cs : List Int) : (predN len order fine cs).1.length ≤ 12 := by
  unfold predN
  by_cases h : filtE len order fine cs = 0
  · rw [if_pos h]
    show (coefP fine cs cs.length).length ≤ 12
    rw [coefP_len]
    exact (filt_ok h).2.1
  · rw [if_neg h]; exact Nat.zero_le _
set_option maxRecDepth 100000 in
set_option maxHeartbeats 4000000 in
theorem predicts_ok (len order : Int) (down fine : Bool) (cs : List Int) (p : Option Addr) (c : Nat) (w : World) (hn : cs.length ≤ 1000) (A0 : IsArg w p c cs) :
    Calls Try.prog 3 #[.agg #[.int .i64 len, .int .i64 order, .bool down, .bool fine, .slice p cs.length c]] w fun e w' => e = .returned (.bool true) ∧ Below w.heap.size w w' := by
  have d0 : decide ((1000 : Int) < (cs.length : Int)) = false := decide_eq_false (by omega)
  have X0 := Lib.hid (((CellsAt.new w 24 #[.int .i64 len, .int .i64 order, .bool down, .bool fine, .slice p cs.length c] rfl).alloc (.cells #[.int .i64 len, .int .i64 order, .bool down, .bool fine, .slice p cs.length c] 24)))
  have X1 := Lib.hid (CellsAt.new (w.alloc (.cells #[.int .i64 len, .int .i64 order, .bool down, .bool fine, .slice p cs.length c] 24)) 24 #[.int .i64 len, .int .i64 order, .bool down, .bool fine, .slice p cs.length c] (g := w.heap.size + 1) (by simp))
  have hb0 : Below w.heap.size w ((w.alloc (.cells #[.int .i64 len, .int .i64 order, .bool down, .bool fine, .slice p cs.length c] 24)).alloc (.cells #[.int .i64 len, .int .i64 order, .bool down, .bool fine, .slice p cs.length c] 24)) := ((Below.refl _ w).alloc (Nat.le_refl _) _).alloc (by simp) _
  have HB0 := Lib.hid hb0
  have HA0 := Lib.hid A0
  have HT := Lib.hid (fun (W : World) (q : Option Addr) (d : Nat) (h : IsInts W q cs) => tns_Predict len order down fine cs q d (by omega) W h)
  have HR := Lib.hid (fun (W : World) (q : Option Addr) (d : Nat) (h : IsInts W q cs) => ref_Predict len order down fine cs q d (by omega) W h)
  have HRL := Lib.hid (predN_len len order fine cs)
  have hmx : cs.length ≤ maxLen := A0.2.2.1
  have HMX := Lib.hid hmx
  unfold RPred at HT
  unfold RRefP at HR
  obtain ⟨r, hr⟩ : ∃ r, predN len order fine cs = r := ⟨_, rfl⟩
  rw [hr] at HT HR HRL
  obtain ⟨R, E⟩ := r
  simp only at HT HR HRL
  have HSR := Lib.hid (fun W pa pb ca cb (ha : IsInts W pa R) (hb : IsInts W pb R) => ints_same pa pb R ca cb W ha hb (by have := HRL.out; unfold maxLen; omega))
  have HSC := Lib.hid (fun W pa pb ca cb (ha : IsInts W pa cs) (hb : IsInts W pb cs) => ints_same pa pb cs ca cb W ha hb hmx)
  clear A0 hb0 hr hmx
  go_enter Try.func3, Try.ntmps3
  go_upto_region 4 with fail
  obtain ⟨W1, hW1⟩ : ∃ W1, (w.alloc (.cells #[.int .i64 len, .int .i64 order, .bool down, .bool fine, .slice p cs.length c] 24)).alloc (.cells #[.int .i64 len, .int .i64 order, .bool down, .bool fine, .slice p cs.length c] 24) = W1 := ⟨_, rfl⟩
  have hs1 : W1.heap.size = w.heap.size + 2 := by rw [← hW1]; simp
  rw [hW1] at X0 X1 HB0 ⊢
  clear hW1
  have k4 := X0.out.cell 4
  have m4 := X1.out.cell 4
  have f4 := X1.out.frozen 4
  simp only [List.getElem?_toArray, List.getElem?_cons_succ, List.getElem?_cons_zero] at k4 m4
  have HA1 := Lib.hid (HA0.out.keep HB0.out)
  go_wp2_with (at_builtin; refine append_ints rfl _ _ rfl W1.heap.size _ 0 [] rfl (World.ownsRow_nil _ _ _ _) p c cs rfl HA1.out (by have := HMX.out; omega) (by omega) (Nat.le_refl _) ?_)
  intro v1 w1 hO1 hg1
  have hb1 : Below W1.heap.size W1 w1 := (Below.refl W1.heap.size W1).grown hg1 (Nat.le_refl _) (fun _ e => by cases e)
  try simp only [Nat.zero_add, List.nil_append] at hO1
  obtain ⟨p2, c2, rfl, I2⟩ := owns_any hO1
  have hz1 := hb1.size
  have Y0 := X0.out.keep hb1 (by omega)
  have Y1 := X1.out.keep hb1 (by omega)
  have m4 := Y1.cell 4
  have f4 := Y1.frozen 4
  simp only [List.getElem?_toArray, List.getElem?_cons_succ, List.getElem?_cons_zero] at m4
  obtain ⟨w2, hw2⟩ : ∃ w2, w1.setCell ⟨w.heap.size + 1, 4, none⟩ (.slice p2 cs.length c2) = w2 := ⟨_, rfl⟩
  have Z0 := Y0.other ⟨w.heap.size + 1, 4, none⟩ (show w.heap.size ≠ w.heap.size + 1 by omega) (.slice p2 cs.length c2)
  have Z1 := Y1.set 4 (.slice p2 cs.length c2)
  have hb2 := (HB0.out.trans (hb1.mono (by omega))).setCell (p := ⟨w.heap.size + 1, 4, none⟩) (show w.heap.size ≤ w.heap.size + 1 by omega) (.slice p2 cs.length c2)
  have I2s := (I2.setCell ⟨w.heap.size + 1, 4, none⟩ (.slice p2 cs.length c2) (.inl (show w.heap.size + 1 < _ by omega)))
  rw [hw2] at Z0 Z1 hb2 I2s
  have hI2 := Lib.hid I2s.ints
  have hIA := Lib.hid (HA0.out.1.keep hb2)
  simp only [List.setIfInBounds_toArray, List.set_cons_succ, List.set_cons_zero] at Z1
  have n0 := Z0.cell 0
  have n1 := Z0.cell 1
  have n2 := Z0.cell 2
  have n3 := Z0.cell 3
  have n4 := Z0.cell 4
  have o0 := Z1.cell 0
  have o1 := Z1.cell 1
  have o2 := Z1.cell 2
  have o3 := Z1.cell 3
  have o4 := Z1.cell 4
  simp only [List.getElem?_toArray, List.getElem?_cons_succ, List.getElem?_cons_zero] at n0 n1 n2 n3 n4 o0 o1 o2 o3 o4
  have HB2 := Lib.hid hb2
  have HZ0 := Lib.hid Z0
  have HZ1 := Lib.hid Z1
  clear hO1 hg1 I2 I2s Y0 Y1 Z0 Z1 hb2 hb1 HB0 X0 X1 HA1 k4
  go_wp2_with fail
  refine (HT.out _ _ _ hI2.out).mono ?_
  rintro e w3 ⟨pa, da, rfl, hcase, hB3⟩
  have hs2 := HB2.out.size
  have HCA := Lib.hid hcase
  have hz2 : w.heap.size + 1 < w2.heap.size := HZ1.out.lt
  have Z0 := Lib.hid (HZ0.out.keep hB3 (by omega))
  have Z1 := Lib.hid (HZ1.out.keep hB3 hz2)
  have n0 := Z0.out.cell 0
  have n1 := Z0.out.cell 1
  have n2 := Z0.out.cell 2
  have n3 := Z0.out.cell 3
  have n4 := Z0.out.cell 4
  simp only [List.getElem?_toArray, List.getElem?_cons_succ, List.getElem?_cons_zero] at n0 n1 n2 n3 n4
  have JA := Lib.hid (hIA.out.keep hB3)
  have J2 := Lib.hid (hI2.out.inB.keep hB3 (Nat.le_refl _))
  have HB3 := Lib.hid hB3
  have hz3 := hB3.size
  clear hcase hB3 HT o0 o1 o2 o3 o4 hI2 hIA HZ0 HZ1
  go_wp2_with fail
  refine (HR.out _ _ _ JA.out).mono ?_
  rintro e w4 ⟨pb, db, rfl, hIb, hB4⟩
  have HIb := Lib.hid hIb
  have Y0 := Lib.hid (Z0.out.keep hB4 (by omega))
  have Y1 := Lib.hid (Z1.out.keep hB4 (by omega))
  have KA := Lib.hid (JA.out.inB.keep hB4 (Nat.le_refl _))
  have K2 := Lib.hid (J2.out.keep hB4 (Nat.le_trans (Nat.le_refl _) hz3))
  have HB4 := Lib.hid (HB3.out.trans (hB4.mono hz3))
  have HC4 := Lib.hid (show R = [] ∨ ∃ g l t, pa = some ⟨g, 0, none⟩ ∧ w2.heap.size ≤ g ∧ CellsAt w4 g t (valsL (R ++ l)) by
    rcases HCA.out with h | ⟨g, l, t, h1, h2, h3⟩
    · exact .inl h
    · exact .inr ⟨g, l, t, h1, h2, h3.keep hB4 h3.lt⟩)
  have HIa := Lib.hid (show IsInts w4 pa R by
    rcases HC4.out with h | ⟨g, l, t, rfl, h2, h3⟩
    · exact .inl h
    · refine isInts_of h3.lt (fun j hj => ?_)
      rw [h3.int (j := j) (by rw [List.length_append]; omega), List.getD_eq_getElem?_getD, List.getElem?_append_left hj, ← List.getD_eq_getElem?_getD])
  clear hIb hB4 HR n0 n1 n2 n3 n4 JA J2 Z0 Z1 HCA HB3
  go_wp2_with fail
  refine (HSR.out _ _ _ _ _ HIa.out HIb.out).mono ?_
  rintro e w5 ⟨rfl, nn, rfl⟩
  have hEE : (E == E) = true := by simp
  have hEN : (E != E) = false := by simp
  have HB5 := Lib.hid (below_drewN (HB2.out.trans (HB4.out.mono hs2)) nn)
  have HC5 := Lib.hid (show R = [] ∨ ∃ g L t, pa = some ⟨g, 0, none⟩ ∧ w2.heap.size ≤ g ∧ CellsAt (w4.drewN nn) g t (valsL L) ∧ R.length ≤ L.length by
    rcases HC4.out with h | ⟨g, l, t, h1, h2, h3⟩
    · exact .inl h
    · exact .inr ⟨g, R ++ l, t, h1, h2, h3.drewN nn, by rw [List.length_append]; omega⟩)
  clear HSR HIa HIb HC4
  have Y05 := Lib.hid (Y0.out.drewN nn)
  have Y15 := Lib.hid (Y1.out.drewN nn)
  have K25 := Lib.hid (K2.out.drewN nn)
  obtain ⟨w5, hw5⟩ : ∃ w5, w4.drewN nn = w5 := ⟨_, rfl⟩
  rw [hw5] at HC5 HB5 Y05 Y15 K25 ⊢
  have hself := Below.refl w2.heap.size w5
  clear Y0 Y1 K2 KA hw5
  go_wp2_with fail
  go_loopw [8] (fun I wr => ∃ i : Nat, I = .int .i64 i ∧ i ≤ R.length ∧ Hid (R = [] ∨ ∃ g L t, pa = some ⟨g, 0, none⟩ ∧ w2.heap.size ≤ g ∧ CellsAt wr g t (valsL L) ∧ R.length ≤ L.length) ∧ Below w2.heap.size w5 wr) (fun I _ => R.length - (intOf I).toNat)
  case atStart => exact ⟨0, rfl, Nat.zero_le _, HC5, hself⟩
  case round =>
    obtain ⟨i, rfl, hii, hC, hb⟩ := hrel
    clear hself HC5
    have hR12 := HRL.out
    by_cases hlt : i < R.length
    · have hd : decide ((i : Int) < (R.length : Int)) = true := decide_eq_true (by omega)
      have hiI : (i : Int) < (R.length : Int) := by omega
      obtain ⟨g, L, t, rfl, hg, hCL, hL⟩ : ∃ g L t, pa = some ⟨g, 0, none⟩ ∧ w2.heap.size ≤ g ∧ CellsAt wr g t (valsL L) ∧ R.length ≤ L.length := by
        rcases hC.out with h | h
        · rw [h] at hlt; exact absurd hlt (Nat.not_lt_zero _)
        · exact h
      have hc := hCL.int (j := i) (by omega)
      have hf := hCL.frozen i
      have hC2 := hCL.set i (.int .i64 9)
      rw [valsL_set] at hC2
      have HC2 := Lib.hid (show R = [] ∨ ∃ g' L t, (some ⟨g, 0, none⟩ : Option Addr) = some ⟨g', 0, none⟩ ∧ w2.heap.size ≤ g' ∧ CellsAt (wr.setCell ⟨g, i, none⟩ (.int .i64 9)) g' t (valsL L) ∧ R.length ≤ L.length from .inr ⟨g, _, t, rfl, hg, hC2, by rw [List.length_set]; exact hL⟩)
      have hb2 := hb.setCell (p := ⟨g, i, none⟩) (show w2.heap.size ≤ g from hg) (.int .i64 9)
      obtain ⟨x, hx⟩ : ∃ x, L.getD i 0 = x := ⟨_, rfl⟩
      rw [hx] at hc
      clear hCL hC hC2 hb hx
      go_wp2
      exact ⟨⟨i + 1, by go_num, by omega, HC2, hb2⟩, by simp [intOf]; omega⟩
    · have hil : i = R.length := by omega
      subst hil
      have hd : decide ((R.length : Int) < (R.length : Int)) = false := by simp
      have Z0 := Y05.out.keep hb (by omega)
      have Z1 := Y15.out.keep hb hz2
      have r4 := Z0.cell 4
      have s4 := Z1.cell 4
      simp only [List.getElem?_toArray, List.getElem?_cons_succ, List.getElem?_cons_zero] at r4 s4
      have HBr := Lib.hid (HB5.out.trans (hb.mono hs2))
      have IA := Lib.hid (HA0.out.1.keep HBr.out)
      have I2 := Lib.hid (K25.out.keep hb (Nat.le_refl _)).ints
      clear Z0 Z1 hb hC hlt
      go_wp2_with fail
      refine (HSC.out _ _ _ _ _ I2.out IA.out).mono ?_
      rintro e w6 ⟨rfl, n6, rfl⟩
      go_wp2
      go_ret
      exact ⟨rfl, below_drewN HBr.out n6⟩
theorem tns_predicts (len order : Int) (down fine : Bool) (cs : List Int) (p : Option Addr) (c : Nat) (w : World) (A0 : IsArg w p c cs) :
    Calls Try.prog 3 #[.agg #[.int .i64 len, .int .i64 order, .bool down, .bool fine, .slice p cs.length c]] w fun e w' => e = .returned (.bool true) ∧ Below w.heap.size w w' := by
  by_cases hn : 1000 < cs.length
  · exact predicts_long len order down fine cs p c w hn
  · exact predicts_ok len order down fine cs p c w (by omega) A0
end Go.Proofs.Yteijlbblmdclaaa
