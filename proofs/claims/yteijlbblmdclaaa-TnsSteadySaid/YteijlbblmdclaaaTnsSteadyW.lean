/- TnsSteady: the walk. -/
import Derived.Test.YteijlbblmdclaaaTnsAlive
import Derived.Test.YteijlbblmdclaaaOpenFilt
import Derived.Test.YteijlbblmdclaaaArgs
import Derived.Test.YteijlbblmdclaaaTnsAbs
import Derived.Test.YteijlbblmdclaaaMakeRow
import Derived.Deep.CutRange
set_option linter.unusedVariables false
set_option linter.unusedSimpArgs false
namespace Go.Proofs.Yteijlbblmdclaaa
open Go.ChangeShapes Go.WideShapes Go.ChangeAt Go.RowKit
def zL (n : Nat) : List Int := List.replicate n 0
theorem zL_len (n : Nat) : (zL n).length = n := List.length_replicate
theorem zL_get (n j : Nat) : (zL n).getD j 0 = 0 := by
  unfold zL
  rw [List.getD_eq_getElem?_getD, List.getElem?_replicate]
  split <;> rfl
theorem zL_row (n : Nat) : List.replicate n (Value.int .i64 0) = (zL n).map (Value.int .i64) := (List.map_replicate).symm
theorem zL_coef : ∀ n : Fin 13, ∀ fine : Bool, coefP fine (zL n) n = zL n ∧ (zL n).any (oddL fine) = false := by decide +kernel
theorem zL_pred {len order : Int} {fine : Bool} {cs : List Int} (h : filtE len order fine cs = 0) : predN len order fine (zL cs.length) = (zL cs.length, 0) := by
  obtain ⟨h1, h2, _⟩ := filt_ok h
  obtain ⟨h3, h4⟩ := filt_len h
  obtain ⟨z1, z2⟩ := zL_coef ⟨cs.length, by omega⟩ fine
  have hz : filtE len order fine (zL cs.length) = 0 := by
    unfold filtE
    rw [zL_len]
    rw [if_neg (by omega), if_neg (by rw [z2]; simp; omega)]
  unfold predN
  rw [if_pos hz, zL_len]
  exact congrArg (fun l => (l, (0 : Int))) z1
set_option maxRecDepth 100000 in
theorem steady_long (len order : Int) (down fine : Bool) (cs : List Int) (p : Option Addr) (c : Nat) (w : World) (hn : 1000 < cs.length) :
    Calls Try.prog 8 #[.agg #[.int .i64 len, .int .i64 order, .bool down, .bool fine, .slice p cs.length c]] w fun e w' => e = .returned (.bool true) ∧ Below w.heap.size w w' := by
  have d0 : decide ((cs.length : Int) > 1000) = true := decide_eq_true (by omega)
  have hb0 : Below w.heap.size w (w.alloc (.cells #[.int .i64 len, .int .i64 order, .bool down, .bool fine, .slice p cs.length c] 24)) := (Below.refl _ w).alloc (Nat.le_refl _) _
  have X0 := Lib.hid (CellsAt.new w 24 #[.int .i64 len, .int .i64 order, .bool down, .bool fine, .slice p cs.length c] rfl)
  go_enter Try.func8, Try.ntmps8
  go_wp2_with fail
  refine (alive_ok _).mono ?_
  rintro e w1 ⟨rfl, hB1⟩
  have k4 := (X0.out.keep hB1 X0.out.lt).cell 4
  simp only [List.getElem?_toArray, List.getElem?_cons_succ, List.getElem?_cons_zero] at k4
  have hb1 := hb0.trans (hB1.mono hb0.size)
  clear hB1 hb0 X0
  go_wp2
  go_ret
  exact ⟨rfl, hb1⟩
set_option maxRecDepth 100000 in
set_option maxHeartbeats 4000000 in
theorem steady_ok (len order : Int) (down fine : Bool) (cs : List Int) (p : Option Addr) (c : Nat) (w : World) (hn : cs.length ≤ 1000) (A0 : IsInts w p cs) :
    Calls Try.prog 8 #[.agg #[.int .i64 len, .int .i64 order, .bool down, .bool fine, .slice p cs.length c]] w fun e w' => e = .returned (.bool true) ∧ Below w.heap.size w w' := by
  have d0 : decide ((cs.length : Int) > 1000) = false := decide_eq_false (by omega)
  have hb0 : Below w.heap.size w (w.alloc (.cells #[.int .i64 len, .int .i64 order, .bool down, .bool fine, .slice p cs.length c] 24)) := (Below.refl _ w).alloc (Nat.le_refl _) _
  have X0 := Lib.hid (CellsAt.new w 24 #[.int .i64 len, .int .i64 order, .bool down, .bool fine, .slice p cs.length c] rfl)
  have HP := Lib.hid (fun (W : World) (h : Below w.heap.size w W) => tns_Predict len order down fine cs p c (by omega) W (A0.keep h))
  have HZ := Lib.hid (fun (W : World) (q : Option Addr) (h : IsInts W q (zL cs.length)) => tns_Predict len order down fine (zL cs.length) q cs.length (by rw [zL_len]; omega) W h)
  unfold RPred at HP HZ
  rw [zL_len] at HZ
  clear A0
  go_enter Try.func8, Try.ntmps8
  go_wp2_with fail
  refine (alive_ok _).mono ?_
  rintro e w1 ⟨rfl, hB1⟩
  have X1 := Lib.hid (X0.out.keep hB1 X0.out.lt)
  have hb1 := hb0.trans (hB1.mono hb0.size)
  have k0 := X1.out.cell 0
  have k1 := X1.out.cell 1
  have k2 := X1.out.cell 2
  have k3 := X1.out.cell 3
  have k4 := X1.out.cell 4
  simp only [List.getElem?_toArray, List.getElem?_cons_succ, List.getElem?_cons_zero] at k0 k1 k2 k3 k4
  clear hB1 hb0 X0
  go_wp2_with fail
  refine (HP.out _ hb1).mono ?_
  rintro e w2 ⟨pa, da, rfl, hL, hB2⟩
  have hb2 := hb1.trans (hB2.mono hb1.size)
  have X2 := Lib.hid (X1.out.keep hB2 X1.out.lt)
  have k0 := X2.out.cell 0
  have k1 := X2.out.cell 1
  have k2 := X2.out.cell 2
  have k3 := X2.out.cell 3
  have k4 := X2.out.cell 4
  simp only [List.getElem?_toArray, List.getElem?_cons_succ, List.getElem?_cons_zero] at k0 k1 k2 k3 k4
  have HB2 := Lib.hid hb2
  have HL := Lib.hid hL
  clear hB2 hb1 X1 HP hL hb2
  by_cases hE : filtE len order fine cs = 0
  · have hpr : predN len order fine cs = (coefP fine cs cs.length, 0) := if_pos hE
    obtain ⟨h1, h2, h3⟩ := filt_ok hE
    have hzp := zL_pred hE
    have hst := coef_steady fine cs h2
    have hcl := coefP_len fine cs cs.length
    obtain ⟨R, hR⟩ : ∃ l, coefP fine cs cs.length = l := ⟨_, rfl⟩
    rw [hpr] at HL ⊢
    rw [hR] at HL hst hcl ⊢
    rw [hzp] at HZ
    dsimp only at HL HZ ⊢
    rw [zL_len] at HZ
    have hlz := zL_len cs.length
    have HROW := zL_row cs.length
    have HZG := Lib.hid (zL_get cs.length)
    have HIR : IsInts w2 pa R := by
      rcases HL.out with h | ⟨g, l, t, rfl, _, h⟩
      · exact .inl h
      · exact isInts_of h.lt (fun j hj => app_cell h hj)
    have HIR2 := Lib.hid HIR
    generalize zL cs.length = Z at *
    subst h1
    rw [hcl]
    generalize cs.length = n at *
    have HST := Lib.hid hst
    have hlw := X2.out.lt
    have hlw2 : w.heap.size ≠ w2.heap.size := Nat.ne_of_lt hlw
    clear hR hE hpr h3 hzp HL HIR hst
    go_wp2_with (at_make; refine make_row rfl _ _ rfl n (by omega) rfl rfl ?_)
    intro w3 hlt3 hO3 hB3
    obtain ⟨W0, hW0⟩ : ∃ W, w2.alloc (.cells #[.int .i64 len, .int .i64 (n : Int), .bool down, .bool fine, .slice p n c] 24) = W := ⟨_, rfl⟩
    have X6 : CellsAt W0 w2.heap.size 24 #[.int .i64 len, .int .i64 (n : Int), .bool down, .bool fine, .slice p n c] := by rw [← hW0]; exact CellsAt.new w2 _ _ rfl
    have hbW : Below w2.heap.size w2 W0 := by rw [← hW0]; exact (Below.refl _ w2).alloc (Nat.le_refl _) _
    rw [hW0] at hB3
    clear hW0
    have X7 := X6.keep hB3 (Nat.lt_succ_self _)
    have m4 := X7.cell 4
    have f4 := X7.frozen 4
    simp only [List.getElem?_toArray, List.getElem?_cons_succ, List.getElem?_cons_zero] at m4
    try rw [HROW] at hO3
    have S3 : Spoil w3 (some ⟨w2.heap.size + 1, 0, none⟩) n n (w2.heap.size + 1) (w2.heap.size + 1 + 1) (Z.map (Value.int .i64)) :=
      ⟨by rw [List.length_map, hlz], hlt3, fun _ => ⟨w2.heap.size + 1, rfl, Nat.le_refl _, Nat.lt_succ_self _, hO3⟩⟩
    have S4 := S3.apart ⟨w2.heap.size, 4, none⟩ (.slice (some ⟨w2.heap.size + 1, 0, none⟩) n n) (.inl (show w2.heap.size < _ by omega))
    have hb3 := hbW.trans (hB3.mono (by omega))
    have hb4 := hb3.setCell (p := ⟨w2.heap.size, 4, none⟩) (Nat.le_refl _) (.slice (some ⟨w2.heap.size + 1, 0, none⟩) n n)
    have X8 := X7.set 4 (.slice (some ⟨w2.heap.size + 1, 0, none⟩) n n)
    have X9 := X2.out.keep hb4 X2.out.lt
    simp only [List.setIfInBounds_toArray, List.set_cons_succ, List.set_cons_zero] at X8
    obtain ⟨w4, hw4⟩ : ∃ W, w3.setCell ⟨w2.heap.size, 4, none⟩ (.slice (some ⟨w2.heap.size + 1, 0, none⟩) n n) = W := ⟨_, rfl⟩
    rw [hw4] at S4 hb4 X8 X9
    have o0 := X8.cell 0
    have o1 := X8.cell 1
    have o2 := X8.cell 2
    have o3 := X8.cell 3
    have o4 := X8.cell 4
    simp only [List.getElem?_toArray, List.getElem?_cons_succ, List.getElem?_cons_zero] at o0 o1 o2 o3 o4
    have HI4 := Lib.hid S4.ints.ints
    have HB4 := Lib.hid hb4
    have HX9 := Lib.hid X9
    have HIR4 := Lib.hid (HIR2.out.keep hb4)
    have hE4 := Lib.hid (HB2.out.trans (hb4.mono HB2.out.size))
    clear S3 S4 hO3 hB3 hb3 hb4 X6 X7 X8 X9 hbW HIR2 X2 HB2 k0 k1 k2 k3 k4 HROW
    have HO := Lib.hid (And.intro o0 (And.intro o1 (And.intro o2 (And.intro o3 o4))))
    clear o0 o1 o2 o3 o4
    go_upto_region 9 with fail
    try rw [hw4]
    clear hw4 m4 f4
    obtain ⟨o0, o1, o2, o3, o4⟩ := HO.out
    go_wp2_with fail
    clear HO o0 o1 o2 o3 o4
    refine (HZ.out _ _ HI4.out).mono ?_
    rintro e w5 ⟨pb, db, rfl, hL5, hB5⟩
    have hIZ : IsInts w5 pb Z := by
      rcases hL5 with h | ⟨g, l, t, rfl, _, h⟩
      · exact .inl h
      · exact isInts_of h.lt (fun j hj => app_cell h hj)
    have HIZ := Lib.hid hIZ
    have HIR5 := Lib.hid (HIR4.out.keep hB5)
    have X5 := Lib.hid (HX9.out.keep hB5 HX9.out.lt)
    have hE5 := Lib.hid (hE4.out.trans (hB5.mono hE4.out.size))
    have k1 := X5.out.cell 1
    simp only [List.getElem?_toArray, List.getElem?_cons_succ, List.getElem?_cons_zero] at k1
    have e5 : ((n : Int) != (n : Int)) = false := by simp
    clear hL5 hB5 hIZ HIR4 HX9 hE4 HZ HI4 HB4
    go_wp2_with fail
    go_loopw [9, 10] (fun S K wr => ∃ (k m : Nat), K = .int .i64 k ∧ k ≤ n ∧ S = .int .i64 (absF R k) ∧ wr = w5.drewN m) (fun _ K _ => n - (intOf K).toNat)
    case atStart => exact ⟨0, 0, rfl, Nat.zero_le _, rfl, rfl⟩
    case round =>
      obtain ⟨k, m, rfl, hk, rfl, rfl⟩ := hrel
      by_cases hlt : k < n
      · have hd : decide ((k : Int) < (n : Int)) = true := decide_eq_true (by omega)
        obtain ⟨b1, o1, rfl, _, hc1⟩ := HIR5.out.at (j := k) (by omega)
        obtain ⟨b2, o2, rfl, _, hc2⟩ := HIZ.out.at (j := k) (by omega)
        have r1 := hc1 k (by omega)
        have r2 := hc2 k (by omega)
        rw [HZG.out k] at r2
        have h1 := absF_mono R (show k + 1 ≤ n by omega)
        have h2 := absF_nonneg R k
        have h3 := HST.out
        have hs : absF R (k + 1) = absF R k + ab (R.getD k 0) := rfl
        have HS := Lib.hid hs
        rw [hs] at h1
        generalize R.getD k 0 = x at r1 HS h1 hs
        unfold ab at h1 HS hs
        obtain ⟨S, hS⟩ : ∃ S, absF R k = S := ⟨_, rfl⟩
        rw [hS] at h1 h2 HS ⊢
        have hx1 : -4293918720 ≤ x ∧ x ≤ 4293918720 := by omega
        have hx2 := Lib.hid hx1
        have v1 : IntKind.i64.wrap (-x) = -x := IntWalk.i64_in _ (by omega)
        have v2 : IntKind.i64.wrap (S + max x (-x)) = S + max x (-x) := IntWalk.i64_in _ (by omega)
        clear hc1 hc2 hs hS h1 h2 h3 hx1
        go_wp2
        go_quiet (fail)
        go_wp2
        go_round
        case rel => exact ⟨k + 1, _, by go_num, hlt, by rw [HS.out], rfl⟩
        case measure => simp [intOf]; omega
      · have hkM : k = n := by omega
        subst hkM
        have hd : decide ((k : Int) < (k : Int)) = false := decide_eq_false (by omega)
        have h3 := HST.out
        have e6 : decide (absF R k ≤ 4294967296) = true := decide_eq_true (by omega)
        go_wp2
        go_ret
        exact ⟨rfl, below_drewN hE5.out m⟩
  · have hpr : predN len order fine cs = ([], filtE len order fine cs) := if_neg hE
    rw [hpr]
    generalize filtE len order fine cs = ec at *
    have e1 : (ec != 0) = true := by simpa using hE
    clear hE hpr HL HZ X2
    go_wp2
    go_ret
    exact ⟨rfl, HB2.out⟩
theorem tns_steady (len order : Int) (down fine : Bool) (cs : List Int) (p : Option Addr) (c : Nat) (w : World) (A0 : IsArg w p c cs) :
    Calls Try.prog 8 #[.agg #[.int .i64 len, .int .i64 order, .bool down, .bool fine, .slice p cs.length c]] w fun e w' => e = .returned (.bool true) ∧ Below w.heap.size w w' := by
  by_cases hn : 1000 < cs.length
  · exact steady_long len order down fine cs p c w hn
  · exact steady_ok len order down fine cs p c w (by omega) A0.1
end Go.Proofs.Yteijlbblmdclaaa
