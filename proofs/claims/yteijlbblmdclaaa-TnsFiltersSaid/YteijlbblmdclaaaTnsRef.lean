/- reedpiperef15: check, Coefs, Predict. -/
import Derived.Test.YteijlbblmdclaaaTnsCheck
import Derived.Deep.AppendLies
import Derived.Deep.RegionLaw
import Derived.Deep.QuietTactic
set_option linter.unusedVariables false
set_option linter.unusedSimpArgs false
namespace Go.Proofs.Yteijlbblmdclaaa
open Go.ChangeShapes Go.WideShapes Go.ChangeAt Go.RowKit

/-- As many of the next ones as are made. -/
def prefL (K : Int) (A : List Int) (m i : Nat) : List Int := (List.range i).map (fun j => A.getD j 0 + rnd (K * A.getD (m - 1 - j) 0) 20)
theorem prefL_len (K : Int) (A : List Int) (m i : Nat) : (prefL K A m i).length = i := by simp [prefL]
theorem prefL_succ (K : Int) (A : List Int) (m i : Nat) : prefL K A m (i + 1) = prefL K A m i ++ [A.getD i 0 + rnd (K * A.getD (m - 1 - i) 0) 20] := by
  unfold prefL
  rw [List.range_succ, List.map_append]; rfl
theorem prefL_all (K : Int) (A : List Int) {m : Nat} (h : A.length = m) : nextL K A = prefL K A m m ++ [K] := by
  unfold nextL prefL
  rw [h]
set_option maxRecDepth 100000 in
set_option maxHeartbeats 4000000 in
theorem ref_coefs (len order : Int) (down fine : Bool) (cs : List Int) (p : Option Addr) (c : Nat) (hl : cs.length ≤ 12) (hc : ∀ j, j < cs.length → -8 ≤ cs.getD j 0 ∧ cs.getD j 0 ≤ 7) (w : World) (hI : IsInts w p cs) :
    Calls Try.prog 24 #[.agg #[.int .i64 len, .int .i64 order, .bool down, .bool fine, .slice p cs.length c]] w fun e w' => ∃ q d, e = .returned (.slice q cs.length d) ∧ IntsB w' q (coefP fine cs cs.length) w.heap.size w'.heap.size ∧ Below w.heap.size w w' := by
  obtain ⟨i0, hi, hz0, hz1, hz2⟩ := info_parts Try.infoInt
  have HI := Lib.hid hI
  have HMI := Lib.hid (fun m (h : m < cs.length) W => ref_mirror (cs.getD m 0) fine (hc m h).1 (hc m h).2 W)
  have HS := Lib.hid (fun m => show coefP fine cs (m + 1) = nextL (mirL (cs.getD m 0) fine) (coefP fine cs m) from rfl)
  have HK := Lib.hid (fun m => mirL_range (cs.getD m 0) fine)
  have HL := Lib.hid (coefP_len fine cs)
  have HF := Lib.hid (fun m h j => coefP_fit12 fine cs (m := m) h j)
  have G0 := Lib.hid (CellsAt.new w 24 #[.int .i64 len, .int .i64 order, .bool down, .bool fine, .slice p cs.length c] rfl)
  have hb0 : Below w.heap.size w (w.alloc (.cells #[.int .i64 len, .int .i64 order, .bool down, .bool fine, .slice p cs.length c] 24)) := (Below.refl _ w).alloc (Nat.le_refl _) _
  clear hI hc
  go_enter Try.func24, Try.ntmps24
  go_wp2_with fail
  go_loopw [3, 4, 5, 6, 7] (fun V I _ _ _ wr => ∃ (m : Nat) (q : Option Addr) (d : Nat), I = .int .i64 m ∧ m ≤ cs.length ∧ V = .slice q m d ∧ Hid (CellsAt wr w.heap.size 24 #[.int .i64 len, .int .i64 order, .bool down, .bool fine, .slice p cs.length c]) ∧ Hid (IntsB wr q (coefP fine cs m) w.heap.size wr.heap.size) ∧ Below w.heap.size w wr) (fun _ I _ _ _ _ => cs.length - (intOf I).toNat)
  case atStart => exact ⟨0, none, 0, rfl, Nat.zero_le _, rfl, G0, Lib.hid ⟨Nat.le_refl _, .inl rfl⟩, hb0⟩
  case round =>
    obtain ⟨m, q, d, rfl, hm, rfl, hG, hA, hb⟩ := hrel
    obtain ⟨wo, hwo⟩ : ∃ z, z = wr := ⟨_, rfl⟩
    subst hwo
    clear G0 hb0
    have k3 := hG.out.cell 3
    have k4 := hG.out.cell 4
    simp only [List.getElem?_toArray, List.getElem?_cons_succ, List.getElem?_cons_zero] at k3 k4
    by_cases hlt : m < cs.length
    · have hd : decide ((m : Int) < (cs.length : Int)) = true := decide_eq_true (by omega)
      obtain ⟨bp, op, rfl, _, qp⟩ := (HI.out.keep hb).at hlt
      have rp := qp m hlt
      have HM2 := Lib.hid (HMI.out m hlt)
      have HS2 := Lib.hid (HS.out m)
      have HK2 := HK.out m
      obtain ⟨x, hx⟩ : ∃ x, cs.getD m 0 = x := ⟨_, rfl⟩
      rw [hx] at rp HM2 HS2 HK2
      obtain ⟨K, hK⟩ : ∃ K, mirL x fine = K := ⟨_, rfl⟩
      rw [hK] at HM2 HS2 HK2
      have hmI : (m : Int) < (cs.length : Int) := by omega
      clear qp hx hK
      go_wp2
      go_quiet ((go_at_call 32; exact Calls.quiet_of_same ((HM2.out _).mono fun _ _ ⟨h, hw⟩ => ⟨h, hw.symm⟩)))
      obtain ⟨wi, hwi⟩ : ∃ wi, wo.drewN nq = wi := ⟨_, rfl⟩
      have G2 := Lib.hid (hG.out.drewN nq)
      have A2 := Lib.hid (show IntsB (wo.drewN nq) q (coefP fine cs m) w.heap.size (wo.drewN nq).heap.size from hA.out.drewN nq)
      have hb2 := below_drewN hb nq
      rw [hwi] at G2 A2 hb2 ⊢
      obtain ⟨A, hAA⟩ : ∃ A, coefP fine cs m = A := ⟨_, rfl⟩
      have HLA := Lib.hid (show A.length = m by rw [← hAA]; exact HL.out m)
      have HFA := Lib.hid (show ∀ j, -4294967296 ≤ A.getD j 0 ∧ A.getD j 0 ≤ 4294967296 by rw [← hAA]; exact fun j => HF.out m (by omega) j)
      rw [hAA] at A2 HS2
      have hm12 : m < 12 := by omega
      have hB2 := Lib.hid hb2
      have hself := Below.refl wi.heap.size wi
      clear hwi hAA hG hA hb k3 k4 HM2 hb2
      go_wp2_with fail
      go_loopw [6, 7] (fun V I wr => ∃ i : Nat, I = .int .i64 i ∧ i ≤ m ∧ wr.ownsRow wi.heap.size 3 1 V (prefL K A m i).length ((prefL K A m i).map (Value.int .i64)) ∧ Below wi.heap.size wi wr) (fun _ I _ => m - (intOf I).toNat)
      case atStart => exact ⟨0, rfl, Nat.zero_le _, World.ownsRow_nil _ _ _ _, hself⟩
      case round =>
        obtain ⟨i, rfl, hii, hown, hb⟩ := hrel
        by_cases hli : i < m
        · have hd2 : decide ((i : Int) < (m : Int)) = true := decide_eq_true (by omega)
          obtain ⟨ba, oa, hqa, _, qa⟩ := ((A2.out.keep hb (Nat.le_refl _)).ints).at (j := i) (by rw [HLA.out]; omega)
          have r1 := qa i (by rw [HLA.out]; omega)
          have r2 := qa (m - 1 - i) (by rw [HLA.out]; omega)
          have b1 := HFA.out i
          have b2 := HFA.out (m - 1 - i)
          have HV := Lib.hid (prefL_succ K A m i)
          have hl2 := Lib.hid (prefL_len K A m i)
          obtain ⟨u, hu⟩ : ∃ u, A.getD i 0 = u := ⟨_, rfl⟩
          obtain ⟨v, hv⟩ : ∃ v, A.getD (m - 1 - i) 0 = v := ⟨_, rfl⟩
          rw [hu] at r1 b1 HV
          rw [hv] at r2 b2 HV
          have hp := rnd_prod HK2.1 HK2.2 b2.1 b2.2
          have HR := Lib.hid (fun W => (down_lit (K * v) 20 20 rfl (by omega) (by omega) (by decide) W))
          obtain ⟨R, hR⟩ : ∃ R, rnd (K * v) 20 = R := ⟨_, rfl⟩
          rw [hR] at hp HR HV
          have t1 : IntKind.i64.wrap (K * v) = K * v := IntWalk.i64_in _ (by omega)
          have t2 : IntKind.i64.wrap (u + R) = u + R := IntWalk.i64_in _ (by omega)
          have t3 : IntKind.i64.wrap ((m : Int) - 1) = (m : Int) - 1 := IntWalk.i64_in _ (by omega)
          have t4 : IntKind.i64.wrap ((m : Int) - 1 - (i : Int)) = (m : Int) - 1 - (i : Int) := IntWalk.i64_in _ (by omega)
          have t5 : ((m : Int) - 1 - (i : Int)).toNat = m - 1 - i := by omega
          have t6 : (0 : Int) ≤ (m : Int) - 1 - (i : Int) := by omega
          have t7 : (m : Int) - 1 - (i : Int) < (m : Int) := by omega
          have t8 : (i : Int) < (m : Int) := by omega
          have t9 : (i : Int) ≤ (m : Int) - 1 := by omega
          have hown1 := Lib.hid (show ((wr.drew).alloc (.cells #[.int .i64 (u + R)] 3)).ownsRow wi.heap.size 3 1 _ _ _ from hown.alloc (.cells #[.int .i64 (u + R)] 3))
          have hb1 := Lib.hid (show Below wi.heap.size wi ((wr.drew).alloc (.cells #[.int .i64 (u + R)] 3)) from (below_drewN hb 1).alloc hb.size (.cells #[.int .i64 (u + R)] 3))
          have hl0 := Lib.hid hown.lt
          have hsz := hb.size
          subst hqa
          clear qa hu hv hR hown hb
          go_wp2_with fail
          go_region_law (first
            | (refine step_append_lies _ rfl (.tmp 28) (.tmp 44) 22 rfl wi.heap.size 3 i0 (.int .i64 0) 1 8 Try.underlying22 hi hz0 hz1 hz2 rfl (by decide) _ _ _ (by first | rfl | simp [Act.eval, Act.put]) hown1.out ⟨wr.heap.size, 0, none⟩ 1 1 [.int .i64 (u + R)] (by first | rfl | simp [Act.eval, Act.put]) rfl (cell_one_new _ _ _) (one_int _) (by decide) (by rw [hl2.out]; unfold maxLen; omega) (by rw [hl2.out]; omega) (by show _ ≤ (wr.alloc _).heap.size; simp; omega) _ rfl ?_; intro g' cap' wA hown' hg hat hltA)
            | (go_simp; go_at_call 33; refine (HR.out _).mono ?_; rintro e w' ⟨rfl, rfl⟩))
          all_goals
            have hb2 : Below wi.heap.size wi wA := hb1.out.grown hg (by show _ ≤ (wr.alloc _).heap.size; simp; omega) (fun j hj => (hl0.out j hj).1)
            have hown2 : wA.ownsRow wi.heap.size 3 1 (.slice (some ⟨g', 0, none⟩) ((prefL K A m i).length + 1) cap') (prefL K A m (i + 1)).length ((prefL K A m (i + 1)).map (Value.int .i64)) := by
              rw [HV.out, List.map_append, List.length_append]
              simpa using hown'
            clear hown' hg hb1 hown1
            go_wp2
            exact ⟨⟨i + 1, by go_num, by omega, hown2, hb2⟩, by simp [intOf]; omega⟩
        · have him : i = m := by omega
          subst him
          have hd2 : decide ((i : Int) < (i : Int)) = false := by simp
          have HV := Lib.hid (prefL_all K A HLA.out)
          have hl2 := Lib.hid (prefL_len K A i i)
          have hb3 := Lib.hid hb
          clear hli
          have hown1 := hown.alloc (.cells #[.int .i64 (K)] 3)
          have hb1 := hb.alloc hb.size (.cells #[.int .i64 (K)] 3)
          have hl0 := Lib.hid hown.lt
          have hsz := hb.size
          clear hown hb
          go_wp2_with (at_builtin; refine wpList_append_own _ rfl _ _ 22 rfl wi.heap.size 3 i0 (.int .i64 0) 1 8 Try.underlying22 hi hz0 hz1 hz2 rfl (by decide) _ _ _ rfl hown1 ⟨wr.heap.size, 0, none⟩ 1 1 [.int .i64 (K)] rfl rfl (cell_one_new _ _ _) (one_int _) ?c3 ?c4 ?c5 ?_)
          case c3 => first | (rw [hl2.out]; unfold maxLen; omega) | (unfold maxLen; omega)
          case c4 => first | (rw [hl2.out]; omega) | omega
          case c5 => first | (simp; omega) | omega
          intro v' wA hown' hg _
          have hb2 : Below wi.heap.size wi wA := hb1.grown hg (by simp; omega) (fun j hj => (hl0.out j hj).1)
          have hown2 : wA.ownsRow wi.heap.size 3 1 v' (nextL K A).length ((nextL K A).map (Value.int .i64)) := by
            rw [HV.out, List.map_append, List.length_append]
            simpa using hown'
          clear hown' hg hb1 hown1
          have HN := Lib.hid hown2
          have hsi := hB2.out.size
          have hb4 := hB2.out.trans (hb2.mono hsi)
          obtain ⟨q2, d2, hv2, I2⟩ := owns_any hown2
          have I3 := Lib.hid (I2.wide (lo' := w.heap.size) (hi' := wA.heap.size) hsi (Nat.le_refl _) (Nat.le_refl _))
          rw [← HS2.out] at I3
          have G4 := Lib.hid ((G2.out.keep hb2 G2.out.lt))
          have hln := Lib.hid (nextL_len K A)
          rw [HLA.out] at hln
          subst hv2
          clear hown2 I2 HN hb2
          rw [hln.out]
          go_wp2
          exact ⟨⟨i + 1, q2, d2, by go_num, by omega, rfl, G4, I3, hb4⟩, by simp [intOf]; omega⟩
    · have hmn : m = cs.length := by omega
      subst hmn
      have hd : decide ((cs.length : Int) < (cs.length : Int)) = false := by simp
      clear hlt
      go_wp2
      go_ret
      exact ⟨_, _, rfl, hA.out, hb⟩
end Go.Proofs.Yteijlbblmdclaaa
