/- reedpiperef15.filtered: what each call answers. -/
import Derived.Test.YteijlbblmdclaaaTnsRef
import Derived.Test.YteijlbblmdclaaaTnsRefK
import Derived.Test.YteijlbblmdclaaaTnsBank
set_option linter.unusedVariables false
set_option linter.unusedSimpArgs false
namespace Go.Proofs.Yteijlbblmdclaaa
open Go.ChangeShapes Go.WideShapes Go.ChangeAt Go.RowKit
theorem rnd_big {S : Int} (h0 : -1152921504606846976 ≤ S) (h1 : S ≤ 1152921504606846976) : -1099511627776 ≤ rnd S 20 ∧ rnd S 20 ≤ 1099511627776 := by
  have a := rnd_mono 20 h0
  have b := rnd_mono 20 h1
  have e1 : rnd (-1152921504606846976) 20 = -1099511627776 := by decide
  have e2 : rnd 1152921504606846976 20 = 1099511627776 := by decide
  rw [e1] at a
  rw [e2] at b
  exact ⟨a, b⟩
theorem stepY_on (a x ys : List Int) (n : Nat) : stepY 1 a x ys n = keptB (x.getD n 0 + rnd (toldF a x n (min a.length n)) 20) := by
  unfold stepY
  rw [if_pos (by decide), Int.one_mul]
theorem stepY_back (a x ys : List Int) (n : Nat) : stepY (-1) a x ys n = keptB (x.getD n 0 - rnd (toldF a ys n (min a.length n)) 20) := by
  unfold stepY
  rw [if_neg (by decide), Int.neg_one_mul, ← Int.sub_eq_add_neg]
def RFilt (sg : Int) (a x : List Int) (w : World) (e : Ending) (w' : World) : Prop := ∃ q d, e = .returned (.slice q x.length d) ∧ IntsB w' q (filtP sg a x x.length) w.heap.size w'.heap.size ∧ Below w.heap.size w w'
set_option maxRecDepth 100000 in
set_option maxHeartbeats 4000000 in
theorem ref_filt_on (a x : List Int) (pa px : Option Addr) (ca cx : Nat) (hxl : x.length ≤ 256) (hx : ∀ j, -268435455 ≤ x.getD j 0 ∧ x.getD j 0 ≤ 268435455) (ha : absF a a.length ≤ 4293918720) (hal : a.length ≤ 12) (w : World) (hA : IsInts w pa a) (hX : IsInts w px x) :
    Calls Try.prog 44 #[.slice px x.length cx, .slice pa a.length ca, .bool false] w (RFilt 1 a x w) := by
  obtain ⟨i0, hi, hz0, hz1, hz2⟩ := info_parts Try.infoInt
  have HX := Lib.hid hX
  have HA := Lib.hid hA
  have HXB := Lib.hid hx
  have HAB := Lib.hid (fun j (hj : j ≤ a.length) => Int.le_trans (absF_mono a hj) ha)
  have HAN := Lib.hid (absF_nonneg a)
  have HSN := Lib.hid (fun n => show filtP 1 a x (n + 1) = filtP 1 a x n ++ [stepY 1 a x (filtP 1 a x n) n] from rfl)
  have HFL := Lib.hid (filtP_len 1 a x)
  have HFR := Lib.hid (filtP_range 1 a x)
  have HW0 := Lib.hid (Below.refl w.heap.size w)
  clear hX hA hx ha
  go_enter Try.func44, Try.ntmps44
  go_wp2_with fail
  go_loopw [7, 8, 9, 10] (fun V I _ _ wr => ∃ n : Nat, I = .int .i64 n ∧ n ≤ x.length ∧ Hid (wr.ownsRow w.heap.size 3 1 V (filtP 1 a x n).length ((filtP 1 a x n).map (Value.int .i64))) ∧ Hid (Below w.heap.size w wr)) (fun _ I _ _ _ => x.length - (intOf I).toNat)
  case atStart => exact ⟨0, rfl, Nat.zero_le _, Lib.hid (World.ownsRow_nil _ _ _ _), HW0⟩
  case round =>
    obtain ⟨n, rfl, hn, hown, hb0⟩ := hrel
    obtain ⟨wo, hwo⟩ : ∃ z, z = wr := ⟨_, rfl⟩
    subst hwo
    clear HW0
    by_cases hlt : n < x.length
    · have hd : decide ((n : Int) < (x.length : Int)) = true := decide_eq_true (by omega)
      obtain ⟨qo, co, rfl, hIO⟩ := owns_any hown.out
      have HQO := Lib.hid hIO
      have HLN := Lib.hid (HFL.out n)
      clear hIO
      go_wp2_with fail
      go_loopw [9, 10] (fun S K wr => ∃ k m : Nat, K = .int .i64 k ∧ 1 ≤ k ∧ k ≤ a.length + 1 ∧ k ≤ n + 1 ∧ S = .int .i64 (toldF a x n (k - 1)) ∧ wr = wo.drewN m) (fun _ K _ => a.length + 1 - (intOf K).toNat)
      case atStart => exact ⟨1, 0, rfl, Nat.le_refl _, by omega, by omega, rfl, rfl⟩
      case round =>
        obtain ⟨k, m, rfl, hk1, hka, hkn, rfl, rfl⟩ := hrel
        have hao := (HA.out.keep hb0.out).drewN m
        have hno := (HX.out.keep hb0.out).drewN m
        have hxo := (HX.out.keep hb0.out).drewN m
        have hwn := (show (wo.drewN m).ownsRow w.heap.size 3 1 (.slice qo (filtP 1 a x n).length co) (filtP 1 a x n).length ((filtP 1 a x n).map (Value.int .i64)) from hown.out)
        have hbo := below_drewN hb0.out m
        have hT := told_abs a x n HXB.out (k - 1)
        have hAK := HAB.out (k - 1) (by omega)
        obtain ⟨wq, hwq⟩ : ∃ z, wo.drewN m = z := ⟨_, rfl⟩
        rw [hwq] at hao hno hxo hwn hbo ⊢
        have HWQ := Lib.hid hwq
        by_cases hi1 : k ≤ a.length
        · by_cases hi2 : k ≤ n
          · have d1 : decide ((k : Int) ≤ (a.length : Int)) = true := decide_eq_true (by omega)
            have d2 : decide ((k : Int) ≤ (n : Int)) = true := decide_eq_true (by omega)
            obtain ⟨ba, oa, rfl, _, qa⟩ := hao.at (j := k - 1) (by omega)
            have r1 := qa (k - 1) (by omega)
            obtain ⟨bn, on, rfl, _, qn⟩ := hno.at (j := n - k) (by omega)
            have r2 := qn (n - k) (by omega)
            have hst : toldF a x n k = toldF a x n (k - 1) + a.getD (k - 1) 0 * x.getD (n - k) 0 := by
              obtain ⟨j, rfl⟩ : ∃ j, k = j + 1 := ⟨k - 1, by omega⟩
              show toldF a _ n j + a.getD j 0 * _ = _
              rw [Nat.add_sub_cancel, show n - 1 - j = n - (j + 1) by omega]
            have hT2 := told_abs a x n HXB.out k
            have hAK2 := HAB.out k hi1
            obtain ⟨u, hu⟩ : ∃ u, a.getD (k - 1) 0 = u := ⟨_, rfl⟩
            obtain ⟨v, hv⟩ : ∃ v, x.getD (n - k) 0 = v := ⟨_, rfl⟩
            obtain ⟨S, hS⟩ : ∃ S, toldF a x n (k - 1) = S := ⟨_, rfl⟩
            obtain ⟨S2, hS2⟩ : ∃ S, toldF a x n k = S := ⟨_, rfl⟩
            rw [hu] at r1 hst
            rw [hv] at r2 hst
            rw [hS] at hst hT ⊢
            rw [hS2] at hst hT2
            have HS2 := Lib.hid hS2
            have t1 : IntKind.i64.wrap ((k : Int) - 1) = (k : Int) - 1 := IntWalk.i64_in _ (by omega)
            have t2 : ((k : Int) - 1).toNat = k - 1 := by omega
            have t3 : (0 : Int) ≤ (k : Int) - 1 := by omega
            have t4 : (k : Int) - 1 < (a.length : Int) := by omega
            have t5 : IntKind.i64.wrap ((n : Int) - (k : Int)) = (n : Int) - (k : Int) := IntWalk.i64_in _ (by omega)
            have t6 : ((n : Int) - (k : Int)).toNat = n - k := by omega
            have t7 : (0 : Int) ≤ (n : Int) - (k : Int) := by omega
            have t8 : (n : Int) - (k : Int) < (x.length : Int) := by omega
            have t10 : (k : Int) ≤ (n : Int) := by omega
            obtain ⟨P, hP⟩ : ∃ P, u * v = P := ⟨_, rfl⟩
            rw [hP] at hst
            have t9 : IntKind.i64.wrap (u * v) = P := by rw [hP]; exact IntWalk.i64_in _ (by omega)
            have t11 : IntKind.i64.wrap (S + P) = S2 := by rw [← hst]; exact IntWalk.i64_in _ (by omega)
            clear qa qn hu hv hS hS2 hP hst hwn hxo hbo hT hT2 hAK hAK2 hwq
            go_wp2_with fail
            go_quiet (fail)
            go_wp2_with fail
            exact ⟨⟨k + 1, m + nq, by go_num, by omega, by omega, by omega, by rw [Nat.add_sub_cancel, HS2.out], by rw [← HWQ.out, World.drewN_drewN]⟩, by simp [intOf]; omega⟩
          · have d1 : decide ((k : Int) ≤ (a.length : Int)) = true := decide_eq_true (by omega)
            have d2 : decide ((k : Int) ≤ (n : Int)) = false := decide_eq_false (by omega)
            have hkm : k - 1 = min a.length n := by omega
            rw [hkm] at hT hAK ⊢
            obtain ⟨bx, ox, rfl, _, qx⟩ := hxo.at (j := n) (by omega)
            have r1 := qx n hlt
            have HV := Lib.hid (HSN.out n)
            have HSY := Lib.hid (stepY_on a x (filtP 1 a x n) n)
            have hub := HXB.out n
            obtain ⟨u, hu⟩ : ∃ u, x.getD n 0 = u := ⟨_, rfl⟩
            rw [hu] at r1 HSY hub
            obtain ⟨S, hS⟩ : ∃ S, toldF a x n (min a.length n) = S := ⟨_, rfl⟩
            rw [hS] at hT HSY ⊢
            have hR := rnd_big (show -1152921504606846976 ≤ S by omega) (by omega)
            have HR := Lib.hid (fun W => down_lit S 20 20 rfl (by omega) (by omega) (by decide) W)
            obtain ⟨R, hRR⟩ : ∃ R, rnd S 20 = R := ⟨_, rfl⟩
            rw [hRR] at hR HR HSY
            have t1 : IntKind.i64.wrap (u + R) = u + R := IntWalk.i64_in _ (by omega)
            have HK := Lib.hid (fun W => ref_kept (u + R) W)
            obtain ⟨v, hv⟩ : ∃ v, keptB (u + R) = v := ⟨_, rfl⟩
            rw [hv] at HK HSY
            rw [HSY.out] at HV
            have hown1 := Lib.hid (show ((wq.drew).alloc (.cells #[.int .i64 v] 3)).ownsRow w.heap.size 3 1 _ _ _ from hwn.alloc (.cells #[.int .i64 v] 3))
            have hb1 := Lib.hid (show Below w.heap.size w ((wq.drew).alloc (.cells #[.int .i64 v] 3)) from (below_drewN hbo 1).alloc hbo.size (.cells #[.int .i64 v] 3))
            have hl0 := Lib.hid hwn.lt
            have hsz := hbo.size
            clear qx hu hS hRR hv hwn hbo hxo hao hno hT hAK hwq HSY
            go_wp2_with fail
            go_region_law (first
              | (refine step_append_lies _ rfl (.tmp 69) (.tmp 78) 22 rfl w.heap.size 3 i0 (.int .i64 0) 1 8 Try.underlying22 hi hz0 hz1 hz2 rfl (by decide) _ _ _ (by first | rfl | simp [Act.eval, Act.put]) hown1.out ⟨wq.heap.size, 0, none⟩ 1 1 [.int .i64 v] (by first | rfl | simp [Act.eval, Act.put]) rfl (cell_one_new _ _ _) (one_int _) (by decide) (by rw [HLN.out]; unfold maxLen; omega) (by rw [HLN.out]; omega) (by show _ ≤ (wq.alloc _).heap.size; simp; omega) _ rfl ?_; intro g' cap' wA hown' hg hat hltA)
              | (go_simp; go_at_call 33; refine (HR.out _).mono ?_; rintro e w' ⟨rfl, rfl⟩)
              | (go_simp; go_at_call 61; refine (HK.out _).mono ?_; rintro e w' ⟨rfl, rfl⟩))
            all_goals
              have hb2 : Below w.heap.size w wA := hb1.out.grown hg (by show _ ≤ (wq.alloc _).heap.size; simp; omega) (fun j hj => (hl0.out j hj).1)
              have hown2 : wA.ownsRow w.heap.size 3 1 (.slice (some ⟨g', 0, none⟩) ((filtP 1 a x n).length + 1) cap') (filtP 1 a x (n + 1)).length ((filtP 1 a x (n + 1)).map (Value.int .i64)) := by
                rw [HV.out, List.map_append, List.length_append]
                simpa using hown'
              clear hown' hg hb1 hown1
              go_wp2
              exact ⟨⟨n + 1, by go_num, by omega, Lib.hid hown2, Lib.hid hb2⟩, by simp [intOf]; omega⟩
        · have d1 : decide ((k : Int) ≤ (a.length : Int)) = false := decide_eq_false (by omega)
          have hkm : k - 1 = min a.length n := by omega
          rw [hkm] at hT hAK ⊢
          obtain ⟨bx, ox, rfl, _, qx⟩ := hxo.at (j := n) (by omega)
          have r1 := qx n hlt
          have HV := Lib.hid (HSN.out n)
          have HSY := Lib.hid (stepY_on a x (filtP 1 a x n) n)
          have hub := HXB.out n
          obtain ⟨u, hu⟩ : ∃ u, x.getD n 0 = u := ⟨_, rfl⟩
          rw [hu] at r1 HSY hub
          obtain ⟨S, hS⟩ : ∃ S, toldF a x n (min a.length n) = S := ⟨_, rfl⟩
          rw [hS] at hT HSY ⊢
          have hR := rnd_big (show -1152921504606846976 ≤ S by omega) (by omega)
          have HR := Lib.hid (fun W => down_lit S 20 20 rfl (by omega) (by omega) (by decide) W)
          obtain ⟨R, hRR⟩ : ∃ R, rnd S 20 = R := ⟨_, rfl⟩
          rw [hRR] at hR HR HSY
          have t1 : IntKind.i64.wrap (u + R) = u + R := IntWalk.i64_in _ (by omega)
          have HK := Lib.hid (fun W => ref_kept (u + R) W)
          obtain ⟨v, hv⟩ : ∃ v, keptB (u + R) = v := ⟨_, rfl⟩
          rw [hv] at HK HSY
          rw [HSY.out] at HV
          have hown1 := Lib.hid (show ((wq.drew).alloc (.cells #[.int .i64 v] 3)).ownsRow w.heap.size 3 1 _ _ _ from hwn.alloc (.cells #[.int .i64 v] 3))
          have hb1 := Lib.hid (show Below w.heap.size w ((wq.drew).alloc (.cells #[.int .i64 v] 3)) from (below_drewN hbo 1).alloc hbo.size (.cells #[.int .i64 v] 3))
          have hl0 := Lib.hid hwn.lt
          have hsz := hbo.size
          clear qx hu hS hRR hv hwn hbo hxo hao hno hT hAK hwq HSY
          go_wp2_with fail
          go_region_law (first
            | (refine step_append_lies _ rfl (.tmp 69) (.tmp 78) 22 rfl w.heap.size 3 i0 (.int .i64 0) 1 8 Try.underlying22 hi hz0 hz1 hz2 rfl (by decide) _ _ _ (by first | rfl | simp [Act.eval, Act.put]) hown1.out ⟨wq.heap.size, 0, none⟩ 1 1 [.int .i64 v] (by first | rfl | simp [Act.eval, Act.put]) rfl (cell_one_new _ _ _) (one_int _) (by decide) (by rw [HLN.out]; unfold maxLen; omega) (by rw [HLN.out]; omega) (by show _ ≤ (wq.alloc _).heap.size; simp; omega) _ rfl ?_; intro g' cap' wA hown' hg hat hltA)
            | (go_simp; go_at_call 33; refine (HR.out _).mono ?_; rintro e w' ⟨rfl, rfl⟩)
            | (go_simp; go_at_call 61; refine (HK.out _).mono ?_; rintro e w' ⟨rfl, rfl⟩))
          all_goals
            have hb2 : Below w.heap.size w wA := hb1.out.grown hg (by show _ ≤ (wq.alloc _).heap.size; simp; omega) (fun j hj => (hl0.out j hj).1)
            have hown2 : wA.ownsRow w.heap.size 3 1 (.slice (some ⟨g', 0, none⟩) ((filtP 1 a x n).length + 1) cap') (filtP 1 a x (n + 1)).length ((filtP 1 a x (n + 1)).map (Value.int .i64)) := by
              rw [HV.out, List.map_append, List.length_append]
              simpa using hown'
            clear hown' hg hb1 hown1
            go_wp2
            exact ⟨⟨n + 1, by go_num, by omega, Lib.hid hown2, Lib.hid hb2⟩, by simp [intOf]; omega⟩
    · have hnx : n = x.length := by omega
      subst hnx
      have hd : decide ((x.length : Int) < (x.length : Int)) = false := by simp
      obtain ⟨q2, d2, rfl, I2⟩ := owns_any hown.out
      have HQ := Lib.hid I2
      have HLX := Lib.hid (HFL.out x.length)
      clear I2 hlt
      go_wp2
      go_ret
      exact ⟨q2, d2, by simp [HLX.out], HQ.out, hb0.out⟩
set_option maxRecDepth 100000 in
set_option maxHeartbeats 4000000 in
theorem ref_filt_back (a x : List Int) (pa px : Option Addr) (ca cx : Nat) (hxl : x.length ≤ 256) (hx : ∀ j, -268435455 ≤ x.getD j 0 ∧ x.getD j 0 ≤ 268435455) (ha : absF a a.length ≤ 4293918720) (hal : a.length ≤ 12) (w : World) (hA : IsInts w pa a) (hX : IsInts w px x) :
    Calls Try.prog 44 #[.slice px x.length cx, .slice pa a.length ca, .bool true] w (RFilt (-1) a x w) := by
  obtain ⟨i0, hi, hz0, hz1, hz2⟩ := info_parts Try.infoInt
  have HX := Lib.hid hX
  have HA := Lib.hid hA
  have HXB := Lib.hid hx
  have HAB := Lib.hid (fun j (hj : j ≤ a.length) => Int.le_trans (absF_mono a hj) ha)
  have HAN := Lib.hid (absF_nonneg a)
  have HSN := Lib.hid (fun n => show filtP (-1) a x (n + 1) = filtP (-1) a x n ++ [stepY (-1) a x (filtP (-1) a x n) n] from rfl)
  have HFL := Lib.hid (filtP_len (-1) a x)
  have HFR := Lib.hid (filtP_range (-1) a x)
  have HW0 := Lib.hid (Below.refl w.heap.size w)
  clear hX hA hx ha
  go_enter Try.func44, Try.ntmps44
  go_wp2_with fail
  go_loopw [7, 8, 9, 10] (fun V I _ _ wr => ∃ n : Nat, I = .int .i64 n ∧ n ≤ x.length ∧ Hid (wr.ownsRow w.heap.size 3 1 V (filtP (-1) a x n).length ((filtP (-1) a x n).map (Value.int .i64))) ∧ Hid (Below w.heap.size w wr)) (fun _ I _ _ _ => x.length - (intOf I).toNat)
  case atStart => exact ⟨0, rfl, Nat.zero_le _, Lib.hid (World.ownsRow_nil _ _ _ _), HW0⟩
  case round =>
    obtain ⟨n, rfl, hn, hown, hb0⟩ := hrel
    obtain ⟨wo, hwo⟩ : ∃ z, z = wr := ⟨_, rfl⟩
    subst hwo
    clear HW0
    by_cases hlt : n < x.length
    · have hd : decide ((n : Int) < (x.length : Int)) = true := decide_eq_true (by omega)
      obtain ⟨qo, co, rfl, hIO⟩ := owns_any hown.out
      have HQO := Lib.hid hIO
      have HLN := Lib.hid (HFL.out n)
      clear hIO
      go_wp2_with fail
      go_loopw [9, 10] (fun S K wr => ∃ k m : Nat, K = .int .i64 k ∧ 1 ≤ k ∧ k ≤ a.length + 1 ∧ k ≤ n + 1 ∧ S = .int .i64 (toldF a (filtP (-1) a x n) n (k - 1)) ∧ wr = wo.drewN m) (fun _ K _ => a.length + 1 - (intOf K).toNat)
      case atStart => exact ⟨1, 0, rfl, Nat.le_refl _, by omega, by omega, rfl, rfl⟩
      case round =>
        obtain ⟨k, m, rfl, hk1, hka, hkn, rfl, rfl⟩ := hrel
        have hao := (HA.out.keep hb0.out).drewN m
        have hno := (show IntsB (wo.drewN m) qo (filtP (-1) a x n) w.heap.size wo.heap.size from HQO.out).ints
        have hxo := (HX.out.keep hb0.out).drewN m
        have hwn := (show (wo.drewN m).ownsRow w.heap.size 3 1 (.slice qo (filtP (-1) a x n).length co) (filtP (-1) a x n).length ((filtP (-1) a x n).map (Value.int .i64)) from hown.out)
        have hbo := below_drewN hb0.out m
        have hT := told_abs a (filtP (-1) a x n) n (HFR.out n) (k - 1)
        have hAK := HAB.out (k - 1) (by omega)
        obtain ⟨wq, hwq⟩ : ∃ z, wo.drewN m = z := ⟨_, rfl⟩
        rw [hwq] at hao hno hxo hwn hbo ⊢
        have HWQ := Lib.hid hwq
        by_cases hi1 : k ≤ a.length
        · by_cases hi2 : k ≤ n
          · have d1 : decide ((k : Int) ≤ (a.length : Int)) = true := decide_eq_true (by omega)
            have d2 : decide ((k : Int) ≤ (n : Int)) = true := decide_eq_true (by omega)
            obtain ⟨ba, oa, rfl, _, qa⟩ := hao.at (j := k - 1) (by omega)
            have r1 := qa (k - 1) (by omega)
            obtain ⟨bn, on, hqn, _, qn⟩ := hno.at (j := n - k) (by rw [HLN.out]; omega)
            have r2 := qn (n - k) (by rw [HLN.out]; omega)
            have hst : toldF a (filtP (-1) a x n) n k = toldF a (filtP (-1) a x n) n (k - 1) + a.getD (k - 1) 0 * (filtP (-1) a x n).getD (n - k) 0 := by
              obtain ⟨j, rfl⟩ : ∃ j, k = j + 1 := ⟨k - 1, by omega⟩
              show toldF a _ n j + a.getD j 0 * _ = _
              rw [Nat.add_sub_cancel, show n - 1 - j = n - (j + 1) by omega]
            have hT2 := told_abs a (filtP (-1) a x n) n (HFR.out n) k
            have hAK2 := HAB.out k hi1
            obtain ⟨u, hu⟩ : ∃ u, a.getD (k - 1) 0 = u := ⟨_, rfl⟩
            obtain ⟨v, hv⟩ : ∃ v, (filtP (-1) a x n).getD (n - k) 0 = v := ⟨_, rfl⟩
            obtain ⟨S, hS⟩ : ∃ S, toldF a (filtP (-1) a x n) n (k - 1) = S := ⟨_, rfl⟩
            obtain ⟨S2, hS2⟩ : ∃ S, toldF a (filtP (-1) a x n) n k = S := ⟨_, rfl⟩
            rw [hu] at r1 hst
            rw [hv] at r2 hst
            rw [hS] at hst hT ⊢
            rw [hS2] at hst hT2
            have HS2 := Lib.hid hS2
            have t1 : IntKind.i64.wrap ((k : Int) - 1) = (k : Int) - 1 := IntWalk.i64_in _ (by omega)
            have t2 : ((k : Int) - 1).toNat = k - 1 := by omega
            have t3 : (0 : Int) ≤ (k : Int) - 1 := by omega
            have t4 : (k : Int) - 1 < (a.length : Int) := by omega
            have t5 : IntKind.i64.wrap ((n : Int) - (k : Int)) = (n : Int) - (k : Int) := IntWalk.i64_in _ (by omega)
            have t6 : ((n : Int) - (k : Int)).toNat = n - k := by omega
            have t7 : (0 : Int) ≤ (n : Int) - (k : Int) := by omega
            have t8 : (n : Int) - (k : Int) < ((filtP (-1) a x n).length : Int) := by rw [HLN.out]; omega
            have t10 : (k : Int) ≤ (n : Int) := by omega
            obtain ⟨P, hP⟩ : ∃ P, u * v = P := ⟨_, rfl⟩
            rw [hP] at hst
            have t9 : IntKind.i64.wrap (u * v) = P := by rw [hP]; exact IntWalk.i64_in _ (by omega)
            have t11 : IntKind.i64.wrap (S + P) = S2 := by rw [← hst]; exact IntWalk.i64_in _ (by omega)
            subst hqn
            clear qa qn hu hv hS hS2 hP hst hwn hxo hbo hT hT2 hAK hAK2 hwq
            go_wp2_with fail
            go_quiet (fail)
            go_wp2_with fail
            exact ⟨⟨k + 1, m + nq, by go_num, by omega, by omega, by omega, by rw [Nat.add_sub_cancel, HS2.out], by rw [← HWQ.out, World.drewN_drewN]⟩, by simp [intOf]; omega⟩
          · have d1 : decide ((k : Int) ≤ (a.length : Int)) = true := decide_eq_true (by omega)
            have d2 : decide ((k : Int) ≤ (n : Int)) = false := decide_eq_false (by omega)
            have hkm : k - 1 = min a.length n := by omega
            rw [hkm] at hT hAK ⊢
            obtain ⟨bx, ox, rfl, _, qx⟩ := hxo.at (j := n) (by omega)
            have r1 := qx n hlt
            have HV := Lib.hid (HSN.out n)
            have HSY := Lib.hid (stepY_back a x (filtP (-1) a x n) n)
            have hub := HXB.out n
            obtain ⟨u, hu⟩ : ∃ u, x.getD n 0 = u := ⟨_, rfl⟩
            rw [hu] at r1 HSY hub
            obtain ⟨S, hS⟩ : ∃ S, toldF a (filtP (-1) a x n) n (min a.length n) = S := ⟨_, rfl⟩
            rw [hS] at hT HSY ⊢
            have hR := rnd_big (show -1152921504606846976 ≤ S by omega) (by omega)
            have HR := Lib.hid (fun W => down_lit S 20 20 rfl (by omega) (by omega) (by decide) W)
            obtain ⟨R, hRR⟩ : ∃ R, rnd S 20 = R := ⟨_, rfl⟩
            rw [hRR] at hR HR HSY
            have t1 : IntKind.i64.wrap (u - R) = u - R := IntWalk.i64_in _ (by omega)
            have HK := Lib.hid (fun W => ref_kept (u - R) W)
            obtain ⟨v, hv⟩ : ∃ v, keptB (u - R) = v := ⟨_, rfl⟩
            rw [hv] at HK HSY
            rw [HSY.out] at HV
            have hown1 := Lib.hid (show ((wq.drew).alloc (.cells #[.int .i64 v] 3)).ownsRow w.heap.size 3 1 _ _ _ from hwn.alloc (.cells #[.int .i64 v] 3))
            have hb1 := Lib.hid (show Below w.heap.size w ((wq.drew).alloc (.cells #[.int .i64 v] 3)) from (below_drewN hbo 1).alloc hbo.size (.cells #[.int .i64 v] 3))
            have hl0 := Lib.hid hwn.lt
            have hsz := hbo.size
            clear qx hu hS hRR hv hwn hbo hxo hao hno hT hAK hwq HSY
            go_wp2_with fail
            go_region_law (first
              | (refine step_append_lies _ rfl (.tmp 58) (.tmp 67) 22 rfl w.heap.size 3 i0 (.int .i64 0) 1 8 Try.underlying22 hi hz0 hz1 hz2 rfl (by decide) _ _ _ (by first | rfl | simp [Act.eval, Act.put]) hown1.out ⟨wq.heap.size, 0, none⟩ 1 1 [.int .i64 v] (by first | rfl | simp [Act.eval, Act.put]) rfl (cell_one_new _ _ _) (one_int _) (by decide) (by rw [HLN.out]; unfold maxLen; omega) (by rw [HLN.out]; omega) (by show _ ≤ (wq.alloc _).heap.size; simp; omega) _ rfl ?_; intro g' cap' wA hown' hg hat hltA)
              | (go_simp; go_at_call 33; refine (HR.out _).mono ?_; rintro e w' ⟨rfl, rfl⟩)
              | (go_simp; go_at_call 61; refine (HK.out _).mono ?_; rintro e w' ⟨rfl, rfl⟩))
            all_goals
              have hb2 : Below w.heap.size w wA := hb1.out.grown hg (by show _ ≤ (wq.alloc _).heap.size; simp; omega) (fun j hj => (hl0.out j hj).1)
              have hown2 : wA.ownsRow w.heap.size 3 1 (.slice (some ⟨g', 0, none⟩) ((filtP (-1) a x n).length + 1) cap') (filtP (-1) a x (n + 1)).length ((filtP (-1) a x (n + 1)).map (Value.int .i64)) := by
                rw [HV.out, List.map_append, List.length_append]
                simpa using hown'
              clear hown' hg hb1 hown1
              go_wp2
              exact ⟨⟨n + 1, by go_num, by omega, Lib.hid hown2, Lib.hid hb2⟩, by simp [intOf]; omega⟩
        · have d1 : decide ((k : Int) ≤ (a.length : Int)) = false := decide_eq_false (by omega)
          have hkm : k - 1 = min a.length n := by omega
          rw [hkm] at hT hAK ⊢
          obtain ⟨bx, ox, rfl, _, qx⟩ := hxo.at (j := n) (by omega)
          have r1 := qx n hlt
          have HV := Lib.hid (HSN.out n)
          have HSY := Lib.hid (stepY_back a x (filtP (-1) a x n) n)
          have hub := HXB.out n
          obtain ⟨u, hu⟩ : ∃ u, x.getD n 0 = u := ⟨_, rfl⟩
          rw [hu] at r1 HSY hub
          obtain ⟨S, hS⟩ : ∃ S, toldF a (filtP (-1) a x n) n (min a.length n) = S := ⟨_, rfl⟩
          rw [hS] at hT HSY ⊢
          have hR := rnd_big (show -1152921504606846976 ≤ S by omega) (by omega)
          have HR := Lib.hid (fun W => down_lit S 20 20 rfl (by omega) (by omega) (by decide) W)
          obtain ⟨R, hRR⟩ : ∃ R, rnd S 20 = R := ⟨_, rfl⟩
          rw [hRR] at hR HR HSY
          have t1 : IntKind.i64.wrap (u - R) = u - R := IntWalk.i64_in _ (by omega)
          have HK := Lib.hid (fun W => ref_kept (u - R) W)
          obtain ⟨v, hv⟩ : ∃ v, keptB (u - R) = v := ⟨_, rfl⟩
          rw [hv] at HK HSY
          rw [HSY.out] at HV
          have hown1 := Lib.hid (show ((wq.drew).alloc (.cells #[.int .i64 v] 3)).ownsRow w.heap.size 3 1 _ _ _ from hwn.alloc (.cells #[.int .i64 v] 3))
          have hb1 := Lib.hid (show Below w.heap.size w ((wq.drew).alloc (.cells #[.int .i64 v] 3)) from (below_drewN hbo 1).alloc hbo.size (.cells #[.int .i64 v] 3))
          have hl0 := Lib.hid hwn.lt
          have hsz := hbo.size
          clear qx hu hS hRR hv hwn hbo hxo hao hno hT hAK hwq HSY
          go_wp2_with fail
          go_region_law (first
            | (refine step_append_lies _ rfl (.tmp 58) (.tmp 67) 22 rfl w.heap.size 3 i0 (.int .i64 0) 1 8 Try.underlying22 hi hz0 hz1 hz2 rfl (by decide) _ _ _ (by first | rfl | simp [Act.eval, Act.put]) hown1.out ⟨wq.heap.size, 0, none⟩ 1 1 [.int .i64 v] (by first | rfl | simp [Act.eval, Act.put]) rfl (cell_one_new _ _ _) (one_int _) (by decide) (by rw [HLN.out]; unfold maxLen; omega) (by rw [HLN.out]; omega) (by show _ ≤ (wq.alloc _).heap.size; simp; omega) _ rfl ?_; intro g' cap' wA hown' hg hat hltA)
            | (go_simp; go_at_call 33; refine (HR.out _).mono ?_; rintro e w' ⟨rfl, rfl⟩)
            | (go_simp; go_at_call 61; refine (HK.out _).mono ?_; rintro e w' ⟨rfl, rfl⟩))
          all_goals
            have hb2 : Below w.heap.size w wA := hb1.out.grown hg (by show _ ≤ (wq.alloc _).heap.size; simp; omega) (fun j hj => (hl0.out j hj).1)
            have hown2 : wA.ownsRow w.heap.size 3 1 (.slice (some ⟨g', 0, none⟩) ((filtP (-1) a x n).length + 1) cap') (filtP (-1) a x (n + 1)).length ((filtP (-1) a x (n + 1)).map (Value.int .i64)) := by
              rw [HV.out, List.map_append, List.length_append]
              simpa using hown'
            clear hown' hg hb1 hown1
            go_wp2
            exact ⟨⟨n + 1, by go_num, by omega, Lib.hid hown2, Lib.hid hb2⟩, by simp [intOf]; omega⟩
    · have hnx : n = x.length := by omega
      subst hnx
      have hd : decide ((x.length : Int) < (x.length : Int)) = false := by simp
      obtain ⟨q2, d2, rfl, I2⟩ := owns_any hown.out
      have HQ := Lib.hid I2
      have HLX := Lib.hid (HFL.out x.length)
      clear I2 hlt
      go_wp2
      go_ret
      exact ⟨q2, d2, by simp [HLX.out], HQ.out, hb0.out⟩
end Go.Proofs.Yteijlbblmdclaaa
