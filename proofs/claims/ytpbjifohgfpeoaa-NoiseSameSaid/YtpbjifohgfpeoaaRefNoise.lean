/- reedpiperef16: what each call answers. -/
import Derived.Test.YtpbjifohgfpeoaaNoiseBand
import Derived.Test.YtpbjifohgfpeoaaRefRoot
import Derived.Test.YtpbjifohgfpeoaaRefValue
import Derived.Test.YtpbjifohgfpeoaaKeep
set_option linter.unusedVariables false
namespace Go.Proofs.Ytpbjifohgfpeoaa
open Go.ChangeShapes Go.WideShapes Go.ChangeAt Go.RowKit

def RRow (l : List Int) (w : World) (e : Ending) (w' : World) : Prop := ∃ v, e = .returned v ∧ w'.ownsRow w.heap.size 3 1 v l.length (l.map (Value.int .i64)) ∧ Below w.heap.size w w'
theorem draw_len (s : Int) (k : Nat) : (drawL s k).length = k := by simp [drawL]
theorem draw_succ (s : Int) (k : Nat) : drawL s (k + 1) = drawL s k ++ [drawV (seedAt s k)] := by rw [drawL, List.range_succ, List.map_append]; rfl
theorem noise_len (s step : Int) (n : Nat) : (noiseL s step n).length = n := by simp [noiseL]
set_option maxRecDepth 100000 in
set_option maxHeartbeats 2000000 in
theorem refdraws_ok (s : Int) (n : Nat) (s0 : 0 ≤ s) (s1 : s < 4294967296) (hn : n ≤ 256) (w : World) :
    Calls Try.prog 28 #[.int .i64 s, .int .i64 n] w (RRow (drawL s n) w) := by
  obtain ⟨i0, hi, hz0, hz1, hz2⟩ := info_parts Try.infoInt
  go_enter Try.func28, Try.ntmps28
  go_wp2
  go_loopw [0, 5, 6] (fun S V I wr => ∃ (k : Nat), S = .int .i64 (seedAt s k) ∧ wr.ownsRow w.heap.size 3 1 V (drawL s k).length ((drawL s k).map (Value.int .i64)) ∧ I = .int .i64 k ∧ k ≤ n ∧ Below w.heap.size w wr) (fun _ _ I _ => n - (intOf I).toNat)
  case atStart => exact ⟨0, rfl, World.ownsRow_nil _ _ _ _, rfl, Nat.zero_le _, Below.refl _ _⟩
  case round =>
    obtain ⟨k, rfl, hown, rfl, hk, hb⟩ := hrel
    by_cases hlt : k < n
    · obtain ⟨z0, z1⟩ := seedAt_range s s0 s1 k
      obtain ⟨n0, n1⟩ := next_range (seedAt s k)
      have hl2 := Lib.hid (draw_len s k)
      have hS : Hid (seedAt s (k + 1) = nextS (seedAt s k)) := rfl
      have HV : Hid (drawV (seedAt s k) = nextS (seedAt s k) / 65536 - 32768) := rfl
      have hz : (seedAt s k * 1664525 + 1013904223) % 4294967296 = nextS (seedAt s k) := rfl
      generalize nextS (seedAt s k) = z at n0 n1 hS HV hz
      generalize hy : seedAt s k = y at z0 z1 hz ⊢
      clear hy
      have hown1 := hown.alloc (.cells #[.int .i64 (z / 65536 - 32768)] 3)
      have hb1 := hb.alloc hb.size (.cells #[.int .i64 (z / 65536 - 32768)] 3)
      have hl0 := Lib.hid hown.lt
      have hsz := hb.size
      clear hown hb
      go_wp2_with (at_builtin; refine wpList_append_own _ rfl _ _ 24 rfl w.heap.size 3 i0 (.int .i64 0) 1 8 Try.underlying24 hi hz0 hz1 hz2 rfl (by decide) _ _ _ rfl hown1 ⟨wr.heap.size, 0, none⟩ 1 1 [.int .i64 (z / 65536 - 32768)] rfl rfl (cell_one_new _ _ _) (one_int _) ?c3 ?c4 ?c5 ?_)
      case c3 => first | (rw [hl2.out]; unfold maxLen; omega) | (unfold maxLen; omega)
      case c4 => first | (rw [hl2.out]; omega) | omega
      case c5 => first | (simp; omega) | omega
      intro v' w1 hown' hg _
      have hb2 : Below w.heap.size w w1 := hb1.grown hg (by simp; omega) (fun j hj => (hl0.out j hj).1)
      have hown2 : w1.ownsRow w.heap.size 3 1 v' (drawL s (k + 1)).length ((drawL s (k + 1)).map (Value.int .i64)) := by
        rw [draw_succ, List.map_append, List.length_append, HV.out]
        simpa using hown'
      clear hown' hg hb1 hown1
      go_wp2
      exact ⟨⟨k + 1, congrArg (Value.int .i64) hS.out.symm, hown2, by go_num, by omega, hb2⟩, by simp [intOf]; omega⟩
    · have hkM : k = n := by omega
      subst hkM
      go_wp2
      go_ret
      exact ⟨_, rfl, hown, hb⟩

theorem down_floor (a b : Int) (hb : 0 < b) : a / b = if a < b * a.tdiv b then a.tdiv b - 1 else a.tdiv b := by
  have h := per_floor a b hb
  have h1 := Int.mul_tdiv_add_tmod a b
  rw [h]
  by_cases hc : a.tmod b < 0
  · rw [if_pos hc, if_pos (by omega)]
  · rw [if_neg hc, if_neg (by omega)]
set_option maxHeartbeats 1000000 in
theorem refdown_ok (a b : Int) (a0 : -1000000000000000000 ≤ a) (a1 : a ≤ 1000000000000000000) (b0 : 0 < b) (b1 : b ≤ 1000000000000000000) (w : World) :
    Calls Try.prog 31 #[.int .i64 a, .int .i64 b] w fun e w' => e = .returned (.int .i64 (a / b)) ∧ w = w' := by
  have hf := down_floor a b b0
  have t1 := Int.lt_tmod_of_pos a b0
  have t2 := Int.tmod_lt_of_pos a b0
  have t3 := Int.mul_tdiv_add_tmod a b
  have lb : -2000000000000000000 ≤ a / b := (Int.le_ediv_iff_mul_le b0).2 (by omega)
  have ub : a / b < 2000000000000000000 := (Int.ediv_lt_iff_lt_mul b0).2 (by omega)
  rw [Int.mul_comm] at t3
  rw [Int.mul_comm] at hf
  by_cases hneg : a < a.tdiv b * b
  · rw [if_pos hneg] at hf
    have hr := Lib.hid hf
    rw [hf] at lb ub
    have q0 : -2000000000000000000 ≤ a.tdiv b * b := by omega
    have q1 : a.tdiv b * b ≤ 2000000000000000000 := by omega
    have hd : decide (a < a.tdiv b * b) = true := decide_eq_true hneg
    clear hf t3 hneg
    go_enter Try.func31, Try.ntmps31
    go_wp2
    go_ret
    exact ⟨ret_int hr.out.symm, rfl⟩
  · rw [if_neg hneg] at hf
    have hr := Lib.hid hf
    rw [hf] at lb ub
    have q0 : -2000000000000000000 ≤ a.tdiv b * b := by omega
    have q1 : a.tdiv b * b ≤ 2000000000000000000 := by omega
    have hd : decide (a < a.tdiv b * b) = false := decide_eq_false hneg
    clear hf t3 hneg
    go_enter Try.func31, Try.ntmps31
    go_wp2
    go_ret
    exact ⟨ret_int hr.out.symm, rfl⟩
theorem refroot_call (s : Int) (n : Nat) (hn : n ≤ 256) (w : World) :
    Calls Try.prog 29 #[.int .i64 (65536 * sumT s n)] w fun e w' => e = .returned (.int .i64 (rootV s n)) ∧ w = w' := by
  obtain ⟨t0, t1⟩ := sumT_range s n
  have h := refroot_ok (sumT s n * 65536).toNat (by omega) w
  rw [Int.toNat_of_nonneg (by omega)] at h
  rw [Int.mul_comm 65536]
  exact h
theorem refvalue_one (m step : Int) (h : m = min step 255) (h0 : 0 ≤ step) (w : World) :
    Calls Try.prog 30 #[.int .i64 1, .int .i64 m] w fun e w' => e = .returned (.int .i64 (oneV step)) ∧ w = w' := by
  obtain ⟨k, rfl⟩ : ∃ k : Nat, m = k := ⟨m.toNat, by omega⟩
  have := refvalue_ok 1 k (by decide) (by decide) (by omega) w
  rwa [oneV, ← h, Int.toNat_natCast]
set_option maxRecDepth 100000 in
set_option maxHeartbeats 2000000 in
theorem reflines_ok (s step : Int) (n : Nat) (s0 : 0 ≤ s) (s1 : s < 4294967296) (p0 : 0 ≤ step) (p1 : step ≤ 511) (hn : n ≤ 256) (w : World) :
    Calls Try.prog 22 #[.int .i64 s, .int .i64 step, .int .i64 n] w (RRow (noiseL s step n) w) := by
  obtain ⟨i0, hi, hz0, hz1, hz2⟩ := info_parts Try.infoInt
  go_enter Try.func22, Try.ntmps22
  go_wp2_with fail
  refine (refdraws_ok s n s0 s1 hn _).mono ?_
  rintro e w2 ⟨v, rfl, hO, hbw⟩
  obtain ⟨p, cap, rfl, hI⟩ := owns_any hO
  rw [draw_len]
  have HI := Lib.hid hI.ints
  clear hO hI
  go_wp2
  go_loopw [8, 9] (fun S I wr => ∃ (k m : Nat), S = .int .i64 (sumT s k) ∧ I = .int .i64 k ∧ k ≤ n ∧ wr = w2.drewN m) (fun _ I _ => n - (intOf I).toNat)
  case atStart => exact ⟨0, 0, rfl, rfl, Nat.zero_le _, rfl⟩
  case round =>
    obtain ⟨k, m, rfl, rfl, hk, rfl⟩ := hrel
    by_cases hlt : k < n
    · obtain ⟨b, off, rfl, _, hc⟩ := HI.out.at (j := k) (by rw [draw_len]; exact hlt)
      have h1 := hc k (by rw [draw_len]; exact hlt)
      have hg : (drawL s n).getD k 0 = drawV (seedAt s k) := by simp [drawL, List.getD_eq_getElem?_getD, hlt]
      rw [hg] at h1
      obtain ⟨q0, q1⟩ := draw_sq (seedAt s k)
      obtain ⟨t0, t1⟩ := sumT_range s k
      have hst : Hid (sumT s (k + 1) = sumT s k + drawV (seedAt s k) * drawV (seedAt s k)) := rfl
      generalize drawV (seedAt s k) = v at h1 q0 q1 hst
      generalize sumT s k = S at t0 t1 hst ⊢
      have e1 : IntKind.i64.wrap (v * v) = v * v := IntWalk.i64_in _ (by omega)
      have e2 : IntKind.i64.wrap (S + v * v) = S + v * v := IntWalk.i64_in _ (by omega)
      clear HI hc hg
      go_wp2
      go_quiet (fail)
      go_wp2
      exact ⟨⟨k + 1, m + nq, congrArg (Value.int .i64) hst.out.symm, by go_num, by omega, rfl⟩, by simp [intOf]; omega⟩
    · have hkM : k = n := by omega
      subst hkM
      obtain ⟨t0, t1⟩ := sumT_range s k
      go_wp2_with fail
      refine (refroot_call s k hn _).mono ?_
      rintro e w3 ⟨rfl, hw3⟩
      obtain ⟨r0, r1⟩ := root_range s k hn
      generalize hD : rootV s k = D at r0 r1 ⊢
      have HD := Lib.hid hD
      clear hD t0 t1
      have HI3 := Lib.hid (hw3 ▸ HI.out.drewN m)
      have hb3 : Below w.heap.size w w3 := hw3 ▸ below_drewN hbw m
      clear hw3 HI hbw
      go_wp2_with fail
      all_goals
        refine (refvalue_one _ step (by omega) p0 _).mono ?_
        rintro e w4 ⟨rfl, hw4⟩
        obtain rfl := hw4
        obtain ⟨o0, o1⟩ := one_range step
        have AR := Lib.hid (fun j => arg_range (seedAt s j) step)
        generalize hA : oneV step = A at o0 o1 AR ⊢
        have HA := Lib.hid hA
        clear hA
        go_wp2
        go_loopw [12, 13] (fun V I wr => ∃ (q : Nat), wr.ownsRow w3.heap.size 3 1 V ((List.range q).map (noiseV s step k)).length (((List.range q).map (noiseV s step k)).map (Value.int .i64)) ∧ I = .int .i64 q ∧ q ≤ k ∧ Below w3.heap.size w3 wr) (fun _ I _ => k - (intOf I).toNat)
        case atStart => exact ⟨0, World.ownsRow_nil _ _ _ _, rfl, Nat.zero_le _, Below.refl _ _⟩
        case round =>
          obtain ⟨q, hown, rfl, hq, hb⟩ := hrel
          by_cases hlt : q < k
          · obtain ⟨b, off, rfl, _, hc⟩ := (HI3.out.keep hb).at (j := q) (by rw [draw_len]; exact hlt)
            have h1 := hc q (by rw [draw_len]; exact hlt)
            have hg : (drawL s k).getD q 0 = drawV (seedAt s q) := by simp [drawL, List.getD_eq_getElem?_getD, hlt]
            rw [hg] at h1
            obtain ⟨a0, a1⟩ := AR.out q
            obtain ⟨v0, v1⟩ := draw_range (seedAt s q)
            have hv : noiseV s step k q = if 0 < D then perV (drawV (seedAt s q) * A * 256) D else 0 := by rw [noiseV, HD.out, HA.out]
            have hl1 : ((List.range q).map (noiseV s step k)).length = q := by simp
            have hl2 := Lib.hid hl1
            clear hc hg hl1
            generalize drawV (seedAt s q) = v at h1 a0 a1 v0 v1 hv
            by_cases hd0 : 0 < D
            · rw [if_pos hd0, perV, show 2 * (v * A * 256) = 512 * v * A by grind] at hv
              have y0 : -4503599627370496 ≤ 512 * v * A ∧ 512 * v * A ≤ 4503599627370496 := by rw [Int.mul_assoc]; omega
              have HP := Lib.hid (fun W => refdown_ok (512 * v * A + D) (2 * D) (by omega) (by omega) (by omega) (by omega) W)
              obtain ⟨y1, y2⟩ := y0
              generalize hx : (512 * v * A + D) / (2 * D) = x at HP hv
              have HV := Lib.hid hv
              clear hv hx
              go_wp2_with fail
              refine (HP.out _).mono ?_
              rintro e w4 ⟨rfl, hw4⟩
              obtain rfl := hw4
              clear HP
              have hown1 := hown.alloc (.cells #[.int .i64 (x)] 3)
              have hb1 := hb.alloc hb.size (.cells #[.int .i64 (x)] 3)
              have hl0 := Lib.hid hown.lt
              have hsz := hb.size
              clear hown hb
              go_wp2_with (at_builtin; refine wpList_append_own _ rfl _ _ 24 rfl w3.heap.size 3 i0 (.int .i64 0) 1 8 Try.underlying24 hi hz0 hz1 hz2 rfl (by decide) _ _ _ rfl hown1 ⟨wr.heap.size, 0, none⟩ 1 1 [.int .i64 (x)] rfl rfl (cell_one_new _ _ _) (one_int _) ?c3 ?c4 ?c5 ?_)
              case c3 => first | (rw [hl2.out]; unfold maxLen; omega) | (unfold maxLen; omega)
              case c4 => first | (rw [hl2.out]; omega) | omega
              case c5 => first | (simp; omega) | omega
              intro v' w1 hown' hg _
              have hb2 : Below w3.heap.size w3 w1 := hb1.grown hg (by simp; omega) (fun j hj => (hl0.out j hj).1)
              have hown2 : w1.ownsRow w3.heap.size 3 1 v' ((List.range (q + 1)).map (noiseV s step k)).length (((List.range (q + 1)).map (noiseV s step k)).map (Value.int .i64)) := by
                rw [List.range_succ, List.map_append, List.map_append, List.length_append]
                simpa [HV.out] using hown'
              clear hown' hg hb1 hown1
              go_wp2
              exact ⟨⟨q + 1, hown2, by go_num, by omega, hb2⟩, by simp [intOf]; omega⟩
            · rw [if_neg hd0] at hv
              have HV := Lib.hid hv
              clear hv
              have hown1 := hown.alloc (.cells #[.int .i64 (0)] 3)
              have hb1 := hb.alloc hb.size (.cells #[.int .i64 (0)] 3)
              have hl0 := Lib.hid hown.lt
              have hsz := hb.size
              clear hown hb
              go_wp2_with (at_builtin; refine wpList_append_own _ rfl _ _ 24 rfl w3.heap.size 3 i0 (.int .i64 0) 1 8 Try.underlying24 hi hz0 hz1 hz2 rfl (by decide) _ _ _ rfl hown1 ⟨wr.heap.size, 0, none⟩ 1 1 [.int .i64 (0)] rfl rfl (cell_one_new _ _ _) (one_int _) ?c3 ?c4 ?c5 ?_)
              case c3 => first | (rw [hl2.out]; unfold maxLen; omega) | (unfold maxLen; omega)
              case c4 => first | (rw [hl2.out]; omega) | omega
              case c5 => first | (simp; omega) | omega
              intro v' w1 hown' hg _
              have hb2 : Below w3.heap.size w3 w1 := hb1.grown hg (by simp; omega) (fun j hj => (hl0.out j hj).1)
              have hown2 : w1.ownsRow w3.heap.size 3 1 v' ((List.range (q + 1)).map (noiseV s step k)).length (((List.range (q + 1)).map (noiseV s step k)).map (Value.int .i64)) := by
                rw [List.range_succ, List.map_append, List.map_append, List.length_append]
                simpa [HV.out] using hown'
              clear hown' hg hb1 hown1
              go_wp2
              exact ⟨⟨q + 1, hown2, by go_num, by omega, hb2⟩, by simp [intOf]; omega⟩
          · have hqk : q = k := by omega
            subst hqk
            go_wp2
            go_ret
            refine ⟨_, rfl, ?_, hb3.trans (hb.mono hb3.size)⟩
            exact owns_lower hown hb3.size
set_option maxRecDepth 100000 in
theorem refnband_ok (s step : Int) (n : Nat) (s0 : 0 ≤ s) (s1 : s < 4294967296) (p0 : 0 ≤ step) (p1 : step ≤ 511) (hn : n ≤ 256) (w : World) :
    Calls Try.prog 13 #[.int .u32 s, .int .i64 step, .int .i64 n] w fun e w' => (∃ v, e = .returned (.tuple #[v, .int .i64 0]) ∧ w'.ownsRow w.heap.size 3 1 v n ((noiseL s step n).map (Value.int .i64))) ∧ Below w.heap.size w w' := by
  have d1 : decide (step < 0) = false := by simp; omega
  have d2 : decide (511 < step) = false := by simp; omega
  have d3 : decide ((n : Int) < 0) = false := by simp
  have d4 : decide (256 < (n : Int)) = false := by simp; omega
  have HR := Lib.hid (fun W => reflines_ok s step n s0 s1 p0 p1 hn W)
  have HL := Lib.hid (noise_len s step n)
  generalize noiseL s step n = l at *
  go_enter Try.func13, Try.ntmps13
  go_wp2_with fail
  refine (HR.out _).mono ?_
  rintro e w2 ⟨v, rfl, hO, hbw⟩
  go_wp2
  go_ret2
  refine ⟨⟨v, rfl, ?_⟩, hbw⟩
  have := HL.out
  rwa [this] at hO
end Go.Proofs.Ytpbjifohgfpeoaa
