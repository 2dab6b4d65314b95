/- reedpiperef06: what each call answers. -/
import Derived.Test.YteijlbblmdclaaaBandMany
set_option linter.unusedVariables false
namespace Go.Proofs.Yteijlbblmdclaaa
open Go.ChangeShapes Go.WideShapes Go.ChangeAt Go.RowKit

theorem lines_L (w : World) : Calls Try.prog 59 #[.bool false] w fun e w' => e = .returned (.int .i64 256) ∧ w' = w := by
  go_enter Try.func59, Try.ntmps59
  go_wp2
  go_ret
  exact ⟨rfl, rfl⟩

theorem wide_L (rate at' : Int) (h0 : 0 ≤ rate) (h1 : rate ≤ 11) (ha0 : 0 ≤ at') (ha1 : at' ≤ 256) (w : World) :
    Calls Try.prog 60 #[.int .i64 rate, .bool false, .int .i64 at'] w fun e w' => e = .returned (.int .i64 (nxt (3 + (11 - rate) / 2) 256 256 at' - at')) ∧ ∃ n, w' = w.drewN n := by
  have hk0 : 0 ≤ at' * (3 + (11 - rate) / 2) := Int.mul_nonneg ha0 (by omega)
  have hk1 : at' * (3 + (11 - rate) / 2) ≤ 256 * 8 := Int.mul_le_mul ha1 (by omega) (by omega) (by omega)
  have q1 : IntKind.i64.wrap (at' * (3 + (11 - rate) / 2)) = at' * (3 + (11 - rate) / 2) := IntWalk.i64_in _ (by omega)
  have q2 : IntKind.i64.wrap (256 - at') = 256 - at' := IntWalk.i64_in _ (by omega)
  have q3 : IntKind.i64.wrap (4 * (at' * (3 + (11 - rate) / 2) / 256)) = 4 * (at' * (3 + (11 - rate) / 2) / 256) := IntWalk.i64_in _ (by omega)
  have q4 : IntKind.i64.wrap (4 + 4 * (at' * (3 + (11 - rate) / 2) / 256)) = 4 + 4 * (at' * (3 + (11 - rate) / 2) / 256) := IntWalk.i64_in _ (by omega)
  by_cases hm : 256 - at' < 4 + 4 * (at' * (3 + (11 - rate) / 2) / 256)
  · have hf : Hid (256 - at' = nxt (3 + (11 - rate) / 2) 256 256 at' - at') := by show _ = _; unfold nxt; omega
    go_enter Try.func60, Try.ntmps60
    go_wp2
    go_quiet ((go_at_call 59; exact Calls.quiet_of_same (lines_L _)))
    go_wp2
    go_ret
    exact ⟨ret_int hf.out, _, rfl⟩
  · have hf : Hid (4 + 4 * (at' * (3 + (11 - rate) / 2) / 256) = nxt (3 + (11 - rate) / 2) 256 256 at' - at') := by show _ = _; unfold nxt; omega
    go_enter Try.func60, Try.ntmps60
    go_wp2
    go_quiet ((go_at_call 59; exact Calls.quiet_of_same (lines_L _)))
    go_wp2
    go_ret
    exact ⟨ret_int hf.out, _, rfl⟩

set_option maxRecDepth 100000 in
set_option maxHeartbeats 1000000 in
theorem refoff_L (rate : Int) (h0 : 0 ≤ rate) (h1 : rate ≤ 11) (w : World) :
    Calls Try.prog 42 #[.int .i64 rate, .bool false] w fun e w' => ∃ v, e = .returned v ∧ w'.ownsRow w.heap.size 3 1 v (offL (3 + (11 - rate) / 2) 256 256 300 0).length ((offL (3 + (11 - rate) / 2) 256 256 300 0).map (Value.int .i64)) ∧ Below w.heap.size w w' := by
  obtain ⟨i0, hi, hz0, hz1, hz2⟩ := info_parts Try.infoInt
  go_enter Try.func42, Try.ntmps42
  go_wp2
  go_loopw [5, 6] (fun V T wr => ∃ (xs : List Int) (at' : Int) (f : Nat), T = .int .i64 at' ∧ wr.ownsRow w.heap.size 3 1 V (xs ++ [at']).length ((xs ++ [at']).map (Value.int .i64)) ∧ Below w.heap.size w wr ∧ Hid (xs ++ offL (3 + (11 - rate) / 2) 256 256 f at' = offL (3 + (11 - rate) / 2) 256 256 300 0) ∧ 0 ≤ at' ∧ at' ≤ 256 ∧ 256 - at' < f ∧ xs.length + f = 300) (fun _ T _ => (256 - intOf T).toNat)
  case atStart => exact ⟨[], 0, 300, rfl, World.ownsRow_lit _ _ 1 (Nat.le_refl _) (by decide) rfl, (Below.refl _ _).alloc (Nat.le_refl _) _, Lib.hid rfl, by decide, by decide, by decide, by decide⟩
  case round =>
    obtain ⟨xs, at', f, rfl, hown, hb, hxs, ha0, ha1, haf, hlen⟩ := hrel
    obtain ⟨f, rfl⟩ : ∃ f', f = f' + 1 := ⟨f - 1, by omega⟩
    by_cases hlt : at' < 256
    · have hxs2 : Hid (xs ++ [at'] ++ offL (3 + (11 - rate) / 2) 256 256 f (nxt (3 + (11 - rate) / 2) 256 256 at') = offL (3 + (11 - rate) / 2) 256 256 300 0) := by
        have h := hxs.out
        rw [offL_step hlt] at h
        show _ = _
        rw [← h, List.append_assoc, List.singleton_append]
      have hn1 : at' < nxt (3 + (11 - rate) / 2) 256 256 at' := by
        have hk0 : 0 ≤ at' * (3 + (11 - rate) / 2) := Int.mul_nonneg ha0 (by omega)
        unfold nxt; omega
      have hn2 : nxt (3 + (11 - rate) / 2) 256 256 at' ≤ 256 := by unfold nxt; omega
      have W := fun W => wide_L rate at' h0 h1 ha0 ha1 W
      generalize nxt (3 + (11 - rate) / 2) 256 256 at' = z at *
      have WW := Lib.hid W
      clear hxs W
      go_wp2_with fail
      refine (lines_L _).mono ?_
      rintro e wl ⟨rfl, hwl⟩
      obtain rfl := hwl.symm
      go_wp2_with fail
      refine (WW.out _).mono ?_
      rintro e wl ⟨rfl, n, hwl⟩
      subst hwl
      have hsz := hb.size
      have hbn := below_drewN hb n
      have hownn : (wr.drewN n).ownsRow w.heap.size 3 1 u5 (xs ++ [at']).length ((xs ++ [at']).map (Value.int .i64)) := hown
      have hl0 := hownn.lt
      have hown1 := hownn.alloc (.cells #[.int .i64 z] 3)
      have hb1 := hbn.alloc hbn.size (.cells #[.int .i64 z] 3)
      have hlx : (xs ++ [at']).length = xs.length + 1 := by simp
      have HLX := Lib.hid hlx
      have hz : at' + (z - at') = z := by omega
      clear hb hown hownn hlx
      generalize hys : xs ++ [at'] = ys at *
      have HY := Lib.hid hys
      clear hys
      have hyl : ys.length ≤ 300 := by have := HLX.out; omega
      have HL0 := Lib.hid hl0
      clear hl0
      go_wp2_with (at_builtin; refine wpList_append_own _ rfl _ _ 22 rfl w.heap.size 3 i0 (.int .i64 0) 1 8 Try.underlying22 hi hz0 hz1 hz2 rfl (by decide) _ _ _ rfl hown1 ⟨(wr.drewN n).heap.size, 0, none⟩ 1 1 [.int .i64 z] rfl rfl (cell_one_new _ _ _) (one_int _) ?c3 ?c4 ?c5 ?_)
      case c3 => unfold maxLen; omega
      case c4 => omega
      case c5 => simp; omega
      intro v' w1 hown' hg _
      have hb2 : Below w.heap.size w w1 := hb1.grown hg (by simp; omega) (fun k hk => (HL0.out k hk).1)
      have hown2 : w1.ownsRow w.heap.size 3 1 v' (ys ++ [z]).length ((ys ++ [z]).map (Value.int .i64)) := by simpa using hown'
      clear hown' hg hb1 hbn hown1
      go_wp2
      exact ⟨⟨ys, z, f, rfl, hown2, hb2, hxs2, by omega, by omega, by omega, by have := HLX.out; omega⟩, by simp [intOf]; omega⟩
    · have hf : Hid (xs ++ [at'] = offL (3 + (11 - rate) / 2) 256 256 300 0) := by
        have h := hxs.out
        rw [offL_end hlt] at h
        exact h
      clear hxs
      go_wp2_with fail
      refine (lines_L _).mono ?_
      rintro e wl ⟨rfl, hwl⟩
      obtain rfl := hwl.symm
      go_wp2
      go_ret
      refine ⟨u5, rfl, ?_, hb⟩
      rw [← hf.out]
      exact hown

theorem lines_S (w : World) : Calls Try.prog 59 #[.bool true] w fun e w' => e = .returned (.int .i64 32) ∧ w' = w := by
  go_enter Try.func59, Try.ntmps59
  go_wp2
  go_ret
  exact ⟨rfl, rfl⟩

theorem wide_S (rate at' : Int) (h0 : 0 ≤ rate) (h1 : rate ≤ 11) (ha0 : 0 ≤ at') (ha1 : at' ≤ 32) (w : World) :
    Calls Try.prog 60 #[.int .i64 rate, .bool true, .int .i64 at'] w fun e w' => e = .returned (.int .i64 (nxt (3 + (11 - rate) / 2) 32 64 at' - at')) ∧ ∃ n, w' = w.drewN n := by
  have hk0 : 0 ≤ at' * (3 + (11 - rate) / 2) := Int.mul_nonneg ha0 (by omega)
  have hk1 : at' * (3 + (11 - rate) / 2) ≤ 32 * 8 := Int.mul_le_mul ha1 (by omega) (by omega) (by omega)
  have q1 : IntKind.i64.wrap (at' * (3 + (11 - rate) / 2)) = at' * (3 + (11 - rate) / 2) := IntWalk.i64_in _ (by omega)
  have q2 : IntKind.i64.wrap (32 - at') = 32 - at' := IntWalk.i64_in _ (by omega)
  have q3 : IntKind.i64.wrap (4 * (at' * (3 + (11 - rate) / 2) / 64)) = 4 * (at' * (3 + (11 - rate) / 2) / 64) := IntWalk.i64_in _ (by omega)
  have q4 : IntKind.i64.wrap (4 + 4 * (at' * (3 + (11 - rate) / 2) / 64)) = 4 + 4 * (at' * (3 + (11 - rate) / 2) / 64) := IntWalk.i64_in _ (by omega)
  by_cases hm : 32 - at' < 4 + 4 * (at' * (3 + (11 - rate) / 2) / 64)
  · have hf : Hid (32 - at' = nxt (3 + (11 - rate) / 2) 32 64 at' - at') := by show _ = _; unfold nxt; omega
    go_enter Try.func60, Try.ntmps60
    go_wp2
    go_quiet ((go_at_call 59; exact Calls.quiet_of_same (lines_S _)))
    go_wp2
    go_ret
    exact ⟨ret_int hf.out, _, rfl⟩
  · have hf : Hid (4 + 4 * (at' * (3 + (11 - rate) / 2) / 64) = nxt (3 + (11 - rate) / 2) 32 64 at' - at') := by show _ = _; unfold nxt; omega
    go_enter Try.func60, Try.ntmps60
    go_wp2
    go_quiet ((go_at_call 59; exact Calls.quiet_of_same (lines_S _)))
    go_wp2
    go_ret
    exact ⟨ret_int hf.out, _, rfl⟩

set_option maxRecDepth 100000 in
set_option maxHeartbeats 1000000 in
theorem refoff_S (rate : Int) (h0 : 0 ≤ rate) (h1 : rate ≤ 11) (w : World) :
    Calls Try.prog 42 #[.int .i64 rate, .bool true] w fun e w' => ∃ v, e = .returned v ∧ w'.ownsRow w.heap.size 3 1 v (offL (3 + (11 - rate) / 2) 32 64 300 0).length ((offL (3 + (11 - rate) / 2) 32 64 300 0).map (Value.int .i64)) ∧ Below w.heap.size w w' := by
  obtain ⟨i0, hi, hz0, hz1, hz2⟩ := info_parts Try.infoInt
  go_enter Try.func42, Try.ntmps42
  go_wp2
  go_loopw [5, 6] (fun V T wr => ∃ (xs : List Int) (at' : Int) (f : Nat), T = .int .i64 at' ∧ wr.ownsRow w.heap.size 3 1 V (xs ++ [at']).length ((xs ++ [at']).map (Value.int .i64)) ∧ Below w.heap.size w wr ∧ Hid (xs ++ offL (3 + (11 - rate) / 2) 32 64 f at' = offL (3 + (11 - rate) / 2) 32 64 300 0) ∧ 0 ≤ at' ∧ at' ≤ 32 ∧ 32 - at' < f ∧ xs.length + f = 300) (fun _ T _ => (32 - intOf T).toNat)
  case atStart => exact ⟨[], 0, 300, rfl, World.ownsRow_lit _ _ 1 (Nat.le_refl _) (by decide) rfl, (Below.refl _ _).alloc (Nat.le_refl _) _, Lib.hid rfl, by decide, by decide, by decide, by decide⟩
  case round =>
    obtain ⟨xs, at', f, rfl, hown, hb, hxs, ha0, ha1, haf, hlen⟩ := hrel
    obtain ⟨f, rfl⟩ : ∃ f', f = f' + 1 := ⟨f - 1, by omega⟩
    by_cases hlt : at' < 32
    · have hxs2 : Hid (xs ++ [at'] ++ offL (3 + (11 - rate) / 2) 32 64 f (nxt (3 + (11 - rate) / 2) 32 64 at') = offL (3 + (11 - rate) / 2) 32 64 300 0) := by
        have h := hxs.out
        rw [offL_step hlt] at h
        show _ = _
        rw [← h, List.append_assoc, List.singleton_append]
      have hn1 : at' < nxt (3 + (11 - rate) / 2) 32 64 at' := by
        have hk0 : 0 ≤ at' * (3 + (11 - rate) / 2) := Int.mul_nonneg ha0 (by omega)
        unfold nxt; omega
      have hn2 : nxt (3 + (11 - rate) / 2) 32 64 at' ≤ 32 := by unfold nxt; omega
      have W := fun W => wide_S rate at' h0 h1 ha0 ha1 W
      generalize nxt (3 + (11 - rate) / 2) 32 64 at' = z at *
      have WW := Lib.hid W
      clear hxs W
      go_wp2_with fail
      refine (lines_S _).mono ?_
      rintro e wl ⟨rfl, hwl⟩
      obtain rfl := hwl.symm
      go_wp2_with fail
      refine (WW.out _).mono ?_
      rintro e wl ⟨rfl, n, hwl⟩
      subst hwl
      have hsz := hb.size
      have hbn := below_drewN hb n
      have hownn : (wr.drewN n).ownsRow w.heap.size 3 1 u5 (xs ++ [at']).length ((xs ++ [at']).map (Value.int .i64)) := hown
      have hl0 := hownn.lt
      have hown1 := hownn.alloc (.cells #[.int .i64 z] 3)
      have hb1 := hbn.alloc hbn.size (.cells #[.int .i64 z] 3)
      have hlx : (xs ++ [at']).length = xs.length + 1 := by simp
      have HLX := Lib.hid hlx
      have hz : at' + (z - at') = z := by omega
      clear hb hown hownn hlx
      generalize hys : xs ++ [at'] = ys at *
      have HY := Lib.hid hys
      clear hys
      have hyl : ys.length ≤ 300 := by have := HLX.out; omega
      have HL0 := Lib.hid hl0
      clear hl0
      go_wp2_with (at_builtin; refine wpList_append_own _ rfl _ _ 22 rfl w.heap.size 3 i0 (.int .i64 0) 1 8 Try.underlying22 hi hz0 hz1 hz2 rfl (by decide) _ _ _ rfl hown1 ⟨(wr.drewN n).heap.size, 0, none⟩ 1 1 [.int .i64 z] rfl rfl (cell_one_new _ _ _) (one_int _) ?c3 ?c4 ?c5 ?_)
      case c3 => unfold maxLen; omega
      case c4 => omega
      case c5 => simp; omega
      intro v' w1 hown' hg _
      have hb2 : Below w.heap.size w w1 := hb1.grown hg (by simp; omega) (fun k hk => (HL0.out k hk).1)
      have hown2 : w1.ownsRow w.heap.size 3 1 v' (ys ++ [z]).length ((ys ++ [z]).map (Value.int .i64)) := by simpa using hown'
      clear hown' hg hb1 hbn hown1
      go_wp2
      exact ⟨⟨ys, z, f, rfl, hown2, hb2, hxs2, by omega, by omega, by omega, by have := HLX.out; omega⟩, by simp [intOf]; omega⟩
    · have hf : Hid (xs ++ [at'] = offL (3 + (11 - rate) / 2) 32 64 300 0) := by
        have h := hxs.out
        rw [offL_end hlt] at h
        exact h
      clear hxs
      go_wp2_with fail
      refine (lines_S _).mono ?_
      rintro e wl ⟨rfl, hwl⟩
      obtain rfl := hwl.symm
      go_wp2
      go_ret
      refine ⟨u5, rfl, ?_, hb⟩
      rw [← hf.out]
      exact hown

end Go.Proofs.Yteijlbblmdclaaa
