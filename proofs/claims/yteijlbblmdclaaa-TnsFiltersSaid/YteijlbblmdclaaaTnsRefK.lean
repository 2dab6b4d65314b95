/- reedpiperef15: kept, turned: what each call answers. -/
import Derived.Test.YteijlbblmdclaaaTnsRef2
import Derived.Test.YteijlbblmdclaaaGP
set_option linter.unusedVariables false
set_option linter.unusedSimpArgs false
namespace Go.Proofs.Yteijlbblmdclaaa
open Go.ChangeShapes Go.WideShapes Go.ChangeAt Go.RowKit

theorem ref_kept (n : Int) (w : World) : Calls Try.prog 61 #[.int .i64 n] w fun e w' => e = .returned (.int .i64 (keptB n)) ∧ w' = w := by
  go_enter Try.func61, Try.ntmps61
  go_wp2
  all_goals go_ret
  all_goals exact ⟨ret_int (by unfold keptB; omega), rfl⟩
/-- As many of the last ones as are told, from the last one on. -/
theorem rev_succ (l : List Int) {k : Nat} (hk : k < l.length) : l.reverse.take (k + 1) = l.reverse.take k ++ [l.getD (l.length - 1 - k) 0] := by
  rw [List.take_succ_eq_append_getElem (by rw [List.length_reverse]; exact hk), List.getElem_reverse]
  rw [List.getD_eq_getElem?_getD, List.getElem?_eq_getElem (by omega)]
  rfl
set_option maxRecDepth 100000 in
set_option maxHeartbeats 2000000 in
theorem ref_turned (l : List Int) (p : Option Addr) (c : Nat) (hl : l.length ≤ 256) (w : World) (hI : IsInts w p l) :
    Calls Try.prog 43 #[.slice p l.length c] w fun e w' => ∃ q d, e = .returned (.slice q l.length d) ∧ IntsB w' q l.reverse w.heap.size w'.heap.size ∧ Below w.heap.size w w' := by
  obtain ⟨i0, hi, hz0, hz1, hz2⟩ := info_parts Try.infoInt
  have HI := Lib.hid hI
  have hself := Below.refl w.heap.size w
  have HLR := Lib.hid (fun k (hk : k ≤ l.length) => show (l.reverse.take k).length = k by rw [List.length_take, List.length_reverse]; omega)
  have v0 : IntKind.i64.wrap ((l.length : Int) - 1) = (l.length : Int) - 1 := IntWalk.i64_in _ (by omega)
  clear hI
  go_enter Try.func43, Try.ntmps43
  go_wp2_with fail
  clear v0
  go_loopw [3, 4] (fun V I wr => ∃ k : Nat, I = .int .i64 ((l.length : Int) - 1 - (k : Int)) ∧ k ≤ l.length ∧ wr.ownsRow w.heap.size 3 1 V (l.reverse.take k).length ((l.reverse.take k).map (Value.int .i64)) ∧ Below w.heap.size w wr) (fun _ I _ => (intOf I + 1).toNat)
  case atStart => exact ⟨0, by go_num, Nat.zero_le _, World.ownsRow_nil _ _ _ _, hself⟩
  case round =>
    obtain ⟨k, rfl, hk, hown, hb⟩ := hrel
    by_cases hlt : k < l.length
    · have hd : decide ((l.length : Int) - 1 - (k : Int) ≥ 0) = true := decide_eq_true (by omega)
      obtain ⟨bp, op, rfl, _, qp⟩ := (HI.out.keep hb).at hlt
      have r1 := qp (l.length - 1 - k) (by omega)
      have HV := Lib.hid (rev_succ l hlt)
      have hl2 := Lib.hid (HLR.out k hk)
      have t1 : ((l.length : Int) - 1 - (k : Int)).toNat = l.length - 1 - k := by omega
      have t2 : (l.length : Int) - 1 - (k : Int) < (l.length : Int) := by omega
      have t3 : (0 : Int) ≤ (l.length : Int) - 1 - (k : Int) := by omega
      have t4 : IntKind.i64.wrap ((l.length : Int) - 1 - (k : Int) - 1) = (l.length : Int) - 1 - (k : Int) - 1 := IntWalk.i64_in _ (by omega)
      obtain ⟨z, hz⟩ : ∃ z, l.getD (l.length - 1 - k) 0 = z := ⟨_, rfl⟩
      rw [hz] at r1 HV
      clear qp hz hself
      have hown1 := hown.alloc (.cells #[.int .i64 (z)] 3)
      have hb1 := hb.alloc hb.size (.cells #[.int .i64 (z)] 3)
      have hl0 := Lib.hid hown.lt
      have hsz := hb.size
      clear hown hb
      go_wp2_with (at_builtin; refine wpList_append_own _ rfl _ _ 22 rfl w.heap.size 3 i0 (.int .i64 0) 1 8 Try.underlying22 hi hz0 hz1 hz2 rfl (by decide) _ _ _ rfl hown1 ⟨wr.heap.size, 0, none⟩ 1 1 [.int .i64 (z)] rfl rfl (cell_one_new _ _ _) (one_int _) ?c3 ?c4 ?c5 ?_)
      case c3 => rw [hl2.out]; unfold maxLen; omega
      case c4 => rw [hl2.out]; omega
      case c5 => simp; omega
      intro v' wA hown' hg _
      have hb2 : Below w.heap.size w wA := hb1.grown hg (by simp; omega) (fun j hj => (hl0.out j hj).1)
      have hown2 : wA.ownsRow w.heap.size 3 1 v' (l.reverse.take (k + 1)).length ((l.reverse.take (k + 1)).map (Value.int .i64)) := by
        rw [HV.out, List.map_append, List.length_append]
        simpa [Nat.min_eq_left (show k ≤ l.length by omega)] using hown'
      clear hown' hg hb1 hown1
      go_wp2
      exact ⟨⟨k + 1, by go_num, by omega, hown2, hb2⟩, by simp [intOf]; omega⟩
    · have hkl : k = l.length := by omega
      have hd : decide ((l.length : Int) - 1 - (k : Int) ≥ 0) = false := decide_eq_false (by omega)
      have hd2 : decide ((k : Int) ≤ (l.length : Int) - 1) = false := decide_eq_false (by omega)
      have he : l.reverse.take k = l.reverse := List.take_of_length_le (by rw [List.length_reverse]; omega)
      rw [he] at hown
      obtain ⟨q2, d2, rfl, I2⟩ := owns_any hown
      have HQ := Lib.hid I2
      have HN := Lib.hid (show l.reverse.length = l.length from List.length_reverse)
      clear hown I2 he
      go_wp2
      go_ret
      exact ⟨q2, d2, by simp, HQ.out, hb⟩
end Go.Proofs.Yteijlbblmdclaaa
