/- slices.Equal: what each call answers. -/
import Derived.Test.YteijlbblmdclaaaGP
set_option linter.unusedVariables false
namespace Go.Proofs.Yteijlbblmdclaaa
open Go.ChangeShapes Go.WideShapes Go.ChangeAt Go.RowKit

def REq (la lb : List Int) (w : World) (e : Ending) (w' : World) : Prop := e = .returned (.bool (decide (la = lb))) ∧ ∃ n, w' = w.drewN n

theorem eq_step {la lb : List Int} (hlen : la.length = lb.length) (k : Nat) (hk : ¬ k < la.length) (h : ∀ j, j < k → la.getD j 0 = lb.getD j 0) : la = lb := by
  refine List.ext_getElem hlen fun i h1 h2 => ?_
  have := h i (by omega)
  simpa [List.getD_eq_getElem?_getD, h1, h2] using this

set_option maxHeartbeats 400000 in
theorem eq_any (pa pb : Option Addr) (la lb : List Int) (ca cb : Nat) (w : World) (ha : IsInts w pa la) (hb : IsInts w pb lb) (ma : la.length ≤ maxLen) (mb : lb.length ≤ maxLen) :
    Calls Try.prog 73 #[.slice pa la.length ca, .slice pb lb.length cb] w (REq la lb w) := by
  unfold maxLen at ma mb
  by_cases hlen : la.length = lb.length
  · have hlen' := Lib.hid hlen
    have hnl : (la.length == lb.length) = true := by simp [hlen]
    have ha' := Lib.hid ha
    have hb' := Lib.hid hb
    clear hlen ha hb
    go_enter Try.func73, Try.ntmps73
    go_wp2
    go_loopw [13] (fun i wr => ∃ k n : Nat, i = .int .i64 k ∧ k ≤ la.length ∧ wr = w.drewN n ∧ ∀ j, j < k → la.getD j 0 = lb.getD j 0) (fun i _ => la.length - (intOf i).toNat)
    case atStart => exact ⟨0, 0, rfl, Nat.zero_le _, rfl, fun _ h => by omega⟩
    case round =>
      obtain ⟨k, n, rfl, hk, rfl, hj⟩ := hrel
      by_cases hlt : k < la.length
      · obtain ⟨b, off, rfl, _, hc⟩ := ha'.out.at hlt
        obtain ⟨b', off', rfl, _, hc'⟩ := hb'.out.at (hlen'.out ▸ hlt)
        have h1 := hc k hlt
        have h2 := hc' k (hlen'.out ▸ hlt)
        have hlt2 : k < lb.length := hlen'.out ▸ hlt
        have hj' := Lib.hid hj
        clear hc hc' ha' hb' hj
        by_cases heq : la.getD k 0 = lb.getD k 0
        · have hjk := Lib.hid heq
          rw [← heq] at h2
          generalize la.getD k 0 = x at h1 h2
          clear heq
          go_wp2
          go_quiet (fail)
          go_wp2
          refine ⟨⟨k + 1, n + nq, by go_num, hlt, rfl, fun j hj => ?_⟩, by simp [intOf]; omega⟩
          by_cases e : j = k
          · rw [e]; exact hjk.out
          · exact hj'.out j (by omega)
        · have hne : (la.getD k 0 == lb.getD k 0) = false := by simpa using heq
          have hfin : Hid (la ≠ lb) := fun e => heq (by rw [e])
          generalize la.getD k 0 = x at h1 hne
          generalize lb.getD k 0 = y at h2 hne
          clear heq
          go_wp2
          go_quiet (fail)
          go_wp2
          go_ret
          exact ⟨ret_bool (decide_eq_false hfin.out).symm, _, by rw [World.drewN_drewN]⟩
      · have hall := Lib.hid (eq_step hlen'.out k hlt hj)
        clear hj
        go_wp2
        go_ret
        exact ⟨ret_bool (decide_eq_true hall.out).symm, _, rfl⟩
  · have hne : (la.length == lb.length) = false := by simpa using hlen
    have hfin : Hid (la ≠ lb) := fun e => hlen (by rw [e])
    clear hlen
    go_enter Try.func73, Try.ntmps73
    go_wp2
    go_ret
    exact ⟨ret_bool (decide_eq_false hfin.out).symm, 0, rfl⟩

/-- .. of two lists that are the same. -/
theorem ints_same (pa pb : Option Addr) (l : List Int) (ca cb : Nat) (w : World) (ha : IsInts w pa l) (hb : IsInts w pb l) (ma : l.length ≤ maxLen) :
    Calls Try.prog 73 #[.slice pa l.length ca, .slice pb l.length cb] w fun e w' => e = .returned (.bool true) ∧ ∃ n, w' = w.drewN n :=
  (eq_any pa pb l l ca cb w ha hb ma ma).mono fun _ _ ⟨he, hw⟩ => ⟨he.trans (ret_bool (decide_eq_true rfl)), hw⟩
end Go.Proofs.Yteijlbblmdclaaa
