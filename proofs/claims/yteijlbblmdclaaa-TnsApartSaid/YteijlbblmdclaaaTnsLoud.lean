/- reedpipelaw15.same, loud: what each call answers. -/
import Derived.Test.YteijlbblmdclaaaBase
set_option linter.unusedVariables false
namespace Go.Proofs.Yteijlbblmdclaaa
open Go.ChangeShapes Go.WideShapes Go.ChangeAt Go.RowKit

def RSm (la lb : List Int) (w : World) (e : Ending) (w' : World) : Prop := e = .returned (.bool (decide (la = lb))) ∧ ∃ n, w' = w.drewN n

theorem sm_step {la lb : List Int} (hlen : la.length = lb.length) (k : Nat) (hk : ¬ k < la.length) (h : ∀ j, j < k → la.getD j 0 = lb.getD j 0) : la = lb := by
  refine List.ext_getElem hlen fun i h1 h2 => ?_
  have := h i (by omega)
  simpa [List.getD_eq_getElem?_getD, h1, h2] using this

set_option maxHeartbeats 400000 in
theorem sm_any (pa pb : Option Addr) (la lb : List Int) (ca cb : Nat) (w : World) (ha : IsInts w pa la) (hb : IsInts w pb lb) (ma : la.length ≤ maxLen) (mb : lb.length ≤ maxLen) :
    Calls Try.prog 20 #[.slice pa la.length ca, .slice pb lb.length cb] w (RSm la lb w) := by
  unfold maxLen at ma mb
  by_cases hlen : la.length = lb.length
  · have hlen' := Lib.hid hlen
    have hnl : (la.length == lb.length) = true := by simp [hlen]
    have ha' := Lib.hid ha
    have hb' := Lib.hid hb
    clear hlen ha hb
    go_enter Try.func20, Try.ntmps20
    go_wp2
    go_loopw [5] (fun i wr => ∃ k n : Nat, i = .int .i64 k ∧ k ≤ la.length ∧ wr = w.drewN n ∧ ∀ j, j < k → la.getD j 0 = lb.getD j 0) (fun i _ => la.length - (intOf i).toNat)
    case atStart => exact ⟨0, 0, rfl, Nat.zero_le _, rfl, fun _ h => by omega⟩
    case round =>
      obtain ⟨k, n, rfl, hk, rfl, hj⟩ := hrel
      by_cases hlt : k < la.length
      · obtain ⟨b, off, rfl, _, hc⟩ := ha'.out.at hlt
        obtain ⟨b', off', rfl, _, hc'⟩ := hb'.out.at (hlen'.out ▸ hlt)
        have h1 := hc k hlt
        have h2 := hc' k (hlen'.out ▸ hlt)
        have hlt2 : k < lb.length := hlen'.out ▸ hlt
        have hj' := Lib.hid hj
        clear hc hc' ha' hb' hj
        by_cases heq : la.getD k 0 = lb.getD k 0
        · have hjk := Lib.hid heq
          rw [← heq] at h2
          generalize la.getD k 0 = x at h1 h2
          clear heq
          go_wp2
          go_quiet (fail)
          go_wp2
          refine ⟨⟨k + 1, n + nq, by go_num, hlt, rfl, fun j hj => ?_⟩, by simp [intOf]; omega⟩
          by_cases e : j = k
          · rw [e]; exact hjk.out
          · exact hj'.out j (by omega)
        · have hne : (la.getD k 0 == lb.getD k 0) = false := by simpa using heq
          have hfin : Hid (la ≠ lb) := fun e => heq (by rw [e])
          generalize la.getD k 0 = x at h1 hne
          generalize lb.getD k 0 = y at h2 hne
          clear heq
          go_wp2
          go_quiet (fail)
          go_wp2
          go_ret
          exact ⟨ret_bool (decide_eq_false hfin.out).symm, _, by rw [World.drewN_drewN]⟩
      · have hall := Lib.hid (sm_step hlen'.out k hlt hj)
        clear hj
        go_wp2
        go_ret
        exact ⟨ret_bool (decide_eq_true hall.out).symm, _, rfl⟩
  · have hne : (la.length == lb.length) = false := by simpa using hlen
    have hfin : Hid (la ≠ lb) := fun e => hlen (by rw [e])
    clear hlen
    go_enter Try.func20, Try.ntmps20
    go_wp2
    go_ret
    exact ⟨ret_bool (decide_eq_false hfin.out).symm, 0, rfl⟩

/-- .. of two lists that are the same. -/
theorem sm_same (pa pb : Option Addr) (l : List Int) (ca cb : Nat) (w : World) (ha : IsInts w pa l) (hb : IsInts w pb l) (ma : l.length ≤ maxLen) :
    Calls Try.prog 20 #[.slice pa l.length ca, .slice pb l.length cb] w fun e w' => e = .returned (.bool true) ∧ ∃ n, w' = w.drewN n :=
  (sm_any pa pb l l ca cb w ha hb ma ma).mono fun _ _ ⟨he, hw⟩ => ⟨he.trans (ret_bool (decide_eq_true rfl)), hw⟩
def loudP (v : Int) : Bool := (v == 268435455) || (v == -268435455)
set_option maxHeartbeats 1000000 in
theorem loud_ok (p : Option Addr) (l : List Int) (c : Nat) (w : World) (hI : IsInts w p l) (hl : l.length ≤ 1000) :
    Calls Try.prog 19 #[.slice p l.length c] w fun e w' => e = .returned (.bool (l.any loudP)) ∧ w = w' := by
  have HI := Lib.hid hI
  clear hI
  go_enter Try.func19, Try.ntmps19
  go_wp2
  go_loop [3] (fun I => ∃ k : Nat, I = .int .i64 k ∧ k ≤ l.length ∧ Hid (l.any loudP = (l.drop k).any loudP)) (fun I => l.length - (intOf I).toNat)
  case atStart => exact ⟨0, rfl, Nat.zero_le _, Lib.hid (by simp)⟩
  case round =>
    obtain ⟨k, rfl, hk, hany⟩ := hrel
    by_cases hlt : k < l.length
    · have hd0 : decide ((k : Int) < (l.length : Int)) = true := decide_eq_true (by omega)
      obtain ⟨b, off, rfl, _, hc⟩ := HI.out.at hlt
      have h1 := hc k hlt
      have hd : l.drop k = l.getD k 0 :: l.drop (k + 1) := by rw [List.drop_eq_getElem_cons hlt]; simp [List.getD_eq_getElem?_getD, hlt]
      have hst : Hid (l.any loudP = (loudP (l.getD k 0) || (l.drop (k + 1)).any loudP)) := by
        have := hany.out; rw [hd, List.any_cons] at this; exact this
      generalize l.getD k 0 = x at h1 hst
      clear hc hd hany HI
      by_cases c1 : x = 268435455
      · have e1 : (x == 268435455) = true := by simpa using c1
        have HR : Hid (l.any loudP = true) := by have := hst.out; unfold loudP at this; rw [e1, Bool.true_or, Bool.true_or] at this; exact this
        clear hst c1
        go_wp2
        go_ret
        exact ⟨ret_bool HR.out.symm, rfl⟩
      · have e1 : (x == 268435455) = false := by simpa using c1
        by_cases c2 : x = -268435455
        · have e2 : (x == -268435455) = true := by simpa using c2
          have HR : Hid (l.any loudP = true) := by have := hst.out; unfold loudP at this; rw [e1, e2, Bool.false_or, Bool.true_or] at this; exact this
          clear hst c1 c2
          go_wp2
          go_ret
          exact ⟨ret_bool HR.out.symm, rfl⟩
        · have e2 : (x == -268435455) = false := by simpa using c2
          have HR : Hid (l.any loudP = (l.drop (k + 1)).any loudP) := by
            have := hst.out
            rw [show loudP x = false by unfold loudP; rw [e1, e2]; rfl, Bool.false_or] at this
            exact this
          clear hst c1 c2
          go_wp2
          go_round
          case rel => exact ⟨k + 1, by go_num, hlt, HR⟩
          case measure => simp [intOf]; omega
    · have hkl : k = l.length := by omega
      have hd0 : decide ((k : Int) < (l.length : Int)) = false := decide_eq_false (by omega)
      have HR : Hid (l.any loudP = false) := by have := hany.out; rw [hkl, List.drop_length, List.any_nil] at this; exact this
      clear hany hkl HI
      go_wp2
      go_ret
      exact ⟨ret_bool HR.out.symm, rfl⟩
theorem not_loud {l : List Int} (h : l.any loudP = false) (p : Nat) (hp : p < l.length) : l.getD p 0 ≠ 268435455 ∧ l.getD p 0 ≠ -268435455 := by
  rw [List.any_eq_false] at h
  have := h (l.getD p 0) (by rw [List.getD_eq_getElem?_getD, List.getElem?_eq_getElem hp]; exact List.getElem_mem hp)
  generalize l.getD p 0 = v at *
  unfold loudP at this
  simp at this
  exact this
end Go.Proofs.Yteijlbblmdclaaa
