/- reedpiperef15: check, Predict. -/
import Derived.Test.YteijlbblmdclaaaTnsRef
set_option linter.unusedVariables false
set_option linter.unusedSimpArgs false
namespace Go.Proofs.Yteijlbblmdclaaa
open Go.ChangeShapes Go.WideShapes Go.ChangeAt Go.RowKit

set_option maxRecDepth 100000 in
theorem rckt_0 (len order : Int) (down : Bool) (cs : List Int) (p : Option Addr) (c : Nat) (hl : cs.length ≤ 9223372036854775807) (w : World) (hI : IsInts w p cs) (d0 : decide (order < 0) = true) : Calls Try.prog 23 #[.agg #[.int .i64 len, .int .i64 order, .bool down, .bool true, .slice p cs.length c]] w fun e w' => e = .returned (.int .i64 4) ∧ Below w.heap.size w w' := by
  go_enter Try.func23, Try.ntmps23
  go_wp2
  go_ret
  exact ⟨rfl, (Below.refl _ _).alloc (Nat.le_refl _) _⟩
set_option maxRecDepth 100000 in
theorem rckt_1 (len order : Int) (down : Bool) (cs : List Int) (p : Option Addr) (c : Nat) (hl : cs.length ≤ 9223372036854775807) (w : World) (hI : IsInts w p cs) (d0 : decide (order < 0) = false) (d1 : decide (12 < order) = true) : Calls Try.prog 23 #[.agg #[.int .i64 len, .int .i64 order, .bool down, .bool true, .slice p cs.length c]] w fun e w' => e = .returned (.int .i64 4) ∧ Below w.heap.size w w' := by
  go_enter Try.func23, Try.ntmps23
  go_wp2
  go_ret
  exact ⟨rfl, (Below.refl _ _).alloc (Nat.le_refl _) _⟩
set_option maxRecDepth 100000 in
theorem rckt_2 (len order : Int) (down : Bool) (cs : List Int) (p : Option Addr) (c : Nat) (hl : cs.length ≤ 9223372036854775807) (w : World) (hI : IsInts w p cs) (d0 : decide (order < 0) = false) (d1 : decide (12 < order) = false) (d2 : ((cs.length : Int) == order) = false) (d2' : ((cs.length : Int) != order) = true) : Calls Try.prog 23 #[.agg #[.int .i64 len, .int .i64 order, .bool down, .bool true, .slice p cs.length c]] w fun e w' => e = .returned (.int .i64 4) ∧ Below w.heap.size w w' := by
  go_enter Try.func23, Try.ntmps23
  go_wp2
  go_ret
  exact ⟨rfl, (Below.refl _ _).alloc (Nat.le_refl _) _⟩
set_option maxRecDepth 100000 in
theorem rckt_3 (len order : Int) (down : Bool) (cs : List Int) (p : Option Addr) (c : Nat) (hl : cs.length ≤ 9223372036854775807) (w : World) (hI : IsInts w p cs) (d0 : decide (order < 0) = false) (d1 : decide (12 < order) = false) (d2 : ((cs.length : Int) == order) = true) (d2' : ((cs.length : Int) != order) = false) (d3 : decide (len < 0) = true) : Calls Try.prog 23 #[.agg #[.int .i64 len, .int .i64 order, .bool down, .bool true, .slice p cs.length c]] w fun e w' => e = .returned (.int .i64 2) ∧ Below w.heap.size w w' := by
  go_enter Try.func23, Try.ntmps23
  go_wp2
  go_ret
  exact ⟨rfl, (Below.refl _ _).alloc (Nat.le_refl _) _⟩
set_option maxRecDepth 100000 in
theorem rckt_4 (len order : Int) (down : Bool) (cs : List Int) (p : Option Addr) (c : Nat) (hl : cs.length ≤ 9223372036854775807) (w : World) (hI : IsInts w p cs) (d0 : decide (order < 0) = false) (d1 : decide (12 < order) = false) (d2 : ((cs.length : Int) == order) = true) (d2' : ((cs.length : Int) != order) = false) (d3 : decide (len < 0) = false) (d4 : decide (63 < len) = true) : Calls Try.prog 23 #[.agg #[.int .i64 len, .int .i64 order, .bool down, .bool true, .slice p cs.length c]] w fun e w' => e = .returned (.int .i64 2) ∧ Below w.heap.size w w' := by
  go_enter Try.func23, Try.ntmps23
  go_wp2
  go_ret
  exact ⟨rfl, (Below.refl _ _).alloc (Nat.le_refl _) _⟩
set_option maxRecDepth 100000 in
theorem rckt_5 (len order : Int) (down : Bool) (cs : List Int) (p : Option Addr) (c : Nat) (hl : cs.length ≤ 9223372036854775807) (w : World) (hI : IsInts w p cs) (d0 : decide (order < 0) = false) (d1 : decide (12 < order) = false) (d2 : ((cs.length : Int) == order) = true) (d2' : ((cs.length : Int) != order) = false) (d3 : decide (len < 0) = false) (d4 : decide (63 < len) = false) : Calls Try.prog 23 #[.agg #[.int .i64 len, .int .i64 order, .bool down, .bool true, .slice p cs.length c]] w fun e w' => e = .returned (.int .i64 (if cs.any (oddM 7) = true then 2 else 0)) ∧ Below w.heap.size w w' := by
  have hb0 : Below w.heap.size w (w.alloc (.cells #[.int .i64 len, .int .i64 order, .bool down, .bool true, .slice p cs.length c] 24)) := (Below.refl _ w).alloc (Nat.le_refl _) _
  have HB := Lib.hid hb0
  have HI := Lib.hid (hI.keep hb0)
  obtain ⟨r, hr⟩ : ∃ r, (if cs.any (oddM 7) = true then (2 : Int) else 0) = r := ⟨_, rfl⟩
  have HE := Lib.hid hr
  rw [hr]
  clear hI hb0 hr
  go_enter Try.func23, Try.ntmps23
  go_wp2
  go_loop [4] (fun I => ∃ k : Nat, I = .int .i64 k ∧ k ≤ cs.length ∧ Hid (cs.any (oddM 7) = (cs.drop k).any (oddM 7))) (fun I => cs.length - (intOf I).toNat)
  case atStart => exact ⟨0, rfl, Nat.zero_le _, Lib.hid (by simp)⟩
  case round =>
    obtain ⟨k, rfl, hk, hany⟩ := hrel
    by_cases hlt : k < cs.length
    · have hd0 : decide ((k : Int) < (cs.length : Int)) = true := decide_eq_true (by omega)
      obtain ⟨b, off, rfl, _, hc⟩ := HI.out.at hlt
      have h1 := hc k hlt
      have hd : cs.drop k = cs.getD k 0 :: cs.drop (k + 1) := by rw [List.drop_eq_getElem_cons hlt]; simp [List.getD_eq_getElem?_getD, hlt]
      have hst : Hid (cs.any (oddM 7) = (oddM 7 (cs.getD k 0) || (cs.drop (k + 1)).any (oddM 7))) := by
        have := hany.out; rw [hd, List.any_cons] at this; exact this
      generalize cs.getD k 0 = x at h1 hst
      have hkI : (k : Int) < (cs.length : Int) := by omega
      clear hc hd hany HI
      by_cases hx1 : x < -8
      · have e1 : decide (x < -8) = true := decide_eq_true hx1
        have HR : Hid (cs.any (oddM 7) = true) := by
          have := hst.out
          rw [show oddM 7 x = true by unfold oddM; simp; omega, Bool.true_or] at this; exact this
        clear hst hx1
        go_wp2
        go_ret
        exact ⟨ret_int (by rw [← HE.out, if_pos HR.out]), HB.out⟩
      · have e1 : decide (x < -8) = false := decide_eq_false hx1
        by_cases hx2 : 7 < x
        · have e2 : decide (7 < x) = true := decide_eq_true hx2
          have HR : Hid (cs.any (oddM 7) = true) := by
            have := hst.out
            rw [show oddM 7 x = true by unfold oddM; simp; omega, Bool.true_or] at this; exact this
          clear hst hx1 hx2
          go_wp2
          go_ret
          exact ⟨ret_int (by rw [← HE.out, if_pos HR.out]), HB.out⟩
        · have e2 : decide (7 < x) = false := decide_eq_false hx2
          have HR : Hid (cs.any (oddM 7) = (cs.drop (k + 1)).any (oddM 7)) := by
            have := hst.out
            rw [show oddM 7 x = false by unfold oddM; simp; omega, Bool.false_or] at this; exact this
          clear hst hx1 hx2
          go_wp2
          go_round
          case rel => exact ⟨k + 1, by go_num, hlt, HR⟩
          case measure => simp [intOf]; omega
    · have hkl : k = cs.length := by omega
      have hd0 : decide ((k : Int) < (cs.length : Int)) = false := decide_eq_false (by omega)
      have HR : Hid (cs.any (oddM 7) = false) := by have := hany.out; rw [hkl, List.drop_length, List.any_nil] at this; exact this
      clear hany hkl HI
      go_wp2
      go_ret
      exact ⟨ret_int (by rw [← HE.out, if_neg (by rw [HR.out]; decide)]), HB.out⟩
set_option maxRecDepth 100000 in
theorem rckf_0 (len order : Int) (down : Bool) (cs : List Int) (p : Option Addr) (c : Nat) (hl : cs.length ≤ 9223372036854775807) (w : World) (hI : IsInts w p cs) (d0 : decide (order < 0) = true) : Calls Try.prog 23 #[.agg #[.int .i64 len, .int .i64 order, .bool down, .bool false, .slice p cs.length c]] w fun e w' => e = .returned (.int .i64 4) ∧ Below w.heap.size w w' := by
  go_enter Try.func23, Try.ntmps23
  go_wp2
  go_ret
  exact ⟨rfl, (Below.refl _ _).alloc (Nat.le_refl _) _⟩
set_option maxRecDepth 100000 in
theorem rckf_1 (len order : Int) (down : Bool) (cs : List Int) (p : Option Addr) (c : Nat) (hl : cs.length ≤ 9223372036854775807) (w : World) (hI : IsInts w p cs) (d0 : decide (order < 0) = false) (d1 : decide (12 < order) = true) : Calls Try.prog 23 #[.agg #[.int .i64 len, .int .i64 order, .bool down, .bool false, .slice p cs.length c]] w fun e w' => e = .returned (.int .i64 4) ∧ Below w.heap.size w w' := by
  go_enter Try.func23, Try.ntmps23
  go_wp2
  go_ret
  exact ⟨rfl, (Below.refl _ _).alloc (Nat.le_refl _) _⟩
set_option maxRecDepth 100000 in
theorem rckf_2 (len order : Int) (down : Bool) (cs : List Int) (p : Option Addr) (c : Nat) (hl : cs.length ≤ 9223372036854775807) (w : World) (hI : IsInts w p cs) (d0 : decide (order < 0) = false) (d1 : decide (12 < order) = false) (d2 : ((cs.length : Int) == order) = false) (d2' : ((cs.length : Int) != order) = true) : Calls Try.prog 23 #[.agg #[.int .i64 len, .int .i64 order, .bool down, .bool false, .slice p cs.length c]] w fun e w' => e = .returned (.int .i64 4) ∧ Below w.heap.size w w' := by
  go_enter Try.func23, Try.ntmps23
  go_wp2
  go_ret
  exact ⟨rfl, (Below.refl _ _).alloc (Nat.le_refl _) _⟩
set_option maxRecDepth 100000 in
theorem rckf_3 (len order : Int) (down : Bool) (cs : List Int) (p : Option Addr) (c : Nat) (hl : cs.length ≤ 9223372036854775807) (w : World) (hI : IsInts w p cs) (d0 : decide (order < 0) = false) (d1 : decide (12 < order) = false) (d2 : ((cs.length : Int) == order) = true) (d2' : ((cs.length : Int) != order) = false) (d3 : decide (len < 0) = true) : Calls Try.prog 23 #[.agg #[.int .i64 len, .int .i64 order, .bool down, .bool false, .slice p cs.length c]] w fun e w' => e = .returned (.int .i64 2) ∧ Below w.heap.size w w' := by
  go_enter Try.func23, Try.ntmps23
  go_wp2
  go_ret
  exact ⟨rfl, (Below.refl _ _).alloc (Nat.le_refl _) _⟩
set_option maxRecDepth 100000 in
theorem rckf_4 (len order : Int) (down : Bool) (cs : List Int) (p : Option Addr) (c : Nat) (hl : cs.length ≤ 9223372036854775807) (w : World) (hI : IsInts w p cs) (d0 : decide (order < 0) = false) (d1 : decide (12 < order) = false) (d2 : ((cs.length : Int) == order) = true) (d2' : ((cs.length : Int) != order) = false) (d3 : decide (len < 0) = false) (d4 : decide (63 < len) = true) : Calls Try.prog 23 #[.agg #[.int .i64 len, .int .i64 order, .bool down, .bool false, .slice p cs.length c]] w fun e w' => e = .returned (.int .i64 2) ∧ Below w.heap.size w w' := by
  go_enter Try.func23, Try.ntmps23
  go_wp2
  go_ret
  exact ⟨rfl, (Below.refl _ _).alloc (Nat.le_refl _) _⟩
set_option maxRecDepth 100000 in
theorem rckf_5 (len order : Int) (down : Bool) (cs : List Int) (p : Option Addr) (c : Nat) (hl : cs.length ≤ 9223372036854775807) (w : World) (hI : IsInts w p cs) (d0 : decide (order < 0) = false) (d1 : decide (12 < order) = false) (d2 : ((cs.length : Int) == order) = true) (d2' : ((cs.length : Int) != order) = false) (d3 : decide (len < 0) = false) (d4 : decide (63 < len) = false) : Calls Try.prog 23 #[.agg #[.int .i64 len, .int .i64 order, .bool down, .bool false, .slice p cs.length c]] w fun e w' => e = .returned (.int .i64 (if cs.any (oddM 3) = true then 2 else 0)) ∧ Below w.heap.size w w' := by
  have hb0 : Below w.heap.size w (w.alloc (.cells #[.int .i64 len, .int .i64 order, .bool down, .bool false, .slice p cs.length c] 24)) := (Below.refl _ w).alloc (Nat.le_refl _) _
  have HB := Lib.hid hb0
  have HI := Lib.hid (hI.keep hb0)
  obtain ⟨r, hr⟩ : ∃ r, (if cs.any (oddM 3) = true then (2 : Int) else 0) = r := ⟨_, rfl⟩
  have HE := Lib.hid hr
  rw [hr]
  clear hI hb0 hr
  go_enter Try.func23, Try.ntmps23
  go_wp2
  go_loop [4] (fun I => ∃ k : Nat, I = .int .i64 k ∧ k ≤ cs.length ∧ Hid (cs.any (oddM 3) = (cs.drop k).any (oddM 3))) (fun I => cs.length - (intOf I).toNat)
  case atStart => exact ⟨0, rfl, Nat.zero_le _, Lib.hid (by simp)⟩
  case round =>
    obtain ⟨k, rfl, hk, hany⟩ := hrel
    by_cases hlt : k < cs.length
    · have hd0 : decide ((k : Int) < (cs.length : Int)) = true := decide_eq_true (by omega)
      obtain ⟨b, off, rfl, _, hc⟩ := HI.out.at hlt
      have h1 := hc k hlt
      have hd : cs.drop k = cs.getD k 0 :: cs.drop (k + 1) := by rw [List.drop_eq_getElem_cons hlt]; simp [List.getD_eq_getElem?_getD, hlt]
      have hst : Hid (cs.any (oddM 3) = (oddM 3 (cs.getD k 0) || (cs.drop (k + 1)).any (oddM 3))) := by
        have := hany.out; rw [hd, List.any_cons] at this; exact this
      generalize cs.getD k 0 = x at h1 hst
      have hkI : (k : Int) < (cs.length : Int) := by omega
      clear hc hd hany HI
      by_cases hx1 : x < -4
      · have e1 : decide (x < -4) = true := decide_eq_true hx1
        have HR : Hid (cs.any (oddM 3) = true) := by
          have := hst.out
          rw [show oddM 3 x = true by unfold oddM; simp; omega, Bool.true_or] at this; exact this
        clear hst hx1
        go_wp2
        go_ret
        exact ⟨ret_int (by rw [← HE.out, if_pos HR.out]), HB.out⟩
      · have e1 : decide (x < -4) = false := decide_eq_false hx1
        by_cases hx2 : 3 < x
        · have e2 : decide (3 < x) = true := decide_eq_true hx2
          have HR : Hid (cs.any (oddM 3) = true) := by
            have := hst.out
            rw [show oddM 3 x = true by unfold oddM; simp; omega, Bool.true_or] at this; exact this
          clear hst hx1 hx2
          go_wp2
          go_ret
          exact ⟨ret_int (by rw [← HE.out, if_pos HR.out]), HB.out⟩
        · have e2 : decide (3 < x) = false := decide_eq_false hx2
          have HR : Hid (cs.any (oddM 3) = (cs.drop (k + 1)).any (oddM 3)) := by
            have := hst.out
            rw [show oddM 3 x = false by unfold oddM; simp; omega, Bool.false_or] at this; exact this
          clear hst hx1 hx2
          go_wp2
          go_round
          case rel => exact ⟨k + 1, by go_num, hlt, HR⟩
          case measure => simp [intOf]; omega
    · have hkl : k = cs.length := by omega
      have hd0 : decide ((k : Int) < (cs.length : Int)) = false := decide_eq_false (by omega)
      have HR : Hid (cs.any (oddM 3) = false) := by have := hany.out; rw [hkl, List.drop_length, List.any_nil] at this; exact this
      clear hany hkl HI
      go_wp2
      go_ret
      exact ⟨ret_int (by rw [← HE.out, if_neg (by rw [HR.out]; decide)]), HB.out⟩
/-- The error of a filter, the document's. -/
theorem ref_check (len order : Int) (down fine : Bool) (cs : List Int) (p : Option Addr) (c : Nat) (hl : cs.length ≤ 9223372036854775807) (w : World) (hI : IsInts w p cs) :
    Calls Try.prog 23 #[.agg #[.int .i64 len, .int .i64 order, .bool down, .bool fine, .slice p cs.length c]] w fun e w' => e = .returned (.int .i64 (filtE len order fine cs)) ∧ Below w.heap.size w w' := by
  unfold filtE
  rw [oddL_eq]
  by_cases h0 : order < 0
  · rw [if_pos (.inl h0)]
    cases fine
    · exact rckf_0 len order down cs p c hl w hI (decide_eq_true h0)
    · exact rckt_0 len order down cs p c hl w hI (decide_eq_true h0)
  by_cases h1 : 12 < order
  · rw [if_pos (.inr (.inl h1))]
    cases fine
    · exact rckf_1 len order down cs p c hl w hI (decide_eq_false h0) (decide_eq_true h1)
    · exact rckt_1 len order down cs p c hl w hI (decide_eq_false h0) (decide_eq_true h1)
  by_cases h2 : (cs.length : Int) = order
  case neg =>
    rw [if_pos (.inr (.inr h2))]
    have a := beq_eq_false_iff_ne.2 h2
    cases fine
    · exact rckf_2 len order down cs p c hl w hI (decide_eq_false h0) (decide_eq_false h1) a (by simp [bne, a])
    · exact rckt_2 len order down cs p c hl w hI (decide_eq_false h0) (decide_eq_false h1) a (by simp [bne, a])
  rw [if_neg (by omega)]
  have a : ((cs.length : Int) == order) = true := by simp [h2]
  have b : ((cs.length : Int) != order) = false := by simp [h2]
  by_cases h3 : len < 0
  · rw [if_pos (.inl h3)]
    cases fine
    · exact rckf_3 len order down cs p c hl w hI (decide_eq_false h0) (decide_eq_false h1) a b (decide_eq_true h3)
    · exact rckt_3 len order down cs p c hl w hI (decide_eq_false h0) (decide_eq_false h1) a b (decide_eq_true h3)
  by_cases h4 : 63 < len
  · rw [if_pos (.inr (.inl h4))]
    cases fine
    · exact rckf_4 len order down cs p c hl w hI (decide_eq_false h0) (decide_eq_false h1) a b (decide_eq_false h3) (decide_eq_true h4)
    · exact rckt_4 len order down cs p c hl w hI (decide_eq_false h0) (decide_eq_false h1) a b (decide_eq_false h3) (decide_eq_true h4)
  have e : ∀ m, (if len < 0 ∨ 63 < len ∨ cs.any (oddM m) = true then (2 : Int) else 0) = if cs.any (oddM m) = true then 2 else 0 := fun m => by
    by_cases hh : cs.any (oddM m) = true
    · rw [if_pos (.inr (.inr hh)), if_pos hh]
    · rw [if_neg (by simp only [h3, h4, false_or]; exact hh), if_neg hh]
  rw [e]
  cases fine
  · exact rckf_5 len order down cs p c hl w hI (decide_eq_false h0) (decide_eq_false h1) a b (decide_eq_false h3) (decide_eq_false h4)
  · exact rckt_5 len order down cs p c hl w hI (decide_eq_false h0) (decide_eq_false h1) a b (decide_eq_false h3) (decide_eq_false h4)
/-- A list of the call's own, and a number. -/
def RRefP (r : List Int × Int) (w : World) (e : Ending) (w' : World) : Prop :=
  ∃ p d, e = .returned (.tuple #[.slice p r.1.length d, .int .i64 r.2]) ∧ IsInts w' p r.1 ∧ Below w.heap.size w w'
set_option maxRecDepth 100000 in
theorem ref_Predict (len order : Int) (down fine : Bool) (cs : List Int) (p : Option Addr) (c : Nat) (hl : cs.length ≤ 9223372036854775807) (w : World) (hI : IsInts w p cs) :
    Calls Try.prog 10 #[.agg #[.int .i64 len, .int .i64 order, .bool down, .bool fine, .slice p cs.length c]] w (RRefP (predN len order fine cs) w) := by
  have HK := Lib.hid (fun W (h : Below w.heap.size w W) => ref_check len order down fine cs p c hl W (hI.keep h))
  have X0 := (CellsAt.new w 24 #[.int .i64 len, .int .i64 order, .bool down, .bool fine, .slice p cs.length c] rfl)
  have hb0 : Below w.heap.size w (w.alloc (.cells #[.int .i64 len, .int .i64 order, .bool down, .bool fine, .slice p cs.length c] 24)) := (Below.refl _ w).alloc (Nat.le_refl _) _
  unfold predN
  by_cases hE : filtE len order fine cs = 0
  · rw [if_pos hE]
    obtain ⟨q1, q2, q3⟩ := filt_ok hE
    rw [hE] at HK
    have HP := Lib.hid (fun W (h : Below w.heap.size w W) => ref_coefs len order down fine cs p c q2 q3 W (hI.keep h))
    have HL := Lib.hid (coefP_len fine cs cs.length)
    clear hE q1 q2 q3 hI
    go_enter Try.func10, Try.ntmps10
    go_wp2_with fail
    refine (HK.out _ hb0).mono ?_
    rintro e w1 ⟨rfl, hB1⟩
    have X1 := X0.keep hB1 X0.lt
    have hb1 := hb0.trans (hB1.mono hb0.size)
    have k0 := X1.cell 0
    have k1 := X1.cell 1
    have k2 := X1.cell 2
    have k3 := X1.cell 3
    have k4 := X1.cell 4
    simp only [List.getElem?_toArray, List.getElem?_cons_succ, List.getElem?_cons_zero] at k0 k1 k2 k3 k4
    clear X0 X1 hb0 hB1
    go_wp2_with fail
    refine (HP.out _ hb1).mono ?_
    rintro e w2 ⟨g, d, rfl, hC, hB2⟩
    have HCC := Lib.hid hC.ints
    have hb2 := hb1.trans (hB2.mono hb1.size)
    clear hC hB2
    go_wp2
    go_ret2
    exact ⟨g, d, (by show _ = Ending.returned (.tuple #[.slice g (coefP fine cs cs.length).length d, .int .i64 0]); rw [HL.out]; rfl), HCC.out, hb2⟩
  · rw [if_neg hE]
    have d1 : (filtE len order fine cs == 0) = false := beq_eq_false_iff_ne.2 hE
    have d2 : (filtE len order fine cs != 0) = true := by simp [bne, d1]
    generalize filtE len order fine cs = E at *
    clear hE hI
    go_enter Try.func10, Try.ntmps10
    go_wp2_with fail
    refine (HK.out _ hb0).mono ?_
    rintro e w1 ⟨rfl, hB1⟩
    have hb1 := hb0.trans (hB1.mono hb0.size)
    clear X0 hb0 hB1
    go_wp2
    go_ret2
    exact ⟨_, _, rfl, IsInts.nil _ _, hb1⟩
end Go.Proofs.Yteijlbblmdclaaa
