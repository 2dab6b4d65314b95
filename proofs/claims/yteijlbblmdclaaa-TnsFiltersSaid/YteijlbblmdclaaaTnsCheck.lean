/- tns.check, tns.Predict: what each call answers. -/
import Derived.Test.YteijlbblmdclaaaTnsCoef
import Derived.Test.YteijlbblmdclaaaKeep
set_option linter.unusedVariables false
set_option linter.unusedSimpArgs false
namespace Go.Proofs.Yteijlbblmdclaaa
open Go.ChangeShapes Go.WideShapes Go.ChangeAt Go.RowKit

def RIdx (b : Bool) (w : World) (e : Ending) (w' : World) : Prop := ∃ r : Int, e = .returned (.int .i64 r) ∧ decide (0 ≤ r) = b ∧ w = w'
def oddM (m x : Int) : Bool := decide (x < -m - 1) || decide (m < x)
theorem oddL_eq (fine : Bool) : oddL fine = oddM (if fine then 7 else 3) := rfl

theorem idx_odd (l : List Int) (p : Option Addr) (c : Nat) (a : Addr) (P : Int → Bool) (w : World) (hI : IsInts w p l) (hl : l.length ≤ 9223372036854775807)
    (hcall : ∀ x : Int, x ∈ l → Calls Try.prog 28 #[.int .i64 x, .pointer (some a)] w fun e w' => e = .returned (.bool (P x)) ∧ w = w') :
    Calls Try.prog 45 #[.slice p l.length c, .func (.func 28) #[] #[.pointer (some a)]] w (RIdx (l.any P) w) := by
  have HI := Lib.hid hI
  have HC := Lib.hid hcall
  clear hI hcall
  go_enter Try.func45, Try.ntmps45
  go_wp2
  go_loop [8] (fun I => ∃ k : Nat, I = .int .i64 k ∧ k ≤ l.length ∧ Hid (l.any P = (l.drop k).any P)) (fun I => l.length - (intOf I).toNat)
  case atStart => exact ⟨0, rfl, Nat.zero_le _, Lib.hid (by simp)⟩
  case round =>
    obtain ⟨k, rfl, hk, hany⟩ := hrel
    by_cases hlt : k < l.length
    · obtain ⟨b, off, rfl, _, hc⟩ := HI.out.at hlt
      have h1 := hc k hlt
      have hmem : l.getD k 0 ∈ l := by simp [List.getD_eq_getElem?_getD, hlt]
      have HK := Lib.hid (HC.out _ hmem)
      have hd : l.drop k = l.getD k 0 :: l.drop (k + 1) := by rw [List.drop_eq_getElem_cons hlt]; simp [List.getD_eq_getElem?_getD, hlt]
      have hst : Hid (l.any P = (P (l.getD k 0) || (l.drop (k + 1)).any P)) := by
        have := hany.out; rw [hd, List.any_cons] at this; exact this
      generalize l.getD k 0 = x at h1 HK hst
      clear hc hmem hd hany HI HC
      go_wp2_with fail
      refine HK.out.mono ?_
      rintro e w' ⟨rfl, hw⟩
      obtain rfl := hw
      cases hP : P x
      · have HR : Hid (l.any P = (l.drop (k + 1)).any P) := by have := hst.out; rw [hP, Bool.false_or] at this; exact this
        have hP2 := Lib.hid hP
        clear hst hP
        go_wp2
        go_round
        case rel => exact ⟨k + 1, by go_num, hlt, HR⟩
        case measure => simp [intOf]; omega
      · have HR : Hid (l.any P = true) := by have := hst.out; rw [hP, Bool.true_or] at this; exact this
        have hP2 := Lib.hid hP
        clear hst hP
        go_wp2
        go_ret
        exact ⟨_, rfl, by rw [HR.out]; simp, rfl⟩
    · have hkl : k = l.length := by omega
      have HR : Hid (l.any P = false) := by have := hany.out; rw [hkl, List.drop_length, List.any_nil] at this; exact this
      clear hany hkl HI HC
      go_wp2
      go_ret
      exact ⟨_, rfl, by rw [HR.out]; simp, rfl⟩
theorem contains_odd (l : List Int) (p : Option Addr) (c : Nat) (a : Addr) (P : Int → Bool) (w : World) (hI : IsInts w p l) (hl : l.length ≤ 9223372036854775807)
    (hcall : ∀ x : Int, x ∈ l → Calls Try.prog 28 #[.int .i64 x, .pointer (some a)] w fun e w' => e = .returned (.bool (P x)) ∧ w = w') :
    Calls Try.prog 29 #[.slice p l.length c, .func (.func 28) #[] #[.pointer (some a)]] w fun e w' => e = .returned (.bool (l.any P)) ∧ w = w' := by
  have HX := Lib.hid (idx_odd l p c a P w hI hl hcall)
  clear hI hcall
  go_enter Try.func29, Try.ntmps29
  go_wp2_with fail
  refine HX.out.mono ?_
  rintro e w' ⟨r, rfl, hr, hw⟩
  obtain rfl := hw
  have HR := Lib.hid hr
  clear hr
  go_wp2
  go_ret
  exact ⟨ret_bool HR.out, rfl⟩


theorem cls_ok (x m : Int) (m0 : 0 ≤ m) (m1 : m ≤ 100) (a : Addr) (w : World) (hc : w.cell? a = some (.int .i64 m)) :
    Calls Try.prog 28 #[.int .i64 x, .pointer (some a)] w fun e w' => e = .returned (.bool (oddM m x)) ∧ w = w' := by
  by_cases h1 : x < -m - 1
  · have d1 : decide (x < -m - 1) = true := decide_eq_true h1
    have HR : Hid (oddM m x = true) := by show _ = _; rw [oddM, d1]; rfl
    clear h1
    go_enter Try.func28, Try.ntmps28
    go_wp2
    go_ret
    exact ⟨ret_bool HR.out.symm, rfl⟩
  · have d1 : decide (x < -m - 1) = false := decide_eq_false h1
    have HR : Hid (oddM m x = decide (m < x)) := by show _ = _; rw [oddM, d1]; rfl
    clear h1
    go_enter Try.func28, Try.ntmps28
    go_wp2
    go_ret
    exact ⟨ret_bool HR.out.symm, rfl⟩
theorem below_chk (w : World) (A B : Obj) : Below w.heap.size w (((w.alloc A).alloc B)) := ((Below.refl _ w).alloc (Nat.le_refl _) A).alloc (by simp) B
set_option maxRecDepth 100000 in
theorem chkt_0 (len order : Int) (down : Bool) (cs : List Int) (p : Option Addr) (c : Nat) (hl : cs.length ≤ 9223372036854775807) (w : World) (hI : IsInts w p cs) (d0 : decide (order < 0) = true) : Calls Try.prog 21 #[.agg #[.int .i64 len, .int .i64 order, .bool down, .bool true, .slice p cs.length c]] w fun e w' => e = .returned (.int .i64 4) ∧ Below w.heap.size w w' := by
  go_enter Try.func21, Try.ntmps21
  go_wp2
  go_ret
  exact ⟨rfl, below_chk _ _ _⟩
set_option maxRecDepth 100000 in
theorem chkt_1 (len order : Int) (down : Bool) (cs : List Int) (p : Option Addr) (c : Nat) (hl : cs.length ≤ 9223372036854775807) (w : World) (hI : IsInts w p cs) (d0 : decide (order < 0) = false) (d1 : decide (12 < order) = true) : Calls Try.prog 21 #[.agg #[.int .i64 len, .int .i64 order, .bool down, .bool true, .slice p cs.length c]] w fun e w' => e = .returned (.int .i64 4) ∧ Below w.heap.size w w' := by
  go_enter Try.func21, Try.ntmps21
  go_wp2
  go_ret
  exact ⟨rfl, below_chk _ _ _⟩
set_option maxRecDepth 100000 in
theorem chkt_2 (len order : Int) (down : Bool) (cs : List Int) (p : Option Addr) (c : Nat) (hl : cs.length ≤ 9223372036854775807) (w : World) (hI : IsInts w p cs) (d0 : decide (order < 0) = false) (d1 : decide (12 < order) = false) (d2 : ((cs.length : Int) == order) = false) (d2' : ((cs.length : Int) != order) = true) : Calls Try.prog 21 #[.agg #[.int .i64 len, .int .i64 order, .bool down, .bool true, .slice p cs.length c]] w fun e w' => e = .returned (.int .i64 4) ∧ Below w.heap.size w w' := by
  go_enter Try.func21, Try.ntmps21
  go_wp2
  go_ret
  exact ⟨rfl, below_chk _ _ _⟩
set_option maxRecDepth 100000 in
theorem chkt_3 (len order : Int) (down : Bool) (cs : List Int) (p : Option Addr) (c : Nat) (hl : cs.length ≤ 9223372036854775807) (w : World) (hI : IsInts w p cs) (d0 : decide (order < 0) = false) (d1 : decide (12 < order) = false) (d2 : ((cs.length : Int) == order) = true) (d2' : ((cs.length : Int) != order) = false) (d3 : decide (len < 0) = true) : Calls Try.prog 21 #[.agg #[.int .i64 len, .int .i64 order, .bool down, .bool true, .slice p cs.length c]] w fun e w' => e = .returned (.int .i64 2) ∧ Below w.heap.size w w' := by
  go_enter Try.func21, Try.ntmps21
  go_wp2
  go_ret
  exact ⟨rfl, below_chk _ _ _⟩
set_option maxRecDepth 100000 in
theorem chkt_4 (len order : Int) (down : Bool) (cs : List Int) (p : Option Addr) (c : Nat) (hl : cs.length ≤ 9223372036854775807) (w : World) (hI : IsInts w p cs) (d0 : decide (order < 0) = false) (d1 : decide (12 < order) = false) (d2 : ((cs.length : Int) == order) = true) (d2' : ((cs.length : Int) != order) = false) (d3 : decide (len < 0) = false) (d4 : decide (63 < len) = true) : Calls Try.prog 21 #[.agg #[.int .i64 len, .int .i64 order, .bool down, .bool true, .slice p cs.length c]] w fun e w' => e = .returned (.int .i64 2) ∧ Below w.heap.size w w' := by
  go_enter Try.func21, Try.ntmps21
  go_wp2
  go_ret
  exact ⟨rfl, below_chk _ _ _⟩
set_option maxRecDepth 100000 in
theorem chkt_5 (len order : Int) (down : Bool) (cs : List Int) (p : Option Addr) (c : Nat) (hl : cs.length ≤ 9223372036854775807) (w : World) (hI : IsInts w p cs) (d0 : decide (order < 0) = false) (d1 : decide (12 < order) = false) (d2 : ((cs.length : Int) == order) = true) (d2' : ((cs.length : Int) != order) = false) (d3 : decide (len < 0) = false) (d4 : decide (63 < len) = false) : Calls Try.prog 21 #[.agg #[.int .i64 len, .int .i64 order, .bool down, .bool true, .slice p cs.length c]] w fun e w' => e = .returned (.int .i64 (if cs.any (oddM 7) = true then 2 else 0)) ∧ Below w.heap.size w w' := by
  have HI := Lib.hid hI
  have HC := Lib.hid (fun W a (h : Below w.heap.size w W) (hc : W.cell? a = some (.int .i64 7)) => contains_odd cs p c a (oddM 7) W (hI.keep h) hl (fun x _ => cls_ok x 7 (by decide) (by decide) a W hc))
  have HB := Lib.hid (fun (A B : Obj) => below_chk w A B)
  clear hI
  obtain ⟨b, hb⟩ : ∃ b, cs.any (oddM 7) = b := ⟨_, rfl⟩
  rw [hb] at HC ⊢
  clear hb
  go_enter Try.func21, Try.ntmps21
  go_wp2_with fail
  refine (HC.out _ _ (HB.out _ _) ?_).mono ?_
  · rw [World.cell?_alloc_at _ _ _ _ (by simp)]; rfl
  rintro e w' ⟨rfl, hw⟩
  obtain rfl := hw
  cases b
  all_goals
    go_wp2
    go_ret
    exact ⟨rfl, HB.out _ _⟩

set_option maxRecDepth 100000 in
theorem chkf_0 (len order : Int) (down : Bool) (cs : List Int) (p : Option Addr) (c : Nat) (hl : cs.length ≤ 9223372036854775807) (w : World) (hI : IsInts w p cs) (d0 : decide (order < 0) = true) : Calls Try.prog 21 #[.agg #[.int .i64 len, .int .i64 order, .bool down, .bool false, .slice p cs.length c]] w fun e w' => e = .returned (.int .i64 4) ∧ Below w.heap.size w w' := by
  go_enter Try.func21, Try.ntmps21
  go_wp2
  go_ret
  exact ⟨rfl, below_chk _ _ _⟩
set_option maxRecDepth 100000 in
theorem chkf_1 (len order : Int) (down : Bool) (cs : List Int) (p : Option Addr) (c : Nat) (hl : cs.length ≤ 9223372036854775807) (w : World) (hI : IsInts w p cs) (d0 : decide (order < 0) = false) (d1 : decide (12 < order) = true) : Calls Try.prog 21 #[.agg #[.int .i64 len, .int .i64 order, .bool down, .bool false, .slice p cs.length c]] w fun e w' => e = .returned (.int .i64 4) ∧ Below w.heap.size w w' := by
  go_enter Try.func21, Try.ntmps21
  go_wp2
  go_ret
  exact ⟨rfl, below_chk _ _ _⟩
set_option maxRecDepth 100000 in
theorem chkf_2 (len order : Int) (down : Bool) (cs : List Int) (p : Option Addr) (c : Nat) (hl : cs.length ≤ 9223372036854775807) (w : World) (hI : IsInts w p cs) (d0 : decide (order < 0) = false) (d1 : decide (12 < order) = false) (d2 : ((cs.length : Int) == order) = false) (d2' : ((cs.length : Int) != order) = true) : Calls Try.prog 21 #[.agg #[.int .i64 len, .int .i64 order, .bool down, .bool false, .slice p cs.length c]] w fun e w' => e = .returned (.int .i64 4) ∧ Below w.heap.size w w' := by
  go_enter Try.func21, Try.ntmps21
  go_wp2
  go_ret
  exact ⟨rfl, below_chk _ _ _⟩
set_option maxRecDepth 100000 in
theorem chkf_3 (len order : Int) (down : Bool) (cs : List Int) (p : Option Addr) (c : Nat) (hl : cs.length ≤ 9223372036854775807) (w : World) (hI : IsInts w p cs) (d0 : decide (order < 0) = false) (d1 : decide (12 < order) = false) (d2 : ((cs.length : Int) == order) = true) (d2' : ((cs.length : Int) != order) = false) (d3 : decide (len < 0) = true) : Calls Try.prog 21 #[.agg #[.int .i64 len, .int .i64 order, .bool down, .bool false, .slice p cs.length c]] w fun e w' => e = .returned (.int .i64 2) ∧ Below w.heap.size w w' := by
  go_enter Try.func21, Try.ntmps21
  go_wp2
  go_ret
  exact ⟨rfl, below_chk _ _ _⟩
set_option maxRecDepth 100000 in
theorem chkf_4 (len order : Int) (down : Bool) (cs : List Int) (p : Option Addr) (c : Nat) (hl : cs.length ≤ 9223372036854775807) (w : World) (hI : IsInts w p cs) (d0 : decide (order < 0) = false) (d1 : decide (12 < order) = false) (d2 : ((cs.length : Int) == order) = true) (d2' : ((cs.length : Int) != order) = false) (d3 : decide (len < 0) = false) (d4 : decide (63 < len) = true) : Calls Try.prog 21 #[.agg #[.int .i64 len, .int .i64 order, .bool down, .bool false, .slice p cs.length c]] w fun e w' => e = .returned (.int .i64 2) ∧ Below w.heap.size w w' := by
  go_enter Try.func21, Try.ntmps21
  go_wp2
  go_ret
  exact ⟨rfl, below_chk _ _ _⟩
set_option maxRecDepth 100000 in
theorem chkf_5 (len order : Int) (down : Bool) (cs : List Int) (p : Option Addr) (c : Nat) (hl : cs.length ≤ 9223372036854775807) (w : World) (hI : IsInts w p cs) (d0 : decide (order < 0) = false) (d1 : decide (12 < order) = false) (d2 : ((cs.length : Int) == order) = true) (d2' : ((cs.length : Int) != order) = false) (d3 : decide (len < 0) = false) (d4 : decide (63 < len) = false) : Calls Try.prog 21 #[.agg #[.int .i64 len, .int .i64 order, .bool down, .bool false, .slice p cs.length c]] w fun e w' => e = .returned (.int .i64 (if cs.any (oddM 3) = true then 2 else 0)) ∧ Below w.heap.size w w' := by
  have HI := Lib.hid hI
  have HC := Lib.hid (fun W a (h : Below w.heap.size w W) (hc : W.cell? a = some (.int .i64 3)) => contains_odd cs p c a (oddM 3) W (hI.keep h) hl (fun x _ => cls_ok x 3 (by decide) (by decide) a W hc))
  have HB := Lib.hid (fun (A B : Obj) => below_chk w A B)
  clear hI
  obtain ⟨b, hb⟩ : ∃ b, cs.any (oddM 3) = b := ⟨_, rfl⟩
  rw [hb] at HC ⊢
  clear hb
  go_enter Try.func21, Try.ntmps21
  go_wp2_with fail
  refine (HC.out _ _ (HB.out _ _) ?_).mono ?_
  · rw [World.cell?_alloc_at _ _ _ _ (by simp)]; rfl
  rintro e w' ⟨rfl, hw⟩
  obtain rfl := hw
  cases b
  all_goals
    go_wp2
    go_ret
    exact ⟨rfl, HB.out _ _⟩

/-- The error of a filter, the program's. -/
theorem tns_check (len order : Int) (down fine : Bool) (cs : List Int) (p : Option Addr) (c : Nat) (hl : cs.length ≤ 9223372036854775807) (w : World) (hI : IsInts w p cs) :
    Calls Try.prog 21 #[.agg #[.int .i64 len, .int .i64 order, .bool down, .bool fine, .slice p cs.length c]] w fun e w' => e = .returned (.int .i64 (filtE len order fine cs)) ∧ Below w.heap.size w w' := by
  unfold filtE
  rw [oddL_eq]
  by_cases h0 : order < 0
  · rw [if_pos (.inl h0)]
    cases fine
    · exact chkf_0 len order down cs p c hl w hI (decide_eq_true h0)
    · exact chkt_0 len order down cs p c hl w hI (decide_eq_true h0)
  by_cases h1 : 12 < order
  · rw [if_pos (.inr (.inl h1))]
    cases fine
    · exact chkf_1 len order down cs p c hl w hI (decide_eq_false h0) (decide_eq_true h1)
    · exact chkt_1 len order down cs p c hl w hI (decide_eq_false h0) (decide_eq_true h1)
  by_cases h2 : (cs.length : Int) = order
  case neg =>
    rw [if_pos (.inr (.inr h2))]
    have a := beq_eq_false_iff_ne.2 h2
    cases fine
    · exact chkf_2 len order down cs p c hl w hI (decide_eq_false h0) (decide_eq_false h1) a (by simp [bne, a])
    · exact chkt_2 len order down cs p c hl w hI (decide_eq_false h0) (decide_eq_false h1) a (by simp [bne, a])
  rw [if_neg (by omega)]
  have a : ((cs.length : Int) == order) = true := by simp [h2]
  have b : ((cs.length : Int) != order) = false := by simp [h2]
  by_cases h3 : len < 0
  · rw [if_pos (.inl h3)]
    cases fine
    · exact chkf_3 len order down cs p c hl w hI (decide_eq_false h0) (decide_eq_false h1) a b (decide_eq_true h3)
    · exact chkt_3 len order down cs p c hl w hI (decide_eq_false h0) (decide_eq_false h1) a b (decide_eq_true h3)
  by_cases h4 : 63 < len
  · rw [if_pos (.inr (.inl h4))]
    cases fine
    · exact chkf_4 len order down cs p c hl w hI (decide_eq_false h0) (decide_eq_false h1) a b (decide_eq_false h3) (decide_eq_true h4)
    · exact chkt_4 len order down cs p c hl w hI (decide_eq_false h0) (decide_eq_false h1) a b (decide_eq_false h3) (decide_eq_true h4)
  have e : ∀ m, (if len < 0 ∨ 63 < len ∨ cs.any (oddM m) = true then (2 : Int) else 0) = if cs.any (oddM m) = true then 2 else 0 := fun m => by
    by_cases hh : cs.any (oddM m) = true
    · rw [if_pos (.inr (.inr hh)), if_pos hh]
    · rw [if_neg (by simp only [h3, h4, false_or]; exact hh), if_neg hh]
  rw [e]
  cases fine
  · exact chkf_5 len order down cs p c hl w hI (decide_eq_false h0) (decide_eq_false h1) a b (decide_eq_false h3) (decide_eq_false h4)
  · exact chkt_5 len order down cs p c hl w hI (decide_eq_false h0) (decide_eq_false h1) a b (decide_eq_false h3) (decide_eq_false h4)
/-- What Predict answers. -/
def predN (len order : Int) (fine : Bool) (cs : List Int) : List Int × Int := if filtE len order fine cs = 0 then (coefP fine cs cs.length, 0) else ([], filtE len order fine cs)
/-- A list in a block of the call's own, and an error. -/
def RPred (r : List Int × Int) (w : World) (e : Ending) (w' : World) : Prop :=
  ∃ p d, e = .returned (.tuple #[.slice p r.1.length d, .int .i64 r.2]) ∧ (r.1 = [] ∨ ∃ g l t, p = some ⟨g, 0, none⟩ ∧ w.heap.size ≤ g ∧ CellsAt w' g t (valsL (r.1 ++ l))) ∧ Below w.heap.size w w'
set_option maxRecDepth 100000 in
theorem tns_Predict (len order : Int) (down fine : Bool) (cs : List Int) (p : Option Addr) (c : Nat) (hl : cs.length ≤ 9223372036854775807) (w : World) (hI : IsInts w p cs) :
    Calls Try.prog 9 #[.agg #[.int .i64 len, .int .i64 order, .bool down, .bool fine, .slice p cs.length c]] w (RPred (predN len order fine cs) w) := by
  have HK := Lib.hid (fun W (h : Below w.heap.size w W) => tns_check len order down fine cs p c hl W (hI.keep h))
  have X0 := (CellsAt.new w 24 #[.int .i64 len, .int .i64 order, .bool down, .bool fine, .slice p cs.length c] rfl)
  have hb0 : Below w.heap.size w (w.alloc (.cells #[.int .i64 len, .int .i64 order, .bool down, .bool fine, .slice p cs.length c] 24)) := (Below.refl _ w).alloc (Nat.le_refl _) _
  unfold predN
  by_cases hE : filtE len order fine cs = 0
  · rw [if_pos hE]
    obtain ⟨q1, q2, q3⟩ := filt_ok hE
    rw [hE] at HK
    have HP := Lib.hid (fun W (h : Below w.heap.size w W) => tns_predict len order down fine cs p c q1.symm q2 q3 W (hI.keep h))
    have HL := Lib.hid (coefP_len fine cs cs.length)
    clear hE q1 q2 q3 hI
    go_enter Try.func9, Try.ntmps9
    go_wp2_with fail
    refine (HK.out _ hb0).mono ?_
    rintro e w1 ⟨rfl, hB1⟩
    have X1 := X0.keep hB1 X0.lt
    have hb1 := hb0.trans (hB1.mono hb0.size)
    have k0 := X1.cell 0
    have k1 := X1.cell 1
    have k2 := X1.cell 2
    have k3 := X1.cell 3
    have k4 := X1.cell 4
    simp only [List.getElem?_toArray, List.getElem?_cons_succ, List.getElem?_cons_zero] at k0 k1 k2 k3 k4
    clear X0 X1 hb0 hB1
    go_wp2_with fail
    refine (HP.out _ hb1).mono ?_
    rintro e w2 ⟨g, l, rfl, hg, hC, hB2⟩
    have HCC := Lib.hid hC
    have hb2 := hb1.trans (hB2.mono hb1.size)
    have hs1 := hb1.size
    clear hC hB2
    go_wp2
    go_ret2
    exact ⟨some ⟨g, 0, none⟩, 12, (by show _ = Ending.returned (.tuple #[.slice (some ⟨g, 0, none⟩) (coefP fine cs cs.length).length 12, .int .i64 0]); rw [HL.out]; rfl), .inr ⟨g, l, _, rfl, Nat.le_trans hs1 hg, HCC.out⟩, hb2⟩
  · rw [if_neg hE]
    have d1 : (filtE len order fine cs == 0) = false := beq_eq_false_iff_ne.2 hE
    have d2 : (filtE len order fine cs != 0) = true := by simp [bne, d1]
    generalize filtE len order fine cs = E at *
    clear hE hI
    go_enter Try.func9, Try.ntmps9
    go_wp2_with fail
    refine (HK.out _ hb0).mono ?_
    rintro e w1 ⟨rfl, hB1⟩
    have hb1 := hb0.trans (hB1.mono hb0.size)
    clear X0 hb0 hB1
    go_wp2
    go_ret2
    exact ⟨_, _, rfl, .inl rfl, hb1⟩
end Go.Proofs.Yteijlbblmdclaaa
