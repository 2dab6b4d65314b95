/- reedpiperef12: lists of the document's own. -/
import Derived.Test.YtcmbbmilldhnnaaG5
import Derived.Test.YtcmbbmilldhnnaaRefWin12
import Derived.Test.YtcmbbmilldhnnaaRefMdct12
set_option linter.unusedVariables false
set_option linter.unusedSimpArgs false
namespace Go.Proofs.Ytcmbbmilldhnnaa
open Go.ChangeShapes Go.WideShapes Go.ChangeAt Go.RowKit

/-- Integers somewhere are put behind a row of the call's own. -/
theorem append_l {w : World} {ops : Array Oper} {rest : List Oper} {o : Oper} {a : Act} {Q : Exit → Act → World → Prop} (hgd : o.guard = none) (s x : Operand)
    (ho : o.op = .call { callee := .builtin .append, args := #[s, x], argTypes := #[22, 22] }) (base : Nat)
    (v : Value) (L0 : List Int) (hs : a.eval s = v) (hown : w.ownsRow base 3 1 v L0.length (L0.map (Value.int .i64)))
    (p : Option Addr) (c : Nat) (l : List Int) (m : Nat) (hm : l.length = m) (hx : a.eval x = .slice p m c) (hI : IsInts w p l) (hne : 0 < m) (hL0 : L0.length ≤ 4096) (hl : m ≤ 4096) (hbase : base ≤ w.heap.size) (w0 : World) (hb : Below base w0 w)
    (h : ∀ v' w', w'.ownsRow base 3 1 v' (L0 ++ l).length ((L0 ++ l).map (Value.int .i64)) → Below base w0 w' → wpList Try.prog ops Q rest (a.put o.dst v') w') : wpList Try.prog ops Q (o :: rest) a w := by
  subst hm
  obtain ⟨i0, hi, hz0, hz1, hz2⟩ := info_parts Try.infoInt
  have hl0 := hown.lt
  obtain ⟨b, off, rfl, _, hc⟩ := hI.at (j := 0) hne
  refine wpList_append_own w hgd s x _ ho base 3 i0 (.int .i64 0) 1 8 Try.underlying22 hi hz0 hz1 hz2 rfl (by decide) v L0.length (L0.map (Value.int .i64)) hs hown ⟨b, off, none⟩ l.length c (l.map (Value.int .i64)) hx (by simp) ?_ (by simp [Value.oneCell']) (by unfold maxLen; omega) (by omega) hbase (fun v' w' h1 h2 _ => h v' w' (by simpa using h1) (hb.grown h2 hbase (fun j hj => (hl0 j hj).1)))
  intro j u hu
  have hj : j < l.length := by
    rcases Nat.lt_or_ge j l.length with h | h
    · exact h
    · rw [List.getElem?_eq_none (by simp; omega)] at hu; cases hu
  rw [Addr.add_lit, hc j hj, ← hu, row_get l j (Nat.zero_le _) hj]
/-- So many as are done of a row that is filled with one value. -/
theorem rep_succ (x : Int) (k : Nat) : List.replicate (k + 1) x = List.replicate k x ++ [x] := List.replicate_succ'

set_option maxRecDepth 100000 in
set_option maxHeartbeats 1000000 in
theorem ref_same (x : Int) (w : World) : Calls Try.prog 68 #[.int .i64 x, .int .i64 112] w (RRow (repL x) w) := by
  obtain ⟨i0, hi, hz0, hz1, hz2⟩ := info_parts Try.infoInt
  go_enter Try.func68, Try.ntmps68
  go_wp2
  go_loopw [5, 6] (fun V I wr => ∃ (k : Nat), wr.ownsRow w.heap.size 3 1 V (List.replicate k x).length ((List.replicate k x).map (Value.int .i64)) ∧ I = .int .i64 k ∧ k ≤ 112 ∧ Below w.heap.size w wr) (fun _ I _ => 112 - (intOf I).toNat)
  case atStart => exact ⟨0, World.ownsRow_nil _ _ _ _, rfl, by decide, Below.refl _ _⟩
  case round =>
    obtain ⟨k, hown, rfl, hk, hb⟩ := hrel
    by_cases hlt : k < 112
    · have hl2 := Lib.hid (List.length_replicate (n := k) (a := x))
      have HV := Lib.hid (rep_succ x k)
      have hown1 := hown.alloc (.cells #[.int .i64 (x)] 3)
      have hb1 := hb.alloc hb.size (.cells #[.int .i64 (x)] 3)
      have hl0 := Lib.hid hown.lt
      have hsz := hb.size
      clear hown hb
      go_wp2_with (at_builtin; refine wpList_append_own _ rfl _ _ 22 rfl w.heap.size 3 i0 (.int .i64 0) 1 8 Try.underlying22 hi hz0 hz1 hz2 rfl (by decide) _ _ _ rfl hown1 ⟨wr.heap.size, 0, none⟩ 1 1 [.int .i64 (x)] rfl rfl (cell_one_new _ _ _) (one_int _) ?c3 ?c4 ?c5 ?_)
      case c3 => first | (rw [hl2.out]; unfold maxLen; omega) | (unfold maxLen; omega)
      case c4 => first | (rw [hl2.out]; omega) | omega
      case c5 => first | (simp; omega) | omega
      intro v' wA hown' hg _
      have hb2 : Below w.heap.size w wA := hb1.grown hg (by simp; omega) (fun j hj => (hl0.out j hj).1)
      have hown2 : wA.ownsRow w.heap.size 3 1 v' (List.replicate (k + 1) x).length ((List.replicate (k + 1) x).map (Value.int .i64)) := by
        rw [HV.out, List.map_append, List.length_append]
        simpa using hown'
      clear hown' hg hb1 hown1
      go_wp2
      exact ⟨⟨k + 1, hown2, by go_num, by omega, hb2⟩, by simp [intOf]; omega⟩
    · have hkM : k = 112 := by omega
      subst hkM
      have HO := Lib.hid hown
      clear hown hlt
      go_wp2
      go_ret
      exact ⟨_, rfl, HO.out, hb⟩
def revL (l : List Int) (k : Nat) : List Int := l.reverse.take k
set_option maxRecDepth 100000 in
set_option maxHeartbeats 1000000 in
theorem ref_back (l : List Int) (hl : l.length ≤ 4096) (p : Option Addr) (c : Nat) (w : World) (hI : IsInts w p l) : Calls Try.prog 70 #[.slice p l.length c] w (RRow l.reverse w) := by
  obtain ⟨i0, hi, hz0, hz1, hz2⟩ := info_parts Try.infoInt
  have HI := Lib.hid hI
  clear hI
  have HLL := Lib.hid (show ∀ k, k ≤ l.length → (revL l k).length = k from fun k hk => by unfold revL; simp; omega)
  have HNX := Lib.hid (show ∀ k, k < l.length → revL l (k + 1) = revL l k ++ [l.getD (l.length - 1 - k) 0] from fun k hk => by
    unfold revL
    rw [List.take_add_one, List.getElem?_reverse hk, List.getElem?_eq_getElem (by omega)]
    simp [List.getD_eq_getElem?_getD, show l.length - 1 - k < l.length by omega])
  have HALL := Lib.hid (show revL l l.length = l.reverse from List.take_of_length_le (by simp))
  go_enter Try.func70, Try.ntmps70
  go_wp2
  go_loopw [3, 4] (fun V I wr => ∃ (k : Nat), wr.ownsRow w.heap.size 3 1 V (revL l k).length ((revL l k).map (Value.int .i64)) ∧ I = .int .i64 ((l.length : Int) - 1 - (k : Int)) ∧ k ≤ l.length ∧ Below w.heap.size w wr) (fun _ I _ => (intOf I + 1).toNat)
  case atStart => exact ⟨0, World.ownsRow_nil _ _ _ _, by simp, Nat.zero_le _, Below.refl _ _⟩
  case round =>
    obtain ⟨k, hown, rfl, hk, hb⟩ := hrel
    by_cases hlt : k < l.length
    · have hd : decide (0 ≤ (l.length : Int) - 1 - (k : Int)) = true := decide_eq_true (by omega)
      have t1 : ((l.length : Int) - 1 - (k : Int)).toNat = l.length - 1 - k := by omega
      have t2 : (0 : Int) ≤ (l.length : Int) - 1 - (k : Int) := by omega
      have t3 : (l.length : Int) - 1 - (k : Int) < (l.length : Int) := by omega
      have t4 : (k : Int) ≤ (l.length : Int) - 1 := by omega
      obtain ⟨b, off, rfl, _, hc⟩ := (HI.out.keep hb).at (j := 0) (by omega)
      have h1 := hc (l.length - 1 - k) (by omega)
      have hl2 := Lib.hid (HLL.out k (by omega))
      have HV := Lib.hid (HNX.out k hlt)
      obtain ⟨x, hx⟩ : ∃ x, l.getD (l.length - 1 - k) 0 = x := ⟨_, rfl⟩
      rw [hx] at h1 HV
      clear hc hx
      have hown1 := hown.alloc (.cells #[.int .i64 (x)] 3)
      have hb1 := hb.alloc hb.size (.cells #[.int .i64 (x)] 3)
      have hl0 := Lib.hid hown.lt
      have hsz := hb.size
      clear hown hb
      go_wp2_with (at_builtin; refine wpList_append_own _ rfl _ _ 22 rfl w.heap.size 3 i0 (.int .i64 0) 1 8 Try.underlying22 hi hz0 hz1 hz2 rfl (by decide) _ _ _ rfl hown1 ⟨wr.heap.size, 0, none⟩ 1 1 [.int .i64 (x)] rfl rfl (cell_one_new _ _ _) (one_int _) ?c3 ?c4 ?c5 ?_)
      case c3 => first | (rw [hl2.out]; unfold maxLen; omega) | (unfold maxLen; omega)
      case c4 => first | (rw [hl2.out]; omega) | omega
      case c5 => first | (simp; omega) | omega
      intro v' wA hown' hg _
      have hb2 : Below w.heap.size w wA := hb1.grown hg (by simp; omega) (fun j hj => (hl0.out j hj).1)
      have hown2 : wA.ownsRow w.heap.size 3 1 v' (revL l (k + 1)).length ((revL l (k + 1)).map (Value.int .i64)) := by
        rw [HV.out, List.map_append, List.length_append]
        simpa using hown'
      clear hown' hg hb1 hown1
      go_wp2
      exact ⟨⟨k + 1, hown2, by congr 1; omega, by omega, hb2⟩, by simp [intOf]; omega⟩
    · have hkM : k = l.length := by omega
      subst hkM
      have hd : decide (0 ≤ (l.length : Int) - 1 - (l.length : Int)) = false := decide_eq_false (by omega)
      have HO := Lib.hid hown
      have HA2 := HALL.out
      rw [HALL.out] at HO
      clear hown hlt HALL HA2
      go_wp2
      go_ret
      exact ⟨_, rfl, HO.out, hb⟩
set_option maxRecDepth 100000 in
set_option maxHeartbeats 2000000 in
theorem refv_3 (was shape : Int) (A S : List Int) (AL : Hid (A.length = 32)) (SL : Hid (S.length = 256)) (HA : Hid (∀ W, Calls Try.prog 69 #[.int .u8 was, .bool true] W (RRowV A W))) (HS : Hid (∀ W, Calls Try.prog 69 #[.int .u8 shape, .bool false] W (RRowV S W))) (HK : Hid (∀ (W : World) (q : Option Addr) (d : Nat), IsInts W q S → Calls Try.prog 70 #[.slice q 256 d] W (RRow S.reverse W))) (w : World) : Calls Try.prog 60 #[.int .u8 3, .int .u8 was, .int .u8 shape] w (RRow (((repL 0 ++ A) ++ repL 4194304) ++ S.reverse) w) := by
  have HN := Lib.hid (fun W => ref_same 0 W)
  have HO := Lib.hid (fun W => ref_same 4194304 W)
  have NL := Lib.hid (repL_len 0)
  have OL := Lib.hid (repL_len 4194304)
  have hown := World.ownsRow_nil w w.heap.size 3 1
  have hb := Below.refl w.heap.size w
  obtain ⟨N, hN⟩ : ∃ N, repL 0 = N := ⟨_, rfl⟩
  obtain ⟨O, hO⟩ : ∃ O, repL 4194304 = O := ⟨_, rfl⟩
  rw [hN] at HN NL ⊢
  rw [hO] at HO OL ⊢
  clear hN hO
  go_enter Try.func60, Try.ntmps60
  go_wp2_with fail
  refine (HN.out _).mono ?_
  rintro e wa0 ⟨va0, rfl, hO0, hB0⟩
  have hown0 := owns_keep hown hB0
  have hb0 := hb.trans (hB0.mono hb.size)
  obtain ⟨pa0, ca0, rfl, IA0⟩ := owns_any hO0
  have HI0 := Lib.hid IA0.ints
  clear hown hb hO0 hB0 IA0
  rw [NL.out]
  go_wp2_with (at_builtin; refine append_l rfl _ _ rfl w.heap.size _ [] rfl hown0 pa0 ca0 N 112 NL.out rfl HI0.out (by decide) (by have := (show ([] : List Int).length = 0 from rfl); omega) (by decide) hb0.size w hb0 ?_; intro v0 w0 hown hb; try rw [List.nil_append] at hown)
  clear hown0 hb0 HI0
  have hl0 := NL
  go_wp2_with fail
  refine (HA.out _).mono ?_
  rintro e wa1 ⟨va1, rfl, hO1, hB1⟩
  have hown1 := owns_keep hown hB1
  have hb1 := hb.trans (hB1.mono hb.size)
  obtain ⟨pa1, ca1, rfl, IA1⟩ := owns_any hO1
  have HI1 := Lib.hid IA1.ints
  clear hown hb hO1 hB1 IA1
  rw [AL.out]
  obtain ⟨C1, hC1⟩ : ∃ C, N ++ A = C := ⟨_, rfl⟩
  have hl1 := Lib.hid (show C1.length = 144 by rw [← hC1, List.length_append, hl0.out, AL.out])
  have HC1 := Lib.hid hC1
  clear hC1
  go_wp2_with (at_builtin; refine append_l rfl _ _ rfl w.heap.size _ N rfl hown1 pa1 ca1 A 32 AL.out rfl HI1.out (by decide) (by have := hl0.out; omega) (by decide) hb1.size w hb1 ?_; intro v1 w1 hown hb; rw [HC1.out] at hown)
  clear hown1 hb1 HI1
  go_wp2_with fail
  refine (HO.out _).mono ?_
  rintro e wa2 ⟨va2, rfl, hO2, hB2⟩
  have hown2 := owns_keep hown hB2
  have hb2 := hb.trans (hB2.mono hb.size)
  obtain ⟨pa2, ca2, rfl, IA2⟩ := owns_any hO2
  have HI2 := Lib.hid IA2.ints
  clear hown hb hO2 hB2 IA2
  rw [OL.out]
  obtain ⟨C2, hC2⟩ : ∃ C, C1 ++ O = C := ⟨_, rfl⟩
  have hl2 := Lib.hid (show C2.length = 256 by rw [← hC2, List.length_append, hl1.out, OL.out])
  have HC2 := Lib.hid hC2
  clear hC2
  go_wp2_with (at_builtin; refine append_l rfl _ _ rfl w.heap.size _ C1 rfl hown2 pa2 ca2 O 112 OL.out rfl HI2.out (by decide) (by have := hl1.out; omega) (by decide) hb2.size w hb2 ?_; intro v2 w2 hown hb; rw [HC2.out] at hown)
  clear hown2 hb2 HI2
  go_wp2_with fail
  refine (HS.out _).mono ?_
  rintro e wa3 ⟨va3, rfl, hO3, hB3⟩
  have hown3 := owns_keep hown hB3
  have hb3 := hb.trans (hB3.mono hb.size)
  obtain ⟨pa3, ca3, rfl, IA3⟩ := owns_any hO3
  have HI3 := Lib.hid IA3.ints
  clear hown hb hO3 hB3 IA3
  rw [SL.out]
  go_wp2_with fail
  refine (HK.out _ _ _ HI3.out).mono ?_
  rintro e wb3 ⟨vb3, rfl, hP3, hC3⟩
  have hownb3 := owns_keep hown3 hC3
  have hbb3 := hb3.trans (hC3.mono hb3.size)
  obtain ⟨pb3, cb3, rfl, IB3⟩ := owns_any hP3
  have HJ3 := Lib.hid IB3.ints
  clear hown3 hb3 hP3 hC3 IB3
  rw [List.length_reverse, SL.out]
  obtain ⟨C3, hC3⟩ : ∃ C, C2 ++ S.reverse = C := ⟨_, rfl⟩
  have hl3 := Lib.hid (show C3.length = 512 by rw [← hC3, List.length_append, hl2.out, List.length_reverse, SL.out])
  have HC3 := Lib.hid hC3
  clear hC3
  go_wp2_with (at_builtin; refine append_l rfl _ _ rfl w.heap.size _ C2 rfl hownb3 pb3 cb3 S.reverse 256 (by rw [List.length_reverse]; exact SL.out) rfl HJ3.out (by decide) (by have := hl2.out; omega) (by decide) hbb3.size w hbb3 ?_; intro v3 w3 hown hb; rw [HC3.out] at hown)
  clear hownb3 hbb3 HJ3
  have HOO := Lib.hid hown
  rw [← HC3.out, ← HC2.out, ← HC1.out] at HOO
  clear hown
  go_wp2
  go_ret
  exact ⟨_, rfl, HOO.out, hb⟩

set_option maxRecDepth 100000 in
set_option maxHeartbeats 2000000 in
theorem refv_0 (was shape : Int) (A S : List Int) (AL : Hid (A.length = 256)) (SL : Hid (S.length = 256)) (HA : Hid (∀ W, Calls Try.prog 69 #[.int .u8 was, .bool false] W (RRowV A W))) (HS : Hid (∀ W, Calls Try.prog 69 #[.int .u8 shape, .bool false] W (RRowV S W))) (HK : Hid (∀ (W : World) (q : Option Addr) (d : Nat), IsInts W q S → Calls Try.prog 70 #[.slice q 256 d] W (RRow S.reverse W))) (w : World) : Calls Try.prog 60 #[.int .u8 0, .int .u8 was, .int .u8 shape] w (RRow (A ++ S.reverse) w) := by
  have HN := Lib.hid (fun W => ref_same 0 W)
  have HO := Lib.hid (fun W => ref_same 4194304 W)
  have NL := Lib.hid (repL_len 0)
  have OL := Lib.hid (repL_len 4194304)
  have hown := World.ownsRow_nil w w.heap.size 3 1
  have hb := Below.refl w.heap.size w
  obtain ⟨N, hN⟩ : ∃ N, repL 0 = N := ⟨_, rfl⟩
  obtain ⟨O, hO⟩ : ∃ O, repL 4194304 = O := ⟨_, rfl⟩
  rw [hN] at HN NL
  rw [hO] at HO OL
  clear hN hO
  go_enter Try.func60, Try.ntmps60
  go_wp2_with fail
  refine (HA.out _).mono ?_
  rintro e wa0 ⟨va0, rfl, hO0, hB0⟩
  have hown0 := owns_keep hown hB0
  have hb0 := hb.trans (hB0.mono hb.size)
  obtain ⟨pa0, ca0, rfl, IA0⟩ := owns_any hO0
  have HI0 := Lib.hid IA0.ints
  clear hown hb hO0 hB0 IA0
  rw [AL.out]
  go_wp2_with (at_builtin; refine append_l rfl _ _ rfl w.heap.size _ [] rfl hown0 pa0 ca0 A 256 AL.out rfl HI0.out (by decide) (by have := (show ([] : List Int).length = 0 from rfl); omega) (by decide) hb0.size w hb0 ?_; intro v0 w0 hown hb; try rw [List.nil_append] at hown)
  clear hown0 hb0 HI0
  have hl0 := AL
  go_wp2_with fail
  refine (HS.out _).mono ?_
  rintro e wa1 ⟨va1, rfl, hO1, hB1⟩
  have hown1 := owns_keep hown hB1
  have hb1 := hb.trans (hB1.mono hb.size)
  obtain ⟨pa1, ca1, rfl, IA1⟩ := owns_any hO1
  have HI1 := Lib.hid IA1.ints
  clear hown hb hO1 hB1 IA1
  rw [SL.out]
  go_wp2_with fail
  refine (HK.out _ _ _ HI1.out).mono ?_
  rintro e wb1 ⟨vb1, rfl, hP1, hC1⟩
  have hownb1 := owns_keep hown1 hC1
  have hbb1 := hb1.trans (hC1.mono hb1.size)
  obtain ⟨pb1, cb1, rfl, IB1⟩ := owns_any hP1
  have HJ1 := Lib.hid IB1.ints
  clear hown1 hb1 hP1 hC1 IB1
  rw [List.length_reverse, SL.out]
  obtain ⟨C1, hC1⟩ : ∃ C, A ++ S.reverse = C := ⟨_, rfl⟩
  have hl1 := Lib.hid (show C1.length = 512 by rw [← hC1, List.length_append, hl0.out, List.length_reverse, SL.out])
  have HC1 := Lib.hid hC1
  clear hC1
  go_wp2_with (at_builtin; refine append_l rfl _ _ rfl w.heap.size _ A rfl hownb1 pb1 cb1 S.reverse 256 (by rw [List.length_reverse]; exact SL.out) rfl HJ1.out (by decide) (by have := hl0.out; omega) (by decide) hbb1.size w hbb1 ?_; intro v1 w1 hown hb; rw [HC1.out] at hown)
  clear hownb1 hbb1 HJ1
  have HOO := Lib.hid hown
  rw [← HC1.out] at HOO
  clear hown
  go_wp2
  go_ret
  exact ⟨_, rfl, HOO.out, hb⟩

set_option maxRecDepth 100000 in
set_option maxHeartbeats 2000000 in
theorem refv_1 (was shape : Int) (A S : List Int) (AL : Hid (A.length = 256)) (SL : Hid (S.length = 32)) (HA : Hid (∀ W, Calls Try.prog 69 #[.int .u8 was, .bool false] W (RRowV A W))) (HS : Hid (∀ W, Calls Try.prog 69 #[.int .u8 shape, .bool true] W (RRowV S W))) (HK : Hid (∀ (W : World) (q : Option Addr) (d : Nat), IsInts W q S → Calls Try.prog 70 #[.slice q 32 d] W (RRow S.reverse W))) (w : World) : Calls Try.prog 60 #[.int .u8 1, .int .u8 was, .int .u8 shape] w (RRow (((A ++ repL 4194304) ++ S.reverse) ++ repL 0) w) := by
  have HN := Lib.hid (fun W => ref_same 0 W)
  have HO := Lib.hid (fun W => ref_same 4194304 W)
  have NL := Lib.hid (repL_len 0)
  have OL := Lib.hid (repL_len 4194304)
  have hown := World.ownsRow_nil w w.heap.size 3 1
  have hb := Below.refl w.heap.size w
  obtain ⟨N, hN⟩ : ∃ N, repL 0 = N := ⟨_, rfl⟩
  obtain ⟨O, hO⟩ : ∃ O, repL 4194304 = O := ⟨_, rfl⟩
  rw [hN] at HN NL ⊢
  rw [hO] at HO OL ⊢
  clear hN hO
  go_enter Try.func60, Try.ntmps60
  go_wp2_with fail
  refine (HA.out _).mono ?_
  rintro e wa0 ⟨va0, rfl, hO0, hB0⟩
  have hown0 := owns_keep hown hB0
  have hb0 := hb.trans (hB0.mono hb.size)
  obtain ⟨pa0, ca0, rfl, IA0⟩ := owns_any hO0
  have HI0 := Lib.hid IA0.ints
  clear hown hb hO0 hB0 IA0
  rw [AL.out]
  go_wp2_with (at_builtin; refine append_l rfl _ _ rfl w.heap.size _ [] rfl hown0 pa0 ca0 A 256 AL.out rfl HI0.out (by decide) (by have := (show ([] : List Int).length = 0 from rfl); omega) (by decide) hb0.size w hb0 ?_; intro v0 w0 hown hb; try rw [List.nil_append] at hown)
  clear hown0 hb0 HI0
  have hl0 := AL
  go_wp2_with fail
  refine (HO.out _).mono ?_
  rintro e wa1 ⟨va1, rfl, hO1, hB1⟩
  have hown1 := owns_keep hown hB1
  have hb1 := hb.trans (hB1.mono hb.size)
  obtain ⟨pa1, ca1, rfl, IA1⟩ := owns_any hO1
  have HI1 := Lib.hid IA1.ints
  clear hown hb hO1 hB1 IA1
  rw [OL.out]
  obtain ⟨C1, hC1⟩ : ∃ C, A ++ O = C := ⟨_, rfl⟩
  have hl1 := Lib.hid (show C1.length = 368 by rw [← hC1, List.length_append, hl0.out, OL.out])
  have HC1 := Lib.hid hC1
  clear hC1
  go_wp2_with (at_builtin; refine append_l rfl _ _ rfl w.heap.size _ A rfl hown1 pa1 ca1 O 112 OL.out rfl HI1.out (by decide) (by have := hl0.out; omega) (by decide) hb1.size w hb1 ?_; intro v1 w1 hown hb; rw [HC1.out] at hown)
  clear hown1 hb1 HI1
  go_wp2_with fail
  refine (HS.out _).mono ?_
  rintro e wa2 ⟨va2, rfl, hO2, hB2⟩
  have hown2 := owns_keep hown hB2
  have hb2 := hb.trans (hB2.mono hb.size)
  obtain ⟨pa2, ca2, rfl, IA2⟩ := owns_any hO2
  have HI2 := Lib.hid IA2.ints
  clear hown hb hO2 hB2 IA2
  rw [SL.out]
  go_wp2_with fail
  refine (HK.out _ _ _ HI2.out).mono ?_
  rintro e wb2 ⟨vb2, rfl, hP2, hC2⟩
  have hownb2 := owns_keep hown2 hC2
  have hbb2 := hb2.trans (hC2.mono hb2.size)
  obtain ⟨pb2, cb2, rfl, IB2⟩ := owns_any hP2
  have HJ2 := Lib.hid IB2.ints
  clear hown2 hb2 hP2 hC2 IB2
  rw [List.length_reverse, SL.out]
  obtain ⟨C2, hC2⟩ : ∃ C, C1 ++ S.reverse = C := ⟨_, rfl⟩
  have hl2 := Lib.hid (show C2.length = 400 by rw [← hC2, List.length_append, hl1.out, List.length_reverse, SL.out])
  have HC2 := Lib.hid hC2
  clear hC2
  go_wp2_with (at_builtin; refine append_l rfl _ _ rfl w.heap.size _ C1 rfl hownb2 pb2 cb2 S.reverse 32 (by rw [List.length_reverse]; exact SL.out) rfl HJ2.out (by decide) (by have := hl1.out; omega) (by decide) hbb2.size w hbb2 ?_; intro v2 w2 hown hb; rw [HC2.out] at hown)
  clear hownb2 hbb2 HJ2
  go_wp2_with fail
  refine (HN.out _).mono ?_
  rintro e wa3 ⟨va3, rfl, hO3, hB3⟩
  have hown3 := owns_keep hown hB3
  have hb3 := hb.trans (hB3.mono hb.size)
  obtain ⟨pa3, ca3, rfl, IA3⟩ := owns_any hO3
  have HI3 := Lib.hid IA3.ints
  clear hown hb hO3 hB3 IA3
  rw [NL.out]
  obtain ⟨C3, hC3⟩ : ∃ C, C2 ++ N = C := ⟨_, rfl⟩
  have hl3 := Lib.hid (show C3.length = 512 by rw [← hC3, List.length_append, hl2.out, NL.out])
  have HC3 := Lib.hid hC3
  clear hC3
  go_wp2_with (at_builtin; refine append_l rfl _ _ rfl w.heap.size _ C2 rfl hown3 pa3 ca3 N 112 NL.out rfl HI3.out (by decide) (by have := hl2.out; omega) (by decide) hb3.size w hb3 ?_; intro v3 w3 hown hb; rw [HC3.out] at hown)
  clear hown3 hb3 HI3
  have HOO := Lib.hid hown
  rw [← HC3.out, ← HC2.out, ← HC1.out] at HOO
  clear hown
  go_wp2
  go_ret
  exact ⟨_, rfl, HOO.out, hb⟩

set_option maxRecDepth 100000 in
set_option maxHeartbeats 2000000 in
theorem refl_0 (was shape : Int) (A S : List Int) (AL : Hid (A.length = 32)) (SL : Hid (S.length = 32)) (HA : Hid (∀ W, Calls Try.prog 69 #[.int .u8 was, .bool true] W (RRowV A W))) (HS : Hid (∀ W, Calls Try.prog 69 #[.int .u8 shape, .bool true] W (RRowV S W))) (HK : Hid (∀ (W : World) (q : Option Addr) (d : Nat), IsInts W q S → Calls Try.prog 70 #[.slice q 32 d] W (RRow S.reverse W))) (w : World) : Calls Try.prog 61 #[.int .i64 0, .int .u8 was, .int .u8 shape] w (RRow (A ++ S.reverse) w) := by
  have HN := Lib.hid (fun W => ref_same 0 W)
  have HO := Lib.hid (fun W => ref_same 4194304 W)
  have NL := Lib.hid (repL_len 0)
  have OL := Lib.hid (repL_len 4194304)
  have hown := World.ownsRow_nil w w.heap.size 3 1
  have hb := Below.refl w.heap.size w
  obtain ⟨N, hN⟩ : ∃ N, repL 0 = N := ⟨_, rfl⟩
  obtain ⟨O, hO⟩ : ∃ O, repL 4194304 = O := ⟨_, rfl⟩
  rw [hN] at HN NL
  rw [hO] at HO OL
  clear hN hO
  go_enter Try.func61, Try.ntmps61
  go_wp2_with fail
  refine (HA.out _).mono ?_
  rintro e wa0 ⟨va0, rfl, hO0, hB0⟩
  have hown0 := owns_keep hown hB0
  have hb0 := hb.trans (hB0.mono hb.size)
  obtain ⟨pa0, ca0, rfl, IA0⟩ := owns_any hO0
  have HI0 := Lib.hid IA0.ints
  clear hown hb hO0 hB0 IA0
  rw [AL.out]
  go_wp2_with (at_builtin; refine append_l rfl _ _ rfl w.heap.size _ [] rfl hown0 pa0 ca0 A 32 AL.out rfl HI0.out (by decide) (by have := (show ([] : List Int).length = 0 from rfl); omega) (by decide) hb0.size w hb0 ?_; intro v0 w0 hown hb; try rw [List.nil_append] at hown)
  clear hown0 hb0 HI0
  have hl0 := AL
  go_wp2_with fail
  refine (HS.out _).mono ?_
  rintro e wa1 ⟨va1, rfl, hO1, hB1⟩
  have hown1 := owns_keep hown hB1
  have hb1 := hb.trans (hB1.mono hb.size)
  obtain ⟨pa1, ca1, rfl, IA1⟩ := owns_any hO1
  have HI1 := Lib.hid IA1.ints
  clear hown hb hO1 hB1 IA1
  rw [SL.out]
  go_wp2_with fail
  refine (HK.out _ _ _ HI1.out).mono ?_
  rintro e wb1 ⟨vb1, rfl, hP1, hC1⟩
  have hownb1 := owns_keep hown1 hC1
  have hbb1 := hb1.trans (hC1.mono hb1.size)
  obtain ⟨pb1, cb1, rfl, IB1⟩ := owns_any hP1
  have HJ1 := Lib.hid IB1.ints
  clear hown1 hb1 hP1 hC1 IB1
  rw [List.length_reverse, SL.out]
  obtain ⟨C1, hC1⟩ : ∃ C, A ++ S.reverse = C := ⟨_, rfl⟩
  have hl1 := Lib.hid (show C1.length = 64 by rw [← hC1, List.length_append, hl0.out, List.length_reverse, SL.out])
  have HC1 := Lib.hid hC1
  clear hC1
  go_wp2_with (at_builtin; refine append_l rfl _ _ rfl w.heap.size _ A rfl hownb1 pb1 cb1 S.reverse 32 (by rw [List.length_reverse]; exact SL.out) rfl HJ1.out (by decide) (by have := hl0.out; omega) (by decide) hbb1.size w hbb1 ?_; intro v1 w1 hown hb; rw [HC1.out] at hown)
  clear hownb1 hbb1 HJ1
  have HOO := Lib.hid hown
  rw [← HC1.out] at HOO
  clear hown
  go_wp2
  go_ret
  exact ⟨_, rfl, HOO.out, hb⟩

set_option maxRecDepth 100000 in
set_option maxHeartbeats 2000000 in
theorem refl_n (i : Int) (hi0 : (i == 0) = false) (was shape : Int) (A S : List Int) (AL : Hid (A.length = 32)) (SL : Hid (S.length = 32)) (HA : Hid (∀ W, Calls Try.prog 69 #[.int .u8 shape, .bool true] W (RRowV A W))) (HS : Hid (∀ W, Calls Try.prog 69 #[.int .u8 shape, .bool true] W (RRowV S W))) (HK : Hid (∀ (W : World) (q : Option Addr) (d : Nat), IsInts W q S → Calls Try.prog 70 #[.slice q 32 d] W (RRow S.reverse W))) (w : World) : Calls Try.prog 61 #[.int .i64 i, .int .u8 was, .int .u8 shape] w (RRow (A ++ S.reverse) w) := by
  have HN := Lib.hid (fun W => ref_same 0 W)
  have HO := Lib.hid (fun W => ref_same 4194304 W)
  have NL := Lib.hid (repL_len 0)
  have OL := Lib.hid (repL_len 4194304)
  have hown := World.ownsRow_nil w w.heap.size 3 1
  have hb := Below.refl w.heap.size w
  obtain ⟨N, hN⟩ : ∃ N, repL 0 = N := ⟨_, rfl⟩
  obtain ⟨O, hO⟩ : ∃ O, repL 4194304 = O := ⟨_, rfl⟩
  rw [hN] at HN NL
  rw [hO] at HO OL
  clear hN hO
  go_enter Try.func61, Try.ntmps61
  go_wp2_with fail
  refine (HA.out _).mono ?_
  rintro e wa0 ⟨va0, rfl, hO0, hB0⟩
  have hown0 := owns_keep hown hB0
  have hb0 := hb.trans (hB0.mono hb.size)
  obtain ⟨pa0, ca0, rfl, IA0⟩ := owns_any hO0
  have HI0 := Lib.hid IA0.ints
  clear hown hb hO0 hB0 IA0
  rw [AL.out]
  go_wp2_with (at_builtin; refine append_l rfl _ _ rfl w.heap.size _ [] rfl hown0 pa0 ca0 A 32 AL.out rfl HI0.out (by decide) (by have := (show ([] : List Int).length = 0 from rfl); omega) (by decide) hb0.size w hb0 ?_; intro v0 w0 hown hb; try rw [List.nil_append] at hown)
  clear hown0 hb0 HI0
  have hl0 := AL
  go_wp2_with fail
  refine (HS.out _).mono ?_
  rintro e wa1 ⟨va1, rfl, hO1, hB1⟩
  have hown1 := owns_keep hown hB1
  have hb1 := hb.trans (hB1.mono hb.size)
  obtain ⟨pa1, ca1, rfl, IA1⟩ := owns_any hO1
  have HI1 := Lib.hid IA1.ints
  clear hown hb hO1 hB1 IA1
  rw [SL.out]
  go_wp2_with fail
  refine (HK.out _ _ _ HI1.out).mono ?_
  rintro e wb1 ⟨vb1, rfl, hP1, hC1⟩
  have hownb1 := owns_keep hown1 hC1
  have hbb1 := hb1.trans (hC1.mono hb1.size)
  obtain ⟨pb1, cb1, rfl, IB1⟩ := owns_any hP1
  have HJ1 := Lib.hid IB1.ints
  clear hown1 hb1 hP1 hC1 IB1
  rw [List.length_reverse, SL.out]
  obtain ⟨C1, hC1⟩ : ∃ C, A ++ S.reverse = C := ⟨_, rfl⟩
  have hl1 := Lib.hid (show C1.length = 64 by rw [← hC1, List.length_append, hl0.out, List.length_reverse, SL.out])
  have HC1 := Lib.hid hC1
  clear hC1
  go_wp2_with (at_builtin; refine append_l rfl _ _ rfl w.heap.size _ A rfl hownb1 pb1 cb1 S.reverse 32 (by rw [List.length_reverse]; exact SL.out) rfl HJ1.out (by decide) (by have := hl0.out; omega) (by decide) hbb1.size w hbb1 ?_; intro v1 w1 hown hb; rw [HC1.out] at hown)
  clear hownb1 hbb1 HJ1
  have HOO := Lib.hid hown
  rw [← HC1.out] at HOO
  clear hown
  go_wp2
  go_ret
  exact ⟨_, rfl, HOO.out, hb⟩

end Go.Proofs.Ytcmbbmilldhnnaa
