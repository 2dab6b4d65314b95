/- reedpiperef12: Lines, Numbers. -/
import Derived.Test.YtclbbfpagkhonaaRef12c
set_option linter.unusedVariables false
set_option linter.unusedSimpArgs false
namespace Go.Proofs.Ytclbbfpagkhonaa
open Go.ChangeShapes Go.WideShapes Go.ChangeAt Go.RowKit

set_option maxRecDepth 100000 in
set_option maxHeartbeats 2000000 in
theorem reflines_long (seq was shape : Int) (d2 : (seq == 2) = false) (d2' : (seq != 2) = true) (l W U X : List Int) (p : Option Addr) (c : Nat)
    (HV : Hid (∀ W', Calls Try.prog 27 #[.int .u8 seq, .int .u8 was, .int .u8 shape] W' (RRow W W')))
    (HU : Hid (∀ W' q d, IsInts W' p l → IsInts W' q W → Calls Try.prog 47 #[.slice p l.length c, .int .i64 0, .slice q W.length d] W' (RRow U W')))
    (HL : Hid (∀ W' q d, IsInts W' q U → Calls Try.prog 46 #[.slice q U.length d] W' (RRow X W')))
    (w : World) (hI : IsInts w p l) : Calls Try.prog 29 #[.int .u8 seq, .int .u8 was, .int .u8 shape, .slice p l.length c] w (RRow X w) := by
  have HP := Lib.hid hI
  clear hI
  go_enter Try.func29, Try.ntmps29
  go_wp2_with fail
  refine (HV.out _).mono ?_
  rintro e w1 ⟨v1, rfl, hO1, hB1⟩
  obtain ⟨p1, c1, rfl, I1⟩ := owns_any hO1
  have HI1 := Lib.hid I1.ints
  have HP1 := Lib.hid (HP.out.keep hB1)
  clear hO1 I1 HP
  go_wp2_with fail
  refine (HU.out _ _ _ HP1.out HI1.out).mono ?_
  rintro e w2 ⟨v2, rfl, hO2, hB2⟩
  obtain ⟨p2, c2, rfl, I2⟩ := owns_any hO2
  have HI2 := Lib.hid I2.ints
  have hb2 := hB1.trans (hB2.mono hB1.size)
  clear hO2 I2 HP1 HI1 hB1 hB2
  go_wp2_with fail
  refine (HL.out _ _ _ HI2.out).mono ?_
  rintro e w3 ⟨v3, rfl, hO3, hB3⟩
  have HO3 := Lib.hid (owns_lower hO3 hb2.size)
  have hb3 := hb2.trans (hB3.mono hb2.size)
  clear hO3 HI2 hb2 hB3
  go_wp2
  go_ret
  exact ⟨_, rfl, HO3.out, hb3⟩
set_option maxRecDepth 100000 in
set_option maxHeartbeats 4000000 in
theorem reflines_short (was shape : Int) (l : List Int) (W U X acc : Nat → List Int) (p : Option Addr) (c : Nat) (h0 : acc 0 = []) (hn : Hid (∀ k : Nat, k < 8 → acc (k + 1) = acc k ++ X k)) (hx : Hid (∀ k : Nat, k < 8 → (X k).length = 32)) (ha : Hid (∀ k : Nat, k ≤ 8 → (acc k).length ≤ 256))
    (HV : Hid (∀ k : Nat, k < 8 → ∀ W', Calls Try.prog 48 #[.int .i64 k, .int .u8 was, .int .u8 shape] W' (RRow (W k) W')))
    (HU : Hid (∀ k : Nat, k < 8 → ∀ W' q d, IsInts W' p l → IsInts W' q (W k) → Calls Try.prog 47 #[.slice p l.length c, .int .i64 (112 + 32 * (k : Int)), .slice q (W k).length d] W' (RRow (U k) W')))
    (HL : Hid (∀ k : Nat, k < 8 → ∀ W' q d, IsInts W' q (U k) → Calls Try.prog 46 #[.slice q (U k).length d] W' (RRow (X k) W')))
    (w : World) (hI : IsInts w p l) : Calls Try.prog 29 #[.int .u8 2, .int .u8 was, .int .u8 shape, .slice p l.length c] w (RRow (acc 8) w) := by
  have HP := Lib.hid hI
  have H0 := Lib.hid h0
  clear hI h0
  go_enter Try.func29, Try.ntmps29
  go_wp2
  go_loopw [9, 10] (fun V I wr => ∃ k : Nat, wr.ownsRow w.heap.size 3 1 V (acc k).length ((acc k).map (Value.int .i64)) ∧ I = .int .i64 k ∧ k ≤ 8 ∧ Below w.heap.size w wr) (fun _ I _ => 8 - (intOf I).toNat)
  case atStart => exact ⟨0, by rw [H0.out]; exact World.ownsRow_nil _ _ _ _, rfl, by decide, Below.refl _ _⟩
  case round =>
    obtain ⟨k, hown, rfl, hk, hb⟩ := hrel
    by_cases hlt : k < 8
    · have HV2 := Lib.hid (HV.out k hlt)
      have HU2 := Lib.hid (HU.out k hlt)
      have HL2 := Lib.hid (HL.out k hlt)
      have HN2 := Lib.hid (hn.out k hlt)
      have HX2 := Lib.hid (hx.out k hlt)
      have HA2 := Lib.hid (ha.out k hk)
      generalize acc k = A at *
      obtain ⟨A', hA'⟩ : ∃ A', acc (k + 1) = A' := ⟨_, rfl⟩
      rw [hA'] at HN2
      have HA' := Lib.hid hA'
      clear hA'
      generalize W k = Wk at *
      generalize U k = Uk at *
      generalize X k = Xk at *
      have HPr := Lib.hid (HP.out.keep hb)
      have HO := Lib.hid hown
      have t1 : IntKind.i64.wrap (32 * (k : Int)) = 32 * (k : Int) := IntWalk.i64_in _ (by omega)
      have t2 : IntKind.i64.wrap (112 + 32 * (k : Int)) = 112 + 32 * (k : Int) := IntWalk.i64_in _ (by omega)
      clear hown
      go_wp2_with fail
      refine (HV2.out _).mono ?_
      rintro e w1 ⟨v1, rfl, hO1, hB1⟩
      obtain ⟨p1, c1, rfl, I1⟩ := owns_any hO1
      have HI1 := Lib.hid I1.ints
      have HP1 := Lib.hid (HPr.out.keep hB1)
      have hb1 := hb.trans (hB1.mono hb.size)
      have HQ1 := Lib.hid (owns_keep HO.out hB1)
      clear hO1 I1 HPr hB1 hb HO
      go_wp2_with fail
      refine (HU2.out _ _ _ HP1.out HI1.out).mono ?_
      rintro e w2 ⟨v2, rfl, hO2, hB2⟩
      obtain ⟨p2, c2, rfl, I2⟩ := owns_any hO2
      have HI2 := Lib.hid I2.ints
      have hb2 := hb1.trans (hB2.mono hb1.size)
      have HQ2 := Lib.hid (owns_keep HQ1.out hB2)
      clear hO2 I2 HP1 HI1 hb1 hB2 HQ1
      go_wp2_with fail
      refine (HL2.out _ _ _ HI2.out).mono ?_
      rintro e w3 ⟨v3, rfl, hO3, hB3⟩
      obtain ⟨p3, c3, rfl, I3⟩ := owns_any hO3
      have HI3 := Lib.hid I3.ints
      have hb3 := hb2.trans (hB3.mono hb2.size)
      have HQ3 := Lib.hid (owns_keep HQ2.out hB3)
      clear hO3 I3 HI2 hb2 hB3 HQ2
      go_wp2_with (at_builtin; refine append_l rfl _ _ rfl w.heap.size _ A rfl HQ3.out p3 c3 Xk Xk.length rfl rfl HI3.out (by rw [HX2.out]; decide) (by have := HA2.out; omega) (by rw [HX2.out]; decide) hb3.size w hb3 ?_; intro v4 w4 hown4 hb4)
      rw [← HN2.out] at hown4
      have HO4 := Lib.hid hown4
      clear hb3 HQ3 HI3 hown4
      go_wp2
      exact ⟨⟨k + 1, by rw [HA'.out]; exact HO4.out, by go_num, by omega, hb4⟩, by simp [intOf]; omega⟩
    · have hkM : k = 8 := by omega
      subst hkM
      have HO := Lib.hid hown
      clear hown hlt
      go_wp2
      go_ret
      exact ⟨_, rfl, HO.out, hb⟩
theorem lines_64 (U : List Int) (hu : U.length = 64) (hm : ∀ j, j < U.length → -8388608 ≤ U.getD j 0 ∧ U.getD j 0 ≤ 8388608) (W' : World) (q : Option Addr) (d : Nat) (hq : IsInts W' q U) : Calls Try.prog 46 #[.slice q U.length d] W' (RRow (linesF U) W') := by
  have hR := reflines_64 U q d hu hm W' hq
  rw [fwd_lines_64 _ hu, hu]
  exact hR
theorem lines_512 (U : List Int) (hu : U.length = 512) (hm : ∀ j, j < U.length → -8388608 ≤ U.getD j 0 ∧ U.getD j 0 ≤ 8388608) (W' : World) (q : Option Addr) (d : Nat) (hq : IsInts W' q U) : Calls Try.prog 46 #[.slice q U.length d] W' (RRow (linesF U) W') := by
  have hR := reflines_512 U q d hu hm W' hq
  rw [fwd_lines_512 _ hu, hu]
  exact hR
theorem under_at (l v : List Int) (k : Nat) (T : Int) (hT : T = 112 + 32 * (k : Int)) (h : 112 + 32 * k + v.length ≤ l.length) (hl : l.length ≤ 4096) (hm : ∀ j, -32768 ≤ l.getD j 0 ∧ l.getD j 0 ≤ 32767) (hv : ∀ j, 0 ≤ v.getD j 0 ∧ v.getD j 0 ≤ 4194304) (p : Option Addr) (c : Nat) (W' : World) (q : Option Addr) (d : Nat) (hp : IsInts W' p l) (hq : IsInts W' q v) :
    Calls Try.prog 47 #[.slice p l.length c, .int .i64 T, .slice q v.length d] W' (RRow (underL l (T, v)) W') := by
  have e : ((112 + 32 * k : Nat) : Int) = T := by omega
  have := ref_under l v (112 + 32 * k) h hl hm hv p q c d W' hp hq
  rw [e] at this
  exact this
theorem ref_Lines (seq was shape : Int) (hs : seq = 0 ∨ seq = 1 ∨ seq = 2 ∨ seq = 3) (h0 : was = 0 ∨ was = 1) (h1 : shape = 0 ∨ shape = 1) (l : List Int) (hl : l.length = 512) (hm : ∀ j, -32768 ≤ l.getD j 0 ∧ l.getD j 0 ≤ 32767) (p : Option Addr) (c : Nat) (w : World) (hI : IsInts w p l) :
    Calls Try.prog 29 #[.int .u8 seq, .int .u8 was, .int .u8 shape, .slice p l.length c] w (RRow (anaL (winsL seq was shape) l) w) := by
  have hm' : ∀ j, -32768 ≤ l.getD j 0 ∧ l.getD j 0 ≤ 32768 := fun j => ⟨(hm j).1, by have := (hm j).2; omega⟩
  have hf := fun k p h => wins_fit seq was shape hs h0 h1 k p h
  by_cases h2 : seq = 2
  · subst h2
    have hw := fun k (hk : k < 8) => shorts_at was shape hk
    have hu : ∀ k : Nat, k < 8 → (underL l (112 + 32 * (k : Int), littleL k was shape)).length = 64 := fun k hk => by rw [under_len (hf k _ (hw k hk)) hl]; exact little_len k was shape
    have hx : ∀ k : Nat, k < 8 → (linesF (underL l (112 + 32 * (k : Int), littleL k was shape))).length = 32 := fun k hk => by rw [linesF_length, hu k hk]
    have hnext : ∀ k : Nat, k < 8 → anaL ((winsL 2 was shape).take (k + 1)) l = anaL ((winsL 2 was shape).take k) l ++ linesF (underL l (112 + 32 * (k : Int), littleL k was shape)) := fun k hk => by
      rw [List.take_add_one, hw k hk]; exact anaL_snoc _ _ _
    have hlen : ∀ k : Nat, k ≤ 8 → (anaL ((winsL 2 was shape).take k) l).length = 32 * k := by
      intro k
      induction k with
      | zero => intro _; rfl
      | succ k ih => intro hk; rw [hnext k (by omega), List.length_append, ih (by omega), hx k (by omega)]; omega
    have key := reflines_short was shape l (fun k => littleL k was shape) (fun k => underL l (112 + 32 * (k : Int), littleL k was shape)) (fun k => linesF (underL l (112 + 32 * (k : Int), littleL k was shape))) (fun k => anaL ((winsL 2 was shape).take k) l) p c rfl (Lib.hid hnext) (Lib.hid hx) (Lib.hid (fun k hk => by rw [hlen k hk]; omega))
      (Lib.hid (fun k _ W' => ref_little k was shape h0 h1 W'))
      (Lib.hid (fun k hk W' q d hp hq => under_at l (littleL k was shape) k _ rfl (by rw [little_len, hl]; omega) (by omega) hm (fun j => getD_range (little_range k was shape h0 h1) (by omega) (by omega) j) p c W' q d hp hq))
      (Lib.hid (fun k hk W' q d hq => lines_64 _ (hu k hk) (fun j _ => under_any (hf k _ (hw k hk)) hm' j) W' q d hq)) w hI
    have e8 : (winsL 2 was shape).take 8 = winsL 2 was shape := List.take_of_length_le (by rw [wins_count, if_pos rfl]; exact Nat.le_refl _)
    simp only [e8] at key
    exact key
  · have hs' : seq = 0 ∨ seq = 1 ∨ seq = 3 := by omega
    have hw : winsL seq was shape = [(0, winL seq was shape)] := by unfold winsL; rw [if_neg h2]
    have hf0 := hf 0 (0, winL seq was shape) (by rw [hw]; rfl)
    have hlen := winL_len seq was shape hs'
    have hu : (underL l (0, winL seq was shape)).length = 512 := by rw [under_len hf0 hl]; exact hlen
    have e : anaL (winsL seq was shape) l = linesF (underL l (0, winL seq was shape)) := by rw [hw]; simp [anaL]
    have d2 : (seq == 2) = false := beq_eq_false_iff_ne.2 h2
    rw [e]
    exact reflines_long seq was shape d2 (by simp [bne, d2]) l (winL seq was shape) (underL l (0, winL seq was shape)) _ p c (Lib.hid (fun W' => ref_vals seq was shape hs' h0 h1 W'))
      (Lib.hid (fun W' q d hp hq => ref_under l (winL seq was shape) 0 (by omega) (by omega) hm (fun j => getD_range (winL_range seq was shape hs' h0 h1) (by omega) (by omega) j) p q c d W' hp hq))
      (Lib.hid (fun W' q d hq => lines_512 _ hu (fun j _ => under_any hf0 hm' j) W' q d hq)) w hI
end Go.Proofs.Ytclbbfpagkhonaa
