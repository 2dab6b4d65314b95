/- BlockDoes: the walk. -/
import Derived.Test.YtclbbfpagkhonaaRef12f
import Derived.Test.YtclbbfpagkhonaaSame11
import Derived.Test.YtclbbfpagkhonaaG1
set_option linter.unusedVariables false
set_option linter.unusedSimpArgs false
namespace Go.Proofs.Ytclbbfpagkhonaa
open Go.ChangeShapes Go.WideShapes Go.ChangeAt Go.RowKit

section
variable (seq was shape : Int) (w : World)
set_option maxRecDepth 100000 in
theorem rwin_bad (HR : Hid (decide (3 < seq) = true ∨ decide (3 < seq) = false ∧ (seq == 2) = true ∨ decide (3 < seq) = false ∧ (seq == 2) = false ∧ decide (1 < was) = true ∨ decide (3 < seq) = false ∧ (seq == 2) = false ∧ decide (1 < was) = false ∧ decide (1 < shape) = true)) : Calls Try.prog 13 #[.int .u8 seq, .int .u8 was, .int .u8 shape] w (RRowE ([], 2) w) := by
  rcases HR.out with d1 | ⟨d1, d2⟩ | ⟨d1, d2, d3⟩ | ⟨d1, d2, d3, d4⟩
  all_goals
    clear HR
    go_enter Try.func13, Try.ntmps13
    go_wp2
    go_ret2
    exact bad_row ⟨rfl, rfl⟩
set_option maxRecDepth 100000 in
theorem rwin_ok (R : List Int) (d1 : decide (3 < seq) = false) (d2 : (seq == 2) = false) (d3 : decide (1 < was) = false) (d4 : decide (1 < shape) = false) (HV : Hid (∀ W', Calls Try.prog 27 #[.int .u8 seq, .int .u8 was, .int .u8 shape] W' (RRow R W'))) : Calls Try.prog 13 #[.int .u8 seq, .int .u8 was, .int .u8 shape] w (RRowE (R, 0) w) := by
  go_enter Try.func13, Try.ntmps13
  go_wp2_with fail
  refine (HV.out _).mono ?_
  rintro e w1 ⟨v, rfl, hO, hB⟩
  have HO := Lib.hid hO
  clear hO
  go_wp2
  go_ret2
  exact ⟨_, rfl, HO.out, hB⟩
end
theorem refwin_any (seq was shape : Int) (hs : 0 ≤ seq) (h0 : 0 ≤ was) (h1 : 0 ≤ shape) (w : World) : Calls Try.prog 13 #[.int .u8 seq, .int .u8 was, .int .u8 shape] w (RRowE (winN seq was shape) w) := by
  unfold winN
  by_cases c1 : 3 < seq
  · rw [if_pos (.inr (.inl c1))]
    exact rwin_bad seq was shape w (Lib.hid (.inl (decide_eq_true c1)))
  by_cases c2 : seq = 2
  · rw [if_pos (.inr (.inr c2))]
    exact rwin_bad seq was shape w (Lib.hid (.inr (.inl ⟨decide_eq_false c1, by simp [c2]⟩)))
  have e2 : (seq == 2) = false := beq_eq_false_iff_ne.2 c2
  by_cases c3 : 1 < was
  · rw [if_pos (.inl (by unfold shapedB; simp; intro h; omega))]
    exact rwin_bad seq was shape w (Lib.hid (.inr (.inr (.inl ⟨decide_eq_false c1, e2, decide_eq_true c3⟩))))
  by_cases c4 : 1 < shape
  · rw [if_pos (.inl (by unfold shapedB; simp; intro h; omega))]
    exact rwin_bad seq was shape w (Lib.hid (.inr (.inr (.inr ⟨decide_eq_false c1, e2, decide_eq_false c3, decide_eq_true c4⟩))))
  rw [if_neg (by rintro (h | h | h); · (unfold shapedB at h; simp at h; omega)
                 · exact c1 h
                 · exact c2 h)]
  exact rwin_ok seq was shape w _ (decide_eq_false c1) e2 (decide_eq_false c3) (decide_eq_false c4) (Lib.hid (fun W' => ref_vals seq was shape (by omega) (by omega) (by omega) W'))
theorem owns_anyc {w : World} {base : Nat} {v : Value} {l : List Int} (h : w.ownsRow base 3 1 v l.length (l.map (Value.int .i64))) : ∃ p cap, v = .slice p l.length cap ∧ IntsB w p l base w.heap.size ∧ l.length ≤ cap := by
  obtain ⟨p, cap, rfl, hI⟩ := owns_any h
  refine ⟨p, cap, rfl, hI, ?_⟩
  rcases h.2 with ⟨h', _⟩ | ⟨g', cap', cur, e', _, _, h2, _⟩
  · have h3 : p = none ∧ l = [] ∧ cap = 0 := by simpa using h'
    rw [h3.2.1]; exact Nat.zero_le _
  · have e3 : p = some ⟨g', 0, none⟩ ∧ cap = cap' := by simpa using e'
    rw [e3.2]; exact h2
theorem grown_below {w w' : World} {v : Value} {base n : Nat} {e : TypeId} {xs : List Value} (hg : w.grownBy w' v.ownBlock) (ho : w.ownsRow base e 1 v n xs) (hb : base ≤ w.heap.size) : Below base w w' :=
  (Below.refl base w).grown hg hb (fun j hj => (ho.lt j hj).1)
theorem len1 {l : List Int} {e : Int} (h : l.length ≤ 512) : ((l, e) : List Int × Int).1.length ≤ 512 := h
theorem win_small (seq was shape : Int) (hs : 0 ≤ seq) : (winN seq was shape).1.length ≤ 512 := by
  unfold winN
  by_cases h : shapedB was shape = false ∨ 3 < seq ∨ seq = 2
  · rw [if_pos h]; exact Nat.zero_le _
  · rw [if_neg h]
    have h3 : ¬ 3 < seq := fun e => h (.inr (.inl e))
    have h2 : ¬ seq = 2 := fun e => h (.inr (.inr e))
    have h4 := winL_len seq was shape (by omega)
    generalize winL seq was shape = W at *
    exact len1 (by omega)
theorem ana_small (seq was shape : Int) (hs : 0 ≤ seq) (h0 : 0 ≤ was) (h1 : 0 ≤ shape) (l : List Int) : (anaN seq was shape l).1.length ≤ 512 := by
  unfold anaN
  split
  · rename_i h
    obtain ⟨a1, a2, a3, a4, a5⟩ := (askedE_zero (by omega)).1 h
    show (anaL (winsL seq was shape) l).length ≤ 512
    rw [ana_length seq was shape (by omega) (by omega) (by omega) l a4]; omega
  · exact Nat.zero_le _
theorem syn_small (seq was shape : Int) (l : List Int) : (synN seq was shape l).1.length ≤ 512 := by
  unfold synN
  by_cases h : synE seq was shape l = 0
  · rw [if_pos h]
    have h4 := synL_len (winsL seq was shape) l
    generalize synL (winsL seq was shape) l = W at *
    exact len1 (by omega)
  · rw [if_neg h]; exact Nat.zero_le _
theorem row_set0 {xs : List Value} {k n : Nat} {l : List Int} (h : ∀ j, k ≤ j → j < n → xs[j]? = some (.int .i64 (l.getD j 0))) (u : Value) : ∀ j, k + 1 ≤ j → j < n → (xs.set k u)[j]? = some (.int .i64 (l.getD j 0)) := row_set h u
set_option maxRecDepth 100000 in
set_option maxHeartbeats 8000000 in
theorem blk_does (seq was shape : Int) (z x : List Int) (p0 p1 : Option Addr) (c0 c1 : Nat) (w : World) (A0 : IsArg w p0 c0 z) (A1 : IsArg w p1 c1 x) (cc0 : z.length ≤ c0) (cc1 : x.length ≤ c1) (hs : 0 ≤ seq) (hw0 : 0 ≤ was) (hw1 : 0 ≤ shape) :
    Calls Try.prog 5 #[.int .u8 seq, .int .u8 was, .int .u8 shape, .slice p0 z.length c0, .slice p1 x.length c1] w fun e w' => e = .returned (.bool true) ∧ Below w.heap.size w w' := by
  have m0 := A0.2.2.1
  have m1 := A1.2.2.1
  unfold maxLen at m0 m1
  by_cases h0 : 1000 < z.length
  · have d0 : decide (1000 < (z.length : Int)) = true := by simp; omega
    clear h0
    go_enter Try.func5, Try.ntmps5
    go_wp2
    go_ret
    exact ⟨rfl, Below.refl _ _⟩
  have d0 : decide (1000 < (z.length : Int)) = false := by simp; omega
  by_cases h1 : 1000 < x.length
  · have d1 : decide (1000 < (x.length : Int)) = true := by simp; omega
    clear h0 h1
    go_enter Try.func5, Try.ntmps5
    go_wp2
    go_ret
    exact ⟨rfl, Below.refl _ _⟩
  have d1 : decide (1000 < (x.length : Int)) = false := by simp; omega
  have HZ := Lib.hid A0
  have HX := Lib.hid A1
  have HCX := Lib.hid cc1
  have FW := Lib.hid (fun W => win_any seq was shape hs hw0 hw1 W)
  have FW2 := Lib.hid (fun W => refwin_any seq was shape hs hw0 hw1 W)
  have F := Lib.hid (fun p c W (hc : z.length ≤ c) (h : IsInts W p z) => ana_any seq was shape hs hw0 hw1 z (by omega) p c hc W h)
  have F2 := Lib.hid (fun p c W (h : IsInts W p z) => refana_any seq was shape hs hw0 hw1 z (by omega) p c W h)
  have G := Lib.hid (fun p c W (hc : x.length ≤ c) (h : IsInts W p x) => syn_any seq was shape hs hw0 hw1 x (by omega) p c hc W h)
  have G2 := Lib.hid (fun p c W (hc : x.length ≤ c) (h : IsInts W p x) => refsyn_any seq was shape hs hw0 hw1 x (by omega) p c hc W h)
  have s0 := win_small seq was shape hs
  have s1 := ana_small seq was shape hs hw0 hw1 z
  have s2 := syn_small seq was shape x
  generalize winN seq was shape = wx at *
  generalize anaN seq was shape z = fz at *
  generalize synN seq was shape x = ix at *
  obtain ⟨la, ea⟩ := wx
  obtain ⟨lc, ec⟩ := fz
  obtain ⟨lx, ex⟩ := ix
  unfold RRowE at FW FW2 F F2 G G2
  dsimp only at FW FW2 F F2 G G2 s0 s1 s2
  have hz1 : Hid (0 + z.length ≤ maxLen) := by unfold maxLen; show _ ≤ _; omega
  have hz2 : Hid ((0 + z.length) * 8 ≤ 140737488355328) := by show _ ≤ _; omega
  have hx1 : Hid (0 + x.length ≤ maxLen) := by unfold maxLen; show _ ≤ _; omega
  have hx2 : Hid ((0 + x.length) * 8 ≤ 140737488355328) := by show _ ≤ _; omega
  have ma : Hid (la.length ≤ maxLen) := by unfold maxLen; show _ ≤ _; omega
  have mc : Hid (lc.length ≤ maxLen) := by unfold maxLen; show _ ≤ _; omega
  have mq : Hid (lx.length ≤ maxLen) := by unfold maxLen; show _ ≤ _; omega
  have mz : Hid (z.length ≤ maxLen) := by unfold maxLen; show _ ≤ _; omega
  have mx : Hid (x.length ≤ maxLen) := by unfold maxLen; show _ ≤ _; omega
  clear h0 h1 A0 A1 m0 m1 cc0 cc1
  go_enter Try.func5, Try.ntmps5
  go_wp2_with (at_builtin; refine append_ints rfl _ _ rfl w.heap.size _ 0 [] rfl (World.ownsRow_nil _ _ _ _) p0 c0 z rfl HZ.out hz1.out hz2.out (Nat.le_refl _) ?_)
  intro v1 w1 hO1 hg1
  have hb1 : Below w.heap.size w w1 := grown_below hg1 (World.ownsRow_nil w w.heap.size 3 1) (Nat.le_refl _)
  try simp only [Nat.zero_add, List.nil_append] at hO1
  obtain ⟨p2, c2, rfl, I2, hc2⟩ := owns_anyc hO1
  have HC2 := Lib.hid hc2
  have HZ1 := Lib.hid (HZ.out.1.inB.keep hb1 (Nat.le_refl _))
  have HX1 := Lib.hid (HX.out.keep hb1)
  have HI2 := Lib.hid I2
  have z1 := hb1.size
  clear hO1 hg1 I2 HZ HX hc2
  go_wp2_with (at_builtin; refine append_ints rfl _ _ rfl w1.heap.size _ 0 [] rfl (World.ownsRow_nil _ _ _ _) p1 c1 x rfl HX1.out hx1.out hx2.out (Nat.le_refl _) ?_)
  intro v2 w2 hO2 hg2
  have hb2 : Below w1.heap.size w1 w2 := grown_below hg2 (World.ownsRow_nil w1 w1.heap.size 3 1) (Nat.le_refl _)
  try simp only [Nat.zero_add, List.nil_append] at hO2
  obtain ⟨p3, c3, rfl, I3, hc3⟩ := owns_anyc hO2
  have HC3 := Lib.hid hc3
  have hb2w := hb1.trans (hb2.mono z1)
  have hs2 := hb2w.size
  have z2 := hb2.size
  have JZ := Lib.hid ((HZ1.out.keep hb2 z1).wide (Nat.le_refl _) (hi' := w2.heap.size) hs2 (Nat.le_refl _))
  have JX := Lib.hid ((HX1.out.1.inB.keep hb2 (Nat.le_refl _)).wide (Nat.le_refl _) (hi' := w2.heap.size) z2 (Nat.le_refl _))
  have JO := Lib.hid ((HI2.out.keep hb2 (Nat.le_refl _)).wide (Nat.le_refl _) (hi' := w2.heap.size) z2 (Nat.le_refl _))
  have JM := Lib.hid I3
  clear hO2 hg2 I3 HZ1 HX1 HI2 hb1 hb2 hc3 z1
  go_wp2_with fail
  refine (FW.out _).mono ?_
  rintro e w3 ⟨va, rfl, hO, hn⟩
  obtain ⟨pa, ca, rfl, I⟩ := owns_any hO
  have HSa0 := Lib.hid (Spoil.of hO)
  have HIa0 := Lib.hid I
  have hB := hn
  have q3 := hn.size
  clear hO I hn FW 
  go_wp2_with fail
  refine (FW2.out _).mono ?_
  rintro e w4 ⟨vb, rfl, hO, hn⟩
  obtain ⟨pb, cb, rfl, I⟩ := owns_any hO
  have HIb0 := Lib.hid I
  have HSa1 := Lib.hid (HSa0.out.keep hn (by omega))
  have HIa1 := Lib.hid (HIa0.out.keep hn (by omega))
  have hB2 := hB.trans (hn.mono hB.size)
  have q4 := hn.size
  clear hO I hn FW2 HSa0 HIa0 hB
  have hB := hB2
  clear hB2
  go_wp2_with fail
  refine (F.out _ _ _ HC2.out (JO.out.keep hB (Nat.le_refl _)).ints).mono ?_
  rintro e w5 ⟨vc, rfl, hO, hn⟩
  obtain ⟨pc, cc, rfl, I⟩ := owns_any hO
  have HSc0 := Lib.hid (Spoil.of hO)
  have HIc0 := Lib.hid I
  have HSa2 := Lib.hid (HSa1.out.keep hn (by omega))
  have HIa2 := Lib.hid (HIa1.out.keep hn (by omega))
  have HIb2 := Lib.hid (HIb0.out.keep hn (by omega))
  have hB2 := hB.trans (hn.mono hB.size)
  have q5 := hn.size
  clear hO I hn F HSa1 HIa1 HIb0 hB
  have hB := hB2
  clear hB2
  go_wp2_with fail
  refine (F2.out _ _ _ (JZ.out.keep hB (Nat.le_refl _)).ints).mono ?_
  rintro e w6 ⟨vd, rfl, hO, hn⟩
  obtain ⟨pd, cd, rfl, I⟩ := owns_any hO
  have HId0 := Lib.hid I
  have HSa3 := Lib.hid (HSa2.out.keep hn (by omega))
  have HIa3 := Lib.hid (HIa2.out.keep hn (by omega))
  have HIb3 := Lib.hid (HIb2.out.keep hn (by omega))
  have HSc3 := Lib.hid (HSc0.out.keep hn (by omega))
  have HIc3 := Lib.hid (HIc0.out.keep hn (by omega))
  have hB2 := hB.trans (hn.mono hB.size)
  have q6 := hn.size
  clear hO I hn F2 HSa2 HIa2 HIb2 HSc0 HIc0 hB
  have hB := hB2
  clear hB2
  go_wp2_with fail
  refine (G.out _ _ _ HC3.out (JM.out.keep hB (Nat.le_refl _)).ints).mono ?_
  rintro e w7 ⟨ve, rfl, hO, hn⟩
  obtain ⟨pe, ce, rfl, I⟩ := owns_any hO
  have HSe0 := Lib.hid (Spoil.of hO)
  have HIe0 := Lib.hid I
  have HSa4 := Lib.hid (HSa3.out.keep hn (by omega))
  have HIa4 := Lib.hid (HIa3.out.keep hn (by omega))
  have HIb4 := Lib.hid (HIb3.out.keep hn (by omega))
  have HSc4 := Lib.hid (HSc3.out.keep hn (by omega))
  have HIc4 := Lib.hid (HIc3.out.keep hn (by omega))
  have HId4 := Lib.hid (HId0.out.keep hn (by omega))
  have hB2 := hB.trans (hn.mono hB.size)
  have q7 := hn.size
  clear hO I hn G HSa3 HIa3 HIb3 HSc3 HIc3 HId0 hB
  have hB := hB2
  clear hB2
  go_wp2_with fail
  refine (G2.out _ _ _ HCX.out (JX.out.keep hB (Nat.le_refl _)).ints).mono ?_
  rintro e w8 ⟨vf, rfl, hO, hn⟩
  obtain ⟨pf, cf, rfl, I⟩ := owns_any hO
  have HIf0 := Lib.hid I
  have HSa5 := Lib.hid (HSa4.out.keep hn (by omega))
  have HIa5 := Lib.hid (HIa4.out.keep hn (by omega))
  have HIb5 := Lib.hid (HIb4.out.keep hn (by omega))
  have HSc5 := Lib.hid (HSc4.out.keep hn (by omega))
  have HIc5 := Lib.hid (HIc4.out.keep hn (by omega))
  have HId5 := Lib.hid (HId4.out.keep hn (by omega))
  have HSe5 := Lib.hid (HSe0.out.keep hn (by omega))
  have HIe5 := Lib.hid (HIe0.out.keep hn (by omega))
  have hB2 := hB.trans (hn.mono hB.size)
  have q8 := hn.size
  clear hO I hn G2 HSa4 HIa4 HIb4 HSc4 HIc4 HId4 HSe0 HIe0 hB
  have hB := hB2
  clear hB2
  go_wp2_with fail
  refine (ints_same _ _ la _ _ _ HIa5.out.ints HIb5.out.ints ma.out).mono ?_
  rintro e w9 ⟨rfl, n1, rfl⟩
  go_wp2_with fail
  refine (ints_same _ _ lc _ _ _ (HIc5.out.drewN n1).ints (HId5.out.drewN n1).ints mc.out).mono ?_
  rintro e w9 ⟨rfl, n2, rfl⟩
  go_wp2_with fail
  refine (ints_same _ _ lx _ _ _ (HIe5.out.drewN (n1 + n2)).ints (HIf0.out.drewN (n1 + n2)).ints mq.out).mono ?_
  rintro e w9 ⟨rfl, n3, hw9⟩
  have HS := Lib.hid (show Spoil w9 pa la.length ca w2.heap.size w3.heap.size (la.map (Value.int .i64)) from hw9 ▸ (HSa5.out.drewN (n1 + n2)).drewN n3)
  have K1 := Lib.hid (show Spoil w9 pc lc.length cc w4.heap.size w5.heap.size (lc.map (Value.int .i64)) from hw9 ▸ (HSc5.out.drewN (n1 + n2)).drewN n3)
  have K2 := Lib.hid (show Spoil w9 pe lx.length ce w6.heap.size w7.heap.size (lx.map (Value.int .i64)) from hw9 ▸ (HSe5.out.drewN (n1 + n2)).drewN n3)
  have hbS : Below w2.heap.size w2 w9 := hw9 ▸ below_drewN (below_drewN hB (n1 + n2)) n3
  clear hw9 hB HSa5 HIa5 HIb5 HSc5 HIc5 HId5 HSe5 HIe5 HIf0
  go_wp2
  go_loopw [25] (fun I wr => ∃ (k : Nat) (xs : List Value), I = .int .i64 k ∧ k ≤ la.length ∧ Hid (Spoil wr pa la.length ca w2.heap.size w3.heap.size xs) ∧ Hid (∀ j, k ≤ j → j < la.length → xs[j]? = some (.int .i64 ((la).getD j 0))) ∧ Hid (Spoil wr pc lc.length cc w4.heap.size w5.heap.size (lc.map (Value.int .i64))) ∧ Hid (Spoil wr pe lx.length ce w6.heap.size w7.heap.size (lx.map (Value.int .i64))) ∧ Below w2.heap.size w2 wr) (fun I _ => la.length - (intOf I).toNat)
  case atStart => exact ⟨0, _, rfl, Nat.zero_le _, HS, Lib.hid (row_get la), K1, K2, hbS⟩
  case round =>
    obtain ⟨k, xs, rfl, hk, hS, hxs, k1, k2, hbw⟩ := hrel
    clear HS hbS
    by_cases hklt : k < la.length
    · obtain ⟨g, hgp, hg1, hg2, hc, hf, hnext⟩ := hS.out.at hklt
      rw [hxs.out k (Nat.le_refl _) hklt] at hc
      obtain ⟨z_, hz⟩ : ∃ z_, (la).getD k 0 = z_ := ⟨_, rfl⟩
      rw [hz] at hc
      have hS2 := Lib.hid (hnext (.int .i64 (0)))
      have hxs2 := Lib.hid (row_set hxs.out (.int .i64 (0)))
      have k12 := Lib.hid (k1.out.apart ⟨g, k, none⟩ (.int .i64 (0)) (.inl (by show g < _; omega)))
      have k22 := Lib.hid (k2.out.apart ⟨g, k, none⟩ (.int .i64 (0)) (.inl (by show g < _; omega)))
      have hb2 := hbw.setCell (p := ⟨g, k, none⟩) (show w2.heap.size ≤ g by omega) (.int .i64 (0))
      subst hgp
      clear hz hS hxs hnext hbw k1 k2
      go_wp2
      exact ⟨⟨k + 1, _, by go_num, by omega, hS2, hxs2, k12, k22, hb2⟩, by simp [intOf]; omega⟩
    · clear hS hxs
      obtain ⟨wS, hwS⟩ : ∃ wS, wr = wS := ⟨_, rfl⟩
      subst hwS
      have HS := k1
      have K2 := k2
      have hbS := hbw
      clear k1 k2 hbw
      go_wp2
      go_loopw [26] (fun I wr => ∃ (k : Nat) (xs : List Value), I = .int .i64 k ∧ k ≤ lc.length ∧ Hid (Spoil wr pc lc.length cc w4.heap.size w5.heap.size xs) ∧ Hid (∀ j, k ≤ j → j < lc.length → xs[j]? = some (.int .i64 ((lc).getD j 0))) ∧ Hid (Spoil wr pe lx.length ce w6.heap.size w7.heap.size (lx.map (Value.int .i64))) ∧ Below w2.heap.size w2 wr) (fun I _ => lc.length - (intOf I).toNat)
      case atStart => exact ⟨0, _, rfl, Nat.zero_le _, HS, Lib.hid (row_get lc), K2, hbS⟩
      case round =>
        obtain ⟨k, xs, rfl, hk, hS, hxs, k2, hbw⟩ := hrel
        clear HS hbS
        by_cases hklt : k < lc.length
        · obtain ⟨g, hgp, hg1, hg2, hc, hf, hnext⟩ := hS.out.at hklt
          rw [hxs.out k (Nat.le_refl _) hklt] at hc
          obtain ⟨z_, hz⟩ : ∃ z_, (lc).getD k 0 = z_ := ⟨_, rfl⟩
          rw [hz] at hc
          have hS2 := Lib.hid (hnext (.int .i64 (wrap64 (z_ + 1))))
          have hxs2 := Lib.hid (row_set hxs.out (.int .i64 (wrap64 (z_ + 1))))
          have k22 := Lib.hid (k2.out.apart ⟨g, k, none⟩ (.int .i64 (wrap64 (z_ + 1))) (.inl (by show g < _; omega)))
          have hb2 := hbw.setCell (p := ⟨g, k, none⟩) (show w2.heap.size ≤ g by omega) (.int .i64 (wrap64 (z_ + 1)))
          subst hgp
          clear hz hS hxs hnext hbw k2
          go_wp2
          exact ⟨⟨k + 1, _, by go_num, by omega, hS2, hxs2, k22, hb2⟩, by simp [intOf]; omega⟩
        · clear hS hxs
          obtain ⟨wS, hwS⟩ : ∃ wS, wr = wS := ⟨_, rfl⟩
          subst hwS
          have HS := k2
          have hbS := hbw
          clear k2 hbw
          go_wp2
          go_loopw [27] (fun I wr => ∃ (k : Nat) (xs : List Value), I = .int .i64 k ∧ k ≤ lx.length ∧ Hid (Spoil wr pe lx.length ce w6.heap.size w7.heap.size xs) ∧ Hid (∀ j, k ≤ j → j < lx.length → xs[j]? = some (.int .i64 ((lx).getD j 0))) ∧ Below w2.heap.size w2 wr) (fun I _ => lx.length - (intOf I).toNat)
          case atStart => exact ⟨0, _, rfl, Nat.zero_le _, HS, Lib.hid (row_get lx), hbS⟩
          case round =>
            obtain ⟨k, xs, rfl, hk, hS, hxs, hbw⟩ := hrel
            clear HS hbS
            by_cases hklt : k < lx.length
            · obtain ⟨g, hgp, hg1, hg2, hc, hf, hnext⟩ := hS.out.at hklt
              rw [hxs.out k (Nat.le_refl _) hklt] at hc
              obtain ⟨z_, hz⟩ : ∃ z_, (lx).getD k 0 = z_ := ⟨_, rfl⟩
              rw [hz] at hc
              have hS2 := Lib.hid (hnext (.int .i64 (wrap64 (z_ + 1))))
              have hxs2 := Lib.hid (row_set hxs.out (.int .i64 (wrap64 (z_ + 1))))
              have hb2 := hbw.setCell (p := ⟨g, k, none⟩) (show w2.heap.size ≤ g by omega) (.int .i64 (wrap64 (z_ + 1)))
              subst hgp
              clear hz hS hxs hnext hbw 
              go_wp2
              exact ⟨⟨k + 1, _, by go_num, by omega, hS2, hxs2, hb2⟩, by simp [intOf]; omega⟩
            · clear hS hxs
              go_wp2_with fail
              refine (ints_same _ _ z _ _ _ (JO.out.keep hbw (Nat.le_refl _)).ints (JZ.out.keep hbw (Nat.le_refl _)).ints mz.out).mono ?_
              rintro e w10 ⟨rfl, n4, rfl⟩
              go_wp2_with fail
              refine (ints_same _ _ x _ _ _ ((JM.out.keep hbw (Nat.le_refl _)).drewN n4).ints ((JX.out.keep hbw (Nat.le_refl _)).drewN n4).ints mx.out).mono ?_
              rintro e w10 ⟨rfl, n5, rfl⟩
              go_wp2
              go_ret
              exact ⟨rfl, below_drewN (hb2w.trans (hbw.mono hs2)) (n4 + n5)⟩
end Go.Proofs.Ytclbbfpagkhonaa
