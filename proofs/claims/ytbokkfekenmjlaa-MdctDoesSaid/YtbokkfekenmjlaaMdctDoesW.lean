/- MdctDoes: the walk. -/
import Derived.Test.YtbokkfekenmjlaaRefMdct2
import Derived.Test.YtbokkfekenmjlaaSame11
import Derived.Test.YtbokkfekenmjlaaArgs

set_option linter.unusedVariables false
namespace Go.Proofs.Ytbokkfekenmjlaa
open Go.ChangeShapes Go.WideShapes Go.ChangeAt Go.RowKit

theorem fwd_small (z : List Int) (h : z.length ≤ 1000) : (fwdN z).1.length ≤ 1000 := by
  unfold fwdN linesF
  split
  · simp
  · split <;> simp <;> omega
theorem inv_small (x : List Int) (h : x.length ≤ 1000) : (invN x).1.length ≤ 2000 := by
  unfold invN linesI
  split
  · simp
  · split <;> simp <;> omega
theorem grown_below {w w' : World} {v : Value} {base n : Nat} {e : TypeId} {xs : List Value} (hg : w.grownBy w' v.ownBlock) (ho : w.ownsRow base e 1 v n xs) (hb : base ≤ w.heap.size) : Below base w w' :=
  (Below.refl base w).grown hg hb (fun j hj => (ho.lt j hj).1)
set_option maxRecDepth 100000 in
set_option maxHeartbeats 4000000 in
theorem does11 (z x : List Int) (p0 p1 : Option Addr) (c0 c1 : Nat) (w : World) (A0 : IsArg w p0 c0 z) (A1 : IsArg w p1 c1 x) :
    Calls Try.prog 5 #[.slice p0 z.length c0, .slice p1 x.length c1] w fun e w' => e = .returned (.bool true) ∧ Below w.heap.size w w' := by
  have m0 := A0.2.2.1
  have m1 := A1.2.2.1
  unfold maxLen at m0 m1
  by_cases h0 : 1000 < z.length
  · have d0 : decide (1000 < (z.length : Int)) = true := by simp; omega
    clear h0
    go_enter Try.func5, Try.ntmps5
    go_wp2
    go_ret
    exact ⟨rfl, Below.refl _ _⟩
  have d0 : decide (1000 < (z.length : Int)) = false := by simp; omega
  by_cases h1 : 1000 < x.length
  · have d1 : decide (1000 < (x.length : Int)) = true := by simp; omega
    clear h0 h1
    go_enter Try.func5, Try.ntmps5
    go_wp2
    go_ret
    exact ⟨rfl, Below.refl _ _⟩
  have d1 : decide (1000 < (x.length : Int)) = false := by simp; omega
  have HZ := Lib.hid A0
  have HX := Lib.hid A1
  have F := Lib.hid (fun p c W (h : IsInts W p z) => fwd_any z p c (by omega) W h)
  have F2 := Lib.hid (fun p c W (h : IsInts W p z) => reffwd_any z p c (by omega) W h)
  have G := Lib.hid (fun p c W (h : IsInts W p x) => inv_any x p c (by omega) W h)
  have G2 := Lib.hid (fun p c W (h : IsInts W p x) => refinv_any x p c (by omega) W h)
  have s0 := fwd_small z (by omega)
  have s1 := inv_small x (by omega)
  generalize fwdN z = fz at *
  generalize invN x = ix at *
  obtain ⟨la, ea⟩ := fz
  obtain ⟨lc, ec⟩ := ix
  unfold RRowE at F F2 G G2
  dsimp only at F F2 G G2 s0 s1
  have hz1 : Hid (0 + z.length ≤ maxLen) := by unfold maxLen; show _ ≤ _; omega
  have hz2 : Hid ((0 + z.length) * 8 ≤ 140737488355328) := by show _ ≤ _; omega
  have hx1 : Hid (0 + x.length ≤ maxLen) := by unfold maxLen; show _ ≤ _; omega
  have hx2 : Hid ((0 + x.length) * 8 ≤ 140737488355328) := by show _ ≤ _; omega
  have ma : Hid (la.length ≤ maxLen) := by unfold maxLen; show _ ≤ _; omega
  have mc : Hid (lc.length ≤ maxLen) := by unfold maxLen; show _ ≤ _; omega
  have mz : Hid (z.length ≤ maxLen) := by unfold maxLen; show _ ≤ _; omega
  have mx : Hid (x.length ≤ maxLen) := by unfold maxLen; show _ ≤ _; omega
  clear h0 h1 A0 A1 m0 m1
  go_enter Try.func5, Try.ntmps5
  go_wp2_with (at_builtin; refine append_ints rfl _ _ rfl w.heap.size _ 0 [] rfl (World.ownsRow_nil _ _ _ _) p0 c0 z rfl HZ.out hz1.out hz2.out (Nat.le_refl _) ?_)
  intro v1 w1 hO1 hg1
  have hb1 : Below w.heap.size w w1 := grown_below hg1 (World.ownsRow_nil w w.heap.size 3 1) (Nat.le_refl _)
  try simp only [Nat.zero_add, List.nil_append] at hO1
  obtain ⟨p2, c2, rfl, I2⟩ := owns_any hO1
  have HZ1 := Lib.hid (HZ.out.1.inB.keep hb1 (Nat.le_refl _))
  have HX1 := Lib.hid (HX.out.keep hb1)
  have HI2 := Lib.hid I2
  have z1 := hb1.size
  clear hO1 hg1 I2 HZ HX
  go_wp2_with (at_builtin; refine append_ints rfl _ _ rfl w1.heap.size _ 0 [] rfl (World.ownsRow_nil _ _ _ _) p1 c1 x rfl HX1.out hx1.out hx2.out (Nat.le_refl _) ?_)
  intro v2 w2 hO2 hg2
  have hb2 : Below w1.heap.size w1 w2 := grown_below hg2 (World.ownsRow_nil w1 w1.heap.size 3 1) (Nat.le_refl _)
  try simp only [Nat.zero_add, List.nil_append] at hO2
  obtain ⟨p3, c3, rfl, I3⟩ := owns_any hO2
  have HZ2 := Lib.hid (HZ1.out.keep hb2 z1)
  have HX2 := Lib.hid (HX1.out.1.inB.keep hb2 (Nat.le_refl _))
  have HI22 := Lib.hid (HI2.out.keep hb2 (Nat.le_refl _))
  have HI3 := Lib.hid I3
  have b2 := hb1.trans (hb2.mono z1)
  have z2 := hb2.size
  clear hO2 hg2 I3 HZ1 HX1 HI2 hb1 hb2
  go_wp2_with fail
  refine (F.out _ _ _ HI22.out.ints).mono ?_
  rintro e w3 ⟨va, rfl, hOa, hb3⟩
  obtain ⟨pa, ca, rfl, Ia⟩ := owns_any hOa
  have HSa := Lib.hid (Spoil.of hOa)
  have HIa := Lib.hid Ia
  have HZ3 := Lib.hid (HZ2.out.keep hb3 (by omega))
  have HX3 := Lib.hid (HX2.out.keep hb3 (by omega))
  have HI23 := Lib.hid (HI22.out.keep hb3 (by omega))
  have HI33 := Lib.hid (HI3.out.keep hb3 (by omega))
  have b3 := b2.trans (hb3.mono (by omega))
  have z3 := hb3.size
  clear hOa Ia HZ2 HX2 HI22 HI3 hb3 b2 F
  go_wp2_with fail
  refine (F2.out _ _ _ HZ3.out.ints).mono ?_
  rintro e w4 ⟨vb, rfl, hOb, hb4⟩
  obtain ⟨pb, cb, rfl, Ib⟩ := owns_any hOb
  have HSa2 := Lib.hid (HSa.out.keep hb4 (by omega))
  have HIa2 := Lib.hid (HIa.out.keep hb4 (by omega))
  have HIb := Lib.hid Ib
  have HZ4 := Lib.hid (HZ3.out.keep hb4 (by omega))
  have HX4 := Lib.hid (HX3.out.keep hb4 (by omega))
  have HI24 := Lib.hid (HI23.out.keep hb4 (by omega))
  have HI34 := Lib.hid (HI33.out.keep hb4 (by omega))
  have b4 := b3.trans (hb4.mono (by omega))
  have z4 := hb4.size
  clear hOb Ib HSa HIa HZ3 HX3 HI23 HI33 hb4 b3 F2
  go_wp2_with fail
  refine (G.out _ _ _ HI34.out.ints).mono ?_
  rintro e w5 ⟨vc, rfl, hOc, hb5⟩
  obtain ⟨pc, cc, rfl, Ic⟩ := owns_any hOc
  have HSc := Lib.hid (Spoil.of hOc)
  have HIc := Lib.hid Ic
  have HSa3 := Lib.hid (HSa2.out.keep hb5 (by omega))
  have HIa3 := Lib.hid (HIa2.out.keep hb5 (by omega))
  have HIb3 := Lib.hid (HIb.out.keep hb5 (by omega))
  have HZ5 := Lib.hid (HZ4.out.keep hb5 (by omega))
  have HX5 := Lib.hid (HX4.out.keep hb5 (by omega))
  have HI25 := Lib.hid (HI24.out.keep hb5 (by omega))
  have HI35 := Lib.hid (HI34.out.keep hb5 (by omega))
  have b5 := b4.trans (hb5.mono (by omega))
  have z5 := hb5.size
  clear hOc Ic HSa2 HIa2 HIb HZ4 HX4 HI24 HI34 hb5 b4 G
  go_wp2_with fail
  refine (G2.out _ _ _ HX5.out.ints).mono ?_
  rintro e w6 ⟨vd, rfl, hOd, hb6⟩
  obtain ⟨pd, cd, rfl, Id⟩ := owns_any hOd
  have HId := Lib.hid Id
  have HSc2 := Lib.hid (HSc.out.keep hb6 (by omega))
  have HIc2 := Lib.hid (HIc.out.keep hb6 (by omega))
  have HSa4 := Lib.hid (HSa3.out.keep hb6 (by omega))
  have HIa4 := Lib.hid (HIa3.out.keep hb6 (by omega))
  have HIb4 := Lib.hid (HIb3.out.keep hb6 (by omega))
  have HZ6 := Lib.hid (HZ5.out.keep hb6 (by omega))
  have HX6 := Lib.hid (HX5.out.keep hb6 (by omega))
  have HI26 := Lib.hid (HI25.out.keep hb6 (by omega))
  have HI36 := Lib.hid (HI35.out.keep hb6 (by omega))
  have b6 := b5.trans (hb6.mono (by omega))
  have z6 := hb6.size
  clear hOd Id HSc HIc HSa3 HIa3 HIb3 HZ5 HX5 HI25 HI35 hb6 b5 G2
  go_wp2_with fail
  refine (ints_same _ _ la _ _ _ HIa4.out.ints HIb4.out.ints ma.out).mono ?_
  rintro e w7 ⟨rfl, n1, rfl⟩
  go_wp2_with fail
  refine (ints_same _ _ lc _ _ _ (HIc2.out.drewN n1).ints (HId.out.drewN n1).ints mc.out).mono ?_
  rintro e w8 ⟨rfl, n2, hw8⟩
  have HS := Lib.hid (show Spoil w8 pa la.length ca w2.heap.size w3.heap.size (la.map (Value.int .i64)) from hw8 ▸ (HSa4.out.drewN n1).drewN n2)
  have K1 := Lib.hid (show Spoil w8 pc lc.length cc w4.heap.size w5.heap.size (lc.map (Value.int .i64)) from hw8 ▸ (HSc2.out.drewN n1).drewN n2)
  have K2 := Lib.hid (show IntsB w8 p0 z 0 w.heap.size from hw8 ▸ (HZ6.out.drewN n1).drewN n2)
  have K3 := Lib.hid (show IntsB w8 p1 x 0 w1.heap.size from hw8 ▸ (HX6.out.drewN n1).drewN n2)
  have K4 := Lib.hid (show IntsB w8 p2 z w.heap.size w1.heap.size from hw8 ▸ (HI26.out.drewN n1).drewN n2)
  have K5 := Lib.hid (show IntsB w8 p3 x w1.heap.size w2.heap.size from hw8 ▸ (HI36.out.drewN n1).drewN n2)
  have hbS : Below w.heap.size w w8 := hw8 ▸ below_drewN (below_drewN b6 n1) n2
  clear HSa4 HIa4 HIb4 HSc2 HIc2 HId HZ6 HX6 HI26 HI36 b6 hw8
  go_wp2

  go_loopw [15] (fun I wr => ∃ (k : Nat) (xs : List Value), I = .int .i64 k ∧ k ≤ la.length ∧ Hid (Spoil wr pa la.length ca w2.heap.size w3.heap.size xs) ∧ Hid (∀ j, k ≤ j → j < la.length → xs[j]? = some (.int .i64 ((la).getD j 0))) ∧ Hid (Spoil wr pc lc.length cc w4.heap.size w5.heap.size (lc.map (Value.int .i64))) ∧ Hid (IntsB wr p0 z 0 w.heap.size) ∧ Hid (IntsB wr p1 x 0 w1.heap.size) ∧ Hid (IntsB wr p2 z w.heap.size w1.heap.size) ∧ Hid (IntsB wr p3 x w1.heap.size w2.heap.size) ∧ Below w.heap.size w wr) (fun I _ => la.length - (intOf I).toNat)
  case atStart => exact ⟨0, _, rfl, Nat.zero_le _, HS, Lib.hid (row_get la), K1, K2, K3, K4, K5, hbS⟩
  case round =>
    obtain ⟨k, xs, rfl, hk, hS, hxs, k1, k2, k3, k4, k5, hbw⟩ := hrel
    clear HS hbS
    by_cases hklt : k < la.length
    · obtain ⟨g, hgp, hg1, hg2, hc, hf, hnext⟩ := hS.out.at hklt
      rw [hxs.out k (Nat.le_refl _) hklt] at hc
      obtain ⟨z_, hz⟩ : ∃ z_, (la).getD k 0 = z_ := ⟨_, rfl⟩
      rw [hz] at hc
      have hS2 := Lib.hid (hnext (.int .i64 (wrap64 (z_ + 1))))
      have hxs2 := Lib.hid (row_set hxs.out (.int .i64 (wrap64 (z_ + 1))))
      have k12 := Lib.hid (k1.out.apart ⟨g, k, none⟩ (.int .i64 (wrap64 (z_ + 1))) (.inl (by show g < _; omega)))
      have k22 := Lib.hid (k2.out.setCell ⟨g, k, none⟩ (.int .i64 (wrap64 (z_ + 1))) (.inr (by show _ ≤ g; omega)))
      have k32 := Lib.hid (k3.out.setCell ⟨g, k, none⟩ (.int .i64 (wrap64 (z_ + 1))) (.inr (by show _ ≤ g; omega)))
      have k42 := Lib.hid (k4.out.setCell ⟨g, k, none⟩ (.int .i64 (wrap64 (z_ + 1))) (.inr (by show _ ≤ g; omega)))
      have k52 := Lib.hid (k5.out.setCell ⟨g, k, none⟩ (.int .i64 (wrap64 (z_ + 1))) (.inr (by show _ ≤ g; omega)))
      have hb2 := hbw.setCell (p := ⟨g, k, none⟩) (show w.heap.size ≤ g by omega) (.int .i64 (wrap64 (z_ + 1)))
      subst hgp
      clear hz hS hxs hnext hbw k1 k2 k3 k4 k5
      go_wp2
      exact ⟨⟨k + 1, _, by go_num, by omega, hS2, hxs2, k12, k22, k32, k42, k52, hb2⟩, by simp [intOf]; omega⟩
    · clear hS hxs
      obtain ⟨wS, hwS⟩ : ∃ wS, wr = wS := ⟨_, rfl⟩
      subst hwS
      have HS := k1
      have K2 := k2
      have K3 := k3
      have K4 := k4
      have K5 := k5
      have hbS := hbw
      clear k1 k2 k3 k4 k5 hbw
      go_wp2
      go_loopw [16] (fun I wr => ∃ (k : Nat) (xs : List Value), I = .int .i64 k ∧ k ≤ lc.length ∧ Hid (Spoil wr pc lc.length cc w4.heap.size w5.heap.size xs) ∧ Hid (∀ j, k ≤ j → j < lc.length → xs[j]? = some (.int .i64 ((lc).getD j 0))) ∧ Hid (IntsB wr p0 z 0 w.heap.size) ∧ Hid (IntsB wr p1 x 0 w1.heap.size) ∧ Hid (IntsB wr p2 z w.heap.size w1.heap.size) ∧ Hid (IntsB wr p3 x w1.heap.size w2.heap.size) ∧ Below w.heap.size w wr) (fun I _ => lc.length - (intOf I).toNat)
      case atStart => exact ⟨0, _, rfl, Nat.zero_le _, HS, Lib.hid (row_get lc), K2, K3, K4, K5, hbS⟩
      case round =>
        obtain ⟨k, xs, rfl, hk, hS, hxs, k2, k3, k4, k5, hbw⟩ := hrel
        clear HS hbS
        by_cases hklt : k < lc.length
        · obtain ⟨g, hgp, hg1, hg2, hc, hf, hnext⟩ := hS.out.at hklt
          rw [hxs.out k (Nat.le_refl _) hklt] at hc
          obtain ⟨z_, hz⟩ : ∃ z_, (lc).getD k 0 = z_ := ⟨_, rfl⟩
          rw [hz] at hc
          have hS2 := Lib.hid (hnext (.int .i64 (wrap64 (z_ + 1))))
          have hxs2 := Lib.hid (row_set hxs.out (.int .i64 (wrap64 (z_ + 1))))
          have k22 := Lib.hid (k2.out.setCell ⟨g, k, none⟩ (.int .i64 (wrap64 (z_ + 1))) (.inr (by show _ ≤ g; omega)))
          have k32 := Lib.hid (k3.out.setCell ⟨g, k, none⟩ (.int .i64 (wrap64 (z_ + 1))) (.inr (by show _ ≤ g; omega)))
          have k42 := Lib.hid (k4.out.setCell ⟨g, k, none⟩ (.int .i64 (wrap64 (z_ + 1))) (.inr (by show _ ≤ g; omega)))
          have k52 := Lib.hid (k5.out.setCell ⟨g, k, none⟩ (.int .i64 (wrap64 (z_ + 1))) (.inr (by show _ ≤ g; omega)))
          have hb2 := hbw.setCell (p := ⟨g, k, none⟩) (show w.heap.size ≤ g by omega) (.int .i64 (wrap64 (z_ + 1)))
          subst hgp
          clear hz hS hxs hnext hbw k2 k3 k4 k5
          go_wp2
          exact ⟨⟨k + 1, _, by go_num, by omega, hS2, hxs2, k22, k32, k42, k52, hb2⟩, by simp [intOf]; omega⟩
        · clear hS hxs
          go_wp2_with fail
          refine (ints_same _ _ z _ _ _ k4.out.ints k2.out.ints mz.out).mono ?_
          rintro e w9 ⟨rfl, n3, rfl⟩
          go_wp2_with fail
          refine (ints_same _ _ x _ _ _ (k5.out.drewN n3).ints (k3.out.drewN n3).ints mx.out).mono ?_
          rintro e w9 ⟨rfl, n4, rfl⟩
          go_wp2
          go_ret
          exact ⟨rfl, below_drewN hbw _⟩
end Go.Proofs.Ytbokkfekenmjlaa
