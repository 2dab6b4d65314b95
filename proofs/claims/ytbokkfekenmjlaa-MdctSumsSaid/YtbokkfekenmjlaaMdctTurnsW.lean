/- MdctTurns: the walk. -/
import Derived.Test.YtbokkfekenmjlaaMdctBackW
set_option linter.unusedVariables false
set_option linter.unusedSimpArgs false
namespace Go.Proofs.Ytbokkfekenmjlaa
open Go.ChangeShapes Go.WideShapes Go.ChangeAt Go.RowKit

theorem grown_below {w w' : World} {v : Value} {base n : Nat} {e : TypeId} {xs : List Value} (hg : w.grownBy w' v.ownBlock) (ho : w.ownsRow base e 1 v n xs) (hb : base ≤ w.heap.size) : Below base w w' :=
  (Below.refl base w).grown hg hb (fun j hj => (ho.lt j hj).1)
def negL (z : List Int) : List Int := (List.range z.length).map (fun j => -z.getD j 0)
theorem neg_len (z : List Int) : (negL z).length = z.length := by simp [negL]
theorem neg_at (z : List Int) (j : Nat) (h : j < z.length) : (negL z).getD j 0 = -z.getD j 0 := by
  unfold negL
  exact (by simp [List.getD_eq_getElem?_getD, h] : ((List.range z.length).map (fun j => -z.getD j 0)).getD j 0 = -z.getD j 0)
theorem any_of {m : Int} {l : List Int} (h : ∀ j, j < l.length → -m ≤ l.getD j 0 ∧ l.getD j 0 ≤ m) : l.any (oddP m) = false := by
  apply List.any_eq_false.2
  intro x hx
  obtain ⟨j, hj, rfl⟩ := List.getElem_of_mem hx
  have := h j hj
  simp [List.getD_eq_getElem?_getD, hj] at this
  simp [oddP]; omega
theorem neg_fwd (M : Nat) (hM : M = 256 ∨ M = 32) (z : List Int) (hz : z.length = 2 * M) (hm : ∀ j, j < z.length → -8388608 ≤ z.getD j 0 ∧ z.getD j 0 ≤ 8388608) : fwdN (negL z) = (linesF (negL z), 0) := by
  unfold fwdN
  rw [if_neg (by rw [neg_len]; omega), if_neg]
  rw [any_of (fun j hj => by rw [neg_len] at hj; rw [neg_at z j hj]; have := hm j hj; omega)]
  decide
def moreL (z : List Int) (a : Nat) : List Int := z.set a (z.getD a 0 + 1)
theorem more_len (z : List Int) (a : Nat) : (moreL z a).length = z.length := by simp [moreL]
theorem more_at (z : List Int) (a : Nat) (h : a < z.length) : (moreL z a).getD a 0 = z.getD a 0 + 1 := by simp [moreL, List.getD_eq_getElem?_getD, h]
theorem more_ne (z : List Int) (a j : Nat) (h : j ≠ a) : (moreL z a).getD j 0 = z.getD j 0 := by simp [moreL, List.getD_eq_getElem?_getD, List.getElem?_set, h.symm]
theorem more_fwd (M : Nat) (hM : M = 256 ∨ M = 32) (z : List Int) (a : Nat) (ha : a < z.length) (hz : z.length = 2 * M) (hm : ∀ j, j < z.length → -8388608 ≤ z.getD j 0 ∧ z.getD j 0 ≤ 8388608) (hs : z.getD a 0 < 8388608) : fwdN (moreL z a) = (linesF (moreL z a), 0) := by
  unfold fwdN
  rw [if_neg (by rw [more_len]; omega), if_neg]
  rw [any_of (fun j hj => by
    rw [more_len] at hj
    by_cases e : j = a
    · subst e; rw [more_at z j ha]; have := hm j hj; omega
    · rw [more_ne z a j e]; exact hm j hj)]
  decide
set_option maxRecDepth 100000 in
set_option maxHeartbeats 2000000 in
theorem turns_bad (z : List Int) (p0 : Option Addr) (c0 : Nat) (at_ : Int) (w : World) (A0 : IsArg w p0 c0 z) (h : 1000 < z.length ∨ ∃ e, fwdN z = ([], e) ∧ (e == 0) = false) :
    Calls Try.prog 3 #[.slice p0 z.length c0, .int .i64 at_] w fun e w' => e = .returned (.bool true) ∧ Below w.heap.size w w' := by
  have m0 := A0.2.2.1
  unfold maxLen at m0
  by_cases h0 : 1000 < z.length
  · have d0 : decide (1000 < (z.length : Int)) = true := by simp; omega
    clear h0 h
    go_enter Try.func3, Try.ntmps3
    go_wp2_with fail
    refine (alive11 _).mono ?_
    rintro e w1 ⟨rfl, hb1⟩
    go_wp2
    go_ret
    exact ⟨rfl, hb1⟩
  · have d0 : decide (1000 < (z.length : Int)) = false := by simp; omega
    obtain ⟨err, he, hb⟩ : ∃ e, fwdN z = ([], e) ∧ (e == 0) = false := by
      rcases h with h | h
      · exact absurd h h0
      · exact h
    have HF := Lib.hid (fun p c W (h : IsInts W p z) => fwd_any z p c (by omega) W h)
    rw [he] at HF
    unfold RRowE at HF
    dsimp only at HF
    have HZ := Lib.hid A0
    have hb2 : (err != 0) = true := by simp [bne, hb]
    clear h0 h A0 he
    go_enter Try.func3, Try.ntmps3
    go_wp2_with fail
    refine (alive11 _).mono ?_
    rintro e w1 ⟨rfl, hb1⟩
    have HZ1 := Lib.hid (HZ.out.1.keep hb1)
    go_wp2_with fail
    refine (HF.out _ _ _ HZ1.out).mono ?_
    rintro e w2 ⟨v, rfl, hO, hb2⟩
    obtain ⟨p, c, rfl, -⟩ := owns_any hO
    clear hO
    go_wp2
    go_ret
    exact ⟨rfl, hb1.trans (hb2.mono hb1.size)⟩

set_option maxRecDepth 100000 in
set_option maxHeartbeats 8000000 in
theorem turns_ok_256 (z : List Int) (p0 : Option Addr) (c0 : Nat) (at_ : Int) (w : World) (A0 : IsArg w p0 c0 z) (hz : z.length = 512) (hm : ∀ j, j < z.length → -8388608 ≤ z.getD j 0 ∧ z.getD j 0 ≤ 8388608) (hfz : fwdN z = (linesF z, 0)) :
    Calls Try.prog 3 #[.slice p0 512 c0, .int .i64 at_] w fun e w' => e = .returned (.bool true) ∧ Below w.heap.size w w' := by
  obtain ⟨i0, hi, hz0, hz1, hz2⟩ := info_parts Try.infoInt
  have HF := Lib.hid (fun p c W (h : IsInts W p z) => fwd_any z p c (by omega) W h)
  rw [hfz, hz] at HF
  have HG := Lib.hid (fun p c W (h : IsInts W p (negL z)) => fwd_any (negL z) p c (by rw [neg_len]; omega) W h)
  rw [neg_fwd 256 (by decide) z hz hm, neg_len, hz] at HG
  have HO : Hid (∀ a, a < z.length → z.getD a 0 < 8388608 → ∀ p c W, IsInts W p (moreL z a) → Calls Try.prog 10 #[.slice p 512 c] W (RRowE (linesF (moreL z a), 0) W)) := by
    intro a ha hs p c W hI
    have := fwd_any (moreL z a) p c (by rw [more_len]; omega) W hI
    rwa [more_fwd 256 (by decide) z a ha hz hm hs, more_len, hz] at this
  unfold RRowE at HF HG HO
  dsimp only at HF HG HO
  have LX := Lib.hid (linesF_len 256 z hz)
  have LT := Lib.hid (linesF_len 256 (negL z) (by rw [neg_len]; exact hz))
  have LW := Lib.hid (fun a => linesF_len 256 (moreL z a) (by rw [more_len]; exact hz))
  have AX := Lib.hid (fun k (hk : k < 256) => linesF_at 256 z hz k hk)
  have AT := Lib.hid (fun k (hk : k < 256) => linesF_at 256 (negL z) (by rw [neg_len]; exact hz) k hk)
  have AW := Lib.hid (fun a k (hk : k < 256) => linesF_at 256 (moreL z a) (by rw [more_len]; exact hz) k hk)
  have T1 := Lib.hid (fun k => fwd_turn 256 z (negL z) hz (by rw [neg_len]; exact hz) (fun j hj => neg_at z j (by omega)) k)
  have T2 := Lib.hid (fun a (ha : a < z.length) k => fwd_more 256 z (moreL z a) hz (by rw [more_len]; exact hz) a (more_at z a ha) (fun j hj => more_ne z a j hj) k)
  have R1 := Lib.hid (fun k => lineF_fit 256 (by decide) z hz hm k)
  have HM := Lib.hid hm
  have HZL := Lib.hid hz
  have HZ := Lib.hid A0
  have NEQ : Hid (negL z = (List.range 512).map (fun j => -z.getD j 0)) := by show _ = _; unfold negL; rw [hz]
  have hx1 : Hid (0 + z.length ≤ maxLen) := by unfold maxLen; show _ ≤ _; omega
  have hx2 : Hid ((0 + z.length) * 8 ≤ 140737488355328) := by show _ ≤ _; omega
  generalize linesF z = lx at *
  generalize linesF (negL z) = lt at *
  generalize lineF 256 z = fx at *
  generalize lineF 256 (negL z) = ft at *
  clear A0 hm hz hfz
  go_enter Try.func3, Try.ntmps3
  go_wp2_with fail
  refine (alive11 _).mono ?_
  rintro e w1 ⟨rfl, hb1⟩
  have HZ1 := Lib.hid (HZ.out.keep hb1)
  have ZB1 := Lib.hid (HZ.out.1.inB.keep hb1 (Nat.le_refl _))
  go_wp2_with fail
  refine (HF.out _ _ _ HZ1.out.1).mono ?_
  rintro e w2 ⟨v, rfl, hOx, hb2⟩
  obtain ⟨px, cx, rfl, Ix⟩ := owns_any hOx
  rw [LX.out]
  have HX := Lib.hid Ix
  have s1 := hb1.size
  have s2 := hb2.size
  have HZ2 := Lib.hid (HZ1.out.keep hb2)
  have ZB2 := Lib.hid (ZB1.out.keep hb2 s1)
  have b2 := hb1.trans (hb2.mono hb1.size)
  clear hOx Ix hb1 hb2 HF HZ HZ1 ZB1
  go_wp2_with (at_make; refine wpList_make_full _ rfl _ _ 22 rfl w2.heap.size 3 i0 (.int .i64 0) 1 Try.underlying22 hi hz0 hz1 .i64 .i64 _ _ 512 rfl rfl ?hL ?hC ?b2 ?b3 ?b4 ?_)
  case hL => rfl
  case hC => rfl
  case b2 => rw [hz2]; decide
  case b3 => decide
  case b4 => exact Nat.le_refl _
  intro w3 hown0 hgrow
  have hbN : Below w2.heap.size w2 w3 := (Below.refl _ _).grown hgrow (by simp) (by simp)
  have hgN : w2.heap.size < w3.heap.size := (hown0.lt _ rfl).2
  have hown : w3.ownsRow w2.heap.size 3 1 (.slice (some ⟨w2.heap.size, 0, none⟩) 512 512) 512 (List.replicate 512 (.int .i64 0)) := by
    have e := toList_madeCells_one (.int .i64 0) 512
    rw [← e]; exact hown0
  clear hgrow hown0
  have HT : Hid (Spoil w3 (some ⟨w2.heap.size, 0, none⟩) 512 512 w2.heap.size w3.heap.size (List.replicate 512 (.int .i64 0))) := ⟨by simp, Nat.le_refl _, fun _ => ⟨_, rfl, Nat.le_refl _, hgN, hown⟩⟩
  have HX3 := Lib.hid (HX.out.keep hbN (Nat.le_refl _))
  have HZ3 := Lib.hid (HZ2.out.keep hbN)
  have ZB3 := Lib.hid (ZB2.out.keep hbN (by omega))
  have b3 := b2.trans (hbN.mono (by omega))
  clear hown hbN HX HZ2 ZB2
  have HZ3' := HZ3.out
  rw [IsArg] at HZ3'
  go_wp2_with (at_builtin; refine append_ints rfl _ _ rfl w3.heap.size _ 0 [] rfl (World.ownsRow_nil _ _ _ _) p0 c0 z (by rw [HZL.out]; rfl) HZ3.out hx1.out hx2.out (Nat.le_refl _) ?_)
  intro vo w4 hOo hg4
  clear HZ3'
  have hb4 : Below w3.heap.size w3 w4 := grown_below hg4 (World.ownsRow_nil w3 w3.heap.size 3 1) (Nat.le_refl _)
  try simp only [Nat.zero_add, List.nil_append] at hOo
  obtain ⟨po, co, rfl, Io⟩ := owns_any hOo
  have HSo := Lib.hid (Spoil.of hOo)
  rw [HZL.out] at HSo ⊢
  have HT4 := Lib.hid (HT.out.keep hb4 (Nat.le_refl _))
  have HX4 := Lib.hid (HX3.out.keep hb4 (by omega))
  have ZB4 := Lib.hid (ZB3.out.keep hb4 (by omega))
  have b4 := b3.trans (hb4.mono (by omega))
  have s4 := hb4.size
  clear hOo Io hg4 hb4 HT HX3 HZ3 ZB3
  go_wp2
  go_loopw [10] (fun I wr => ∃ (k : Nat) (xs : List Value), I = .int .i64 k ∧ k ≤ 512 ∧ Hid (Spoil wr (some ⟨w2.heap.size, 0, none⟩) 512 512 w2.heap.size w3.heap.size xs) ∧ Hid (∀ j : Nat, j < k → xs[j]? = some (.int .i64 (-z.getD j 0))) ∧ Hid (Spoil wr po 512 co w3.heap.size w4.heap.size (z.map (Value.int .i64))) ∧ Hid (IntsB wr px lx w1.heap.size w2.heap.size) ∧ Hid (IntsB wr p0 z 0 w.heap.size) ∧ Below w.heap.size w wr) (fun I _ => 512 - (intOf I).toNat)
  case atStart => exact ⟨0, _, rfl, by decide, HT4, Lib.hid (fun _ h => absurd h (Nat.not_lt_zero _)), HSo, HX4, ZB4, b4⟩
  case round =>
    obtain ⟨k, xs, rfl, hk, kT, hxs, kO, kX, kZ, hbw⟩ := hrel
    clear HT4 HSo HX4 ZB4 b4
    by_cases hlt : k < 512
    · obtain ⟨g, hgp, hg1, hg2, hc, hf, hnext⟩ := kT.out.at hlt
      obtain rfl : w2.heap.size = g := by simpa using hgp
      have hlx := kT.out.1
      obtain ⟨v0, hv0⟩ : ∃ v0, xs[k]? = some v0 := ⟨_, List.getElem?_eq_getElem (by omega)⟩
      rw [hv0] at hc
      clear hv0
      obtain ⟨bz, oz, rfl, h1⟩ := kZ.out.at (j := k) (by rw [HZL.out]; exact hlt)
      obtain ⟨q1, q2⟩ := HM.out k (by rw [HZL.out]; exact hlt)
      obtain ⟨x, hx⟩ : ∃ x, z.getD k 0 = x := ⟨_, rfl⟩
      rw [hx] at h1 q1 q2
      have kT2 := Lib.hid (hnext (.int .i64 (-x)))
      have hxs2 := Lib.hid (fill_step (f := fun j => -z.getD j 0) hlx hlt hxs.out (v := -x) (by show -z.getD k 0 = -x; rw [hx]))
      have kO2 := Lib.hid (kO.out.apart ⟨w2.heap.size, k, none⟩ (.int .i64 (-x)) (.inl hg2))
      have kX2 := Lib.hid (kX.out.setCell ⟨w2.heap.size, k, none⟩ (.int .i64 (-x)) (.inr (Nat.le_refl _)))
      have kZ2 := Lib.hid (kZ.out.setCell ⟨w2.heap.size, k, none⟩ (.int .i64 (-x)) (.inr (by show w.heap.size ≤ w2.heap.size; omega)))
      have hb2 := hbw.setCell (p := ⟨w2.heap.size, k, none⟩) (show w.heap.size ≤ w2.heap.size by omega) (.int .i64 (-x))
      clear hx kT hxs kO kX kZ hbw hnext hgp hlx
      go_wp2
      exact ⟨⟨k + 1, _, by go_num, by omega, kT2, hxs2, kO2, kX2, kZ2, hb2⟩, by simp [intOf]; omega⟩
    · have hkn : k = 512 := by omega
      subst hkn
      have hxe := fill_eq (f := fun j => -z.getD j 0) kT.out.1 hxs.out
      rw [← NEQ.out] at hxe
      rw [hxe] at kT
      have kTI := Lib.hid kT.out.ints
      clear hxs hxe kT
      go_wp2_with fail
      refine (HG.out _ _ _ kTI.out.ints).mono ?_
      rintro e w5 ⟨vy, rfl, hOy, hb5⟩
      have s5 := hb5.size
      have s6 := kO.out.2.1
      obtain ⟨py, cy, rfl, Iy⟩ := owns_any hOy
      rw [LT.out]
      have HY := Lib.hid Iy
      have kO5 := Lib.hid (kO.out.keep hb5 s6)
      have kX5 := Lib.hid (kX.out.keep hb5 (by omega))
      have kZ5 := Lib.hid (kZ.out.keep hb5 (by omega))
      have b5 := hbw.trans (hb5.mono (by omega))
      clear hOy Iy hb5 kO kX kZ hbw kTI HG
      go_wp2
      go_loopw [13] (fun I wq => ∃ k m : Nat, I = .int .i64 k ∧ k ≤ 256 ∧ wq = w5.drewN m) (fun I _ => 256 - (intOf I).toNat)
      case atStart => exact ⟨0, 0, rfl, by decide, rfl⟩
      case round =>
        obtain ⟨k, m, rfl, hk, rfl⟩ := hrel
        by_cases hlt : k < 256
        · obtain ⟨b1, o1, rfl, h1⟩ := kX5.out.at (j := k) (by rw [LX.out]; exact hlt)
          obtain ⟨b2, o2, rfl, h2⟩ := HY.out.at (j := k) (by rw [LT.out]; exact hlt)
          rw [AX.out k hlt] at h1
          rw [AT.out k hlt] at h2
          obtain ⟨t1, t2⟩ := T1.out k
          obtain ⟨r1, r2⟩ := R1.out k
          generalize fx k = x1 at h1 t1 t2 r1 r2
          generalize ft k = x2 at h2 t1 t2
          have e1 : IntKind.i64.wrap (x1 + x2) = x1 + x2 := IntWalk.i64_in _ (by omega)
          clear kX5 HY LX LT AX AT T1 R1
          by_cases hs0 : x1 + x2 = 0
          · have t3 : (x1 + x2 != 0) = false := by simp [hs0]
            clear hs0 t1 t2
            go_wp2
            go_quiet (fail)
            go_wp2
            exact ⟨⟨k + 1, _, by go_num, hlt, rfl⟩, by simp [intOf]; omega⟩
          · have t3 : (x1 + x2 != 0) = true := by simp [hs0]
            have t4 : (x1 + x2 != 1) = false := by simp; omega
            clear hs0 t1 t2
            go_wp2
            go_quiet (fail)
            go_wp2
            exact ⟨⟨k + 1, _, by go_num, hlt, rfl⟩, by simp [intOf]; omega⟩
        · have b6 : Below w.heap.size w (w5.drewN m) := below_drewN b5 m
          by_cases ha : at_ < 0
          · have d1 : decide (at_ < 0) = true := decide_eq_true ha
            go_wp2
            go_ret
            exact ⟨rfl, b6⟩
          · have d1 : decide (at_ < 0) = false := decide_eq_false ha
            by_cases ha2 : 512 ≤ at_
            · have d2 : decide (512 ≤ at_) = true := decide_eq_true ha2
              go_wp2
              go_ret
              exact ⟨rfl, b6⟩
            · have d2 : decide (512 ≤ at_) = false := decide_eq_false ha2
              obtain ⟨a, rfl⟩ := Int.eq_ofNat_of_zero_le (show 0 ≤ at_ by omega)
              have han : a < 512 := by omega
              obtain ⟨bz, oz, rfl, h1⟩ := kZ5.out.at (j := a) (by rw [HZL.out]; exact han)
              obtain ⟨x, hx⟩ : ∃ x, z.getD a 0 = x := ⟨_, rfl⟩
              obtain ⟨q1, q2⟩ := HM.out a (by rw [HZL.out]; exact han)
              rw [hx] at h1 q1 q2
              by_cases hs : 8388608 ≤ x
              · have d3 : decide (8388608 ≤ x) = true := decide_eq_true hs
                clear hx
                go_wp2
                go_ret
                exact ⟨rfl, b6⟩
              · have d3 : decide (8388608 ≤ x) = false := decide_eq_false hs
                obtain ⟨g, hgp, hg1, hg2, hc, hf, hnext⟩ := (kO5.out.drewN m).at han
                rw [row_get z a (Nat.zero_le _) (by rw [HZL.out]; exact han), hx] at hc
                have hO2 := hnext (.int .i64 (x + 1))
                have hset : (z.map (Value.int .i64)).set a (.int .i64 (x + 1)) = (moreL z a).map (Value.int .i64) := by rw [moreL, List.map_set, hx]
                rw [hset] at hO2
                have HOI := Lib.hid hO2.ints
                have HXo := Lib.hid ((kX5.out.drewN m).setCell ⟨g, a, none⟩ (.int .i64 (x + 1)) (.inr (by show _ ≤ g; omega)))
                have b7 := b6.setCell (p := ⟨g, a, none⟩) (show w.heap.size ≤ g by omega) (.int .i64 (x + 1))
                have HFo := Lib.hid (HO.out a (by rw [HZL.out]; exact han) (by rw [hx]; omega))
                have hxs := (by simp [World.setCell] : ((w5.drewN m).setCell ⟨g, a, none⟩ (.int .i64 (x + 1))).heap.size = w5.heap.size)
                have s8 : w2.heap.size ≤ ((w5.drewN m).setCell ⟨g, a, none⟩ (.int .i64 (x + 1))).heap.size := by omega
                have s9 : w.heap.size ≤ ((w5.drewN m).setCell ⟨g, a, none⟩ (.int .i64 (x + 1))).heap.size := by omega
                subst hgp
                clear hx hset hO2 hnext hxs kO5 kX5 kZ5 b5 b6 HY HM HO
                go_wp2_with fail
                obtain ⟨w6, hw6⟩ : ∃ w6, (w5.drewN m).setCell ⟨g, a, none⟩ (.int .i64 (x + 1)) = w6 := ⟨_, rfl⟩
                rw [hw6] at HOI HXo b7 s8 s9 ⊢
                clear hw6 hc hf
                refine (HFo.out _ _ _ HOI.out.ints).mono ?_
                rintro e w7 ⟨vw, rfl, hOw, hb7⟩
                obtain ⟨pw, cw, rfl, Iw⟩ := owns_any hOw
                rw [LW.out]
                have HW := Lib.hid Iw
                have HX7 := Lib.hid (HXo.out.keep hb7 s8)
                have b8 := b7.trans (hb7.mono s9)
                clear hOw Iw hb7 HXo HOI b7
                go_wp2
                go_loopw [17] (fun I wq => ∃ k m : Nat, I = .int .i64 k ∧ k ≤ 256 ∧ wq = w7.drewN m) (fun I _ => 256 - (intOf I).toNat)
                case atStart => exact ⟨0, 0, rfl, by decide, rfl⟩
                case round =>
                  obtain ⟨k, m2, rfl, hk, rfl⟩ := hrel
                  by_cases hlt : k < 256
                  · obtain ⟨b1, o1, rfl, h1⟩ := HX7.out.at (j := k) (by rw [LX.out]; exact hlt)
                    obtain ⟨b2, o2, rfl, h2⟩ := HW.out.at (j := k) (by rw [LW.out]; exact hlt)
                    rw [AX.out k hlt] at h1
                    rw [AW.out a k hlt] at h2
                    obtain ⟨t1, t2⟩ := T2.out a (by rw [HZL.out]; exact han) k
                    obtain ⟨r1, r2⟩ := R1.out k
                    generalize fx k = x1 at h1 t1 t2 r1 r2
                    generalize lineF 256 (moreL z a) k = x2 at h2 t1 t2
                    have e1 : IntKind.i64.wrap (x2 - x1) = x2 - x1 := IntWalk.i64_in _ (by omega)
                    have d4 : decide (1 < x2 - x1) = false := by simp; omega
                    have d5 : decide (x2 - x1 < -1) = false := by simp; omega
                    clear HX7 HW LX LW AX AW T2 R1 t1 t2
                    go_wp2
                    go_quiet (fail)
                    go_wp2
                    exact ⟨⟨k + 1, _, by go_num, hlt, rfl⟩, by simp [intOf]; omega⟩
                  · go_wp2
                    go_ret
                    exact ⟨rfl, below_drewN b8 _⟩

set_option maxRecDepth 100000 in
set_option maxHeartbeats 8000000 in
theorem turns_ok_32 (z : List Int) (p0 : Option Addr) (c0 : Nat) (at_ : Int) (w : World) (A0 : IsArg w p0 c0 z) (hz : z.length = 64) (hm : ∀ j, j < z.length → -8388608 ≤ z.getD j 0 ∧ z.getD j 0 ≤ 8388608) (hfz : fwdN z = (linesF z, 0)) :
    Calls Try.prog 3 #[.slice p0 64 c0, .int .i64 at_] w fun e w' => e = .returned (.bool true) ∧ Below w.heap.size w w' := by
  obtain ⟨i0, hi, hz0, hz1, hz2⟩ := info_parts Try.infoInt
  have HF := Lib.hid (fun p c W (h : IsInts W p z) => fwd_any z p c (by omega) W h)
  rw [hfz, hz] at HF
  have HG := Lib.hid (fun p c W (h : IsInts W p (negL z)) => fwd_any (negL z) p c (by rw [neg_len]; omega) W h)
  rw [neg_fwd 32 (by decide) z hz hm, neg_len, hz] at HG
  have HO : Hid (∀ a, a < z.length → z.getD a 0 < 8388608 → ∀ p c W, IsInts W p (moreL z a) → Calls Try.prog 10 #[.slice p 64 c] W (RRowE (linesF (moreL z a), 0) W)) := by
    intro a ha hs p c W hI
    have := fwd_any (moreL z a) p c (by rw [more_len]; omega) W hI
    rwa [more_fwd 32 (by decide) z a ha hz hm hs, more_len, hz] at this
  unfold RRowE at HF HG HO
  dsimp only at HF HG HO
  have LX := Lib.hid (linesF_len 32 z hz)
  have LT := Lib.hid (linesF_len 32 (negL z) (by rw [neg_len]; exact hz))
  have LW := Lib.hid (fun a => linesF_len 32 (moreL z a) (by rw [more_len]; exact hz))
  have AX := Lib.hid (fun k (hk : k < 32) => linesF_at 32 z hz k hk)
  have AT := Lib.hid (fun k (hk : k < 32) => linesF_at 32 (negL z) (by rw [neg_len]; exact hz) k hk)
  have AW := Lib.hid (fun a k (hk : k < 32) => linesF_at 32 (moreL z a) (by rw [more_len]; exact hz) k hk)
  have T1 := Lib.hid (fun k => fwd_turn 32 z (negL z) hz (by rw [neg_len]; exact hz) (fun j hj => neg_at z j (by omega)) k)
  have T2 := Lib.hid (fun a (ha : a < z.length) k => fwd_more 32 z (moreL z a) hz (by rw [more_len]; exact hz) a (more_at z a ha) (fun j hj => more_ne z a j hj) k)
  have R1 := Lib.hid (fun k => lineF_fit 32 (by decide) z hz hm k)
  have HM := Lib.hid hm
  have HZL := Lib.hid hz
  have HZ := Lib.hid A0
  have NEQ : Hid (negL z = (List.range 64).map (fun j => -z.getD j 0)) := by show _ = _; unfold negL; rw [hz]
  have hx1 : Hid (0 + z.length ≤ maxLen) := by unfold maxLen; show _ ≤ _; omega
  have hx2 : Hid ((0 + z.length) * 8 ≤ 140737488355328) := by show _ ≤ _; omega
  generalize linesF z = lx at *
  generalize linesF (negL z) = lt at *
  generalize lineF 32 z = fx at *
  generalize lineF 32 (negL z) = ft at *
  clear A0 hm hz hfz
  go_enter Try.func3, Try.ntmps3
  go_wp2_with fail
  refine (alive11 _).mono ?_
  rintro e w1 ⟨rfl, hb1⟩
  have HZ1 := Lib.hid (HZ.out.keep hb1)
  have ZB1 := Lib.hid (HZ.out.1.inB.keep hb1 (Nat.le_refl _))
  go_wp2_with fail
  refine (HF.out _ _ _ HZ1.out.1).mono ?_
  rintro e w2 ⟨v, rfl, hOx, hb2⟩
  obtain ⟨px, cx, rfl, Ix⟩ := owns_any hOx
  rw [LX.out]
  have HX := Lib.hid Ix
  have s1 := hb1.size
  have s2 := hb2.size
  have HZ2 := Lib.hid (HZ1.out.keep hb2)
  have ZB2 := Lib.hid (ZB1.out.keep hb2 s1)
  have b2 := hb1.trans (hb2.mono hb1.size)
  clear hOx Ix hb1 hb2 HF HZ HZ1 ZB1
  go_wp2_with (at_make; refine wpList_make_full _ rfl _ _ 22 rfl w2.heap.size 3 i0 (.int .i64 0) 1 Try.underlying22 hi hz0 hz1 .i64 .i64 _ _ 64 rfl rfl ?hL ?hC ?b2 ?b3 ?b4 ?_)
  case hL => rfl
  case hC => rfl
  case b2 => rw [hz2]; decide
  case b3 => decide
  case b4 => exact Nat.le_refl _
  intro w3 hown0 hgrow
  have hbN : Below w2.heap.size w2 w3 := (Below.refl _ _).grown hgrow (by simp) (by simp)
  have hgN : w2.heap.size < w3.heap.size := (hown0.lt _ rfl).2
  have hown : w3.ownsRow w2.heap.size 3 1 (.slice (some ⟨w2.heap.size, 0, none⟩) 64 64) 64 (List.replicate 64 (.int .i64 0)) := by
    have e := toList_madeCells_one (.int .i64 0) 64
    rw [← e]; exact hown0
  clear hgrow hown0
  have HT : Hid (Spoil w3 (some ⟨w2.heap.size, 0, none⟩) 64 64 w2.heap.size w3.heap.size (List.replicate 64 (.int .i64 0))) := ⟨by simp, Nat.le_refl _, fun _ => ⟨_, rfl, Nat.le_refl _, hgN, hown⟩⟩
  have HX3 := Lib.hid (HX.out.keep hbN (Nat.le_refl _))
  have HZ3 := Lib.hid (HZ2.out.keep hbN)
  have ZB3 := Lib.hid (ZB2.out.keep hbN (by omega))
  have b3 := b2.trans (hbN.mono (by omega))
  clear hown hbN HX HZ2 ZB2
  have HZ3' := HZ3.out
  rw [IsArg] at HZ3'
  go_wp2_with (at_builtin; refine append_ints rfl _ _ rfl w3.heap.size _ 0 [] rfl (World.ownsRow_nil _ _ _ _) p0 c0 z (by rw [HZL.out]; rfl) HZ3.out hx1.out hx2.out (Nat.le_refl _) ?_)
  intro vo w4 hOo hg4
  clear HZ3'
  have hb4 : Below w3.heap.size w3 w4 := grown_below hg4 (World.ownsRow_nil w3 w3.heap.size 3 1) (Nat.le_refl _)
  try simp only [Nat.zero_add, List.nil_append] at hOo
  obtain ⟨po, co, rfl, Io⟩ := owns_any hOo
  have HSo := Lib.hid (Spoil.of hOo)
  rw [HZL.out] at HSo ⊢
  have HT4 := Lib.hid (HT.out.keep hb4 (Nat.le_refl _))
  have HX4 := Lib.hid (HX3.out.keep hb4 (by omega))
  have ZB4 := Lib.hid (ZB3.out.keep hb4 (by omega))
  have b4 := b3.trans (hb4.mono (by omega))
  have s4 := hb4.size
  clear hOo Io hg4 hb4 HT HX3 HZ3 ZB3
  go_wp2
  go_loopw [10] (fun I wr => ∃ (k : Nat) (xs : List Value), I = .int .i64 k ∧ k ≤ 64 ∧ Hid (Spoil wr (some ⟨w2.heap.size, 0, none⟩) 64 64 w2.heap.size w3.heap.size xs) ∧ Hid (∀ j : Nat, j < k → xs[j]? = some (.int .i64 (-z.getD j 0))) ∧ Hid (Spoil wr po 64 co w3.heap.size w4.heap.size (z.map (Value.int .i64))) ∧ Hid (IntsB wr px lx w1.heap.size w2.heap.size) ∧ Hid (IntsB wr p0 z 0 w.heap.size) ∧ Below w.heap.size w wr) (fun I _ => 64 - (intOf I).toNat)
  case atStart => exact ⟨0, _, rfl, by decide, HT4, Lib.hid (fun _ h => absurd h (Nat.not_lt_zero _)), HSo, HX4, ZB4, b4⟩
  case round =>
    obtain ⟨k, xs, rfl, hk, kT, hxs, kO, kX, kZ, hbw⟩ := hrel
    clear HT4 HSo HX4 ZB4 b4
    by_cases hlt : k < 64
    · obtain ⟨g, hgp, hg1, hg2, hc, hf, hnext⟩ := kT.out.at hlt
      obtain rfl : w2.heap.size = g := by simpa using hgp
      have hlx := kT.out.1
      obtain ⟨v0, hv0⟩ : ∃ v0, xs[k]? = some v0 := ⟨_, List.getElem?_eq_getElem (by omega)⟩
      rw [hv0] at hc
      clear hv0
      obtain ⟨bz, oz, rfl, h1⟩ := kZ.out.at (j := k) (by rw [HZL.out]; exact hlt)
      obtain ⟨q1, q2⟩ := HM.out k (by rw [HZL.out]; exact hlt)
      obtain ⟨x, hx⟩ : ∃ x, z.getD k 0 = x := ⟨_, rfl⟩
      rw [hx] at h1 q1 q2
      have kT2 := Lib.hid (hnext (.int .i64 (-x)))
      have hxs2 := Lib.hid (fill_step (f := fun j => -z.getD j 0) hlx hlt hxs.out (v := -x) (by show -z.getD k 0 = -x; rw [hx]))
      have kO2 := Lib.hid (kO.out.apart ⟨w2.heap.size, k, none⟩ (.int .i64 (-x)) (.inl hg2))
      have kX2 := Lib.hid (kX.out.setCell ⟨w2.heap.size, k, none⟩ (.int .i64 (-x)) (.inr (Nat.le_refl _)))
      have kZ2 := Lib.hid (kZ.out.setCell ⟨w2.heap.size, k, none⟩ (.int .i64 (-x)) (.inr (by show w.heap.size ≤ w2.heap.size; omega)))
      have hb2 := hbw.setCell (p := ⟨w2.heap.size, k, none⟩) (show w.heap.size ≤ w2.heap.size by omega) (.int .i64 (-x))
      clear hx kT hxs kO kX kZ hbw hnext hgp hlx
      go_wp2
      exact ⟨⟨k + 1, _, by go_num, by omega, kT2, hxs2, kO2, kX2, kZ2, hb2⟩, by simp [intOf]; omega⟩
    · have hkn : k = 64 := by omega
      subst hkn
      have hxe := fill_eq (f := fun j => -z.getD j 0) kT.out.1 hxs.out
      rw [← NEQ.out] at hxe
      rw [hxe] at kT
      have kTI := Lib.hid kT.out.ints
      clear hxs hxe kT
      go_wp2_with fail
      refine (HG.out _ _ _ kTI.out.ints).mono ?_
      rintro e w5 ⟨vy, rfl, hOy, hb5⟩
      have s5 := hb5.size
      have s6 := kO.out.2.1
      obtain ⟨py, cy, rfl, Iy⟩ := owns_any hOy
      rw [LT.out]
      have HY := Lib.hid Iy
      have kO5 := Lib.hid (kO.out.keep hb5 s6)
      have kX5 := Lib.hid (kX.out.keep hb5 (by omega))
      have kZ5 := Lib.hid (kZ.out.keep hb5 (by omega))
      have b5 := hbw.trans (hb5.mono (by omega))
      clear hOy Iy hb5 kO kX kZ hbw kTI HG
      go_wp2
      go_loopw [13] (fun I wq => ∃ k m : Nat, I = .int .i64 k ∧ k ≤ 32 ∧ wq = w5.drewN m) (fun I _ => 32 - (intOf I).toNat)
      case atStart => exact ⟨0, 0, rfl, by decide, rfl⟩
      case round =>
        obtain ⟨k, m, rfl, hk, rfl⟩ := hrel
        by_cases hlt : k < 32
        · obtain ⟨b1, o1, rfl, h1⟩ := kX5.out.at (j := k) (by rw [LX.out]; exact hlt)
          obtain ⟨b2, o2, rfl, h2⟩ := HY.out.at (j := k) (by rw [LT.out]; exact hlt)
          rw [AX.out k hlt] at h1
          rw [AT.out k hlt] at h2
          obtain ⟨t1, t2⟩ := T1.out k
          obtain ⟨r1, r2⟩ := R1.out k
          generalize fx k = x1 at h1 t1 t2 r1 r2
          generalize ft k = x2 at h2 t1 t2
          have e1 : IntKind.i64.wrap (x1 + x2) = x1 + x2 := IntWalk.i64_in _ (by omega)
          clear kX5 HY LX LT AX AT T1 R1
          by_cases hs0 : x1 + x2 = 0
          · have t3 : (x1 + x2 != 0) = false := by simp [hs0]
            clear hs0 t1 t2
            go_wp2
            go_quiet (fail)
            go_wp2
            exact ⟨⟨k + 1, _, by go_num, hlt, rfl⟩, by simp [intOf]; omega⟩
          · have t3 : (x1 + x2 != 0) = true := by simp [hs0]
            have t4 : (x1 + x2 != 1) = false := by simp; omega
            clear hs0 t1 t2
            go_wp2
            go_quiet (fail)
            go_wp2
            exact ⟨⟨k + 1, _, by go_num, hlt, rfl⟩, by simp [intOf]; omega⟩
        · have b6 : Below w.heap.size w (w5.drewN m) := below_drewN b5 m
          by_cases ha : at_ < 0
          · have d1 : decide (at_ < 0) = true := decide_eq_true ha
            go_wp2
            go_ret
            exact ⟨rfl, b6⟩
          · have d1 : decide (at_ < 0) = false := decide_eq_false ha
            by_cases ha2 : 64 ≤ at_
            · have d2 : decide (64 ≤ at_) = true := decide_eq_true ha2
              go_wp2
              go_ret
              exact ⟨rfl, b6⟩
            · have d2 : decide (64 ≤ at_) = false := decide_eq_false ha2
              obtain ⟨a, rfl⟩ := Int.eq_ofNat_of_zero_le (show 0 ≤ at_ by omega)
              have han : a < 64 := by omega
              obtain ⟨bz, oz, rfl, h1⟩ := kZ5.out.at (j := a) (by rw [HZL.out]; exact han)
              obtain ⟨x, hx⟩ : ∃ x, z.getD a 0 = x := ⟨_, rfl⟩
              obtain ⟨q1, q2⟩ := HM.out a (by rw [HZL.out]; exact han)
              rw [hx] at h1 q1 q2
              by_cases hs : 8388608 ≤ x
              · have d3 : decide (8388608 ≤ x) = true := decide_eq_true hs
                clear hx
                go_wp2
                go_ret
                exact ⟨rfl, b6⟩
              · have d3 : decide (8388608 ≤ x) = false := decide_eq_false hs
                obtain ⟨g, hgp, hg1, hg2, hc, hf, hnext⟩ := (kO5.out.drewN m).at han
                rw [row_get z a (Nat.zero_le _) (by rw [HZL.out]; exact han), hx] at hc
                have hO2 := hnext (.int .i64 (x + 1))
                have hset : (z.map (Value.int .i64)).set a (.int .i64 (x + 1)) = (moreL z a).map (Value.int .i64) := by rw [moreL, List.map_set, hx]
                rw [hset] at hO2
                have HOI := Lib.hid hO2.ints
                have HXo := Lib.hid ((kX5.out.drewN m).setCell ⟨g, a, none⟩ (.int .i64 (x + 1)) (.inr (by show _ ≤ g; omega)))
                have b7 := b6.setCell (p := ⟨g, a, none⟩) (show w.heap.size ≤ g by omega) (.int .i64 (x + 1))
                have HFo := Lib.hid (HO.out a (by rw [HZL.out]; exact han) (by rw [hx]; omega))
                have hxs := (by simp [World.setCell] : ((w5.drewN m).setCell ⟨g, a, none⟩ (.int .i64 (x + 1))).heap.size = w5.heap.size)
                have s8 : w2.heap.size ≤ ((w5.drewN m).setCell ⟨g, a, none⟩ (.int .i64 (x + 1))).heap.size := by omega
                have s9 : w.heap.size ≤ ((w5.drewN m).setCell ⟨g, a, none⟩ (.int .i64 (x + 1))).heap.size := by omega
                subst hgp
                clear hx hset hO2 hnext hxs kO5 kX5 kZ5 b5 b6 HY HM HO
                go_wp2_with fail
                obtain ⟨w6, hw6⟩ : ∃ w6, (w5.drewN m).setCell ⟨g, a, none⟩ (.int .i64 (x + 1)) = w6 := ⟨_, rfl⟩
                rw [hw6] at HOI HXo b7 s8 s9 ⊢
                clear hw6 hc hf
                refine (HFo.out _ _ _ HOI.out.ints).mono ?_
                rintro e w7 ⟨vw, rfl, hOw, hb7⟩
                obtain ⟨pw, cw, rfl, Iw⟩ := owns_any hOw
                rw [LW.out]
                have HW := Lib.hid Iw
                have HX7 := Lib.hid (HXo.out.keep hb7 s8)
                have b8 := b7.trans (hb7.mono s9)
                clear hOw Iw hb7 HXo HOI b7
                go_wp2
                go_loopw [17] (fun I wq => ∃ k m : Nat, I = .int .i64 k ∧ k ≤ 32 ∧ wq = w7.drewN m) (fun I _ => 32 - (intOf I).toNat)
                case atStart => exact ⟨0, 0, rfl, by decide, rfl⟩
                case round =>
                  obtain ⟨k, m2, rfl, hk, rfl⟩ := hrel
                  by_cases hlt : k < 32
                  · obtain ⟨b1, o1, rfl, h1⟩ := HX7.out.at (j := k) (by rw [LX.out]; exact hlt)
                    obtain ⟨b2, o2, rfl, h2⟩ := HW.out.at (j := k) (by rw [LW.out]; exact hlt)
                    rw [AX.out k hlt] at h1
                    rw [AW.out a k hlt] at h2
                    obtain ⟨t1, t2⟩ := T2.out a (by rw [HZL.out]; exact han) k
                    obtain ⟨r1, r2⟩ := R1.out k
                    generalize fx k = x1 at h1 t1 t2 r1 r2
                    generalize lineF 32 (moreL z a) k = x2 at h2 t1 t2
                    have e1 : IntKind.i64.wrap (x2 - x1) = x2 - x1 := IntWalk.i64_in _ (by omega)
                    have d4 : decide (1 < x2 - x1) = false := by simp; omega
                    have d5 : decide (x2 - x1 < -1) = false := by simp; omega
                    clear HX7 HW LX LW AX AW T2 R1 t1 t2
                    go_wp2
                    go_quiet (fail)
                    go_wp2
                    exact ⟨⟨k + 1, _, by go_num, hlt, rfl⟩, by simp [intOf]; omega⟩
                  · go_wp2
                    go_ret
                    exact ⟨rfl, below_drewN b8 _⟩

theorem turns_any (z : List Int) (p0 : Option Addr) (c0 : Nat) (at_ : Int) (w : World) (A0 : IsArg w p0 c0 z) :
    Calls Try.prog 3 #[.slice p0 z.length c0, .int .i64 at_] w fun e w' => e = .returned (.bool true) ∧ Below w.heap.size w w' := by
  rcases fwd_ways z with ⟨M, hM, hz, hm, hi⟩ | h
  · rcases hM with rfl | rfl
    · have hz' : z.length = 512 := hz
      rw [hz']; exact turns_ok_256 z p0 c0 at_ w A0 hz' hm hi
    · have hz' : z.length = 64 := hz
      rw [hz']; exact turns_ok_32 z p0 c0 at_ w A0 hz' hm hi
  · exact turns_bad z p0 c0 at_ w A0 (.inr h)
end Go.Proofs.Ytbokkfekenmjlaa
