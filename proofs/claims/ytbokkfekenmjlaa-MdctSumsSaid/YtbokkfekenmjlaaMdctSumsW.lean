/- MdctSums: the walk. -/
import Derived.Test.YtbokkfekenmjlaaMdctTurnsW
import Derived.Test.YtbokkfekenmjlaaArgsK
import Derived.StillTailTactics
import Derived.Outline
set_option linter.unusedVariables false
set_option linter.unusedSimpArgs false
namespace Go.Proofs.Ytbokkfekenmjlaa
open Go.ChangeShapes Go.WideShapes Go.ChangeAt Go.RowKit

def oneV (x b : List Int) (j : Nat) : Int := (x.getD j 0).tdiv 2 + (if j < b.length then b.getD j 0 else 0)
def oneR (x b : List Int) : List Int := (List.range x.length).map (oneV x b)
def twoR (x b : List Int) : List Int := (List.range x.length).map (fun j => x.getD j 0 - oneV x b j)
theorem oneR_len (x b : List Int) : (oneR x b).length = x.length := by simp [oneR]
theorem twoR_len (x b : List Int) : (twoR x b).length = x.length := by simp [twoR]
theorem range_get (f : Nat → Int) (n k : Nat) (hk : k < n) : ((List.range n).map f).getD k 0 = f k := by simp [List.getD_eq_getElem?_getD, hk]
theorem one_two (x b : List Int) (k : Nat) (h : k < x.length) : x.getD k 0 = (oneR x b).getD k 0 + (twoR x b).getD k 0 := by
  unfold oneR twoR
  rw [range_get _ _ _ h, range_get _ _ _ h]; omega
theorem both_range (x b : List Int) (hb8 : ∀ j, j < b.length → -128 ≤ b.getD j 0 ∧ b.getD j 0 ≤ 127) (hm : ∀ j, j < x.length → -268435455 ≤ x.getD j 0 ∧ x.getD j 0 ≤ 268435455) (j : Nat) (h : j < x.length) :
    (-536870912 ≤ (oneR x b).getD j 0 ∧ (oneR x b).getD j 0 ≤ 536870912) ∧ -536870912 ≤ (twoR x b).getD j 0 ∧ (twoR x b).getD j 0 ≤ 536870912 := by
  unfold oneR twoR
  rw [range_get _ _ _ h, range_get _ _ _ h]
  have a := Int.mul_tdiv_add_tmod (x.getD j 0) 2
  have b1 := Int.lt_tmod_of_pos (x.getD j 0) (show (0 : Int) < 2 by decide)
  have c := Int.tmod_lt_of_pos (x.getD j 0) (show (0 : Int) < 2 by decide)
  have d := hm j h
  unfold oneV
  split
  · rename_i hj
    have := hb8 j hj
    omega
  · omega
theorem lineI_wide (M : Nat) (h : M = 256 ∨ M = 32) (x : List Int) (hx : x.length = M) (hm : ∀ j, j < x.length → -536870912 ≤ x.getD j 0 ∧ x.getD j 0 ≤ 536870912) (n : Nat) : -1099511627776 ≤ lineI M x n ∧ lineI M x n ≤ 1099511627776 := by
  have s := sumX_range x (fiA M n) (fiB M n) 536870912 hm x.length (Nat.le_refl _)
  unfold lineI
  generalize sumX x (fiA M n) (fiB M n) x.length = S at *
  rcases h with rfl | rfl
  · have e := rnd_spec S 26 (by decide)
    simp at e ⊢
    omega
  · have e := rnd_spec S 23 (by decide)
    simp at e ⊢
    omega
theorem fill_step2 {xs : List Value} {k n : Nat} {f : Nat → Int} (hn : xs.length = n) (hk : k < n) (h : ∀ j, j < k → xs[j]? = some (.int .i64 (f j))) {u : Value} {v : Int} (hv : f k = v) : ∀ j, j < k + 1 → ((xs.set k u).set k (.int .i64 v))[j]? = some (.int .i64 (f j)) := by
  intro j hj
  by_cases e : j = k
  · rw [e, List.getElem?_set_self (by simp; omega), hv]
  · rw [List.getElem?_set_ne (by omega), List.getElem?_set_ne (by omega)]; exact h j (by omega)
theorem half_range (u : Int) (h0 : -268435455 ≤ u) (h1 : u ≤ 268435455) : -134217728 ≤ u.tdiv 2 ∧ u.tdiv 2 ≤ 134217728 := by
  have a := Int.mul_tdiv_add_tmod u 2
  have b := Int.lt_tmod_of_pos u (show (0 : Int) < 2 by decide)
  have c := Int.tmod_lt_of_pos u (show (0 : Int) < 2 by decide)
  omega
set_option maxRecDepth 100000 in
set_option maxHeartbeats 2000000 in
theorem sums_bad (x b : List Int) (p0 p1 : Option Addr) (c0 c1 : Nat) (w : World) (A0 : IsArg w p0 c0 x) (A1 : IsArgK .i8 w p1 c1 b) (h : 1000 < x.length ∨ 1000 < b.length ∨ ∃ e, invN x = ([], e) ∧ (e == 0) = false) :
    Calls Try.prog 8 #[.slice p0 x.length c0, .slice p1 b.length c1] w fun e w' => e = .returned (.bool true) ∧ Below w.heap.size w w' := by
  have m0 := A0.2.2.1
  have m1 := A1.2.2.1
  unfold maxLen at m0 m1
  by_cases h0 : 1000 < x.length
  · have d0 : decide (1000 < (x.length : Int)) = true := by simp; omega
    clear h0 h
    go_enter Try.func8, Try.ntmps8
    go_wp2_with fail
    refine (alive11 _).mono ?_
    rintro e w1 ⟨rfl, hb1⟩
    go_wp2
    go_ret
    exact ⟨rfl, hb1⟩
  · have d0 : decide (1000 < (x.length : Int)) = false := by simp; omega
    by_cases h1 : 1000 < b.length
    · have d1 : decide (1000 < (b.length : Int)) = true := by simp; omega
      clear h0 h1 h
      go_enter Try.func8, Try.ntmps8
      go_wp2_with fail
      refine (alive11 _).mono ?_
      rintro e w1 ⟨rfl, hb1⟩
      go_wp2
      go_ret
      exact ⟨rfl, hb1⟩
    · have d1 : decide (1000 < (b.length : Int)) = false := by simp; omega
      obtain ⟨err, he, hb⟩ : ∃ e, invN x = ([], e) ∧ (e == 0) = false := by
        rcases h with h | h | h
        · exact absurd h h0
        · exact absurd h h1
        · exact h
      have HF := Lib.hid (fun p c W (h : IsInts W p x) => inv_any x p c (by omega) W h)
      rw [he] at HF
      unfold RRowE at HF
      dsimp only at HF
      have HZ := Lib.hid A0
      have hb2 : (err != 0) = true := by simp [bne, hb]
      clear h0 h1 h A0 A1 he
      go_enter Try.func8, Try.ntmps8
      go_wp2_with fail
      refine (alive11 _).mono ?_
      rintro e w1 ⟨rfl, hb1⟩
      have HZ1 := Lib.hid (HZ.out.1.keep hb1)
      go_wp2_with fail
      refine (HF.out _ _ _ HZ1.out).mono ?_
      rintro e w2 ⟨v, rfl, hO, hb2⟩
      obtain ⟨p, c, rfl, -⟩ := owns_any hO
      clear hO
      go_wp2
      go_ret
      exact ⟨rfl, hb1.trans (hb2.mono hb1.size)⟩

set_option maxRecDepth 100000 in
set_option maxHeartbeats 8000000 in
theorem sums_ok_256 (x b : List Int) (p0 p1 : Option Addr) (c0 c1 : Nat) (w : World) (A0 : IsArg w p0 c0 x) (A1 : IsArgK .i8 w p1 c1 b) (hb1000 : b.length ≤ 1000) (hx : x.length = 256) (hm : ∀ j, j < x.length → -268435455 ≤ x.getD j 0 ∧ x.getD j 0 ≤ 268435455) (hfx : invN x = (linesI x, 0)) :
    Calls Try.prog 8 #[.slice p0 256 c0, .slice p1 b.length c1] w fun e w' => e = .returned (.bool true) ∧ Below w.heap.size w w' := by
  obtain ⟨i0, hi, hz0, hz1, hz2⟩ := info_parts Try.infoInt
  have d1 : decide (1000 < (b.length : Int)) = false := by simp; omega
  have hb8 : ∀ j, j < b.length → -128 ≤ b.getD j 0 ∧ b.getD j 0 ≤ 127 := fun j hj => bounds_i8 (A1.2.2.2 (b.getD j 0) (by simp [List.getD_eq_getElem?_getD, hj]))
  have HF := Lib.hid (fun p c W (h : IsInts W p x) => inv_any x p c (by omega) W h)
  rw [hfx, hx] at HF
  have HG := Lib.hid (fun p c W (h : IsInts W p (oneR x b)) => inv_any (oneR x b) p c (by rw [oneR_len]; omega) W h)
  have HH := Lib.hid (fun p c W (h : IsInts W p (twoR x b)) => inv_any (twoR x b) p c (by rw [twoR_len]; omega) W h)
  rw [oneR_len, hx] at HG
  rw [twoR_len, hx] at HH
  unfold RRowE at HF HG HH
  dsimp only at HF
  have W1 := Lib.hid (inv_ways (oneR x b))
  have W2 := Lib.hid (inv_ways (twoR x b))
  have LY := Lib.hid (linesI_len 256 x hx)
  have L1 := Lib.hid (linesI_len 256 (oneR x b) (by rw [oneR_len]; exact hx))
  have L2 := Lib.hid (linesI_len 256 (twoR x b) (by rw [twoR_len]; exact hx))
  have AY := Lib.hid (fun k (hk : k < 512) => linesI_at 256 x hx k hk)
  have AO := Lib.hid (fun k (hk : k < 512) => linesI_at 256 (oneR x b) (by rw [oneR_len]; exact hx) k hk)
  have AT := Lib.hid (fun k (hk : k < 512) => linesI_at 256 (twoR x b) (by rw [twoR_len]; exact hx) k hk)
  have TT := Lib.hid (fun k => back_sums 256 x (oneR x b) (twoR x b) hx (by rw [oneR_len]; exact hx) (by rw [twoR_len]; exact hx) (fun j hj => one_two x b j (by omega)) k)
  have RY := Lib.hid (fun k => lineI_fit 256 (by decide) x hx hm k)
  have RO := Lib.hid (fun k => lineI_wide 256 (by decide) (oneR x b) (by rw [oneR_len]; exact hx) (fun j hj => (both_range x b hb8 hm j (by rw [oneR_len] at hj; exact hj)).1) k)
  have RT := Lib.hid (fun k => lineI_wide 256 (by decide) (twoR x b) (by rw [twoR_len]; exact hx) (fun j hj => (both_range x b hb8 hm j (by rw [twoR_len] at hj; exact hj)).2) k)
  have HM := Lib.hid hm
  have HXL := Lib.hid hx
  have HX := Lib.hid A0
  have HB := Lib.hid A1
  have E1 : Hid (oneR x b = (List.range 256).map (oneV x b)) := by show _ = _; unfold oneR; rw [hx]
  have E2 : Hid (twoR x b = (List.range 256).map (fun j => x.getD j 0 - oneV x b j)) := by show _ = _; unfold twoR; rw [hx]
  generalize linesI x = ly at *
  generalize lineI 256 x = fy at *
  clear A0 A1 hm hx hfx hb1000 hb8
  go_enter Try.func8, Try.ntmps8
  go_wp2_with fail
  refine (alive11 _).mono ?_
  rintro e w1 ⟨rfl, hb1⟩
  go_wp2_with fail
  refine (HF.out _ _ _ (HX.out.1.keep hb1)).mono ?_
  rintro e w2 ⟨v, rfl, hOx, hb2⟩
  obtain ⟨py, cy, rfl, Iy⟩ := owns_any hOx
  rw [LY.out]
  have HY := Lib.hid Iy
  have s1 := hb1.size
  have s2 := hb2.size
  have b2 := hb1.trans (hb2.mono hb1.size)
  clear hOx Iy hb1 hb2 HF
  go_wp2_with (at_make; refine wpList_make_full _ rfl _ _ 22 rfl w2.heap.size 3 i0 (.int .i64 0) 1 Try.underlying22 hi hz0 hz1 .i64 .i64 _ _ 256 rfl rfl ?hL ?hC ?b2 ?b3 ?b4 ?_)
  case hL => rfl
  case hC => rfl
  case b2 => rw [hz2]; decide
  case b3 => decide
  case b4 => exact Nat.le_refl _
  intro w3 hown0 hgrow
  have hbN : Below w2.heap.size w2 w3 := (Below.refl _ _).grown hgrow (by simp) (by simp)
  have hgN : w2.heap.size < w3.heap.size := (hown0.lt _ rfl).2
  have hown : w3.ownsRow w2.heap.size 3 1 (.slice (some ⟨w2.heap.size, 0, none⟩) 256 256) 256 (List.replicate 256 (.int .i64 0)) := by
    have e := toList_madeCells_one (.int .i64 0) 256
    rw [← e]; exact hown0
  clear hgrow hown0
  have HO : Hid (Spoil w3 (some ⟨w2.heap.size, 0, none⟩) 256 256 w2.heap.size w3.heap.size (List.replicate 256 (.int .i64 0))) := ⟨by simp, Nat.le_refl _, fun _ => ⟨_, rfl, Nat.le_refl _, hgN, hown⟩⟩
  have HY3 := Lib.hid (HY.out.keep hbN (Nat.le_refl _))
  have b3 := b2.trans (hbN.mono (by omega))
  have s3 := hgN
  clear hown hbN HY hgN
  go_wp2_with (at_make; refine wpList_make_full _ rfl _ _ 22 rfl w3.heap.size 3 i0 (.int .i64 0) 1 Try.underlying22 hi hz0 hz1 .i64 .i64 _ _ 256 rfl rfl ?hL ?hC ?b2 ?b3 ?b4 ?_)
  case hL => rfl
  case hC => rfl
  case b2 => rw [hz2]; decide
  case b3 => decide
  case b4 => exact Nat.le_refl _
  intro w4 hown0 hgrow
  have hbN : Below w3.heap.size w3 w4 := (Below.refl _ _).grown hgrow (by simp) (by simp)
  have hgN : w3.heap.size < w4.heap.size := (hown0.lt _ rfl).2
  have hown : w4.ownsRow w3.heap.size 3 1 (.slice (some ⟨w3.heap.size, 0, none⟩) 256 256) 256 (List.replicate 256 (.int .i64 0)) := by
    have e := toList_madeCells_one (.int .i64 0) 256
    rw [← e]; exact hown0
  clear hgrow hown0
  have HT : Hid (Spoil w4 (some ⟨w3.heap.size, 0, none⟩) 256 256 w3.heap.size w4.heap.size (List.replicate 256 (.int .i64 0))) := ⟨by simp, Nat.le_refl _, fun _ => ⟨_, rfl, Nat.le_refl _, hgN, hown⟩⟩
  have HY4 := Lib.hid (HY3.out.keep hbN (by omega))
  have HO4 := Lib.hid (HO.out.keep hbN (Nat.le_refl _))
  have b4 := b3.trans (hbN.mono (by omega))
  have s4 := hgN
  clear hown hbN HY3 HO hgN
  go_wp2
  go_loopw [10] (fun I wr => ∃ (k : Nat) (xs ys : List Value), I = .int .i64 k ∧ k ≤ 256 ∧ Hid (Spoil wr (some ⟨w2.heap.size, 0, none⟩) 256 256 w2.heap.size w3.heap.size xs) ∧ Hid (∀ j : Nat, j < k → xs[j]? = some (.int .i64 (oneV x b j))) ∧ Hid (Spoil wr (some ⟨w3.heap.size, 0, none⟩) 256 256 w3.heap.size w4.heap.size ys) ∧ Hid (∀ j : Nat, j < k → ys[j]? = some (.int .i64 (x.getD j 0 - oneV x b j))) ∧ Hid (IntsB wr py ly w1.heap.size w2.heap.size) ∧ Below w.heap.size w wr) (fun I _ => 256 - (intOf I).toNat)
  case atStart => exact ⟨0, _, _, rfl, by decide, HO4, Lib.hid (fun _ h => absurd h (Nat.not_lt_zero _)), HT, Lib.hid (fun _ h => absurd h (Nat.not_lt_zero _)), HY4, b4⟩
  case round =>
    obtain ⟨k, xs, ys, rfl, hk, kO, hxs, kT, hys, kY, hbw⟩ := hrel
    clear HO4 HT HY4 b4
    by_cases hlt : k < 256
    · obtain ⟨g, hgp, hg1, hg2, hc, hf, hnext⟩ := kO.out.at hlt
      obtain rfl : w2.heap.size = g := by simpa using hgp
      have hlx := kO.out.1
      obtain ⟨v0, hv0⟩ : ∃ v0, xs[k]? = some v0 := ⟨_, List.getElem?_eq_getElem (by omega)⟩
      rw [hv0] at hc
      clear hv0
      obtain ⟨bx, ox, rfl, h1⟩ := (HX.out.1.keep hbw).inB.at (j := k) (by rw [HXL.out]; exact hlt)
      obtain ⟨q1, q2⟩ := HM.out k (by rw [HXL.out]; exact hlt)
      have hov : Hid (oneV x b k = (x.getD k 0).tdiv 2 + (if k < b.length then b.getD k 0 else 0)) := rfl
      have htv : Hid ((fun j => x.getD j 0 - oneV x b j) k = x.getD k 0 - oneV x b k) := rfl
      obtain ⟨t1, t2⟩ := half_range _ q1 q2
      obtain ⟨u, hu⟩ : ∃ u, x.getD k 0 = u := ⟨_, rfl⟩
      rw [hu] at h1 q1 q2 hov htv t1 t2
      have hxu := Lib.hid hu
      clear hu
      obtain ⟨h, hh⟩ : ∃ h, u.tdiv 2 = h := ⟨_, rfl⟩
      rw [hh] at t1 t2 hov
      have kO2 := Lib.hid (hnext (.int .i64 h))
      have kT2 := Lib.hid (kT.out.apart ⟨w2.heap.size, k, none⟩ (.int .i64 h) (.inl (by show w2.heap.size < w3.heap.size; omega)))
      have kY2 := Lib.hid (kY.out.setCell ⟨w2.heap.size, k, none⟩ (.int .i64 h) (.inr (Nat.le_refl _)))
      have hb2 := hbw.setCell (p := ⟨w2.heap.size, k, none⟩) (show w.heap.size ≤ w2.heap.size by omega) (.int .i64 h)
      clear kT kY hbw hnext hgp kO
      by_cases hkb : k < b.length
      · have hov2 : Hid (oneV x b k = h + b.getD k 0) := by have := hov.out; rw [if_pos hkb] at this; exact this
        obtain ⟨bb, ob, rfl, _, h2⟩ := (HB.out.keep hb2).at hkb
        have hwf := bounds_i8 (HB.out.2.2.2 (b.getD k 0) (by simp [List.getD_eq_getElem?_getD, hkb]))
        generalize b.getD k 0 = y at h2 hwf hov2
        obtain ⟨y1, y2⟩ := hwf
        go_wp2_with fail
        obtain ⟨wq, hwq⟩ : ∃ wq, wr.setCell ⟨w2.heap.size, k, none⟩ (.int .i64 h) = wq := ⟨_, rfl⟩
        rw [hwq] at kO2 kT2 kY2 hb2 h2 ⊢
        clear hwq hc hf h1
        obtain ⟨g, hgp, hg1', hg2', hc, hf, hnext⟩ := kO2.out.at hlt
        obtain rfl : w2.heap.size = g := by simpa using hgp
        rw [List.getElem?_set_self (by omega)] at hc
        have kO3 := Lib.hid (hnext (.int .i64 (h + y)))
        clear hgp hnext
        have e1 : IntKind.i64.wrap (h + y) = h + y := IntWalk.i64_in _ (by omega)
        go_still_tail 13, (by kernel_rfl)
        change wpList _ _ _ _ _ wq.drew
        obtain ⟨w4q, hw4q⟩ : ∃ w4q, wq.drew = w4q := ⟨_, rfl⟩
        have kO4 := (show Spoil wq.drew _ _ _ _ _ _ from kO2.out)
        rw [hw4q] at kO4
        have kT4 := (show Spoil wq.drew _ _ _ _ _ _ from kT2.out)
        rw [hw4q] at kT4
        have kY4 := (show IntsB wq.drew _ _ _ _ from kY2.out)
        rw [hw4q] at kY4
        have hb4 := hb2.drew
        rw [hw4q] at hb4
        rw [hw4q]
        clear hw4q hc hf h2 kO2 kT2 kY2 hb2 kO3
        obtain ⟨g, hgp, hg1', hg2', hc, hf, hnext⟩ := kO4.at hlt
        obtain rfl : w2.heap.size = g := by simpa using hgp
        rw [List.getElem?_set_self (by omega)] at hc
        have kO5 := Lib.hid (hnext (.int .i64 (h + y)))
        have kT5 := Lib.hid (kT4.apart ⟨w2.heap.size, k, none⟩ (.int .i64 (h + y)) (.inl (by show w2.heap.size < w3.heap.size; omega)))
        have kY5 := Lib.hid (kY4.setCell ⟨w2.heap.size, k, none⟩ (.int .i64 (h + y)) (.inr (Nat.le_refl _)))
        have hb5 := hb4.setCell (p := ⟨w2.heap.size, k, none⟩) (show w.heap.size ≤ w2.heap.size by omega) (.int .i64 (h + y))
        clear hgp hnext kO4 kT4 kY4 hb4
        go_wp2_with fail
        obtain ⟨w5, hw5⟩ : ∃ w5, w4q.setCell ⟨w2.heap.size, k, none⟩ (.int .i64 (h + y)) = w5 := ⟨_, rfl⟩
        rw [hw5] at kO5 kT5 kY5 hb5 ⊢
        clear hw5 hc hf
        obtain ⟨g, hgp, hg1', hg2', hc, hf, hnext⟩ := kO5.out.at hlt
        obtain rfl : w2.heap.size = g := by simpa using hgp
        rw [List.getElem?_set_self (by simp; omega)] at hc
        clear hgp hnext hf
        obtain ⟨g, hgp, hg1', hg2', hc2, hf2, hnext⟩ := kT5.out.at hlt
        obtain rfl : w3.heap.size = g := by simpa using hgp
        obtain ⟨v0, hv0⟩ : ∃ v0, ys[k]? = some v0 := ⟨_, List.getElem?_eq_getElem (by have := kT5.out.1; omega)⟩
        rw [hv0] at hc2
        clear hv0 hgp
        obtain ⟨bx2, ox2, hpx, h1⟩ := (HX.out.1.keep hb5).inB.at (j := k) (by rw [HXL.out]; exact hlt)
        obtain ⟨rfl, rfl⟩ : bx = bx2 ∧ ox = ox2 := by simpa using hpx
        rw [hxu.out] at h1
        have e2 : IntKind.i64.wrap (u - (h + y)) = u - (h + y) := IntWalk.i64_in _ (by omega)
        go_wp2_with fail
        go_still_tail 12, (by kernel_rfl)
        change wpList _ _ _ _ _ w5.drew
        obtain ⟨w6, hw6⟩ : ∃ w6, w5.drew = w6 := ⟨_, rfl⟩
        have kO6 := (show Spoil w5.drew _ _ _ _ _ _ from kO5.out)
        rw [hw6] at kO6
        have kO6 := Lib.hid kO6
        have kT6 := (show Spoil w5.drew _ _ _ _ _ _ from kT5.out)
        rw [hw6] at kT6
        have kY6 := (show IntsB w5.drew _ _ _ _ from kY5.out)
        rw [hw6] at kY6
        have kY6 := Lib.hid kY6
        have hb6 := hb5.drew
        rw [hw6] at hb6
        rw [hw6]
        clear hw6 hc hc2 hf2 hnext kO5 kT5 kY5 hb5 h1
        obtain ⟨g, hgp, hg1', hg2', hc2, hf2, hnext⟩ := kT6.at hlt
        obtain rfl : w3.heap.size = g := by simpa using hgp
        obtain ⟨v0, hv0⟩ : ∃ v0, ys[k]? = some v0 := ⟨_, List.getElem?_eq_getElem (by have := kT6.1; omega)⟩
        rw [hv0] at hc2
        clear hv0 hgp
        have kT7 := Lib.hid (hnext (.int .i64 (u - (h + y))))
        have kO7 := Lib.hid (kO6.out.apart ⟨w3.heap.size, k, none⟩ (.int .i64 (u - (h + y))) (.inr (Nat.le_refl _)))
        have kY7 := Lib.hid (kY6.out.setCell ⟨w3.heap.size, k, none⟩ (.int .i64 (u - (h + y))) (.inr (by show _ ≤ w3.heap.size; omega)))
        have hb7 := hb6.setCell (p := ⟨w3.heap.size, k, none⟩) (show w.heap.size ≤ w3.heap.size by omega) (.int .i64 (u - (h + y)))
        have hxs2 := Lib.hid (fill_step2 (u := .int .i64 h) (f := oneV x b) hlx hlt hxs.out (v := (h + y)) hov2.out)
        have hys2 := Lib.hid (fill_step (f := fun j => x.getD j 0 - oneV x b j) kT6.1 hlt hys.out (v := u - (h + y)) (by rw [htv.out, hov2.out]))
        clear kT6 kO6 kY6 hb6 hxs hys hnext hlx
        go_wp2
        exact ⟨⟨k + 1, _, _, by go_num, by omega, kO7, hxs2, kT7, hys2, kY7, hb7⟩, by simp [intOf]; omega⟩
      · have hov2 : Hid (oneV x b k = h) := by have := hov.out; rw [if_neg hkb, Int.add_zero] at this; exact this
        go_wp2_with fail
        obtain ⟨w5, hw5⟩ : ∃ w5, wr.setCell ⟨w2.heap.size, k, none⟩ (.int .i64 h) = w5 := ⟨_, rfl⟩
        rw [hw5] at kO2 kT2 kY2 hb2 ⊢
        clear hw5 hc hf h1
        have kO5 := kO2
        have kT5 := kT2
        have kY5 := kY2
        have hb5 := hb2
        clear kO2 kT2 kY2 hb2
        obtain ⟨g, hgp, hg1', hg2', hc, hf, hnext⟩ := kO5.out.at hlt
        obtain rfl : w2.heap.size = g := by simpa using hgp
        rw [List.getElem?_set_self (by omega)] at hc
        clear hgp hnext hf
        obtain ⟨g, hgp, hg1', hg2', hc2, hf2, hnext⟩ := kT5.out.at hlt
        obtain rfl : w3.heap.size = g := by simpa using hgp
        obtain ⟨v0, hv0⟩ : ∃ v0, ys[k]? = some v0 := ⟨_, List.getElem?_eq_getElem (by have := kT5.out.1; omega)⟩
        rw [hv0] at hc2
        clear hv0 hgp
        obtain ⟨bx2, ox2, hpx, h1⟩ := (HX.out.1.keep hb5).inB.at (j := k) (by rw [HXL.out]; exact hlt)
        obtain ⟨rfl, rfl⟩ : bx = bx2 ∧ ox = ox2 := by simpa using hpx
        rw [hxu.out] at h1
        have e2 : IntKind.i64.wrap (u - h) = u - h := IntWalk.i64_in _ (by omega)
        go_wp2_with fail
        go_still_tail 12, (by kernel_rfl)
        change wpList _ _ _ _ _ w5.drew
        obtain ⟨w6, hw6⟩ : ∃ w6, w5.drew = w6 := ⟨_, rfl⟩
        have kO6 := (show Spoil w5.drew _ _ _ _ _ _ from kO5.out)
        rw [hw6] at kO6
        have kO6 := Lib.hid kO6
        have kT6 := (show Spoil w5.drew _ _ _ _ _ _ from kT5.out)
        rw [hw6] at kT6
        have kY6 := (show IntsB w5.drew _ _ _ _ from kY5.out)
        rw [hw6] at kY6
        have kY6 := Lib.hid kY6
        have hb6 := hb5.drew
        rw [hw6] at hb6
        rw [hw6]
        clear hw6 hc hc2 hf2 hnext kO5 kT5 kY5 hb5 h1
        obtain ⟨g, hgp, hg1', hg2', hc2, hf2, hnext⟩ := kT6.at hlt
        obtain rfl : w3.heap.size = g := by simpa using hgp
        obtain ⟨v0, hv0⟩ : ∃ v0, ys[k]? = some v0 := ⟨_, List.getElem?_eq_getElem (by have := kT6.1; omega)⟩
        rw [hv0] at hc2
        clear hv0 hgp
        have kT7 := Lib.hid (hnext (.int .i64 (u - h)))
        have kO7 := Lib.hid (kO6.out.apart ⟨w3.heap.size, k, none⟩ (.int .i64 (u - h)) (.inr (Nat.le_refl _)))
        have kY7 := Lib.hid (kY6.out.setCell ⟨w3.heap.size, k, none⟩ (.int .i64 (u - h)) (.inr (by show _ ≤ w3.heap.size; omega)))
        have hb7 := hb6.setCell (p := ⟨w3.heap.size, k, none⟩) (show w.heap.size ≤ w3.heap.size by omega) (.int .i64 (u - h))
        have hxs2 := Lib.hid (fill_step (f := oneV x b) hlx hlt hxs.out (v := h) hov2.out)
        have hys2 := Lib.hid (fill_step (f := fun j => x.getD j 0 - oneV x b j) kT6.1 hlt hys.out (v := u - h) (by rw [htv.out, hov2.out]))
        clear kT6 kO6 kY6 hb6 hxs hys hnext hlx
        go_wp2
        exact ⟨⟨k + 1, _, _, by go_num, by omega, kO7, hxs2, kT7, hys2, kY7, hb7⟩, by simp [intOf]; omega⟩
    · have hkn : k = 256 := by omega
      subst hkn
      have hxe := fill_eq (f := oneV x b) kO.out.1 hxs.out
      have hye := fill_eq (f := fun j => x.getD j 0 - oneV x b j) kT.out.1 hys.out
      rw [← E1.out] at hxe
      rw [← E2.out] at hye
      rw [hxe] at kO
      rw [hye] at kT
      have kOI := Lib.hid kO.out.ints
      have kTI := Lib.hid kT.out.ints
      have s7 := kT.out.2.1
      clear hxs hys hxe hye kO kT
      obtain ⟨la, ea, hia, hwa⟩ : ∃ la ea, invN (oneR x b) = (la, ea) ∧ ((ea == 0) = false ∨ (ea = 0 ∧ la = linesI (oneR x b))) := by
        rcases W1.out with ⟨_, _, _, _, h⟩ | ⟨e, h, he⟩
        · exact ⟨_, _, h, .inr ⟨rfl, rfl⟩⟩
        · exact ⟨_, _, h, .inl he⟩
      obtain ⟨lb, eb, hib, hwb⟩ : ∃ lb eb, invN (twoR x b) = (lb, eb) ∧ ((eb == 0) = false ∨ (eb = 0 ∧ lb = linesI (twoR x b))) := by
        rcases W2.out with ⟨_, _, _, _, h⟩ | ⟨e, h, he⟩
        · exact ⟨_, _, h, .inr ⟨rfl, rfl⟩⟩
        · exact ⟨_, _, h, .inl he⟩
      rw [hia] at HG
      rw [hib] at HH
      dsimp only at HG HH
      have HWA := Lib.hid hwa
      have HWB := Lib.hid hwb
      clear hia hib hwa hwb W1 W2
      go_wp2_with fail
      refine (HG.out _ _ _ kOI.out.ints).mono ?_
      rintro e w5 ⟨va, rfl, hOa, hb5⟩
      obtain ⟨pa, ca, rfl, Ia⟩ := owns_any hOa
      have HIa := Lib.hid Ia
      have kTJ := Lib.hid (kTI.out.keep hb5 s7)
      have kY5 := Lib.hid (kY.out.keep hb5 (by omega))
      have b5 := hbw.trans (hb5.mono (by omega))
      have s8 := hb5.size
      clear hOa Ia hb5 kTI kOI kY hbw HG
      go_wp2_with fail
      refine (HH.out _ _ _ kTJ.out.ints).mono ?_
      rintro e w6 ⟨vb, rfl, hOb, hb6⟩
      obtain ⟨pb, cb, rfl, Ib⟩ := owns_any hOb
      have HIb := Lib.hid Ib
      have HIa6 := Lib.hid (HIa.out.keep hb6 (Nat.le_refl _))
      have kY6 := Lib.hid (kY5.out.keep hb6 (by omega))
      have b6 := b5.trans (hb6.mono (by omega))
      clear hOb Ib hb6 kTJ HIa kY5 b5 HH
      rcases HWA.out with ha | ⟨rfl, rfl⟩
      · have ha2 : (ea != 0) = true := by simp [bne, ha]
        go_wp2
        go_ret
        exact ⟨rfl, b6⟩
      · rcases HWB.out with hb | ⟨rfl, rfl⟩
        · have hb2 : (eb != 0) = true := by simp [bne, hb]
          go_wp2
          go_ret
          exact ⟨rfl, b6⟩
        · clear HWA HWB
          rw [L1.out, L2.out]
          go_wp2
          go_loopw [15] (fun I wq => ∃ k m : Nat, I = .int .i64 k ∧ k ≤ 512 ∧ wq = w6.drewN m) (fun I _ => 512 - (intOf I).toNat)
          case atStart => exact ⟨0, 0, rfl, by decide, rfl⟩
          case round =>
            obtain ⟨k, m, rfl, hk, rfl⟩ := hrel
            by_cases hlt : k < 512
            · obtain ⟨g1, o1, rfl, h1⟩ := kY6.out.at (j := k) (by rw [LY.out]; exact hlt)
              obtain ⟨g2, o2, rfl, h2⟩ := HIa6.out.at (j := k) (by rw [L1.out]; exact hlt)
              obtain ⟨g3, o3, rfl, h3⟩ := HIb.out.at (j := k) (by rw [L2.out]; exact hlt)
              rw [AY.out k hlt] at h1
              rw [AO.out k hlt] at h2
              rw [AT.out k hlt] at h3
              obtain ⟨t1, t2⟩ := TT.out k
              obtain ⟨r1, r2⟩ := RY.out k
              have RA := RO.out k
              have RB := RT.out k
              obtain ⟨r3, r4⟩ := RA
              obtain ⟨r5, r6⟩ := RB
              generalize fy k = y1 at h1 t1 t2 r1 r2
              generalize lineI 256 (oneR x b) k = y2 at h2 t1 t2 r3 r4
              generalize lineI 256 (twoR x b) k = y3 at h3 t1 t2 r5 r6
              have e1 : IntKind.i64.wrap (y2 + y3) = y2 + y3 := IntWalk.i64_in _ (by omega)
              have e2 : IntKind.i64.wrap (y2 + y3 - y1) = y2 + y3 - y1 := IntWalk.i64_in _ (by omega)
              have d4 : decide (1 < y2 + y3 - y1) = false := by simp; omega
              have d5 : decide (y2 + y3 - y1 < -1) = false := by simp; omega
              clear kY6 HIa6 HIb LY L1 L2 AY AO AT TT RY t1 t2
              go_wp2
              go_quiet (fail)
              go_wp2
              exact ⟨⟨k + 1, _, by go_num, hlt, rfl⟩, by simp [intOf]; omega⟩
            · go_wp2
              go_ret
              exact ⟨rfl, below_drewN b6 _⟩

set_option maxRecDepth 100000 in
set_option maxHeartbeats 8000000 in
theorem sums_ok_32 (x b : List Int) (p0 p1 : Option Addr) (c0 c1 : Nat) (w : World) (A0 : IsArg w p0 c0 x) (A1 : IsArgK .i8 w p1 c1 b) (hb1000 : b.length ≤ 1000) (hx : x.length = 32) (hm : ∀ j, j < x.length → -268435455 ≤ x.getD j 0 ∧ x.getD j 0 ≤ 268435455) (hfx : invN x = (linesI x, 0)) :
    Calls Try.prog 8 #[.slice p0 32 c0, .slice p1 b.length c1] w fun e w' => e = .returned (.bool true) ∧ Below w.heap.size w w' := by
  obtain ⟨i0, hi, hz0, hz1, hz2⟩ := info_parts Try.infoInt
  have d1 : decide (1000 < (b.length : Int)) = false := by simp; omega
  have hb8 : ∀ j, j < b.length → -128 ≤ b.getD j 0 ∧ b.getD j 0 ≤ 127 := fun j hj => bounds_i8 (A1.2.2.2 (b.getD j 0) (by simp [List.getD_eq_getElem?_getD, hj]))
  have HF := Lib.hid (fun p c W (h : IsInts W p x) => inv_any x p c (by omega) W h)
  rw [hfx, hx] at HF
  have HG := Lib.hid (fun p c W (h : IsInts W p (oneR x b)) => inv_any (oneR x b) p c (by rw [oneR_len]; omega) W h)
  have HH := Lib.hid (fun p c W (h : IsInts W p (twoR x b)) => inv_any (twoR x b) p c (by rw [twoR_len]; omega) W h)
  rw [oneR_len, hx] at HG
  rw [twoR_len, hx] at HH
  unfold RRowE at HF HG HH
  dsimp only at HF
  have W1 := Lib.hid (inv_ways (oneR x b))
  have W2 := Lib.hid (inv_ways (twoR x b))
  have LY := Lib.hid (linesI_len 32 x hx)
  have L1 := Lib.hid (linesI_len 32 (oneR x b) (by rw [oneR_len]; exact hx))
  have L2 := Lib.hid (linesI_len 32 (twoR x b) (by rw [twoR_len]; exact hx))
  have AY := Lib.hid (fun k (hk : k < 64) => linesI_at 32 x hx k hk)
  have AO := Lib.hid (fun k (hk : k < 64) => linesI_at 32 (oneR x b) (by rw [oneR_len]; exact hx) k hk)
  have AT := Lib.hid (fun k (hk : k < 64) => linesI_at 32 (twoR x b) (by rw [twoR_len]; exact hx) k hk)
  have TT := Lib.hid (fun k => back_sums 32 x (oneR x b) (twoR x b) hx (by rw [oneR_len]; exact hx) (by rw [twoR_len]; exact hx) (fun j hj => one_two x b j (by omega)) k)
  have RY := Lib.hid (fun k => lineI_fit 32 (by decide) x hx hm k)
  have RO := Lib.hid (fun k => lineI_wide 32 (by decide) (oneR x b) (by rw [oneR_len]; exact hx) (fun j hj => (both_range x b hb8 hm j (by rw [oneR_len] at hj; exact hj)).1) k)
  have RT := Lib.hid (fun k => lineI_wide 32 (by decide) (twoR x b) (by rw [twoR_len]; exact hx) (fun j hj => (both_range x b hb8 hm j (by rw [twoR_len] at hj; exact hj)).2) k)
  have HM := Lib.hid hm
  have HXL := Lib.hid hx
  have HX := Lib.hid A0
  have HB := Lib.hid A1
  have E1 : Hid (oneR x b = (List.range 32).map (oneV x b)) := by show _ = _; unfold oneR; rw [hx]
  have E2 : Hid (twoR x b = (List.range 32).map (fun j => x.getD j 0 - oneV x b j)) := by show _ = _; unfold twoR; rw [hx]
  generalize linesI x = ly at *
  generalize lineI 32 x = fy at *
  clear A0 A1 hm hx hfx hb1000 hb8
  go_enter Try.func8, Try.ntmps8
  go_wp2_with fail
  refine (alive11 _).mono ?_
  rintro e w1 ⟨rfl, hb1⟩
  go_wp2_with fail
  refine (HF.out _ _ _ (HX.out.1.keep hb1)).mono ?_
  rintro e w2 ⟨v, rfl, hOx, hb2⟩
  obtain ⟨py, cy, rfl, Iy⟩ := owns_any hOx
  rw [LY.out]
  have HY := Lib.hid Iy
  have s1 := hb1.size
  have s2 := hb2.size
  have b2 := hb1.trans (hb2.mono hb1.size)
  clear hOx Iy hb1 hb2 HF
  go_wp2_with (at_make; refine wpList_make_full _ rfl _ _ 22 rfl w2.heap.size 3 i0 (.int .i64 0) 1 Try.underlying22 hi hz0 hz1 .i64 .i64 _ _ 32 rfl rfl ?hL ?hC ?b2 ?b3 ?b4 ?_)
  case hL => rfl
  case hC => rfl
  case b2 => rw [hz2]; decide
  case b3 => decide
  case b4 => exact Nat.le_refl _
  intro w3 hown0 hgrow
  have hbN : Below w2.heap.size w2 w3 := (Below.refl _ _).grown hgrow (by simp) (by simp)
  have hgN : w2.heap.size < w3.heap.size := (hown0.lt _ rfl).2
  have hown : w3.ownsRow w2.heap.size 3 1 (.slice (some ⟨w2.heap.size, 0, none⟩) 32 32) 32 (List.replicate 32 (.int .i64 0)) := by
    have e := toList_madeCells_one (.int .i64 0) 32
    rw [← e]; exact hown0
  clear hgrow hown0
  have HO : Hid (Spoil w3 (some ⟨w2.heap.size, 0, none⟩) 32 32 w2.heap.size w3.heap.size (List.replicate 32 (.int .i64 0))) := ⟨by simp, Nat.le_refl _, fun _ => ⟨_, rfl, Nat.le_refl _, hgN, hown⟩⟩
  have HY3 := Lib.hid (HY.out.keep hbN (Nat.le_refl _))
  have b3 := b2.trans (hbN.mono (by omega))
  have s3 := hgN
  clear hown hbN HY hgN
  go_wp2_with (at_make; refine wpList_make_full _ rfl _ _ 22 rfl w3.heap.size 3 i0 (.int .i64 0) 1 Try.underlying22 hi hz0 hz1 .i64 .i64 _ _ 32 rfl rfl ?hL ?hC ?b2 ?b3 ?b4 ?_)
  case hL => rfl
  case hC => rfl
  case b2 => rw [hz2]; decide
  case b3 => decide
  case b4 => exact Nat.le_refl _
  intro w4 hown0 hgrow
  have hbN : Below w3.heap.size w3 w4 := (Below.refl _ _).grown hgrow (by simp) (by simp)
  have hgN : w3.heap.size < w4.heap.size := (hown0.lt _ rfl).2
  have hown : w4.ownsRow w3.heap.size 3 1 (.slice (some ⟨w3.heap.size, 0, none⟩) 32 32) 32 (List.replicate 32 (.int .i64 0)) := by
    have e := toList_madeCells_one (.int .i64 0) 32
    rw [← e]; exact hown0
  clear hgrow hown0
  have HT : Hid (Spoil w4 (some ⟨w3.heap.size, 0, none⟩) 32 32 w3.heap.size w4.heap.size (List.replicate 32 (.int .i64 0))) := ⟨by simp, Nat.le_refl _, fun _ => ⟨_, rfl, Nat.le_refl _, hgN, hown⟩⟩
  have HY4 := Lib.hid (HY3.out.keep hbN (by omega))
  have HO4 := Lib.hid (HO.out.keep hbN (Nat.le_refl _))
  have b4 := b3.trans (hbN.mono (by omega))
  have s4 := hgN
  clear hown hbN HY3 HO hgN
  go_wp2
  go_loopw [10] (fun I wr => ∃ (k : Nat) (xs ys : List Value), I = .int .i64 k ∧ k ≤ 32 ∧ Hid (Spoil wr (some ⟨w2.heap.size, 0, none⟩) 32 32 w2.heap.size w3.heap.size xs) ∧ Hid (∀ j : Nat, j < k → xs[j]? = some (.int .i64 (oneV x b j))) ∧ Hid (Spoil wr (some ⟨w3.heap.size, 0, none⟩) 32 32 w3.heap.size w4.heap.size ys) ∧ Hid (∀ j : Nat, j < k → ys[j]? = some (.int .i64 (x.getD j 0 - oneV x b j))) ∧ Hid (IntsB wr py ly w1.heap.size w2.heap.size) ∧ Below w.heap.size w wr) (fun I _ => 32 - (intOf I).toNat)
  case atStart => exact ⟨0, _, _, rfl, by decide, HO4, Lib.hid (fun _ h => absurd h (Nat.not_lt_zero _)), HT, Lib.hid (fun _ h => absurd h (Nat.not_lt_zero _)), HY4, b4⟩
  case round =>
    obtain ⟨k, xs, ys, rfl, hk, kO, hxs, kT, hys, kY, hbw⟩ := hrel
    clear HO4 HT HY4 b4
    by_cases hlt : k < 32
    · obtain ⟨g, hgp, hg1, hg2, hc, hf, hnext⟩ := kO.out.at hlt
      obtain rfl : w2.heap.size = g := by simpa using hgp
      have hlx := kO.out.1
      obtain ⟨v0, hv0⟩ : ∃ v0, xs[k]? = some v0 := ⟨_, List.getElem?_eq_getElem (by omega)⟩
      rw [hv0] at hc
      clear hv0
      obtain ⟨bx, ox, rfl, h1⟩ := (HX.out.1.keep hbw).inB.at (j := k) (by rw [HXL.out]; exact hlt)
      obtain ⟨q1, q2⟩ := HM.out k (by rw [HXL.out]; exact hlt)
      have hov : Hid (oneV x b k = (x.getD k 0).tdiv 2 + (if k < b.length then b.getD k 0 else 0)) := rfl
      have htv : Hid ((fun j => x.getD j 0 - oneV x b j) k = x.getD k 0 - oneV x b k) := rfl
      obtain ⟨t1, t2⟩ := half_range _ q1 q2
      obtain ⟨u, hu⟩ : ∃ u, x.getD k 0 = u := ⟨_, rfl⟩
      rw [hu] at h1 q1 q2 hov htv t1 t2
      have hxu := Lib.hid hu
      clear hu
      obtain ⟨h, hh⟩ : ∃ h, u.tdiv 2 = h := ⟨_, rfl⟩
      rw [hh] at t1 t2 hov
      have kO2 := Lib.hid (hnext (.int .i64 h))
      have kT2 := Lib.hid (kT.out.apart ⟨w2.heap.size, k, none⟩ (.int .i64 h) (.inl (by show w2.heap.size < w3.heap.size; omega)))
      have kY2 := Lib.hid (kY.out.setCell ⟨w2.heap.size, k, none⟩ (.int .i64 h) (.inr (Nat.le_refl _)))
      have hb2 := hbw.setCell (p := ⟨w2.heap.size, k, none⟩) (show w.heap.size ≤ w2.heap.size by omega) (.int .i64 h)
      clear kT kY hbw hnext hgp kO
      by_cases hkb : k < b.length
      · have hov2 : Hid (oneV x b k = h + b.getD k 0) := by have := hov.out; rw [if_pos hkb] at this; exact this
        obtain ⟨bb, ob, rfl, _, h2⟩ := (HB.out.keep hb2).at hkb
        have hwf := bounds_i8 (HB.out.2.2.2 (b.getD k 0) (by simp [List.getD_eq_getElem?_getD, hkb]))
        generalize b.getD k 0 = y at h2 hwf hov2
        obtain ⟨y1, y2⟩ := hwf
        go_wp2_with fail
        obtain ⟨wq, hwq⟩ : ∃ wq, wr.setCell ⟨w2.heap.size, k, none⟩ (.int .i64 h) = wq := ⟨_, rfl⟩
        rw [hwq] at kO2 kT2 kY2 hb2 h2 ⊢
        clear hwq hc hf h1
        obtain ⟨g, hgp, hg1', hg2', hc, hf, hnext⟩ := kO2.out.at hlt
        obtain rfl : w2.heap.size = g := by simpa using hgp
        rw [List.getElem?_set_self (by omega)] at hc
        have kO3 := Lib.hid (hnext (.int .i64 (h + y)))
        clear hgp hnext
        have e1 : IntKind.i64.wrap (h + y) = h + y := IntWalk.i64_in _ (by omega)
        go_still_tail 13, (by kernel_rfl)
        change wpList _ _ _ _ _ wq.drew
        obtain ⟨w4q, hw4q⟩ : ∃ w4q, wq.drew = w4q := ⟨_, rfl⟩
        have kO4 := (show Spoil wq.drew _ _ _ _ _ _ from kO2.out)
        rw [hw4q] at kO4
        have kT4 := (show Spoil wq.drew _ _ _ _ _ _ from kT2.out)
        rw [hw4q] at kT4
        have kY4 := (show IntsB wq.drew _ _ _ _ from kY2.out)
        rw [hw4q] at kY4
        have hb4 := hb2.drew
        rw [hw4q] at hb4
        rw [hw4q]
        clear hw4q hc hf h2 kO2 kT2 kY2 hb2 kO3
        obtain ⟨g, hgp, hg1', hg2', hc, hf, hnext⟩ := kO4.at hlt
        obtain rfl : w2.heap.size = g := by simpa using hgp
        rw [List.getElem?_set_self (by omega)] at hc
        have kO5 := Lib.hid (hnext (.int .i64 (h + y)))
        have kT5 := Lib.hid (kT4.apart ⟨w2.heap.size, k, none⟩ (.int .i64 (h + y)) (.inl (by show w2.heap.size < w3.heap.size; omega)))
        have kY5 := Lib.hid (kY4.setCell ⟨w2.heap.size, k, none⟩ (.int .i64 (h + y)) (.inr (Nat.le_refl _)))
        have hb5 := hb4.setCell (p := ⟨w2.heap.size, k, none⟩) (show w.heap.size ≤ w2.heap.size by omega) (.int .i64 (h + y))
        clear hgp hnext kO4 kT4 kY4 hb4
        go_wp2_with fail
        obtain ⟨w5, hw5⟩ : ∃ w5, w4q.setCell ⟨w2.heap.size, k, none⟩ (.int .i64 (h + y)) = w5 := ⟨_, rfl⟩
        rw [hw5] at kO5 kT5 kY5 hb5 ⊢
        clear hw5 hc hf
        obtain ⟨g, hgp, hg1', hg2', hc, hf, hnext⟩ := kO5.out.at hlt
        obtain rfl : w2.heap.size = g := by simpa using hgp
        rw [List.getElem?_set_self (by simp; omega)] at hc
        clear hgp hnext hf
        obtain ⟨g, hgp, hg1', hg2', hc2, hf2, hnext⟩ := kT5.out.at hlt
        obtain rfl : w3.heap.size = g := by simpa using hgp
        obtain ⟨v0, hv0⟩ : ∃ v0, ys[k]? = some v0 := ⟨_, List.getElem?_eq_getElem (by have := kT5.out.1; omega)⟩
        rw [hv0] at hc2
        clear hv0 hgp
        obtain ⟨bx2, ox2, hpx, h1⟩ := (HX.out.1.keep hb5).inB.at (j := k) (by rw [HXL.out]; exact hlt)
        obtain ⟨rfl, rfl⟩ : bx = bx2 ∧ ox = ox2 := by simpa using hpx
        rw [hxu.out] at h1
        have e2 : IntKind.i64.wrap (u - (h + y)) = u - (h + y) := IntWalk.i64_in _ (by omega)
        go_wp2_with fail
        go_still_tail 12, (by kernel_rfl)
        change wpList _ _ _ _ _ w5.drew
        obtain ⟨w6, hw6⟩ : ∃ w6, w5.drew = w6 := ⟨_, rfl⟩
        have kO6 := (show Spoil w5.drew _ _ _ _ _ _ from kO5.out)
        rw [hw6] at kO6
        have kO6 := Lib.hid kO6
        have kT6 := (show Spoil w5.drew _ _ _ _ _ _ from kT5.out)
        rw [hw6] at kT6
        have kY6 := (show IntsB w5.drew _ _ _ _ from kY5.out)
        rw [hw6] at kY6
        have kY6 := Lib.hid kY6
        have hb6 := hb5.drew
        rw [hw6] at hb6
        rw [hw6]
        clear hw6 hc hc2 hf2 hnext kO5 kT5 kY5 hb5 h1
        obtain ⟨g, hgp, hg1', hg2', hc2, hf2, hnext⟩ := kT6.at hlt
        obtain rfl : w3.heap.size = g := by simpa using hgp
        obtain ⟨v0, hv0⟩ : ∃ v0, ys[k]? = some v0 := ⟨_, List.getElem?_eq_getElem (by have := kT6.1; omega)⟩
        rw [hv0] at hc2
        clear hv0 hgp
        have kT7 := Lib.hid (hnext (.int .i64 (u - (h + y))))
        have kO7 := Lib.hid (kO6.out.apart ⟨w3.heap.size, k, none⟩ (.int .i64 (u - (h + y))) (.inr (Nat.le_refl _)))
        have kY7 := Lib.hid (kY6.out.setCell ⟨w3.heap.size, k, none⟩ (.int .i64 (u - (h + y))) (.inr (by show _ ≤ w3.heap.size; omega)))
        have hb7 := hb6.setCell (p := ⟨w3.heap.size, k, none⟩) (show w.heap.size ≤ w3.heap.size by omega) (.int .i64 (u - (h + y)))
        have hxs2 := Lib.hid (fill_step2 (u := .int .i64 h) (f := oneV x b) hlx hlt hxs.out (v := (h + y)) hov2.out)
        have hys2 := Lib.hid (fill_step (f := fun j => x.getD j 0 - oneV x b j) kT6.1 hlt hys.out (v := u - (h + y)) (by rw [htv.out, hov2.out]))
        clear kT6 kO6 kY6 hb6 hxs hys hnext hlx
        go_wp2
        exact ⟨⟨k + 1, _, _, by go_num, by omega, kO7, hxs2, kT7, hys2, kY7, hb7⟩, by simp [intOf]; omega⟩
      · have hov2 : Hid (oneV x b k = h) := by have := hov.out; rw [if_neg hkb, Int.add_zero] at this; exact this
        go_wp2_with fail
        obtain ⟨w5, hw5⟩ : ∃ w5, wr.setCell ⟨w2.heap.size, k, none⟩ (.int .i64 h) = w5 := ⟨_, rfl⟩
        rw [hw5] at kO2 kT2 kY2 hb2 ⊢
        clear hw5 hc hf h1
        have kO5 := kO2
        have kT5 := kT2
        have kY5 := kY2
        have hb5 := hb2
        clear kO2 kT2 kY2 hb2
        obtain ⟨g, hgp, hg1', hg2', hc, hf, hnext⟩ := kO5.out.at hlt
        obtain rfl : w2.heap.size = g := by simpa using hgp
        rw [List.getElem?_set_self (by omega)] at hc
        clear hgp hnext hf
        obtain ⟨g, hgp, hg1', hg2', hc2, hf2, hnext⟩ := kT5.out.at hlt
        obtain rfl : w3.heap.size = g := by simpa using hgp
        obtain ⟨v0, hv0⟩ : ∃ v0, ys[k]? = some v0 := ⟨_, List.getElem?_eq_getElem (by have := kT5.out.1; omega)⟩
        rw [hv0] at hc2
        clear hv0 hgp
        obtain ⟨bx2, ox2, hpx, h1⟩ := (HX.out.1.keep hb5).inB.at (j := k) (by rw [HXL.out]; exact hlt)
        obtain ⟨rfl, rfl⟩ : bx = bx2 ∧ ox = ox2 := by simpa using hpx
        rw [hxu.out] at h1
        have e2 : IntKind.i64.wrap (u - h) = u - h := IntWalk.i64_in _ (by omega)
        go_wp2_with fail
        go_still_tail 12, (by kernel_rfl)
        change wpList _ _ _ _ _ w5.drew
        obtain ⟨w6, hw6⟩ : ∃ w6, w5.drew = w6 := ⟨_, rfl⟩
        have kO6 := (show Spoil w5.drew _ _ _ _ _ _ from kO5.out)
        rw [hw6] at kO6
        have kO6 := Lib.hid kO6
        have kT6 := (show Spoil w5.drew _ _ _ _ _ _ from kT5.out)
        rw [hw6] at kT6
        have kY6 := (show IntsB w5.drew _ _ _ _ from kY5.out)
        rw [hw6] at kY6
        have kY6 := Lib.hid kY6
        have hb6 := hb5.drew
        rw [hw6] at hb6
        rw [hw6]
        clear hw6 hc hc2 hf2 hnext kO5 kT5 kY5 hb5 h1
        obtain ⟨g, hgp, hg1', hg2', hc2, hf2, hnext⟩ := kT6.at hlt
        obtain rfl : w3.heap.size = g := by simpa using hgp
        obtain ⟨v0, hv0⟩ : ∃ v0, ys[k]? = some v0 := ⟨_, List.getElem?_eq_getElem (by have := kT6.1; omega)⟩
        rw [hv0] at hc2
        clear hv0 hgp
        have kT7 := Lib.hid (hnext (.int .i64 (u - h)))
        have kO7 := Lib.hid (kO6.out.apart ⟨w3.heap.size, k, none⟩ (.int .i64 (u - h)) (.inr (Nat.le_refl _)))
        have kY7 := Lib.hid (kY6.out.setCell ⟨w3.heap.size, k, none⟩ (.int .i64 (u - h)) (.inr (by show _ ≤ w3.heap.size; omega)))
        have hb7 := hb6.setCell (p := ⟨w3.heap.size, k, none⟩) (show w.heap.size ≤ w3.heap.size by omega) (.int .i64 (u - h))
        have hxs2 := Lib.hid (fill_step (f := oneV x b) hlx hlt hxs.out (v := h) hov2.out)
        have hys2 := Lib.hid (fill_step (f := fun j => x.getD j 0 - oneV x b j) kT6.1 hlt hys.out (v := u - h) (by rw [htv.out, hov2.out]))
        clear kT6 kO6 kY6 hb6 hxs hys hnext hlx
        go_wp2
        exact ⟨⟨k + 1, _, _, by go_num, by omega, kO7, hxs2, kT7, hys2, kY7, hb7⟩, by simp [intOf]; omega⟩
    · have hkn : k = 32 := by omega
      subst hkn
      have hxe := fill_eq (f := oneV x b) kO.out.1 hxs.out
      have hye := fill_eq (f := fun j => x.getD j 0 - oneV x b j) kT.out.1 hys.out
      rw [← E1.out] at hxe
      rw [← E2.out] at hye
      rw [hxe] at kO
      rw [hye] at kT
      have kOI := Lib.hid kO.out.ints
      have kTI := Lib.hid kT.out.ints
      have s7 := kT.out.2.1
      clear hxs hys hxe hye kO kT
      obtain ⟨la, ea, hia, hwa⟩ : ∃ la ea, invN (oneR x b) = (la, ea) ∧ ((ea == 0) = false ∨ (ea = 0 ∧ la = linesI (oneR x b))) := by
        rcases W1.out with ⟨_, _, _, _, h⟩ | ⟨e, h, he⟩
        · exact ⟨_, _, h, .inr ⟨rfl, rfl⟩⟩
        · exact ⟨_, _, h, .inl he⟩
      obtain ⟨lb, eb, hib, hwb⟩ : ∃ lb eb, invN (twoR x b) = (lb, eb) ∧ ((eb == 0) = false ∨ (eb = 0 ∧ lb = linesI (twoR x b))) := by
        rcases W2.out with ⟨_, _, _, _, h⟩ | ⟨e, h, he⟩
        · exact ⟨_, _, h, .inr ⟨rfl, rfl⟩⟩
        · exact ⟨_, _, h, .inl he⟩
      rw [hia] at HG
      rw [hib] at HH
      dsimp only at HG HH
      have HWA := Lib.hid hwa
      have HWB := Lib.hid hwb
      clear hia hib hwa hwb W1 W2
      go_wp2_with fail
      refine (HG.out _ _ _ kOI.out.ints).mono ?_
      rintro e w5 ⟨va, rfl, hOa, hb5⟩
      obtain ⟨pa, ca, rfl, Ia⟩ := owns_any hOa
      have HIa := Lib.hid Ia
      have kTJ := Lib.hid (kTI.out.keep hb5 s7)
      have kY5 := Lib.hid (kY.out.keep hb5 (by omega))
      have b5 := hbw.trans (hb5.mono (by omega))
      have s8 := hb5.size
      clear hOa Ia hb5 kTI kOI kY hbw HG
      go_wp2_with fail
      refine (HH.out _ _ _ kTJ.out.ints).mono ?_
      rintro e w6 ⟨vb, rfl, hOb, hb6⟩
      obtain ⟨pb, cb, rfl, Ib⟩ := owns_any hOb
      have HIb := Lib.hid Ib
      have HIa6 := Lib.hid (HIa.out.keep hb6 (Nat.le_refl _))
      have kY6 := Lib.hid (kY5.out.keep hb6 (by omega))
      have b6 := b5.trans (hb6.mono (by omega))
      clear hOb Ib hb6 kTJ HIa kY5 b5 HH
      rcases HWA.out with ha | ⟨rfl, rfl⟩
      · have ha2 : (ea != 0) = true := by simp [bne, ha]
        go_wp2
        go_ret
        exact ⟨rfl, b6⟩
      · rcases HWB.out with hb | ⟨rfl, rfl⟩
        · have hb2 : (eb != 0) = true := by simp [bne, hb]
          go_wp2
          go_ret
          exact ⟨rfl, b6⟩
        · clear HWA HWB
          rw [L1.out, L2.out]
          go_wp2
          go_loopw [15] (fun I wq => ∃ k m : Nat, I = .int .i64 k ∧ k ≤ 64 ∧ wq = w6.drewN m) (fun I _ => 64 - (intOf I).toNat)
          case atStart => exact ⟨0, 0, rfl, by decide, rfl⟩
          case round =>
            obtain ⟨k, m, rfl, hk, rfl⟩ := hrel
            by_cases hlt : k < 64
            · obtain ⟨g1, o1, rfl, h1⟩ := kY6.out.at (j := k) (by rw [LY.out]; exact hlt)
              obtain ⟨g2, o2, rfl, h2⟩ := HIa6.out.at (j := k) (by rw [L1.out]; exact hlt)
              obtain ⟨g3, o3, rfl, h3⟩ := HIb.out.at (j := k) (by rw [L2.out]; exact hlt)
              rw [AY.out k hlt] at h1
              rw [AO.out k hlt] at h2
              rw [AT.out k hlt] at h3
              obtain ⟨t1, t2⟩ := TT.out k
              obtain ⟨r1, r2⟩ := RY.out k
              have RA := RO.out k
              have RB := RT.out k
              obtain ⟨r3, r4⟩ := RA
              obtain ⟨r5, r6⟩ := RB
              generalize fy k = y1 at h1 t1 t2 r1 r2
              generalize lineI 32 (oneR x b) k = y2 at h2 t1 t2 r3 r4
              generalize lineI 32 (twoR x b) k = y3 at h3 t1 t2 r5 r6
              have e1 : IntKind.i64.wrap (y2 + y3) = y2 + y3 := IntWalk.i64_in _ (by omega)
              have e2 : IntKind.i64.wrap (y2 + y3 - y1) = y2 + y3 - y1 := IntWalk.i64_in _ (by omega)
              have d4 : decide (1 < y2 + y3 - y1) = false := by simp; omega
              have d5 : decide (y2 + y3 - y1 < -1) = false := by simp; omega
              clear kY6 HIa6 HIb LY L1 L2 AY AO AT TT RY t1 t2
              go_wp2
              go_quiet (fail)
              go_wp2
              exact ⟨⟨k + 1, _, by go_num, hlt, rfl⟩, by simp [intOf]; omega⟩
            · go_wp2
              go_ret
              exact ⟨rfl, below_drewN b6 _⟩

theorem sums_any (x b : List Int) (p0 p1 : Option Addr) (c0 c1 : Nat) (w : World) (A0 : IsArg w p0 c0 x) (A1 : IsArgK .i8 w p1 c1 b) :
    Calls Try.prog 8 #[.slice p0 x.length c0, .slice p1 b.length c1] w fun e w' => e = .returned (.bool true) ∧ Below w.heap.size w w' := by
  by_cases hb : 1000 < b.length
  · exact sums_bad x b p0 p1 c0 c1 w A0 A1 (.inr (.inl hb))
  · rcases inv_ways x with ⟨M, hM, hx, hm, hi⟩ | h
    · rcases hM with rfl | rfl
      · rw [hx]; exact sums_ok_256 x b p0 p1 c0 c1 w A0 A1 (by omega) hx hm hi
      · rw [hx]; exact sums_ok_32 x b p0 p1 c0 c1 w A0 A1 (by omega) hx hm hi
    · exact sums_bad x b p0 p1 c0 c1 w A0 A1 (.inr (.inr h))
end Go.Proofs.Ytbokkfekenmjlaa
