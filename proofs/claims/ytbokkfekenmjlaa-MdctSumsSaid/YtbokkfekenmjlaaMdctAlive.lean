/- The transform is alive; the examples. -/
import Derived.Test.YtbokkfekenmjlaaMdct
import Derived.Test.YtbokkfekenmjlaaMdctPlain
import Derived.Test.YtbokkfekenmjlaaArgs
set_option linter.unusedVariables false
set_option linter.unusedSimpArgs false
namespace Go.Proofs.Ytbokkfekenmjlaa
open Go.ChangeShapes Go.WideShapes Go.ChangeAt Go.RowKit

def zeroL (n : Nat) : List Int := List.replicate n 0
theorem zero_len (n : Nat) : (zeroL n).length = n := by simp [zeroL]
theorem zero_get (n j : Nat) : (zeroL n).getD j 0 = 0 := by
  unfold zeroL
  simp [List.getD_eq_getElem?_getD, List.getElem?_replicate]
  split <;> rfl
theorem zero_map (n : Nat) : (zeroL n).map (Value.int .i64) = List.replicate n (.int .i64 0) := by simp [zeroL]
theorem zero_any (n : Nat) (m : Int) (hm : 0 ≤ m) : (zeroL n).any (oddP m) = false := by
  apply List.any_eq_false.2
  intro x hx
  have : x = 0 := by simp [zeroL] at hx; exact hx.2
  subst this
  simp [oddP]; omega
theorem sum_zero (n : Nat) (A B : Int) (k : Nat) : sumX (zeroL n) A B k = 0 := by
  unfold sumX
  rw [sumF_congr (g := fun _ => (0 : Int)) k (fun j _ => by rw [zero_get]; simp), sumF_const]
  simp
theorem rnd_zero33 : rnd 0 33 = 0 := by decide +kernel
theorem rnd_zero26 : rnd 0 26 = 0 := by decide +kernel
theorem rnd_zero23 : rnd 0 23 = 0 := by decide +kernel
theorem map_zero (f : Nat → Int) (n : Nat) (h : ∀ k, f k = 0) : (List.range n).map f = zeroL n := by
  apply List.ext_getElem?
  intro i
  unfold zeroL
  simp [List.getElem?_replicate, h]
  split <;> simp [*]
theorem linesF_zero (n : Nat) : linesF (zeroL n) = zeroL (n / 2) := by
  unfold linesF
  rw [zero_len]
  exact map_zero _ _ (fun k => by unfold lineF; rw [sum_zero, rnd_zero33])
theorem linesI_zero (n : Nat) : linesI (zeroL n) = zeroL (2 * n) := by
  unfold linesI
  rw [zero_len]
  exact map_zero _ _ (fun k => by
    unfold lineI; rw [sum_zero]
    split
    · exact rnd_zero23
    · exact rnd_zero26)
theorem zero_all (n : Nat) : (zeroL n).all (fun x => x == 0) = true := by simp [zeroL]

/-- All of a list noughts? -/
theorem noughts_ok (l : List Int) (p : Option Addr) (c : Nat) (many : Int) (w : World) (hI : IsInts w p l) (hl : l.length ≤ 4611686018427387904) :
    Calls Try.prog 12 #[.slice p l.length c, .int .i64 many] w fun e w' => e = .returned (.bool (l.all (fun x => x == 0) && ((l.length : Int) == many))) ∧ w = w' := by
  have HI := Lib.hid hI
  clear hI
  go_enter Try.func12, Try.ntmps12
  go_wp2
  go_loop [5] (fun I => ∃ k : Nat, I = .int .i64 k ∧ k ≤ l.length ∧ Hid (l.all (fun x => x == 0) = (l.drop k).all (fun x => x == 0))) (fun I => l.length - (intOf I).toNat)
  case atStart => exact ⟨0, rfl, Nat.zero_le _, Lib.hid (by simp)⟩
  case round =>
    obtain ⟨k, rfl, hk, hany⟩ := hrel
    by_cases hlt : k < l.length
    · obtain ⟨b, off, rfl, _, hc⟩ := HI.out.at hlt
      have h1 := hc k hlt
      have hd : l.drop k = l.getD k 0 :: l.drop (k + 1) := by rw [List.drop_eq_getElem_cons hlt]; simp [List.getD_eq_getElem?_getD, hlt]
      have hst : Hid (l.all (fun x => x == 0) = ((l.getD k 0 == 0) && (l.drop (k + 1)).all (fun x => x == 0))) := by
        have := hany.out; rw [hd, List.all_cons] at this; exact this
      generalize l.getD k 0 = x at h1 hst
      clear hc hd hany HI
      by_cases hx1 : x = 0
      · have d1 : (x == 0) = true := by simp [hx1]
        have d2 : (x != 0) = false := by simp [hx1]
        have HR : Hid (l.all (fun x => x == 0) = (l.drop (k + 1)).all (fun x => x == 0)) := by
          have := hst.out
          rw [d1, Bool.true_and] at this; exact this
        clear hst hx1
        go_wp2
        go_round
        case rel => exact ⟨k + 1, by go_num, hlt, HR⟩
        case measure => simp [intOf]; omega
      · have d1 : (x == 0) = false := by simp [hx1]
        have d2 : (x != 0) = true := by simp [hx1]
        have HR : Hid (l.all (fun x => x == 0) = false) := by
          have := hst.out
          rw [d1, Bool.false_and] at this; exact this
        clear hst hx1
        go_wp2
        go_ret
        exact ⟨ret_bool (by rw [HR.out]; rfl), rfl⟩
    · have hkl : k = l.length := by omega
      have HR : Hid (l.all (fun x => x == 0) = true) := by have := hany.out; rw [hkl, List.drop_length, List.all_nil] at this; exact this
      clear hany hkl HI
      go_wp2
      go_ret
      exact ⟨ret_bool (by rw [HR.out]; rfl), rfl⟩
def oneZ : List Int := (zeroL 64).set 40 8388608
theorem oneZ_fwd : fwdN oneZ = (linesF oneZ, 0) := by
  unfold fwdN
  rw [if_neg (by decide +kernel), if_neg (by decide +kernel)]
theorem oneZ_some : (linesF oneZ).all (fun x => x == 0) = false := by decide +kernel
theorem oneZ_len : (linesF oneZ).length = 32 := by simp [linesF, oneZ, zeroL]
theorem zero_fwd64 : fwdN (zeroL 64) = (zeroL 32, 0) := by
  unfold fwdN
  rw [if_neg (by rw [zero_len]; decide), if_neg (by rw [zero_any 64 _ (by decide)]; decide), linesF_zero]
set_option maxRecDepth 100000 in
set_option maxHeartbeats 2000000 in
theorem alive11 (w : World) : Calls Try.prog 9 #[] w fun e w' => e = .returned (.bool true) ∧ Below w.heap.size w w' := by
  obtain ⟨i0, hi, hz0, hz1, hz2⟩ := info_parts Try.infoInt
  have F := Lib.hid (fun p c W (h : IsInts W p (zeroL 64)) => fwd_any (zeroL 64) p c (by rw [zero_len]; decide) W h)
  rw [zero_fwd64, zero_len] at F
  have G := Lib.hid (fun p c W (h : IsInts W p oneZ) => fwd_any oneZ p c (by decide +kernel) W h)
  rw [oneZ_fwd, show oneZ.length = 64 by simp [oneZ, zeroL]] at G
  have HZ : Hid ((zeroL 64).map (Value.int .i64) = List.replicate 64 (.int .i64 0)) := zero_map 64
  have HO : Hid (((zeroL 64).map (Value.int .i64)).set 40 (.int .i64 8388608) = oneZ.map (Value.int .i64)) := by show _ = _; simp [oneZ, List.map_set]
  have L0 := Lib.hid (zero_len 64)
  have L1 : Hid (oneZ.length = 64) := by show _ = _; simp [oneZ, zeroL]
  have N1 := Lib.hid (fun p c W (h : IsInts W p (zeroL 32)) => noughts_ok (zeroL 32) p c 32 W h (by rw [zero_len]; decide))
  rw [zero_all, zero_len] at N1
  have N2 := Lib.hid (fun p c W (h : IsInts W p (linesF oneZ)) => noughts_ok (linesF oneZ) p c 32 W h (by rw [oneZ_len]; decide))
  rw [oneZ_some, oneZ_len] at N2
  have L2 := Lib.hid oneZ_len
  have L3 := Lib.hid (zero_len 32)
  generalize zeroL 64 = z at *
  generalize zeroL 32 = za at *
  generalize linesF oneZ = lo at *
  generalize oneZ = zo at *
  unfold RRowE at F G
  dsimp only at F G
  go_enter Try.func9, Try.ntmps9
  go_wp2_with (at_make; refine wpList_make_full _ rfl _ _ 22 rfl w.heap.size 3 i0 (.int .i64 0) 1 Try.underlying22 hi hz0 hz1 .i64 .i64 _ _ 64 rfl rfl ?hL ?hC ?b2 ?b3 ?b4 ?_)
  case hL => rfl
  case hC => rfl
  case b2 => rw [hz2]; decide
  case b3 => decide
  case b4 => exact Nat.le_refl _
  intro w1 hown0 hgrow
  have hbN : Below w.heap.size w w1 := (Below.refl _ _).grown hgrow (by simp) (by simp)
  have hgN : w.heap.size < w1.heap.size := (hown0.lt _ rfl).2
  have hown : w1.ownsRow w.heap.size 3 1 (.slice (some ⟨w.heap.size, 0, none⟩) 64 64) 64 (List.replicate 64 (.int .i64 0)) := by
    have e := toList_madeCells_one (.int .i64 0) 64
    rw [← e]; exact hown0
  clear hgrow hown0
  rw [← HZ.out] at hown
  have hS : Spoil w1 (some ⟨w.heap.size, 0, none⟩) 64 64 w.heap.size w1.heap.size (z.map (Value.int .i64)) := by
    refine ⟨by simp [L0.out], Nat.le_refl _, fun _ => ⟨_, rfl, Nat.le_refl _, hgN, hown⟩⟩
  have HS := Lib.hid hS
  have hI : IntsB w1 (some ⟨w.heap.size, 0, none⟩) z w.heap.size w1.heap.size := by
    have h1 := hown
    rw [show (64 : Nat) = z.length from L0.out.symm] at h1
    obtain ⟨p, c, hp, h2⟩ := owns_any h1
    have : p = some ⟨w.heap.size, 0, none⟩ := by have := hp; simp at this; exact this.1.symm
    rwa [this] at h2
  have HI := Lib.hid hI
  clear hown hS hI
  go_wp2_with fail
  refine (F.out _ _ _ HI.out.ints).mono ?_
  rintro e w2 ⟨v1, rfl, hO1, hb2⟩
  obtain ⟨p1, c1, rfl, I1⟩ := owns_any hO1
  rw [L3.out]
  have HI1 := Lib.hid I1
  have HS2 := Lib.hid (HS.out.keep hb2 (Nat.le_refl _))
  have b2 := hbN.trans (hb2.mono (Nat.le_of_lt hgN))
  have z2 := hb2.size
  obtain ⟨g, hgp, hg1, hg2, hc, hf, hnext⟩ := HS2.out.at (k := 40) (by decide)
  obtain rfl : w.heap.size = g := by simpa using hgp
  have hc2 : w2.cell? ⟨w.heap.size, 40, none⟩ = some (.int .i64 (z.getD 40 0)) := by
    rw [hc]; exact row_get z 40 (by decide) (by rw [L0.out]; decide)
  have hS3 := hnext (.int .i64 8388608)
  rw [HO.out] at hS3
  have HS3 := Lib.hid hS3
  have HI3 := Lib.hid (HI1.out.setCell ⟨w.heap.size, 40, none⟩ (.int .i64 8388608) (.inl hg2))
  have b3 := b2.setCell (p := ⟨w.heap.size, 40, none⟩) (Nat.le_refl _) (.int .i64 8388608)
  have HIo : Hid (IntsB (w2.setCell ⟨w.heap.size, 40, none⟩ (.int .i64 8388608)) (some ⟨w.heap.size, 0, none⟩) zo w.heap.size w1.heap.size) := by
    obtain ⟨_, hh, h3⟩ := HS3.out
    obtain ⟨g', hp', k1, k2, k3⟩ := h3 (by decide)
    obtain rfl : w.heap.size = g' := by simpa using hp'
    refine ⟨hh, .inr ⟨w.heap.size, 0, rfl, k1, k2, fun j hj => ?_⟩⟩
    rw [Nat.zero_add, k3.cellAt j (by rw [L1.out] at hj; omega)]
    exact row_get zo j (Nat.zero_le _) hj
  clear hc hnext hS3 hO1 I1 HS HS2 HI HI1 HS3 hgp b2 hb2
  have hc := hc2
  clear hc2
  go_wp2_with fail
  obtain ⟨w3, hw3⟩ : ∃ w3, w2.setCell ⟨w.heap.size, 40, none⟩ (.int .i64 8388608) = w3 := ⟨_, rfl⟩
  rw [hw3] at HI3 HIo b3 ⊢
  have z3 : w2.heap.size ≤ w3.heap.size := by rw [← hw3]; simp [World.setCell]
  clear hw3 hc hf
  refine (G.out _ _ _ HIo.out.ints).mono ?_
  rintro e w4 ⟨v2, rfl, hO2, hb4⟩
  obtain ⟨p2, c2, rfl, I2⟩ := owns_any hO2
  rw [L2.out]
  have HI4 := Lib.hid I2
  have HI5 := Lib.hid (HI3.out.keep hb4 (by omega))
  have b4 := b3.trans (hb4.mono (by omega))
  clear hO2 I2 HI3 HIo hb4 b3
  go_wp2_with fail
  refine (N1.out _ _ _ HI5.out.ints).mono ?_
  rintro e w5 ⟨rfl, hw⟩
  obtain rfl := hw
  go_wp2_with fail
  refine (N2.out _ _ _ HI4.out.ints).mono ?_
  rintro e w5 ⟨rfl, hw⟩
  obtain rfl := hw
  go_wp2
  go_ret
  exact ⟨rfl, b4⟩
end Go.Proofs.Ytbokkfekenmjlaa
