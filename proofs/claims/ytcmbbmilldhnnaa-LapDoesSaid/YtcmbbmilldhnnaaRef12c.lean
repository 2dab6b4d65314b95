/- reedpiperef12: put, Lines. -/
import Derived.Test.YtcmbbmilldhnnaaRef12b
import Derived.Test.YtcmbbmilldhnnaaShortsPlain
import Derived.Deep.RegionWith
set_option linter.unusedVariables false
set_option linter.unusedSimpArgs false
namespace Go.Proofs.Ytcmbbmilldhnnaa
open Go.ChangeShapes Go.WideShapes Go.ChangeAt Go.RowKit

def putF (L y v : List Int) (t k n : Nat) : Int := L.getD n 0 + if t ≤ n ∧ n < t + k then rnd (y.getD (n - t) 0 * v.getD (n - t) 0) 26 else 0
def putL (L y v : List Int) (t k : Nat) : List Int := (List.range 512).map (putF L y v t k)
theorem put_get (L y v : List Int) (t k : Nat) {n : Nat} (hn : n < 512) : ((putL L y v t k).map (Value.int .i64))[n]? = some (.int .i64 (putF L y v t k n)) := by
  unfold putL
  rw [List.getElem?_map, List.getElem?_map, List.getElem?_range hn]; rfl
theorem put_len (L y v : List Int) (t k : Nat) : (putL L y v t k).length = 512 := by simp [putL]
theorem put_here (L y v : List Int) (t k : Nat) : putF L y v t k (t + k) = L.getD (t + k) 0 := by
  unfold putF; rw [if_neg (by omega), Int.add_zero]
theorem put_next (L y v : List Int) (t k : Nat) (hk : t + k < 512) : ((putL L y v t k).map (Value.int .i64)).set (t + k) (.int .i64 (L.getD (t + k) 0 + rnd (y.getD k 0 * v.getD k 0) 26)) = (putL L y v t (k + 1)).map (Value.int .i64) := by
  apply List.ext_getElem?
  intro j
  by_cases hj : j < 512
  · by_cases e : j = t + k
    · subst e
      rw [List.getElem?_set_self (by rw [List.length_map, put_len]; exact hk), put_get _ _ _ _ _ hk]
      unfold putF
      rw [if_pos (by omega), show t + k - t = k by omega]
    · rw [List.getElem?_set_ne (fun h => e h.symm), put_get _ _ _ _ _ hj, put_get _ _ _ _ _ hj]
      unfold putF
      by_cases h : t ≤ j ∧ j < t + k
      · rw [if_pos h, if_pos (by omega)]
      · rw [if_neg h, if_neg (by omega)]
  · rw [List.getElem?_eq_none (by rw [List.length_set, List.length_map, put_len]; omega), List.getElem?_eq_none (by rw [List.length_map, put_len]; omega)]
theorem put_none (L y v : List Int) (t : Nat) (hL : L.length = 512) : putL L y v t 0 = L := by
  apply List.ext_getElem?
  intro j
  by_cases hj : j < 512
  · unfold putL
    rw [List.getElem?_map, List.getElem?_range hj]
    show some (putF L y v t 0 j) = _
    unfold putF
    rw [if_neg (by omega), Int.add_zero, List.getD_eq_getElem?_getD, List.getElem?_eq_getElem (by omega)]
    rfl
  · rw [List.getElem?_eq_none (by rw [put_len]; omega), List.getElem?_eq_none (by omega)]
theorem Spoil.put {w : World} {p : Option Addr} {n c g k : Nat} {xs : List Value} (h : Spoil w p n c g (g + 1) xs) (hk : k < n) (u : Value) : Spoil (w.setCell ⟨g, k, none⟩ u) p n c g (g + 1) (xs.set k u) := by
  obtain ⟨g', _, h1, h2, _, _, hn⟩ := h.at hk
  obtain rfl : g' = g := by omega
  exact hn u
def RPut (p : Option Addr) (c g : Nat) (l : List Int) (w : World) (e : Ending) (w' : World) : Prop :=
  e = .returned (.tuple #[]) ∧ Spoil w' p 512 c g (g + 1) (l.map (Value.int .i64)) ∧ Below g w w'
set_option maxRecDepth 100000 in
set_option maxHeartbeats 4000000 in
theorem ref_put (L y v : List Int) (t : Nat) (hL : L.length = 512) (hv : v.length = y.length) (ht : t + y.length ≤ 512) (bL : ∀ j, -1099511627776 ≤ L.getD j 0 ∧ L.getD j 0 ≤ 1099511627776) (bY : ∀ j, -68719476736 ≤ y.getD j 0 ∧ y.getD j 0 ≤ 68719476736) (bV : ∀ j, 0 ≤ v.getD j 0 ∧ v.getD j 0 ≤ 4194304)
    (p q r : Option Addr) (c d e g B : Nat) (w : World) (hS : Spoil w p 512 c g (g + 1) (L.map (Value.int .i64))) (hJ : IntsB w q y (g + 1) B) (hK : IntsB w r v (g + 1) B) :
    Calls Try.prog 58 #[.slice p 512 c, .int .i64 t, .slice q y.length d, .slice r v.length e] w (RPut p c g (putL L y v t y.length) w) := by
  rw [← put_none L y v t hL] at hS
  have HS := Lib.hid hS
  have HJ := Lib.hid hJ
  have HK := Lib.hid hK
  have HBL := Lib.hid bL
  have HBY := Lib.hid bY
  have HBV := Lib.hid bV
  rw [hv]
  have HV := Lib.hid hv
  clear hS hJ hK bL bY bV hv
  go_enter Try.func58, Try.ntmps58
  go_wp2
  go_loopw [8] (fun I wr => ∃ k : Nat, I = .int .i64 k ∧ k ≤ y.length ∧ Hid (Spoil wr p 512 c g (g + 1) ((putL L y v t k).map (Value.int .i64))) ∧ Hid (IntsB wr q y (g + 1) B) ∧ Hid (IntsB wr r v (g + 1) B) ∧ Below g w wr) (fun I _ => y.length - (intOf I).toNat)
  case atStart => exact ⟨0, rfl, Nat.zero_le _, HS, HJ, HK, Below.refl _ _⟩
  case round =>
    obtain ⟨k, rfl, hk, hS, hJ, hK, hb⟩ := hrel
    clear HS HJ HK
    by_cases hlt : k < y.length
    · have hd : decide ((k : Int) < (y.length : Int)) = true := decide_eq_true (by omega)
      obtain ⟨g', hgp, hg1, hg2, hc, hf, _⟩ := hS.out.at (k := t + k) (by omega)
      obtain rfl : g' = g := by omega
      rw [put_get _ _ _ _ _ (by omega), put_here] at hc
      obtain ⟨bq, oq, hq, r1⟩ := hJ.out.at hlt
      obtain ⟨br, or_, hr, r2⟩ := hK.out.at (j := k) (by rw [HV.out]; exact hlt)
      have b0 := HBL.out (t + k)
      have b1 := HBY.out k
      have b2 := HBV.out k
      have HN := Lib.hid (put_next L y v t k (by omega))
      obtain ⟨x0, hx0⟩ : ∃ x, L.getD (t + k) 0 = x := ⟨_, rfl⟩
      obtain ⟨x, hx⟩ : ∃ x, y.getD k 0 = x := ⟨_, rfl⟩
      obtain ⟨z, hz⟩ : ∃ x, v.getD k 0 = x := ⟨_, rfl⟩
      rw [hx0] at hc b0 HN
      rw [hx] at r1 b1 HN
      rw [hz] at r2 b2 HN
      have hp1 := mul_abs (a := x) (b := z) (A := 68719476736) (B := 4194304) (by omega) (by omega) (by omega) (by omega)
      have hp2 := rnd26 (n := x * z) (by omega) (by omega)
      have HR := Lib.hid (fun W => (down_lit (x * z) 26 26 rfl (by omega) (by omega) (by decide) W))
      obtain ⟨R, hR⟩ : ∃ R, rnd (x * z) 26 = R := ⟨_, rfl⟩
      rw [hR] at HR HN hp2
      have t1 : IntKind.i64.wrap (x * z) = x * z := IntWalk.i64_in _ (by omega)
      have t2 : IntKind.i64.wrap (x0 + R) = x0 + R := IntWalk.i64_in _ (by omega)
      have t3 : IntKind.i64.wrap ((t : Int) + (k : Int)) = (t : Int) + (k : Int) := IntWalk.i64_in _ (by omega)
      have t5 : ((t : Int) + (k : Int)).toNat = t + k := by omega
      have t6 : (0 : Int) ≤ (t : Int) + (k : Int) := by omega
      have t7 : (t : Int) + (k : Int) < 512 := by omega
      have t8 : (k : Int) < (y.length : Int) := by omega
      have HS2 := Lib.hid (fun m => (hS.out.drewN m).put (k := t + k) (by omega) (.int .i64 (x0 + R)))
      rw [HN.out] at HS2
      have HJ2 := Lib.hid (fun m => (hJ.out.drewN m).setCell ⟨g', t + k, none⟩ (.int .i64 (x0 + R)) (.inl (Nat.lt_succ_self _)))
      have HK2 := Lib.hid (fun m => (hK.out.drewN m).setCell ⟨g', t + k, none⟩ (.int .i64 (x0 + R)) (.inl (Nat.lt_succ_self _)))
      have HB2 := Lib.hid (fun m => (below_drewN hb m).setCell (p := ⟨g', t + k, none⟩) (Nat.le_refl _) (.int .i64 (x0 + R)))
      subst hq hr hgp
      clear hx0 hx hz hR hS hJ hK hb hp1 hp2 hg1 hg2
      go_wp2_with fail
      go_region_with (go_at_call 50; refine (HR.out _).mono ?_; rintro e w3 ⟨rfl, rfl⟩)
      all_goals
        go_wp2
        exact ⟨⟨k + 1, by go_num, by omega, Lib.hid (HS2.out _), Lib.hid (HJ2.out _), Lib.hid (HK2.out _), HB2.out _⟩, by simp [intOf]; omega⟩
    · have hkM : k = y.length := by omega
      subst hkM
      have hd : decide ((y.length : Int) < (y.length : Int)) = false := by simp
      clear hlt
      go_wp2
      go_end0
      exact ⟨rfl, hS.out, hb⟩
end Go.Proofs.Ytcmbbmilldhnnaa
