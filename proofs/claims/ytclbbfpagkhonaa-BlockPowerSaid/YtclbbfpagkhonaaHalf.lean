/- window.Half: what each call answers. -/
import Derived.Test.YtclbbfpagkhonaaKbd
import Derived.Test.YtclbbfpagkhonaaRound
import Derived.Test.YtclbbfpagkhonaaTrig2
import Derived.Test.YtclbbfpagkhonaaTrigSin
set_option linter.unusedVariables false
namespace Go.Proofs.Ytclbbfpagkhonaa
open Go.ChangeShapes Go.WideShapes Go.ChangeAt Go.RowKit

/-- A half's values: of sines, and of the other shape. -/
def sineV (step n : Nat) : Int := rnd (sinL (((2 * n + 1) * step : Nat) : Int)) 4
def hvLen (short : Bool) : Nat := if short then 32 else 256
def halfV (shape : Int) (short : Bool) (n : Nat) : Int :=
  if shape = 0 then (if short then sineV 8 n else sineV 1 n) else (if short then kbdV 32 6 n else kbdV 256 4 n)
def hvL (shape : Int) (short : Bool) : List Int := (List.range (hvLen short)).map (halfV shape short)
theorem row_eq {xs : List Value} {m : Nat} {f : Nat → Int} (hl : xs.length = m) (h : ∀ j, j < m → xs[j]? = some (.int .i64 (f j))) : xs = ((List.range m).map f).map (Value.int .i64) := by
  apply List.ext_getElem?
  intro j
  by_cases hj : j < m
  · rw [h j hj]; simp [hj]
  · rw [List.getElem?_eq_none (by omega), List.getElem?_eq_none (by simp; omega)]
theorem half_length (shape : Int) (short : Bool) : (hvL shape short).length = hvLen short := by simp [hvL]

def RHalf (shape : Int) (short : Bool) (w : World) (e : Ending) (w' : World) : Prop :=
  ∃ g : Nat, e = .returned (.tuple #[.slice (some ⟨g, 0, none⟩) (hvLen short) (hvLen short), .int .i64 0]) ∧ w'.ownsRow w.heap.size 3 1 (.slice (some ⟨g, 0, none⟩) (hvLen short) (hvLen short)) (hvLen short) ((hvL shape short).map (Value.int .i64)) ∧ Below w.heap.size w w'

set_option maxRecDepth 100000 in
set_option maxHeartbeats 2000000 in
theorem half_sine_long (w : World) : Calls Try.prog 31 #[.int .u8 0, .bool false] w (RHalf 0 false w) := by
  obtain ⟨i0, hi, hz0, hz1, hz2⟩ := info_parts Try.infoInt
  go_enter Try.func31, Try.ntmps31
  go_wp2_with (at_make; refine wpList_make_full _ rfl _ _ 23 rfl w.heap.size 3 i0 (.int .i64 0) 1 Try.underlying23 hi hz0 hz1 .i64 .i64 _ _ 256 rfl rfl ?hL ?hC ?b2 ?b3 ?b4 ?_)
  case hL => rfl
  case hC => rfl
  case b2 => rw [hz2]; decide
  case b3 => decide
  case b4 => exact Nat.le_refl _
  intro w1 hown hgrow
  have hb1 : Below w.heap.size w w1 := (Below.refl _ _).grown hgrow (by simp) (by simp)
  have hg1 : w.heap.size < w1.heap.size := (hown.lt _ rfl).2
  have hown1 : w1.ownsRow w.heap.size 3 1 (.slice (some ⟨w.heap.size, 0, none⟩) 256 256) 256 (List.replicate 256 (.int .i64 0)) := by
    have e := toList_madeCells_one (.int .i64 0) 256
    rw [← e]; exact hown
  clear hgrow hown
  go_wp2
  go_loopw [19] (fun I wr => ∃ (k : Nat) (xs : List Value), I = .int .i64 k ∧ k ≤ 256 ∧ wr.ownsRow w.heap.size 3 1 (.slice (some ⟨w.heap.size, 0, none⟩) 256 256) 256 xs ∧ xs.length = 256 ∧ Below w.heap.size w wr ∧ w.heap.size < wr.heap.size ∧ Hid (∀ j, j < k → xs[j]? = some (.int .i64 (sineV 1 j)))) (fun I _ => 256 - (intOf I).toNat)
  case atStart => exact ⟨0, _, rfl, by decide, hown1, by simp, hb1, hg1, Lib.hid (fun _ h => absurd h (Nat.not_lt_zero _))⟩
  case round =>
    obtain ⟨k, xs, rfl, hk, hO, hlenO, hbq, hgq, hxs⟩ := hrel
    by_cases hlt : k < 256
    · have ha : (((2 * k + 1) * 1 : Nat) : Int) = 2 * (k : Int) + 1 := by simp
      have hs := sin_ok (2 * (k : Int) + 1) wr
      have hv : sineV 1 k = rnd (sinL (2 * (k : Int) + 1)) 4 := by rw [sineV, ha]
      obtain ⟨v0, v1⟩ := sin_range (2 * (k : Int) + 1)
      generalize sinL (2 * (k : Int) + 1) = S at hs hv v0 v1
      have HS := Lib.hid hs
      have HV := Lib.hid hv
      clear hs hv ha
      go_wp2_with fail
      refine HS.out.mono ?_
      rintro e w4 ⟨rfl, hb4⟩
      go_wp2_with fail
      refine (round_ok S 4 (by omega) (by omega) (by decide) _).mono ?_
      rintro e w5 ⟨rfl, nn, rfl⟩
      have hb45 : Below wr.heap.size wr (w4.drewN nn) := below_drewN hb4 nn
      have hO2 := owns_keep hO hb45
      have hbq2 := hbq.trans (hb45.mono hbq.size)
      have hsz := hb45.size
      generalize w4.drewN nn = w5 at hO2 hbq2 hsz
      have hc := hO2.cellAt k (by omega)
      rw [List.getElem?_eq_getElem (by omega)] at hc
      have hf := hO2.frozenAt k
      obtain ⟨hO3, hgr⟩ := hO2.stored k (.int .i64 (rnd S 4))
      have hb6 : Below w.heap.size w (w5.setCell ⟨w.heap.size, k, none⟩ (.int .i64 (rnd S 4))) := hbq2.setCell (p := ⟨w.heap.size, k, none⟩) (Nat.le_refl _) _
      have hxs2 : Hid (∀ j, j < k + 1 → (xs.set k (.int .i64 (rnd S 4)))[j]? = some (.int .i64 (sineV 1 j))) := by
        intro j hj
        by_cases e : j = k
        · rw [e, List.getElem?_set_self (by omega), HV.out]
        · rw [List.getElem?_set_ne (by omega)]; exact hxs.out j (by omega)
      clear hxs HS hb4 hO hO2 hbq hgr hb45 hbq2
      go_wp2
      exact ⟨⟨k + 1, _, by go_num, by omega, hO3, by simp [hlenO], hb6, by simpa [World.setCell] using (show w.heap.size < w5.heap.size by omega), hxs2⟩, by simp [intOf]; omega⟩
    · have hkM : k = 256 := by omega
      subst hkM
      have hend := row_eq hlenO hxs.out
      have HE := Lib.hid hend
      clear hend hxs
      go_wp2
      go_ret2
      refine ⟨w.heap.size, rfl, ?_, hbq⟩
      have : (hvL 0 false).map (Value.int .i64) = xs := HE.out.symm
      rw [this]
      exact hO

set_option maxRecDepth 100000 in
set_option maxHeartbeats 2000000 in
theorem half_kbd_long (w : World) : Calls Try.prog 31 #[.int .u8 1, .bool false] w (RHalf 1 false w) := by
  go_enter Try.func31, Try.ntmps31
  go_wp2_with fail
  refine (kbd_long _).mono ?_
  rintro e w4 ⟨g, rfl, xs, hO, hlen, hxs, hb⟩
  have HE := Lib.hid (row_eq hlen hxs)
  clear hxs
  go_wp2
  go_ret2
  refine ⟨g, rfl, ?_, hb⟩
  have : (hvL 1 false).map (Value.int .i64) = xs := HE.out.symm
  rw [this]
  exact hO

set_option maxRecDepth 100000 in
set_option maxHeartbeats 2000000 in
theorem half_sine_short (w : World) : Calls Try.prog 31 #[.int .u8 0, .bool true] w (RHalf 0 true w) := by
  obtain ⟨i0, hi, hz0, hz1, hz2⟩ := info_parts Try.infoInt
  go_enter Try.func31, Try.ntmps31
  go_wp2_with (at_make; refine wpList_make_full _ rfl _ _ 23 rfl w.heap.size 3 i0 (.int .i64 0) 1 Try.underlying23 hi hz0 hz1 .i64 .i64 _ _ 32 rfl rfl ?hL ?hC ?b2 ?b3 ?b4 ?_)
  case hL => rfl
  case hC => rfl
  case b2 => rw [hz2]; decide
  case b3 => decide
  case b4 => exact Nat.le_refl _
  intro w1 hown hgrow
  have hb1 : Below w.heap.size w w1 := (Below.refl _ _).grown hgrow (by simp) (by simp)
  have hg1 : w.heap.size < w1.heap.size := (hown.lt _ rfl).2
  have hown1 : w1.ownsRow w.heap.size 3 1 (.slice (some ⟨w.heap.size, 0, none⟩) 32 32) 32 (List.replicate 32 (.int .i64 0)) := by
    have e := toList_madeCells_one (.int .i64 0) 32
    rw [← e]; exact hown
  clear hgrow hown
  go_wp2
  go_loopw [19] (fun I wr => ∃ (k : Nat) (xs : List Value), I = .int .i64 k ∧ k ≤ 32 ∧ wr.ownsRow w.heap.size 3 1 (.slice (some ⟨w.heap.size, 0, none⟩) 32 32) 32 xs ∧ xs.length = 32 ∧ Below w.heap.size w wr ∧ w.heap.size < wr.heap.size ∧ Hid (∀ j, j < k → xs[j]? = some (.int .i64 (sineV 8 j)))) (fun I _ => 32 - (intOf I).toNat)
  case atStart => exact ⟨0, _, rfl, by decide, hown1, by simp, hb1, hg1, Lib.hid (fun _ h => absurd h (Nat.not_lt_zero _))⟩
  case round =>
    obtain ⟨k, xs, rfl, hk, hO, hlenO, hbq, hgq, hxs⟩ := hrel
    by_cases hlt : k < 32
    · have ha : (((2 * k + 1) * 8 : Nat) : Int) = (2 * (k : Int) + 1) * 8 := by simp
      have hs := sin_ok ((2 * (k : Int) + 1) * 8) wr
      have hv : sineV 8 k = rnd (sinL ((2 * (k : Int) + 1) * 8)) 4 := by rw [sineV, ha]
      obtain ⟨v0, v1⟩ := sin_range ((2 * (k : Int) + 1) * 8)
      generalize sinL ((2 * (k : Int) + 1) * 8) = S at hs hv v0 v1
      have HS := Lib.hid hs
      have HV := Lib.hid hv
      clear hs hv ha
      go_wp2_with fail
      refine HS.out.mono ?_
      rintro e w4 ⟨rfl, hb4⟩
      go_wp2_with fail
      refine (round_ok S 4 (by omega) (by omega) (by decide) _).mono ?_
      rintro e w5 ⟨rfl, nn, rfl⟩
      have hb45 : Below wr.heap.size wr (w4.drewN nn) := below_drewN hb4 nn
      have hO2 := owns_keep hO hb45
      have hbq2 := hbq.trans (hb45.mono hbq.size)
      have hsz := hb45.size
      generalize w4.drewN nn = w5 at hO2 hbq2 hsz
      have hc := hO2.cellAt k (by omega)
      rw [List.getElem?_eq_getElem (by omega)] at hc
      have hf := hO2.frozenAt k
      obtain ⟨hO3, hgr⟩ := hO2.stored k (.int .i64 (rnd S 4))
      have hb6 : Below w.heap.size w (w5.setCell ⟨w.heap.size, k, none⟩ (.int .i64 (rnd S 4))) := hbq2.setCell (p := ⟨w.heap.size, k, none⟩) (Nat.le_refl _) _
      have hxs2 : Hid (∀ j, j < k + 1 → (xs.set k (.int .i64 (rnd S 4)))[j]? = some (.int .i64 (sineV 8 j))) := by
        intro j hj
        by_cases e : j = k
        · rw [e, List.getElem?_set_self (by omega), HV.out]
        · rw [List.getElem?_set_ne (by omega)]; exact hxs.out j (by omega)
      clear hxs HS hb4 hO hO2 hbq hgr hb45 hbq2
      go_wp2
      exact ⟨⟨k + 1, _, by go_num, by omega, hO3, by simp [hlenO], hb6, by simpa [World.setCell] using (show w.heap.size < w5.heap.size by omega), hxs2⟩, by simp [intOf]; omega⟩
    · have hkM : k = 32 := by omega
      subst hkM
      have hend := row_eq hlenO hxs.out
      have HE := Lib.hid hend
      clear hend hxs
      go_wp2
      go_ret2
      refine ⟨w.heap.size, rfl, ?_, hbq⟩
      have : (hvL 0 true).map (Value.int .i64) = xs := HE.out.symm
      rw [this]
      exact hO

set_option maxRecDepth 100000 in
set_option maxHeartbeats 2000000 in
theorem half_kbd_short (w : World) : Calls Try.prog 31 #[.int .u8 1, .bool true] w (RHalf 1 true w) := by
  go_enter Try.func31, Try.ntmps31
  go_wp2_with fail
  refine (kbd_short _).mono ?_
  rintro e w4 ⟨g, rfl, xs, hO, hlen, hxs, hb⟩
  have HE := Lib.hid (row_eq hlen hxs)
  clear hxs
  go_wp2
  go_ret2
  refine ⟨g, rfl, ?_, hb⟩
  have : (hvL 1 true).map (Value.int .i64) = xs := HE.out.symm
  rw [this]
  exact hO

theorem half_ok (shape : Int) (short : Bool) (h0 : shape = 0 ∨ shape = 1) (w : World) : Calls Try.prog 31 #[.int .u8 shape, .bool short] w (RHalf shape short w) := by
  rcases h0 with rfl | rfl <;> cases short
  · exact half_sine_long w
  · exact half_sine_short w
  · exact half_kbd_long w
  · exact half_kbd_short w
theorem half_bad (shape : Int) (short : Bool) (h0 : shape ≠ 0) (h1 : shape ≠ 1) (w : World) : Calls Try.prog 31 #[.int .u8 shape, .bool short] w fun e w' => e = .returned (.tuple #[.slice none 0 0, .int .i64 2]) ∧ w = w' := by
  have d0 : decide (shape = 0) = false := by simp [h0]
  have d1 : decide (shape = 1) = false := by simp [h1]
  cases short <;>
  · go_enter Try.func31, Try.ntmps31
    go_wp2
    go_ret2
    exact ⟨rfl, rfl⟩
end Go.Proofs.Ytclbbfpagkhonaa
