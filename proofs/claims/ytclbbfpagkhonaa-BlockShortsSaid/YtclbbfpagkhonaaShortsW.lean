/- BlockShorts: the walk. -/
import Derived.Test.YtclbbfpagkhonaaShortsPlain
import Derived.Test.YtclbbfpagkhonaaUnderW
import Derived.StillTailTactics
set_option linter.unusedVariables false
set_option linter.unusedSimpArgs false
namespace Go.Proofs.Ytclbbfpagkhonaa
open Go.ChangeShapes Go.WideShapes Go.ChangeAt Go.RowKit

/-- A list and an error: where it lies, in memory of the call's own. -/
def RListB (l : List Int) (E : Int) (w : World) (e : Ending) (w' : World) : Prop :=
  ∃ p c, e = .returned (.tuple #[.slice p l.length c, .int .i64 E]) ∧ l.length ≤ c ∧ IntsB w' p l w.heap.size w'.heap.size ∧ Below w.heap.size w w'
theorem list_b {r : List Int × Int} {w : World} {e : Ending} {w' : World} (h : RRowE r w e w') : RListB r.1 r.2 w e w' := by
  obtain ⟨v, rfl, h1, hB⟩ := h
  obtain ⟨p, c, rfl, i1⟩ := owns_any h1
  refine ⟨p, c, rfl, ?_, i1, hB⟩
  rcases h1.2 with ⟨h', _⟩ | ⟨g', cap, cur, e', _, _, h3, _⟩
  · have := h'
    simp at this
    omega
  · obtain ⟨_, rfl⟩ : p = some ⟨g', 0, none⟩ ∧ c = cap := by simpa using e'
    exact h3
theorem Still.drew {B M : Nat} {w w' : World} (h : Still B M w w') : Still B M w w'.drew := ⟨h.os, h.tape, h.output, h.size, h.block⟩
theorem Only.drew {B : Nat} {w w' : World} (h : Only B w w') : Only B w w'.drew := ⟨h.os, h.tape, h.output, h.size, h.block⟩
theorem Only.below {B n : Nat} {w0 w w' : World} (h : Only B w w') (hb : Below n w0 w) (h1 : n ≤ B) : Below n w0 w' := hb.trans ⟨h.os, h.tape, h.output, by rw [h.size]; exact Nat.le_refl _, fun k hk => h.block k (by omega)⟩
theorem Only.keepInts {B : Nat} {w w' : World} {p : Option Addr} {l : List Int} {lo hi : Nat} (h : Only B w w') (hI : IntsB w p l lo hi) (hB : hi ≤ B ∨ B < lo) : IntsB w' p l lo hi := by
  obtain ⟨h0, h'⟩ := hI
  refine ⟨by rw [h.size]; exact h0, ?_⟩
  rcases h' with h' | ⟨b, off, hp, h1, h2, hc⟩
  · exact .inl h'
  · exact .inr ⟨b, off, hp, h1, h2, fun j hj => (World.cell?_of_block (a := ⟨b, off + j, none⟩) (h.block b (by omega))).trans (hc j hj)⟩
set_option maxRecDepth 100000 in
set_option maxHeartbeats 8000000 in
theorem shorts_e1 (was shape : Int) (wk : Int) (p q : Option Addr) (n m c d : Nat) (w : World)  (d1 : decide ((1000 : Int) < (n : Int)) = true) : Calls Try.prog 7 #[.int .u8 was, .int .u8 shape, .slice p n c, .slice q m d, .int .i64 wk] w fun e w' => e = .returned (.bool true) ∧ Below w.heap.size w w' := by
  go_enter Try.func7, Try.ntmps7
  go_wp2_with fail
  refine (alive12 _).mono ?_
  rintro e w1 ⟨rfl, hB1⟩
  have hz1 := hB1.size
  go_wp2
  go_ret
  exact ⟨rfl, hB1⟩
set_option maxRecDepth 100000 in
set_option maxHeartbeats 8000000 in
theorem shorts_e2 (was shape : Int) (wk : Int) (p q : Option Addr) (n m c d : Nat) (w : World) (d1 : decide ((1000 : Int) < (n : Int)) = false) (d2 : decide ((1000 : Int) < (m : Int)) = true) : Calls Try.prog 7 #[.int .u8 was, .int .u8 shape, .slice p n c, .slice q m d, .int .i64 wk] w fun e w' => e = .returned (.bool true) ∧ Below w.heap.size w w' := by
  go_enter Try.func7, Try.ntmps7
  go_wp2_with fail
  refine (alive12 _).mono ?_
  rintro e w1 ⟨rfl, hB1⟩
  have hz1 := hB1.size
  go_wp2
  go_ret
  exact ⟨rfl, hB1⟩
set_option maxRecDepth 100000 in
set_option maxHeartbeats 8000000 in
theorem shorts_e3 (was shape : Int) (wk : Int) (p q : Option Addr) (n m c d : Nat) (w : World) (d1 : decide ((1000 : Int) < (n : Int)) = false) (d2 : decide ((1000 : Int) < (m : Int)) = false) (d3 : decide (wk < 0) = true) : Calls Try.prog 7 #[.int .u8 was, .int .u8 shape, .slice p n c, .slice q m d, .int .i64 wk] w fun e w' => e = .returned (.bool true) ∧ Below w.heap.size w w' := by
  go_enter Try.func7, Try.ntmps7
  go_wp2_with fail
  refine (alive12 _).mono ?_
  rintro e w1 ⟨rfl, hB1⟩
  have hz1 := hB1.size
  go_wp2
  go_ret
  exact ⟨rfl, hB1⟩
set_option maxRecDepth 100000 in
set_option maxHeartbeats 8000000 in
theorem shorts_e4 (was shape : Int) (wk : Int) (p q : Option Addr) (n m c d : Nat) (w : World) (d1 : decide ((1000 : Int) < (n : Int)) = false) (d2 : decide ((1000 : Int) < (m : Int)) = false) (d3 : decide (wk < 0) = false) (d4 : decide (7 < wk) = true) : Calls Try.prog 7 #[.int .u8 was, .int .u8 shape, .slice p n c, .slice q m d, .int .i64 wk] w fun e w' => e = .returned (.bool true) ∧ Below w.heap.size w w' := by
  go_enter Try.func7, Try.ntmps7
  go_wp2_with fail
  refine (alive12 _).mono ?_
  rintro e w1 ⟨rfl, hB1⟩
  have hz1 := hB1.size
  go_wp2
  go_ret
  exact ⟨rfl, hB1⟩
set_option maxRecDepth 100000 in
set_option maxHeartbeats 8000000 in
theorem shorts_bb (was shape : Int) (k : Nat) (hk : k < 8) (p q : Option Addr) (n m c d : Nat) (w : World) (d3 : decide ((k : Int) < 0) = false) (d4 : decide (7 < (k : Int)) = false) (d1 : decide ((1000 : Int) < (n : Int)) = false) (EA : Int) (HA : Hid (∀ W, Below w.heap.size w W → Calls Try.prog 11 #[.int .u8 2, .int .u8 was, .int .u8 shape, .slice p n c] W (RListG [] EA W))) (a1 : (EA == 0) = false) (a1' : (EA != 0) = true) (d2 : decide ((1000 : Int) < (m : Int)) = false) (EX : Int) (HX : Hid (∀ W, Below w.heap.size w W → Calls Try.prog 10 #[.int .u8 2, .int .u8 was, .int .u8 shape, .slice q m d] W (RListG [] EX W))) (x1 : (EX == 0) = false) (x1' : (EX != 0) = true) : Calls Try.prog 7 #[.int .u8 was, .int .u8 shape, .slice p n c, .slice q m d, .int .i64 k] w fun e w' => e = .returned (.bool true) ∧ Below w.heap.size w w' := by
  unfold RListG at HA
  rw [List.length_nil] at HA
  unfold RListG at HX
  rw [List.length_nil] at HX
  go_enter Try.func7, Try.ntmps7
  go_wp2_with fail
  refine (alive12 _).mono ?_
  rintro e w1 ⟨rfl, hB1⟩
  have hz1 := hB1.size
  go_wp2_with fail
  refine (HA.out _ hB1).mono ?_
  rintro e w2 ⟨pa, ca, rfl, hca, hIa, hB2⟩
  have hb2 := hB1.trans (hB2.mono hz1)
  clear hIa hca hB2 HA
  go_wp2_with fail
  refine (HX.out _ hb2).mono ?_
  rintro e w3 ⟨px, cx, rfl, hcx, hIx, hB3⟩
  have hb3 := hb2.trans (hB3.mono hb2.size)
  go_wp2
  go_ret
  exact ⟨rfl, hb3⟩
set_option maxRecDepth 100000 in
set_option maxHeartbeats 8000000 in
theorem shorts_bo (was shape : Int) (k : Nat) (hk : k < 8) (p q : Option Addr) (n m c d : Nat) (w : World) (d3 : decide ((k : Int) < 0) = false) (d4 : decide (7 < (k : Int)) = false) (d1 : decide ((1000 : Int) < (n : Int)) = false) (EA : Int) (HA : Hid (∀ W, Below w.heap.size w W → Calls Try.prog 11 #[.int .u8 2, .int .u8 was, .int .u8 shape, .slice p n c] W (RListG [] EA W))) (a1 : (EA == 0) = false) (a1' : (EA != 0) = true) (lines X : List Int) (hll : lines.length = 256) (hXl : X.length = 512) (hv : IsArg w q d lines) (hsum : ∀ j, j < 512 → X.getD j 0 = sumF (addW was shape lines j) 8) (hfit : ∀ j i, i ≤ 8 → -34359738368 ≤ sumF (addW was shape lines j) i ∧ sumF (addW was shape lines j) i ≤ 34359738368) (haf : ∀ j i, i < 8 → -4294967296 ≤ addW was shape lines j i ∧ addW was shape lines j i ≤ 4294967296)
    (HX : Hid (∀ W, Below w.heap.size w W → Calls Try.prog 10 #[.int .u8 2, .int .u8 was, .int .u8 shape, .slice q 256 d] W (RListG X 0 W)))
    (HY : Hid (∀ W r d' i, i < 8 → 256 ≤ d' → IsInts W r (oneL lines i) → Calls Try.prog 10 #[.int .u8 2, .int .u8 was, .int .u8 shape, .slice r 256 d'] W (RListB ((List.range 512).map (fun j => addW was shape lines j i)) 0 W))) : Calls Try.prog 7 #[.int .u8 was, .int .u8 shape, .slice p n c, .slice q 256 d, .int .i64 k] w fun e w' => e = .returned (.bool true) ∧ Below w.heap.size w w' := by
  unfold RListG at HA
  rw [List.length_nil] at HA
  unfold RListG at HX
  unfold RListB at HY
  rw [hXl] at HX
  have eM : ((List.range 512).map (fun j => addW was shape lines j 0)).length = 512 := by simp
  have HY2 : Hid (∀ W r d' i, i < 8 → 256 ≤ d' → IsInts W r (oneL lines i) → Calls Try.prog 10 #[.int .u8 2, .int .u8 was, .int .u8 shape, .slice r 256 d'] W (fun e w' => ∃ p c, e = .returned (.tuple #[.slice p 512 c, .int .i64 0]) ∧ 512 ≤ c ∧ IntsB w' p ((List.range 512).map (fun j => addW was shape lines j i)) W.heap.size w'.heap.size ∧ Below W.heap.size W w')) := Lib.hid (fun W r d' i hi hd hI => by
    have h := HY.out W r d' i hi hd hI
    rw [show ((List.range 512).map (fun j => addW was shape lines j i)).length = 512 by simp] at h
    exact h)
  have HXL := Lib.hid hXl
  have HLL := Lib.hid hll
  have HV := Lib.hid hv
  have HSUM := Lib.hid hsum
  have HFIT := Lib.hid hfit
  have HAF := Lib.hid haf
  clear HY eM hXl hll hv hsum hfit haf
  have HYG := Lib.hid (show ∀ i j, j < 512 → ((List.range 512).map (fun j => addW was shape lines j i)).getD j 0 = addW was shape lines j i from fun i j hj => by rw [List.getD_eq_getElem?_getD, List.getElem?_map, List.getElem?_range hj]; rfl)
  have HYL := Lib.hid (show ∀ i, ((List.range 512).map (fun j => addW was shape lines j i)).length = 512 from fun i => by simp)
  have HOUT := Lib.hid (show ∀ i j, (j < 112 + 32 * i ∨ 176 + 32 * i ≤ j) → addW was shape lines j i = 0 from fun i j h => addW_out was shape lines h)
  have HSS := Lib.hid (show ∀ j i, sumF (addW was shape lines j) (i + 1) = sumF (addW was shape lines j) i + addW was shape lines j i from fun j i => rfl)
  have HS0 := Lib.hid (show ∀ j, sumF (addW was shape lines j) 0 = 0 from fun j => rfl)
  go_enter Try.func7, Try.ntmps7
  go_wp2_with fail
  refine (alive12 _).mono ?_
  rintro e w1 ⟨rfl, hB1⟩
  have hz1 := hB1.size
  go_wp2_with fail
  refine (HA.out _ hB1).mono ?_
  rintro e w2 ⟨pa, ca, rfl, hca, hIa, hB2⟩
  have hb2 := hB1.trans (hB2.mono hz1)
  clear hIa hca hB2 HA
  go_wp2_with fail
  refine (HX.out _ hb2).mono ?_
  rintro e w3 ⟨px, cx, rfl, hcx, hIx, hB3⟩
  have hb3 := hb2.trans (hB3.mono hb2.size)
  have hz3 := hb3.size
  have HIx := Lib.hid hIx
  clear hIx hB3 HX hcx
  go_wp2_with (at_make; refine make_row rfl _ _ rfl 512 (by omega) rfl rfl ?_; intro wS hltS hOS hBS)
  have HRS := Lib.hid hOS
  have hzS := hBS.size
  have hbS := hb3.trans (hBS.mono hz3)
  have HIxS := Lib.hid (HIx.out.inB.keep hBS (Nat.le_refl _))
  clear hOS HIx hBS
  go_loopw [22] (fun I wr => ∃ (i : Nat) (xs : List Value), I = .int .i64 i ∧ i ≤ 8 ∧ Hid (wr.ownsRow w3.heap.size 3 1 (.slice (some ⟨w3.heap.size, 0, none⟩) 512 512) 512 xs) ∧ Hid (xs.length = 512) ∧ Hid (∀ j, j < 512 → xs[j]? = some (.int .i64 (sumF (addW was shape lines j) i))) ∧ Hid (Still w3.heap.size wS.heap.size wS wr)) (fun I _ => 8 - (intOf I).toNat)
  case atStart => exact ⟨0, _, rfl, by omega, HRS, Lib.hid (by simp), Lib.hid (fun j hj => by rw [HS0.out, List.getElem?_replicate_of_lt hj]), Lib.hid (Still.of (Below.refl _ _))⟩
  case round =>
    obtain ⟨i, xs, rfl, hi, hR, hxl, hxs, hSt⟩ := hrel
    obtain ⟨wo, hwo⟩ : ∃ z, z = wr := ⟨_, rfl⟩
    subst hwo
    clear HRS
    have hbr := Still.below hSt.out hbS (by omega) (by omega)
    have hzr := hSt.out.size
    by_cases hlt : i < 8
    · have hd : decide ((i : Int) < 8) = true := decide_eq_true (by omega)
      have t1 : IntKind.i64.wrap (32 * (i : Int)) = 32 * (i : Int) := by rw [IntKind.wrap_i64]; omega
      have t2 : IntKind.i64.wrap (32 * (i : Int) + 32) = 32 * (i : Int) + 32 := by rw [IntKind.wrap_i64]; omega
      have t3 : IntKind.i64.wrap (112 + 32 * (i : Int)) = 112 + 32 * (i : Int) := by rw [IntKind.wrap_i64]; omega
      have t4 : IntKind.i64.wrap (176 + 32 * (i : Int)) = 176 + 32 * (i : Int) := by rw [IntKind.wrap_i64]; omega
      go_wp2_with (at_make; refine make_row rfl _ _ rfl 256 (by omega) rfl rfl ?_; intro wP hltP hOP hBP)
      have HRP := Lib.hid hOP
      have HRS2 := Lib.hid (owns_keep hR.out hBP)
      have hzP := hBP.size
      have hbP := hbr.trans (hBP.mono (by omega))
      have HStP := Lib.hid (hSt.out.trans (Still.of (hBP.mono hzr)))
      clear hOP hBP hR hSt
      go_wp2
      go_loopw [24] (fun I wq => ∃ (j : Nat) (ys : List Value), I = .int .i64 ((32 * i + j : Nat) : Int) ∧ j ≤ 32 ∧ Hid (wq.ownsRow wo.heap.size 3 1 (.slice (some ⟨wo.heap.size, 0, none⟩) 256 256) 256 ys) ∧ Hid (ys.length = 256) ∧ Hid (∀ a, a < 256 → ys[a]? = some (.int .i64 (if 32 * i ≤ a ∧ a < 32 * i + j then lines.getD a 0 else 0))) ∧ Hid (Only wo.heap.size wP wq)) (fun I _ => 300 - (intOf I).toNat)
      case atStart => exact ⟨0, _, by simp, by omega, HRP, Lib.hid (by simp), Lib.hid (fun j hj => by rw [if_neg (by omega), List.getElem?_replicate_of_lt hj]), Lib.hid (Only.refl _ _)⟩
      case round =>
        obtain ⟨j, ys, rfl, hj, hQ, hyl, hys, hOq⟩ := hrel
        obtain ⟨wq, hwq⟩ : ∃ z, z = wr := ⟨_, rfl⟩
        subst hwq
        clear HRP
        have hbq := hOq.out.below hbP (by omega)
        by_cases hlj : j < 32
        · have hd2 : decide (((32 * i + j : Nat) : Int) < 32 * (i : Int) + 32) = true := decide_eq_true (by omega)
          have hlt2 : 32 * i + j < 256 := by omega
          obtain ⟨bl, ol, rfl, _, ql⟩ := (HV.out.1.keep hbq).at (j := 32 * i + j) (by rw [HLL.out]; omega)
          have rl := ql (32 * i + j) (by rw [HLL.out]; omega)
          have hcO := hQ.out.cellAt (32 * i + j) (by omega)
          rw [hys.out (32 * i + j) (by omega)] at hcO
          have hfO := hQ.out.frozenAt (32 * i + j)
          obtain ⟨z, hz⟩ : ∃ z, lines.getD (32 * i + j) 0 = z := ⟨_, rfl⟩
          rw [hz] at rl
          have hst := hQ.out.stored (32 * i + j) (.int .i64 z)
          have hQ2 := Lib.hid hst.1
          have hl2 := Lib.hid (show (ys.set (32 * i + j) (.int .i64 z)).length = 256 by simp [hyl.out])
          have hy2 := Lib.hid (show ∀ a, a < 256 → (ys.set (32 * i + j) (.int .i64 z))[a]? = some (.int .i64 (if 32 * i ≤ a ∧ a < 32 * i + (j + 1) then lines.getD a 0 else 0)) from fun a ha => by
            by_cases e : a = 32 * i + j
            · subst e; rw [List.getElem?_set_self (by rw [hyl.out]; omega), if_pos (by omega), hz]
            · rw [List.getElem?_set_ne (by omega), hys.out a ha]
              by_cases e2 : 32 * i ≤ a ∧ a < 32 * i + j
              · rw [if_pos e2, if_pos (by omega)]
              · rw [if_neg e2, if_neg (by omega)])
          have hOq2 := Lib.hid (hOq.out.set (32 * i + j) (.int .i64 z))
          obtain ⟨z0, hz0⟩ : ∃ z0, (if 32 * i ≤ 32 * i + j ∧ 32 * i + j < 32 * i + j then lines.getD (32 * i + j) 0 else 0) = z0 := ⟨_, rfl⟩
          rw [hz0] at hcO
          obtain ⟨kj, hkj⟩ : ∃ kj, 32 * i + j = kj := ⟨_, rfl⟩
          have HKJ := Lib.hid hkj
          rw [hkj] at rl hcO hfO hd2 hlt2 hQ2 hl2 hy2 hOq2 ⊢
          clear hst hys hQ hyl hOq ql hz hz0 hbq hkj
          go_wp2
          exact ⟨⟨j + 1, _, by rw [← HKJ.out]; go_num, by omega, hQ2, hl2, Lib.hid (by rw [← HKJ.out]; rw [← HKJ.out] at hy2; exact hy2.out), hOq2⟩, by rw [← HKJ.out]; simp [intOf]; omega⟩
        · have hd2 : decide (((32 * i + j : Nat) : Int) < 32 * (i : Int) + 32) = false := decide_eq_false (by omega)
          have hj32 : j = 32 := by omega
          have hye : Hid (ys = (oneL lines i).map (Value.int .i64)) := by
            show _ = _
            unfold oneL
            exact fill_eq hyl.out (fun a ha => by rw [hys.out a ha, hj32])
          have hQ3 := Lib.hid (show wq.ownsRow wo.heap.size 3 1 (.slice (some ⟨wo.heap.size, 0, none⟩) 256 256) 256 ((oneL lines i).map (Value.int .i64)) by rw [← hye.out]; exact hQ.out)
          have HIo := Lib.hid (full_ints' hQ3.out (one_len lines i) (by rw [hOq.out.size]; exact hltP))
          have HRS3 := Lib.hid (owns_away2 (L := 0) HRS2.out (hOq.out.block w3.heap.size (by omega)))
          have HStQ := Lib.hid (HStP.out.trans (show Still w3.heap.size wS.heap.size wP wq from ⟨hOq.out.os, hOq.out.tape, hOq.out.output, by rw [hOq.out.size]; exact Nat.le_refl _, fun a ha _ => hOq.out.block a (by omega)⟩))
          have hzq := hOq.out.size
          clear hys hyl hQ hye hQ3 hOq HRS2 HStP
          go_wp2_with fail
          refine (HY2.out _ _ _ i hlt (Nat.le_refl _) HIo.out).mono ?_
          rintro e wY ⟨py, cy, rfl, hcy, hIy, hBY⟩
          have HRS4 := Lib.hid (owns_keep HRS3.out hBY)
          have hzY := hBY.size
          have HStY := Lib.hid (HStQ.out.trans (Still.of (hBY.mono (by omega))))
          have HIy := Lib.hid hIy
          obtain ⟨by_, oy, rfl, _⟩ := hIy.at (j := 0) (by rw [HYL.out]; omega)
          have hbyq : wq.heap.size ≤ by_ := by
            obtain ⟨_, h' | ⟨b', o', e', h1', _⟩⟩ := hIy
            · have := HYL.out i; rw [h'] at this; simp at this
            · obtain ⟨rfl, rfl⟩ : by_ = b' ∧ oy = o' := by simpa using e'
              exact h1'
          clear hIy hBY HRS3 HStQ HIo hcy
          go_wp2
          go_loopw [27] (fun I wv => ∃ (a : Nat) (zs : List Value), I = .int .i64 a ∧ a ≤ 512 ∧ Hid (wv.ownsRow w3.heap.size 3 1 (.slice (some ⟨w3.heap.size, 0, none⟩) 512 512) 512 zs) ∧ Hid (zs.length = 512) ∧ Hid (∀ j, j < 512 → zs[j]? = some (.int .i64 (if j < a then sumF (addW was shape lines j) (i + 1) else sumF (addW was shape lines j) i))) ∧ Hid (Only w3.heap.size wY wv)) (fun I _ => 512 - (intOf I).toNat)
          case atStart => exact ⟨0, _, rfl, by omega, HRS4, hxl, Lib.hid (fun j hj => by rw [if_neg (by omega)]; exact hxs.out j hj), Lib.hid (Only.refl _ _)⟩
          case round =>
            obtain ⟨a, zs, rfl, ha, hZ, hzl, hzs, hOv⟩ := hrel
            obtain ⟨wv, hwv⟩ : ∃ z, z = wr := ⟨_, rfl⟩
            subst hwv
            clear HRS4
            by_cases hla : a < 512
            · have hd3 : decide ((a : Int) < 512) = true := decide_eq_true (by omega)
              have hla2 : (a : Int) < 512 := by omega
              have hIv := (hOv.out.keepInts HIy.out (.inr (by omega))).ints
              obtain ⟨_, _, ey, _, qy⟩ := hIv.at (j := a) (by rw [HYL.out]; exact hla)
              cases ey
              have ry := qy a (by rw [HYL.out]; exact hla)
              rw [HYG.out i a hla] at ry
              have hcO := hZ.out.cellAt a (by omega)
              rw [hzs.out a hla, if_neg (by omega)] at hcO
              have hfO := hZ.out.frozenAt a
              have b1 := HFIT.out a i (by omega)
              have b2 := HAF.out a i hlt
              have hss := HSS.out a i
              have hout := HOUT.out i a
              have HZZ : Hid (∀ v, v = sumF (addW was shape lines a) (i + 1) → ∀ j, j < 512 → (zs.set a (.int .i64 v))[j]? = some (.int .i64 (if j < a + 1 then sumF (addW was shape lines j) (i + 1) else sumF (addW was shape lines j) i))) := Lib.hid (fun v hv j hj => by
                by_cases e : j = a
                · subst e; rw [List.getElem?_set_self (by rw [hzl.out]; omega), if_pos (by omega), hv]
                · rw [List.getElem?_set_ne (by omega), hzs.out j hj]
                  by_cases e2 : j < a
                  · rw [if_pos e2, if_pos (by omega)]
                  · rw [if_neg e2, if_neg (by omega)])
              obtain ⟨s, hs⟩ : ∃ s, sumF (addW was shape lines a) i = s := ⟨_, rfl⟩
              obtain ⟨z, hz⟩ : ∃ z, addW was shape lines a i = z := ⟨_, rfl⟩
              rw [hs] at hcO b1 hss
              rw [hz] at ry b2 hss hout
              have t5 : IntKind.i64.wrap (s + z) = s + z := by rw [IntKind.wrap_i64]; omega
              have hZ2 := Lib.hid (hZ.out.stored a (.int .i64 (s + z))).1
              have hl2 := Lib.hid (show (zs.set a (.int .i64 (s + z))).length = 512 by simp [hzl.out])
              have hz2 := Lib.hid (HZZ.out (s + z) hss.symm)
              have hOv2 := hOv.out.drew
              have hZd : (wv.drew).ownsRow w3.heap.size 3 1 (.slice (some ⟨w3.heap.size, 0, none⟩) 512 512) 512 zs := hZ.out
              have HO3 := Lib.hid (hOv2.set a (.int .i64 (s + z)))
              have HZ3 := Lib.hid (hZd.stored a (.int .i64 (s + z))).1
              have cz : wv.drew.cell? ⟨w3.heap.size, a, none⟩ = some (.int .i64 s) := hcO
              have fz : wv.drew.frozen? ⟨w3.heap.size, a, none⟩ = false := hfO
              clear hZ hzl hzs hOv qy hIv HZZ hs hz hss hOv2 hZd hZ2
              by_cases e1 : (a : Int) < 112 + 32 * (i : Int)
              · have d5 : decide ((a : Int) < 112 + 32 * (i : Int)) = true := decide_eq_true e1
                have hz0 : z = 0 := hout (.inl (by omega))
                have z1 : (z == 0) = true := by simp [hz0]
                have z2 : (z != 0) = false := by simp [hz0]
                clear hout hz0
                go_wp2_with fail
                go_still_tail 12, (by kernel_rfl)
                change wpList _ _ _ _ _ wv.drew
                obtain ⟨w6, hw6⟩ : ∃ w6, wv.drew = w6 := ⟨_, rfl⟩
                rw [hw6] at HO3 HZ3 cz fz ⊢
                clear hw6
                go_wp2
                exact ⟨⟨a + 1, _, by go_num, by omega, HZ3, hl2, hz2, HO3⟩, by simp [intOf]; omega⟩
              · have d5 : decide ((a : Int) < 112 + 32 * (i : Int)) = false := decide_eq_false e1
                by_cases e2 : 176 + 32 * (i : Int) ≤ (a : Int)
                · have d6 : decide (176 + 32 * (i : Int) ≤ (a : Int)) = true := decide_eq_true e2
                  have hz0 : z = 0 := hout (.inr (by omega))
                  have z1 : (z == 0) = true := by simp [hz0]
                  have z2 : (z != 0) = false := by simp [hz0]
                  clear hout hz0
                  go_wp2_with fail
                  go_still_tail 12, (by kernel_rfl)
                  change wpList _ _ _ _ _ wv.drew
                  obtain ⟨w6, hw6⟩ : ∃ w6, wv.drew = w6 := ⟨_, rfl⟩
                  rw [hw6] at HO3 HZ3 cz fz ⊢
                  clear hw6
                  go_wp2
                  exact ⟨⟨a + 1, _, by go_num, by omega, HZ3, hl2, hz2, HO3⟩, by simp [intOf]; omega⟩
                · have d6 : decide (176 + 32 * (i : Int) ≤ (a : Int)) = false := decide_eq_false e2
                  clear hout
                  go_wp2_with fail
                  go_still_tail 12, (by kernel_rfl)
                  change wpList _ _ _ _ _ wv.drew
                  obtain ⟨w6, hw6⟩ : ∃ w6, wv.drew = w6 := ⟨_, rfl⟩
                  rw [hw6] at HO3 HZ3 cz fz ⊢
                  clear hw6
                  go_wp2
                  exact ⟨⟨a + 1, _, by go_num, by omega, HZ3, hl2, hz2, HO3⟩, by simp [intOf]; omega⟩
            · have hd3 : decide ((a : Int) < 512) = false := decide_eq_false (by omega)
              have hz5 := Lib.hid (show ∀ j, j < 512 → zs[j]? = some (.int .i64 (sumF (addW was shape lines j) (i + 1))) from fun j hj => by have := hzs.out j hj; rw [if_pos (by omega)] at this; exact this)
              have HStV := Lib.hid (HStY.out.trans (show Still w3.heap.size wS.heap.size wY wv from ⟨hOv.out.os, hOv.out.tape, hOv.out.output, by rw [hOv.out.size]; exact Nat.le_refl _, fun k hk hn => hOv.out.block k hn⟩))
              clear hzs hOv HStY
              go_wp2
              exact ⟨⟨i + 1, _, by go_num, by omega, hZ, hzl, hz5, HStV⟩, by simp [intOf]; omega⟩
    · have hd : decide ((i : Int) < 8) = false := decide_eq_false (by omega)
      have hi8 : i = 8 := by omega
      have hxe := Lib.hid (show ∀ j, j < 512 → wo.cell? ⟨w3.heap.size, j, none⟩ = some (.int .i64 (X.getD j 0)) from fun j hj => by
        have h := hR.out.cellAt j (by omega)
        rw [hxs.out j hj, hi8, ← HSUM.out j hj] at h
        exact h)
      have HIxr := Lib.hid (show IntsB wo px X 0 w3.heap.size from by
        obtain ⟨h0, h' | ⟨b', o', e', g1, g2, g3⟩⟩ := HIxS.out
        · exact ⟨by omega, .inl h'⟩
        · exact ⟨by omega, .inr ⟨b', o', e', g1, g2, fun j hj => (World.cell?_of_block (a := ⟨b', o' + j, none⟩) (hSt.out.block b' (by omega) (by omega))).trans (g3 j hj)⟩⟩)
      have HBR := Lib.hid hbr
      clear hR hxs hxl hSt hbr
      go_wp2
      go_loopw [28] (fun I wz => ∃ (j mm : Nat), I = .int .i64 j ∧ j ≤ 512 ∧ wz = wo.drewN mm) (fun I _ => 512 - (intOf I).toNat)
      case atStart => exact ⟨0, 0, rfl, by omega, rfl⟩
      case round =>
        obtain ⟨j, mm, rfl, hj, rfl⟩ := hrel
        by_cases hlj : j < 512
        · have hd : decide ((j : Int) < 512) = true := decide_eq_true (by omega)
          obtain ⟨bx, ox, rfl, qx⟩ := HIxr.out.at (j := j) (by rw [HXL.out]; exact hlj)
          have rs := hxe.out j hlj
          generalize X.getD j 0 = z at *
          have z1 : (z == z) = true := by simp
          have z2 : (z != z) = false := by simp
          go_wp2
          go_quiet (fail)
          go_wp2
          exact ⟨⟨j + 1, _, by go_num, by omega, rfl⟩, by simp [intOf]; omega⟩
        · have hd : decide ((j : Int) < 512) = false := decide_eq_false (by omega)
          go_wp2
          go_ret
          exact ⟨rfl, below_drewN HBR.out _⟩
set_option maxRecDepth 100000 in
set_option maxHeartbeats 8000000 in
theorem shorts_ob (was shape : Int) (k : Nat) (hk : k < 8) (p q : Option Addr) (n m c d : Nat) (w : World) (d3 : decide ((k : Int) < 0) = false) (d4 : decide (7 < (k : Int)) = false) (pcm A B : List Int) (hpl : pcm.length = 512) (hAl : A.length = 256) (hBl : B.length = 256) (hw : IsArg w p c pcm) (hAB : ∀ i, i < 32 → A.getD (32 * k + i) 0 = B.getD (32 * k + i) 0)
    (HA : Hid (∀ W, Below w.heap.size w W → Calls Try.prog 11 #[.int .u8 2, .int .u8 was, .int .u8 shape, .slice p 512 c] W (RListG A 0 W)))
    (HB : Hid (∀ W r d', 512 ≤ d' → IsInts W r (otherL pcm k) → Calls Try.prog 11 #[.int .u8 2, .int .u8 was, .int .u8 shape, .slice r 512 d'] W (RListG B 0 W))) (d2 : decide ((1000 : Int) < (m : Int)) = false) (EX : Int) (HX : Hid (∀ W, Below w.heap.size w W → Calls Try.prog 10 #[.int .u8 2, .int .u8 was, .int .u8 shape, .slice q m d] W (RListG [] EX W))) (x1 : (EX == 0) = false) (x1' : (EX != 0) = true) : Calls Try.prog 7 #[.int .u8 was, .int .u8 shape, .slice p 512 c, .slice q m d, .int .i64 k] w fun e w' => e = .returned (.bool true) ∧ Below w.heap.size w w' := by
  unfold RListG at HA HB
  rw [hAl] at HA
  rw [hBl] at HB
  have HAL := Lib.hid hAl
  have HBL := Lib.hid hBl
  have HABE := Lib.hid hAB
  have HPL := Lib.hid hpl
  have HW := Lib.hid hw
  clear hAl hBl hAB hpl hw
  unfold RListG at HX
  rw [List.length_nil] at HX
  go_enter Try.func7, Try.ntmps7
  go_wp2_with fail
  refine (alive12 _).mono ?_
  rintro e w1 ⟨rfl, hB1⟩
  have hz1 := hB1.size
  go_wp2_with fail
  refine (HA.out _ hB1).mono ?_
  rintro e wA ⟨pa, ca, rfl, hca, hIa, hBA⟩
  have hbA := hB1.trans (hBA.mono hz1)
  have hzA := hbA.size
  have HIa := Lib.hid hIa
  clear hIa hBA HA hca
  go_wp2_with (at_make; refine make_row rfl _ _ rfl 512 (by omega) rfl rfl ?_; intro wO hltO hOO hBO)
  have HRO := Lib.hid hOO
  have hzO := hBO.size
  have hbO := hbA.trans (hBO.mono hzA)
  have HIaO := Lib.hid (HIa.out.keep hBO).inB
  have HIaO2 := Lib.hid (HIa.out.inB.keep hBO (Nat.le_refl _))
  clear hOO HIa hBO HIaO
  go_loopw [15] (fun I wr => ∃ (i : Nat) (xs : List Value), I = .int .i64 i ∧ i ≤ 64 ∧ Hid (wr.ownsRow wA.heap.size 3 1 (.slice (some ⟨wA.heap.size, 0, none⟩) 512 512) 512 xs) ∧ Hid (xs.length = 512) ∧ Hid (∀ j, j < 512 → xs[j]? = some (.int .i64 (if 112 + 32 * k ≤ j ∧ j < 112 + 32 * k + i then pcm.getD j 0 else 0))) ∧ Hid (Only wA.heap.size wO wr)) (fun I _ => 64 - (intOf I).toNat)
  case atStart => exact ⟨0, _, rfl, by omega, HRO, Lib.hid (by simp), Lib.hid (fun j hj => by rw [if_neg (by omega), List.getElem?_replicate_of_lt hj]), Lib.hid (Only.refl _ _)⟩
  case round =>
    obtain ⟨i, xs, rfl, hi, hR, hxl, hxs, hOn⟩ := hrel
    clear HRO
    by_cases hlt : i < 64
    · have hd : decide ((i : Int) < 64) = true := decide_eq_true (by omega)
      have t1 : IntKind.i64.wrap (32 * (k : Int)) = 32 * (k : Int) := by rw [IntKind.wrap_i64]; omega
      have t2 : IntKind.i64.wrap (112 + 32 * (k : Int)) = 112 + 32 * (k : Int) := by rw [IntKind.wrap_i64]; omega
      have t3 : IntKind.i64.wrap (112 + 32 * (k : Int) + (i : Int)) = 112 + 32 * (k : Int) + (i : Int) := by rw [IntKind.wrap_i64]; omega
      have t4 : (112 + 32 * (k : Int) + (i : Int)).toNat = 112 + 32 * k + i := by omega
      have t5 : (0 : Int) ≤ 112 + 32 * (k : Int) + (i : Int) := by omega
      have t6 : 112 + 32 * (k : Int) + (i : Int) < 512 := by omega
      have t7 : 112 + 32 * k + i < 512 := by omega
      obtain ⟨bp, op, rfl, _, qp⟩ := (HW.out.1.keep (hOn.out.below hbO (by omega))).at (j := 112 + 32 * k + i) (by rw [HPL.out]; omega)
      have rp := qp (112 + 32 * k + i) (by rw [HPL.out]; omega)
      have hcO := hR.out.cellAt (112 + 32 * k + i) (by omega)
      rw [hxs.out (112 + 32 * k + i) (by omega)] at hcO
      have hfO := hR.out.frozenAt (112 + 32 * k + i)
      have T1 := Lib.hid (show pcm.getD (112 + 32 * k + i) 0 = pcm.getD (112 + 32 * k + i) 0 from rfl)
      obtain ⟨z, hz⟩ : ∃ z, pcm.getD (112 + 32 * k + i) 0 = z := ⟨_, rfl⟩
      rw [hz] at rp
      have hst := hR.out.stored (112 + 32 * k + i) (.int .i64 z)
      have hR2 := Lib.hid hst.1
      have hl2 := Lib.hid (show (xs.set (112 + 32 * k + i) (.int .i64 z)).length = 512 by simp [hxl.out])
      have hx2 := Lib.hid (show ∀ j, j < 512 → (xs.set (112 + 32 * k + i) (.int .i64 z))[j]? = some (.int .i64 (if 112 + 32 * k ≤ j ∧ j < 112 + 32 * k + (i + 1) then pcm.getD j 0 else 0)) from fun j hj => by
        by_cases e : j = 112 + 32 * k + i
        · subst e; rw [List.getElem?_set_self (by rw [hxl.out]; omega), if_pos (by omega), hz]
        · rw [List.getElem?_set_ne (by omega), hxs.out j hj]
          by_cases e2 : 112 + 32 * k ≤ j ∧ j < 112 + 32 * k + i
          · rw [if_pos e2, if_pos (by omega)]
          · rw [if_neg e2, if_neg (by omega)])
      have hOn2 := Lib.hid (hOn.out.set (112 + 32 * k + i) (.int .i64 z))
      obtain ⟨z0, hz0⟩ : ∃ z0, (if 112 + 32 * k ≤ 112 + 32 * k + i ∧ 112 + 32 * k + i < 112 + 32 * k + i then pcm.getD (112 + 32 * k + i) 0 else 0) = z0 := ⟨_, rfl⟩
      rw [hz0] at hcO
      clear hst hxs hR hxl hOn qp hz hz0 T1
      go_wp2
      exact ⟨⟨i + 1, _, by go_num, by omega, hR2, hl2, hx2, hOn2⟩, by simp [intOf]; omega⟩
    · have hd : decide ((i : Int) < 64) = false := decide_eq_false (by omega)
      have hi64 : i = 64 := by omega
      have hxe : Hid (xs = (otherL pcm k).map (Value.int .i64)) := by
        show _ = _
        unfold otherL
        exact fill_eq hxl.out (fun j hj => by rw [hxs.out j hj, hi64]; congr 3; simp only [eq_iff_iff]; omega)
      have hR3 := Lib.hid (show wr.ownsRow wA.heap.size 3 1 (.slice (some ⟨wA.heap.size, 0, none⟩) 512 512) 512 ((otherL pcm k).map (Value.int .i64)) by rw [← hxe.out]; exact hR.out)
      have HIo := Lib.hid (full_ints' hR3.out (other_len pcm k) (by rw [hOn.out.size]; exact hltO))
      have hbr := hOn.out.below hbO (by omega)
      have HIar := Lib.hid (hOn.out.keepInts HIaO2.out (.inl (Nat.le_refl _))).ints
      have hzr := hbr.size
      clear hxs hxl hR hxe hR3 hOn
      go_wp2_with fail
      refine (HB.out _ _ _ (Nat.le_refl _) HIo.out).mono ?_
      rintro e wB ⟨pb, cb, rfl, hcb, hIb, hBB⟩
      have HIaB := Lib.hid (HIar.out.keep hBB)
      have HIbB := Lib.hid hIb
      have hb2 := hbr.trans (hBB.mono hzr)
      clear hIb hBB HB HIo HIar hcb
      have t1 : IntKind.i64.wrap (32 * (k : Int)) = 32 * (k : Int) := by rw [IntKind.wrap_i64]; omega
      have t2 : IntKind.i64.wrap (32 * (k : Int) + 32) = 32 * (k : Int) + 32 := by rw [IntKind.wrap_i64]; omega
      go_wp2
      go_loopw [18] (fun I wr => ∃ (i m : Nat), I = .int .i64 ((32 * k + i : Nat) : Int) ∧ i ≤ 32 ∧ wr = wB.drewN m) (fun I _ => 300 - (intOf I).toNat)
      case atStart => exact ⟨0, 0, by simp, by omega, rfl⟩
      case round =>
        obtain ⟨j, mm, rfl, hj, rfl⟩ := hrel
        by_cases hlj : j < 32
        · have hd : decide (((32 * k + j : Nat) : Int) < 32 * (k : Int) + 32) = true := decide_eq_true (by omega)
          obtain ⟨ba, oa, rfl, _, qa⟩ := HIaB.out.at (j := 32 * k + j) (by rw [HAL.out]; omega)
          obtain ⟨bb, ob, rfl, _, qb⟩ := HIbB.out.at (j := 32 * k + j) (by rw [HBL.out]; omega)
          have ra := qa (32 * k + j) (by rw [HAL.out]; omega)
          have rb := qb (32 * k + j) (by rw [HBL.out]; omega)
          rw [← HABE.out j hlj] at rb
          generalize A.getD (32 * k + j) 0 = z at *
          have z1 : (z == z) = true := by simp
          have z2 : (z != z) = false := by simp
          have hlt2 : 32 * k + j < 256 := by omega
          obtain ⟨kj, hkj⟩ : ∃ kj, 32 * k + j = kj := ⟨_, rfl⟩
          have HKJ := Lib.hid hkj
          rw [hkj] at ra rb hd hlt2 ⊢
          clear qa qb hkj
          go_wp2
          go_quiet (fail)
          go_wp2
          exact ⟨⟨j + 1, _, by rw [← HKJ.out]; go_num, by omega, rfl⟩, by rw [← HKJ.out]; simp [intOf]; omega⟩
        · have hd : decide (((32 * k + j : Nat) : Int) < 32 * (k : Int) + 32) = false := decide_eq_false (by omega)
          have hb2' := below_drewN hb2 mm
          obtain ⟨w2, hw2⟩ : ∃ w2, wB.drewN mm = w2 := ⟨_, rfl⟩
          rw [hw2] at hb2' ⊢
          have hb2 := hb2'
          clear hw2 HIaB HIbB
          go_wp2_with fail
          refine (HX.out _ hb2).mono ?_
          rintro e w3 ⟨px, cx, rfl, hcx, hIx, hB3⟩
          have hb3 := hb2.trans (hB3.mono hb2.size)
          go_wp2
          go_ret
          exact ⟨rfl, hb3⟩
set_option maxRecDepth 100000 in
set_option maxHeartbeats 8000000 in
theorem shorts_oo (was shape : Int) (k : Nat) (hk : k < 8) (p q : Option Addr) (n m c d : Nat) (w : World) (d3 : decide ((k : Int) < 0) = false) (d4 : decide (7 < (k : Int)) = false) (pcm A B : List Int) (hpl : pcm.length = 512) (hAl : A.length = 256) (hBl : B.length = 256) (hw : IsArg w p c pcm) (hAB : ∀ i, i < 32 → A.getD (32 * k + i) 0 = B.getD (32 * k + i) 0)
    (HA : Hid (∀ W, Below w.heap.size w W → Calls Try.prog 11 #[.int .u8 2, .int .u8 was, .int .u8 shape, .slice p 512 c] W (RListG A 0 W)))
    (HB : Hid (∀ W r d', 512 ≤ d' → IsInts W r (otherL pcm k) → Calls Try.prog 11 #[.int .u8 2, .int .u8 was, .int .u8 shape, .slice r 512 d'] W (RListG B 0 W))) (lines X : List Int) (hll : lines.length = 256) (hXl : X.length = 512) (hv : IsArg w q d lines) (hsum : ∀ j, j < 512 → X.getD j 0 = sumF (addW was shape lines j) 8) (hfit : ∀ j i, i ≤ 8 → -34359738368 ≤ sumF (addW was shape lines j) i ∧ sumF (addW was shape lines j) i ≤ 34359738368) (haf : ∀ j i, i < 8 → -4294967296 ≤ addW was shape lines j i ∧ addW was shape lines j i ≤ 4294967296)
    (HX : Hid (∀ W, Below w.heap.size w W → Calls Try.prog 10 #[.int .u8 2, .int .u8 was, .int .u8 shape, .slice q 256 d] W (RListG X 0 W)))
    (HY : Hid (∀ W r d' i, i < 8 → 256 ≤ d' → IsInts W r (oneL lines i) → Calls Try.prog 10 #[.int .u8 2, .int .u8 was, .int .u8 shape, .slice r 256 d'] W (RListB ((List.range 512).map (fun j => addW was shape lines j i)) 0 W))) : Calls Try.prog 7 #[.int .u8 was, .int .u8 shape, .slice p 512 c, .slice q 256 d, .int .i64 k] w fun e w' => e = .returned (.bool true) ∧ Below w.heap.size w w' := by
  unfold RListG at HA HB
  rw [hAl] at HA
  rw [hBl] at HB
  have HAL := Lib.hid hAl
  have HBL := Lib.hid hBl
  have HABE := Lib.hid hAB
  have HPL := Lib.hid hpl
  have HW := Lib.hid hw
  clear hAl hBl hAB hpl hw
  unfold RListG at HX
  unfold RListB at HY
  rw [hXl] at HX
  have eM : ((List.range 512).map (fun j => addW was shape lines j 0)).length = 512 := by simp
  have HY2 : Hid (∀ W r d' i, i < 8 → 256 ≤ d' → IsInts W r (oneL lines i) → Calls Try.prog 10 #[.int .u8 2, .int .u8 was, .int .u8 shape, .slice r 256 d'] W (fun e w' => ∃ p c, e = .returned (.tuple #[.slice p 512 c, .int .i64 0]) ∧ 512 ≤ c ∧ IntsB w' p ((List.range 512).map (fun j => addW was shape lines j i)) W.heap.size w'.heap.size ∧ Below W.heap.size W w')) := Lib.hid (fun W r d' i hi hd hI => by
    have h := HY.out W r d' i hi hd hI
    rw [show ((List.range 512).map (fun j => addW was shape lines j i)).length = 512 by simp] at h
    exact h)
  have HXL := Lib.hid hXl
  have HLL := Lib.hid hll
  have HV := Lib.hid hv
  have HSUM := Lib.hid hsum
  have HFIT := Lib.hid hfit
  have HAF := Lib.hid haf
  clear HY eM hXl hll hv hsum hfit haf
  have HYG := Lib.hid (show ∀ i j, j < 512 → ((List.range 512).map (fun j => addW was shape lines j i)).getD j 0 = addW was shape lines j i from fun i j hj => by rw [List.getD_eq_getElem?_getD, List.getElem?_map, List.getElem?_range hj]; rfl)
  have HYL := Lib.hid (show ∀ i, ((List.range 512).map (fun j => addW was shape lines j i)).length = 512 from fun i => by simp)
  have HOUT := Lib.hid (show ∀ i j, (j < 112 + 32 * i ∨ 176 + 32 * i ≤ j) → addW was shape lines j i = 0 from fun i j h => addW_out was shape lines h)
  have HSS := Lib.hid (show ∀ j i, sumF (addW was shape lines j) (i + 1) = sumF (addW was shape lines j) i + addW was shape lines j i from fun j i => rfl)
  have HS0 := Lib.hid (show ∀ j, sumF (addW was shape lines j) 0 = 0 from fun j => rfl)
  go_enter Try.func7, Try.ntmps7
  go_wp2_with fail
  refine (alive12 _).mono ?_
  rintro e w1 ⟨rfl, hB1⟩
  have hz1 := hB1.size
  go_wp2_with fail
  refine (HA.out _ hB1).mono ?_
  rintro e wA ⟨pa, ca, rfl, hca, hIa, hBA⟩
  have hbA := hB1.trans (hBA.mono hz1)
  have hzA := hbA.size
  have HIa := Lib.hid hIa
  clear hIa hBA HA hca
  go_wp2_with (at_make; refine make_row rfl _ _ rfl 512 (by omega) rfl rfl ?_; intro wO hltO hOO hBO)
  have HRO := Lib.hid hOO
  have hzO := hBO.size
  have hbO := hbA.trans (hBO.mono hzA)
  have HIaO := Lib.hid (HIa.out.keep hBO).inB
  have HIaO2 := Lib.hid (HIa.out.inB.keep hBO (Nat.le_refl _))
  clear hOO HIa hBO HIaO
  go_loopw [15] (fun I wr => ∃ (i : Nat) (xs : List Value), I = .int .i64 i ∧ i ≤ 64 ∧ Hid (wr.ownsRow wA.heap.size 3 1 (.slice (some ⟨wA.heap.size, 0, none⟩) 512 512) 512 xs) ∧ Hid (xs.length = 512) ∧ Hid (∀ j, j < 512 → xs[j]? = some (.int .i64 (if 112 + 32 * k ≤ j ∧ j < 112 + 32 * k + i then pcm.getD j 0 else 0))) ∧ Hid (Only wA.heap.size wO wr)) (fun I _ => 64 - (intOf I).toNat)
  case atStart => exact ⟨0, _, rfl, by omega, HRO, Lib.hid (by simp), Lib.hid (fun j hj => by rw [if_neg (by omega), List.getElem?_replicate_of_lt hj]), Lib.hid (Only.refl _ _)⟩
  case round =>
    obtain ⟨i, xs, rfl, hi, hR, hxl, hxs, hOn⟩ := hrel
    clear HRO
    by_cases hlt : i < 64
    · have hd : decide ((i : Int) < 64) = true := decide_eq_true (by omega)
      have t1 : IntKind.i64.wrap (32 * (k : Int)) = 32 * (k : Int) := by rw [IntKind.wrap_i64]; omega
      have t2 : IntKind.i64.wrap (112 + 32 * (k : Int)) = 112 + 32 * (k : Int) := by rw [IntKind.wrap_i64]; omega
      have t3 : IntKind.i64.wrap (112 + 32 * (k : Int) + (i : Int)) = 112 + 32 * (k : Int) + (i : Int) := by rw [IntKind.wrap_i64]; omega
      have t4 : (112 + 32 * (k : Int) + (i : Int)).toNat = 112 + 32 * k + i := by omega
      have t5 : (0 : Int) ≤ 112 + 32 * (k : Int) + (i : Int) := by omega
      have t6 : 112 + 32 * (k : Int) + (i : Int) < 512 := by omega
      have t7 : 112 + 32 * k + i < 512 := by omega
      obtain ⟨bp, op, rfl, _, qp⟩ := (HW.out.1.keep (hOn.out.below hbO (by omega))).at (j := 112 + 32 * k + i) (by rw [HPL.out]; omega)
      have rp := qp (112 + 32 * k + i) (by rw [HPL.out]; omega)
      have hcO := hR.out.cellAt (112 + 32 * k + i) (by omega)
      rw [hxs.out (112 + 32 * k + i) (by omega)] at hcO
      have hfO := hR.out.frozenAt (112 + 32 * k + i)
      have T1 := Lib.hid (show pcm.getD (112 + 32 * k + i) 0 = pcm.getD (112 + 32 * k + i) 0 from rfl)
      obtain ⟨z, hz⟩ : ∃ z, pcm.getD (112 + 32 * k + i) 0 = z := ⟨_, rfl⟩
      rw [hz] at rp
      have hst := hR.out.stored (112 + 32 * k + i) (.int .i64 z)
      have hR2 := Lib.hid hst.1
      have hl2 := Lib.hid (show (xs.set (112 + 32 * k + i) (.int .i64 z)).length = 512 by simp [hxl.out])
      have hx2 := Lib.hid (show ∀ j, j < 512 → (xs.set (112 + 32 * k + i) (.int .i64 z))[j]? = some (.int .i64 (if 112 + 32 * k ≤ j ∧ j < 112 + 32 * k + (i + 1) then pcm.getD j 0 else 0)) from fun j hj => by
        by_cases e : j = 112 + 32 * k + i
        · subst e; rw [List.getElem?_set_self (by rw [hxl.out]; omega), if_pos (by omega), hz]
        · rw [List.getElem?_set_ne (by omega), hxs.out j hj]
          by_cases e2 : 112 + 32 * k ≤ j ∧ j < 112 + 32 * k + i
          · rw [if_pos e2, if_pos (by omega)]
          · rw [if_neg e2, if_neg (by omega)])
      have hOn2 := Lib.hid (hOn.out.set (112 + 32 * k + i) (.int .i64 z))
      obtain ⟨z0, hz0⟩ : ∃ z0, (if 112 + 32 * k ≤ 112 + 32 * k + i ∧ 112 + 32 * k + i < 112 + 32 * k + i then pcm.getD (112 + 32 * k + i) 0 else 0) = z0 := ⟨_, rfl⟩
      rw [hz0] at hcO
      clear hst hxs hR hxl hOn qp hz hz0 T1
      go_wp2
      exact ⟨⟨i + 1, _, by go_num, by omega, hR2, hl2, hx2, hOn2⟩, by simp [intOf]; omega⟩
    · have hd : decide ((i : Int) < 64) = false := decide_eq_false (by omega)
      have hi64 : i = 64 := by omega
      have hxe : Hid (xs = (otherL pcm k).map (Value.int .i64)) := by
        show _ = _
        unfold otherL
        exact fill_eq hxl.out (fun j hj => by rw [hxs.out j hj, hi64]; congr 3; simp only [eq_iff_iff]; omega)
      have hR3 := Lib.hid (show wr.ownsRow wA.heap.size 3 1 (.slice (some ⟨wA.heap.size, 0, none⟩) 512 512) 512 ((otherL pcm k).map (Value.int .i64)) by rw [← hxe.out]; exact hR.out)
      have HIo := Lib.hid (full_ints' hR3.out (other_len pcm k) (by rw [hOn.out.size]; exact hltO))
      have hbr := hOn.out.below hbO (by omega)
      have HIar := Lib.hid (hOn.out.keepInts HIaO2.out (.inl (Nat.le_refl _))).ints
      have hzr := hbr.size
      clear hxs hxl hR hxe hR3 hOn
      go_wp2_with fail
      refine (HB.out _ _ _ (Nat.le_refl _) HIo.out).mono ?_
      rintro e wB ⟨pb, cb, rfl, hcb, hIb, hBB⟩
      have HIaB := Lib.hid (HIar.out.keep hBB)
      have HIbB := Lib.hid hIb
      have hb2 := hbr.trans (hBB.mono hzr)
      clear hIb hBB HB HIo HIar hcb
      have t1 : IntKind.i64.wrap (32 * (k : Int)) = 32 * (k : Int) := by rw [IntKind.wrap_i64]; omega
      have t2 : IntKind.i64.wrap (32 * (k : Int) + 32) = 32 * (k : Int) + 32 := by rw [IntKind.wrap_i64]; omega
      go_wp2
      go_loopw [18] (fun I wr => ∃ (i m : Nat), I = .int .i64 ((32 * k + i : Nat) : Int) ∧ i ≤ 32 ∧ wr = wB.drewN m) (fun I _ => 300 - (intOf I).toNat)
      case atStart => exact ⟨0, 0, by simp, by omega, rfl⟩
      case round =>
        obtain ⟨j, mm, rfl, hj, rfl⟩ := hrel
        by_cases hlj : j < 32
        · have hd : decide (((32 * k + j : Nat) : Int) < 32 * (k : Int) + 32) = true := decide_eq_true (by omega)
          obtain ⟨ba, oa, rfl, _, qa⟩ := HIaB.out.at (j := 32 * k + j) (by rw [HAL.out]; omega)
          obtain ⟨bb, ob, rfl, _, qb⟩ := HIbB.out.at (j := 32 * k + j) (by rw [HBL.out]; omega)
          have ra := qa (32 * k + j) (by rw [HAL.out]; omega)
          have rb := qb (32 * k + j) (by rw [HBL.out]; omega)
          rw [← HABE.out j hlj] at rb
          generalize A.getD (32 * k + j) 0 = z at *
          have z1 : (z == z) = true := by simp
          have z2 : (z != z) = false := by simp
          have hlt2 : 32 * k + j < 256 := by omega
          obtain ⟨kj, hkj⟩ : ∃ kj, 32 * k + j = kj := ⟨_, rfl⟩
          have HKJ := Lib.hid hkj
          rw [hkj] at ra rb hd hlt2 ⊢
          clear qa qb hkj
          go_wp2
          go_quiet (fail)
          go_wp2
          exact ⟨⟨j + 1, _, by rw [← HKJ.out]; go_num, by omega, rfl⟩, by rw [← HKJ.out]; simp [intOf]; omega⟩
        · have hd : decide (((32 * k + j : Nat) : Int) < 32 * (k : Int) + 32) = false := decide_eq_false (by omega)
          have hb2' := below_drewN hb2 mm
          obtain ⟨w2, hw2⟩ : ∃ w2, wB.drewN mm = w2 := ⟨_, rfl⟩
          rw [hw2] at hb2' ⊢
          have hb2 := hb2'
          clear hw2 HIaB HIbB
          go_wp2_with fail
          refine (HX.out _ hb2).mono ?_
          rintro e w3 ⟨px, cx, rfl, hcx, hIx, hB3⟩
          have hb3 := hb2.trans (hB3.mono hb2.size)
          have hz3 := hb3.size
          have HIx := Lib.hid hIx
          clear hIx hB3 HX hcx
          go_wp2_with (at_make; refine make_row rfl _ _ rfl 512 (by omega) rfl rfl ?_; intro wS hltS hOS hBS)
          have HRS := Lib.hid hOS
          have hzS := hBS.size
          have hbS := hb3.trans (hBS.mono hz3)
          have HIxS := Lib.hid (HIx.out.inB.keep hBS (Nat.le_refl _))
          clear hOS HIx hBS
          go_loopw [22] (fun I wr => ∃ (i : Nat) (xs : List Value), I = .int .i64 i ∧ i ≤ 8 ∧ Hid (wr.ownsRow w3.heap.size 3 1 (.slice (some ⟨w3.heap.size, 0, none⟩) 512 512) 512 xs) ∧ Hid (xs.length = 512) ∧ Hid (∀ j, j < 512 → xs[j]? = some (.int .i64 (sumF (addW was shape lines j) i))) ∧ Hid (Still w3.heap.size wS.heap.size wS wr)) (fun I _ => 8 - (intOf I).toNat)
          case atStart => exact ⟨0, _, rfl, by omega, HRS, Lib.hid (by simp), Lib.hid (fun j hj => by rw [HS0.out, List.getElem?_replicate_of_lt hj]), Lib.hid (Still.of (Below.refl _ _))⟩
          case round =>
            obtain ⟨i, xs, rfl, hi, hR, hxl, hxs, hSt⟩ := hrel
            obtain ⟨wo, hwo⟩ : ∃ z, z = wr := ⟨_, rfl⟩
            subst hwo
            clear HRS
            have hbr := Still.below hSt.out hbS (by omega) (by omega)
            have hzr := hSt.out.size
            by_cases hlt : i < 8
            · have hd : decide ((i : Int) < 8) = true := decide_eq_true (by omega)
              have t1 : IntKind.i64.wrap (32 * (i : Int)) = 32 * (i : Int) := by rw [IntKind.wrap_i64]; omega
              have t2 : IntKind.i64.wrap (32 * (i : Int) + 32) = 32 * (i : Int) + 32 := by rw [IntKind.wrap_i64]; omega
              have t3 : IntKind.i64.wrap (112 + 32 * (i : Int)) = 112 + 32 * (i : Int) := by rw [IntKind.wrap_i64]; omega
              have t4 : IntKind.i64.wrap (176 + 32 * (i : Int)) = 176 + 32 * (i : Int) := by rw [IntKind.wrap_i64]; omega
              go_wp2_with (at_make; refine make_row rfl _ _ rfl 256 (by omega) rfl rfl ?_; intro wP hltP hOP hBP)
              have HRP := Lib.hid hOP
              have HRS2 := Lib.hid (owns_keep hR.out hBP)
              have hzP := hBP.size
              have hbP := hbr.trans (hBP.mono (by omega))
              have HStP := Lib.hid (hSt.out.trans (Still.of (hBP.mono hzr)))
              clear hOP hBP hR hSt
              go_wp2
              go_loopw [24] (fun I wq => ∃ (j : Nat) (ys : List Value), I = .int .i64 ((32 * i + j : Nat) : Int) ∧ j ≤ 32 ∧ Hid (wq.ownsRow wo.heap.size 3 1 (.slice (some ⟨wo.heap.size, 0, none⟩) 256 256) 256 ys) ∧ Hid (ys.length = 256) ∧ Hid (∀ a, a < 256 → ys[a]? = some (.int .i64 (if 32 * i ≤ a ∧ a < 32 * i + j then lines.getD a 0 else 0))) ∧ Hid (Only wo.heap.size wP wq)) (fun I _ => 300 - (intOf I).toNat)
              case atStart => exact ⟨0, _, by simp, by omega, HRP, Lib.hid (by simp), Lib.hid (fun j hj => by rw [if_neg (by omega), List.getElem?_replicate_of_lt hj]), Lib.hid (Only.refl _ _)⟩
              case round =>
                obtain ⟨j, ys, rfl, hj, hQ, hyl, hys, hOq⟩ := hrel
                obtain ⟨wq, hwq⟩ : ∃ z, z = wr := ⟨_, rfl⟩
                subst hwq
                clear HRP
                have hbq := hOq.out.below hbP (by omega)
                by_cases hlj : j < 32
                · have hd2 : decide (((32 * i + j : Nat) : Int) < 32 * (i : Int) + 32) = true := decide_eq_true (by omega)
                  have hlt2 : 32 * i + j < 256 := by omega
                  obtain ⟨bl, ol, rfl, _, ql⟩ := (HV.out.1.keep hbq).at (j := 32 * i + j) (by rw [HLL.out]; omega)
                  have rl := ql (32 * i + j) (by rw [HLL.out]; omega)
                  have hcO := hQ.out.cellAt (32 * i + j) (by omega)
                  rw [hys.out (32 * i + j) (by omega)] at hcO
                  have hfO := hQ.out.frozenAt (32 * i + j)
                  obtain ⟨z, hz⟩ : ∃ z, lines.getD (32 * i + j) 0 = z := ⟨_, rfl⟩
                  rw [hz] at rl
                  have hst := hQ.out.stored (32 * i + j) (.int .i64 z)
                  have hQ2 := Lib.hid hst.1
                  have hl2 := Lib.hid (show (ys.set (32 * i + j) (.int .i64 z)).length = 256 by simp [hyl.out])
                  have hy2 := Lib.hid (show ∀ a, a < 256 → (ys.set (32 * i + j) (.int .i64 z))[a]? = some (.int .i64 (if 32 * i ≤ a ∧ a < 32 * i + (j + 1) then lines.getD a 0 else 0)) from fun a ha => by
                    by_cases e : a = 32 * i + j
                    · subst e; rw [List.getElem?_set_self (by rw [hyl.out]; omega), if_pos (by omega), hz]
                    · rw [List.getElem?_set_ne (by omega), hys.out a ha]
                      by_cases e2 : 32 * i ≤ a ∧ a < 32 * i + j
                      · rw [if_pos e2, if_pos (by omega)]
                      · rw [if_neg e2, if_neg (by omega)])
                  have hOq2 := Lib.hid (hOq.out.set (32 * i + j) (.int .i64 z))
                  obtain ⟨z0, hz0⟩ : ∃ z0, (if 32 * i ≤ 32 * i + j ∧ 32 * i + j < 32 * i + j then lines.getD (32 * i + j) 0 else 0) = z0 := ⟨_, rfl⟩
                  rw [hz0] at hcO
                  obtain ⟨kj, hkj⟩ : ∃ kj, 32 * i + j = kj := ⟨_, rfl⟩
                  have HKJ := Lib.hid hkj
                  rw [hkj] at rl hcO hfO hd2 hlt2 hQ2 hl2 hy2 hOq2 ⊢
                  clear hst hys hQ hyl hOq ql hz hz0 hbq hkj
                  go_wp2
                  exact ⟨⟨j + 1, _, by rw [← HKJ.out]; go_num, by omega, hQ2, hl2, Lib.hid (by rw [← HKJ.out]; rw [← HKJ.out] at hy2; exact hy2.out), hOq2⟩, by rw [← HKJ.out]; simp [intOf]; omega⟩
                · have hd2 : decide (((32 * i + j : Nat) : Int) < 32 * (i : Int) + 32) = false := decide_eq_false (by omega)
                  have hj32 : j = 32 := by omega
                  have hye : Hid (ys = (oneL lines i).map (Value.int .i64)) := by
                    show _ = _
                    unfold oneL
                    exact fill_eq hyl.out (fun a ha => by rw [hys.out a ha, hj32])
                  have hQ3 := Lib.hid (show wq.ownsRow wo.heap.size 3 1 (.slice (some ⟨wo.heap.size, 0, none⟩) 256 256) 256 ((oneL lines i).map (Value.int .i64)) by rw [← hye.out]; exact hQ.out)
                  have HIo := Lib.hid (full_ints' hQ3.out (one_len lines i) (by rw [hOq.out.size]; exact hltP))
                  have HRS3 := Lib.hid (owns_away2 (L := 0) HRS2.out (hOq.out.block w3.heap.size (by omega)))
                  have HStQ := Lib.hid (HStP.out.trans (show Still w3.heap.size wS.heap.size wP wq from ⟨hOq.out.os, hOq.out.tape, hOq.out.output, by rw [hOq.out.size]; exact Nat.le_refl _, fun a ha _ => hOq.out.block a (by omega)⟩))
                  have hzq := hOq.out.size
                  clear hys hyl hQ hye hQ3 hOq HRS2 HStP
                  go_wp2_with fail
                  refine (HY2.out _ _ _ i hlt (Nat.le_refl _) HIo.out).mono ?_
                  rintro e wY ⟨py, cy, rfl, hcy, hIy, hBY⟩
                  have HRS4 := Lib.hid (owns_keep HRS3.out hBY)
                  have hzY := hBY.size
                  have HStY := Lib.hid (HStQ.out.trans (Still.of (hBY.mono (by omega))))
                  have HIy := Lib.hid hIy
                  obtain ⟨by_, oy, rfl, _⟩ := hIy.at (j := 0) (by rw [HYL.out]; omega)
                  have hbyq : wq.heap.size ≤ by_ := by
                    obtain ⟨_, h' | ⟨b', o', e', h1', _⟩⟩ := hIy
                    · have := HYL.out i; rw [h'] at this; simp at this
                    · obtain ⟨rfl, rfl⟩ : by_ = b' ∧ oy = o' := by simpa using e'
                      exact h1'
                  clear hIy hBY HRS3 HStQ HIo hcy
                  go_wp2
                  go_loopw [27] (fun I wv => ∃ (a : Nat) (zs : List Value), I = .int .i64 a ∧ a ≤ 512 ∧ Hid (wv.ownsRow w3.heap.size 3 1 (.slice (some ⟨w3.heap.size, 0, none⟩) 512 512) 512 zs) ∧ Hid (zs.length = 512) ∧ Hid (∀ j, j < 512 → zs[j]? = some (.int .i64 (if j < a then sumF (addW was shape lines j) (i + 1) else sumF (addW was shape lines j) i))) ∧ Hid (Only w3.heap.size wY wv)) (fun I _ => 512 - (intOf I).toNat)
                  case atStart => exact ⟨0, _, rfl, by omega, HRS4, hxl, Lib.hid (fun j hj => by rw [if_neg (by omega)]; exact hxs.out j hj), Lib.hid (Only.refl _ _)⟩
                  case round =>
                    obtain ⟨a, zs, rfl, ha, hZ, hzl, hzs, hOv⟩ := hrel
                    obtain ⟨wv, hwv⟩ : ∃ z, z = wr := ⟨_, rfl⟩
                    subst hwv
                    clear HRS4
                    by_cases hla : a < 512
                    · have hd3 : decide ((a : Int) < 512) = true := decide_eq_true (by omega)
                      have hla2 : (a : Int) < 512 := by omega
                      have hIv := (hOv.out.keepInts HIy.out (.inr (by omega))).ints
                      obtain ⟨_, _, ey, _, qy⟩ := hIv.at (j := a) (by rw [HYL.out]; exact hla)
                      cases ey
                      have ry := qy a (by rw [HYL.out]; exact hla)
                      rw [HYG.out i a hla] at ry
                      have hcO := hZ.out.cellAt a (by omega)
                      rw [hzs.out a hla, if_neg (by omega)] at hcO
                      have hfO := hZ.out.frozenAt a
                      have b1 := HFIT.out a i (by omega)
                      have b2 := HAF.out a i hlt
                      have hss := HSS.out a i
                      have hout := HOUT.out i a
                      have HZZ : Hid (∀ v, v = sumF (addW was shape lines a) (i + 1) → ∀ j, j < 512 → (zs.set a (.int .i64 v))[j]? = some (.int .i64 (if j < a + 1 then sumF (addW was shape lines j) (i + 1) else sumF (addW was shape lines j) i))) := Lib.hid (fun v hv j hj => by
                        by_cases e : j = a
                        · subst e; rw [List.getElem?_set_self (by rw [hzl.out]; omega), if_pos (by omega), hv]
                        · rw [List.getElem?_set_ne (by omega), hzs.out j hj]
                          by_cases e2 : j < a
                          · rw [if_pos e2, if_pos (by omega)]
                          · rw [if_neg e2, if_neg (by omega)])
                      obtain ⟨s, hs⟩ : ∃ s, sumF (addW was shape lines a) i = s := ⟨_, rfl⟩
                      obtain ⟨z, hz⟩ : ∃ z, addW was shape lines a i = z := ⟨_, rfl⟩
                      rw [hs] at hcO b1 hss
                      rw [hz] at ry b2 hss hout
                      have t5 : IntKind.i64.wrap (s + z) = s + z := by rw [IntKind.wrap_i64]; omega
                      have hZ2 := Lib.hid (hZ.out.stored a (.int .i64 (s + z))).1
                      have hl2 := Lib.hid (show (zs.set a (.int .i64 (s + z))).length = 512 by simp [hzl.out])
                      have hz2 := Lib.hid (HZZ.out (s + z) hss.symm)
                      have hOv2 := hOv.out.drew
                      have hZd : (wv.drew).ownsRow w3.heap.size 3 1 (.slice (some ⟨w3.heap.size, 0, none⟩) 512 512) 512 zs := hZ.out
                      have HO3 := Lib.hid (hOv2.set a (.int .i64 (s + z)))
                      have HZ3 := Lib.hid (hZd.stored a (.int .i64 (s + z))).1
                      have cz : wv.drew.cell? ⟨w3.heap.size, a, none⟩ = some (.int .i64 s) := hcO
                      have fz : wv.drew.frozen? ⟨w3.heap.size, a, none⟩ = false := hfO
                      clear hZ hzl hzs hOv qy hIv HZZ hs hz hss hOv2 hZd hZ2
                      by_cases e1 : (a : Int) < 112 + 32 * (i : Int)
                      · have d5 : decide ((a : Int) < 112 + 32 * (i : Int)) = true := decide_eq_true e1
                        have hz0 : z = 0 := hout (.inl (by omega))
                        have z1 : (z == 0) = true := by simp [hz0]
                        have z2 : (z != 0) = false := by simp [hz0]
                        clear hout hz0
                        go_wp2_with fail
                        go_still_tail 12, (by kernel_rfl)
                        change wpList _ _ _ _ _ wv.drew
                        obtain ⟨w6, hw6⟩ : ∃ w6, wv.drew = w6 := ⟨_, rfl⟩
                        rw [hw6] at HO3 HZ3 cz fz ⊢
                        clear hw6
                        go_wp2
                        exact ⟨⟨a + 1, _, by go_num, by omega, HZ3, hl2, hz2, HO3⟩, by simp [intOf]; omega⟩
                      · have d5 : decide ((a : Int) < 112 + 32 * (i : Int)) = false := decide_eq_false e1
                        by_cases e2 : 176 + 32 * (i : Int) ≤ (a : Int)
                        · have d6 : decide (176 + 32 * (i : Int) ≤ (a : Int)) = true := decide_eq_true e2
                          have hz0 : z = 0 := hout (.inr (by omega))
                          have z1 : (z == 0) = true := by simp [hz0]
                          have z2 : (z != 0) = false := by simp [hz0]
                          clear hout hz0
                          go_wp2_with fail
                          go_still_tail 12, (by kernel_rfl)
                          change wpList _ _ _ _ _ wv.drew
                          obtain ⟨w6, hw6⟩ : ∃ w6, wv.drew = w6 := ⟨_, rfl⟩
                          rw [hw6] at HO3 HZ3 cz fz ⊢
                          clear hw6
                          go_wp2
                          exact ⟨⟨a + 1, _, by go_num, by omega, HZ3, hl2, hz2, HO3⟩, by simp [intOf]; omega⟩
                        · have d6 : decide (176 + 32 * (i : Int) ≤ (a : Int)) = false := decide_eq_false e2
                          clear hout
                          go_wp2_with fail
                          go_still_tail 12, (by kernel_rfl)
                          change wpList _ _ _ _ _ wv.drew
                          obtain ⟨w6, hw6⟩ : ∃ w6, wv.drew = w6 := ⟨_, rfl⟩
                          rw [hw6] at HO3 HZ3 cz fz ⊢
                          clear hw6
                          go_wp2
                          exact ⟨⟨a + 1, _, by go_num, by omega, HZ3, hl2, hz2, HO3⟩, by simp [intOf]; omega⟩
                    · have hd3 : decide ((a : Int) < 512) = false := decide_eq_false (by omega)
                      have hz5 := Lib.hid (show ∀ j, j < 512 → zs[j]? = some (.int .i64 (sumF (addW was shape lines j) (i + 1))) from fun j hj => by have := hzs.out j hj; rw [if_pos (by omega)] at this; exact this)
                      have HStV := Lib.hid (HStY.out.trans (show Still w3.heap.size wS.heap.size wY wv from ⟨hOv.out.os, hOv.out.tape, hOv.out.output, by rw [hOv.out.size]; exact Nat.le_refl _, fun k hk hn => hOv.out.block k hn⟩))
                      clear hzs hOv HStY
                      go_wp2
                      exact ⟨⟨i + 1, _, by go_num, by omega, hZ, hzl, hz5, HStV⟩, by simp [intOf]; omega⟩
            · have hd : decide ((i : Int) < 8) = false := decide_eq_false (by omega)
              have hi8 : i = 8 := by omega
              have hxe := Lib.hid (show ∀ j, j < 512 → wo.cell? ⟨w3.heap.size, j, none⟩ = some (.int .i64 (X.getD j 0)) from fun j hj => by
                have h := hR.out.cellAt j (by omega)
                rw [hxs.out j hj, hi8, ← HSUM.out j hj] at h
                exact h)
              have HIxr := Lib.hid (show IntsB wo px X 0 w3.heap.size from by
                obtain ⟨h0, h' | ⟨b', o', e', g1, g2, g3⟩⟩ := HIxS.out
                · exact ⟨by omega, .inl h'⟩
                · exact ⟨by omega, .inr ⟨b', o', e', g1, g2, fun j hj => (World.cell?_of_block (a := ⟨b', o' + j, none⟩) (hSt.out.block b' (by omega) (by omega))).trans (g3 j hj)⟩⟩)
              have HBR := Lib.hid hbr
              clear hR hxs hxl hSt hbr
              go_wp2
              go_loopw [28] (fun I wz => ∃ (j mm : Nat), I = .int .i64 j ∧ j ≤ 512 ∧ wz = wo.drewN mm) (fun I _ => 512 - (intOf I).toNat)
              case atStart => exact ⟨0, 0, rfl, by omega, rfl⟩
              case round =>
                obtain ⟨j, mm, rfl, hj, rfl⟩ := hrel
                by_cases hlj : j < 512
                · have hd : decide ((j : Int) < 512) = true := decide_eq_true (by omega)
                  obtain ⟨bx, ox, rfl, qx⟩ := HIxr.out.at (j := j) (by rw [HXL.out]; exact hlj)
                  have rs := hxe.out j hlj
                  generalize X.getD j 0 = z at *
                  have z1 : (z == z) = true := by simp
                  have z2 : (z != z) = false := by simp
                  go_wp2
                  go_quiet (fail)
                  go_wp2
                  exact ⟨⟨j + 1, _, by go_num, by omega, rfl⟩, by simp [intOf]; omega⟩
                · have hd : decide ((j : Int) < 512) = false := decide_eq_false (by omega)
                  go_wp2
                  go_ret
                  exact ⟨rfl, below_drewN HBR.out _⟩
end Go.Proofs.Ytclbbfpagkhonaa
