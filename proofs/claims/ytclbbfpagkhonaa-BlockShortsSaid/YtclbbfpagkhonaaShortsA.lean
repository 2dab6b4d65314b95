/- BlockShorts: every input. -/
import Derived.Test.YtclbbfpagkhonaaShortsW
import Derived.Test.YtclbbfpagkhonaaUnderA
set_option linter.unusedVariables false
namespace Go.Proofs.Ytclbbfpagkhonaa
open Go.ChangeShapes Go.WideShapes Go.ChangeAt Go.RowKit

theorem one_syn_all (was shape : Int) (lines : List Int) (hl : lines.length = 256) {i : Nat} (hi : i < 8) : synL (winsL 2 was shape) (oneL lines i) = (List.range 512).map (fun j => addW was shape lines j i) := by
  apply List.ext_getElem (by rw [synL_len]; simp)
  intro j h1 h2
  have hj : j < 512 := by simpa using h2
  have h := one_syn was shape lines hl hj hi
  rw [List.getD_eq_getElem?_getD, List.getElem?_eq_getElem h1, Option.getD_some] at h
  rw [h, List.getElem_map, List.getElem_range]
set_option maxRecDepth 100000 in
theorem blk_shorts (was shape wk : Int) (pcm lines : List Int) (p q : Option Addr) (c d : Nat) (w : World) (A0 : IsArg w p c pcm) (hc : pcm.length ≤ c) (A1 : IsArg w q d lines) (hd : lines.length ≤ d) (h0 : 0 ≤ was) (h1 : 0 ≤ shape) :
    Calls Try.prog 7 #[.int .u8 was, .int .u8 shape, .slice p pcm.length c, .slice q lines.length d, .int .i64 wk] w fun e w' => e = .returned (.bool true) ∧ Below w.heap.size w w' := by
  have m1 := A0.2.2.1
  have m2 := A1.2.2.1
  unfold maxLen at m1 m2
  by_cases d1 : 1000 < pcm.length
  · exact shorts_e1 was shape wk p q _ _ c d w (decide_eq_true (by omega))
  have D1 : decide ((1000 : Int) < (pcm.length : Int)) = false := decide_eq_false (by omega)
  by_cases d2 : 1000 < lines.length
  · exact shorts_e2 was shape wk p q _ _ c d w D1 (decide_eq_true (by omega))
  have D2 : decide ((1000 : Int) < (lines.length : Int)) = false := decide_eq_false (by omega)
  by_cases d3 : wk < 0
  · exact shorts_e3 was shape wk p q _ _ c d w D1 D2 (decide_eq_true d3)
  by_cases d4 : 7 < wk
  · exact shorts_e4 was shape wk p q _ _ c d w D1 D2 (decide_eq_false d3) (decide_eq_true d4)
  obtain ⟨k, hk⟩ : ∃ k : Nat, wk = (k : Int) := ⟨wk.toNat, by omega⟩
  subst hk
  have hk : k < 8 := by omega
  have D3 : decide ((k : Int) < 0) = false := decide_eq_false d3
  have D4 : decide (7 < (k : Int)) = false := decide_eq_false d4
  have h2 : (0 : Int) ≤ 2 := by decide
  have HA := Lib.hid (fun (W : World) (hW : Below w.heap.size w W) => (ana_any 2 was shape h2 h0 h1 pcm (by omega) p c hc W (A0.1.keep hW)).mono (fun e w' h => list_g h))
  have HX := Lib.hid (fun (W : World) (hW : Below w.heap.size w W) => (syn_any 2 was shape h2 h0 h1 lines (by omega) q d hd W (A1.1.keep hW)).mono (fun e w' h => list_g h))
  by_cases hE : anaE 2 was shape pcm = 0
  · have e : anaN 2 was shape pcm = (anaL (winsL 2 was shape) pcm, 0) := by unfold anaN; rw [if_pos hE]
    rw [e] at HA
    obtain ⟨q1, q2, q3, q4, q5⟩ := (askedE_zero (by omega)).1 hE
    have h0' : was = 0 ∨ was = 1 := by omega
    have h1' : shape = 0 ∨ shape = 1 := by omega
    have hpm : ∀ j, -32768 ≤ pcm.getD j 0 ∧ pcm.getD j 0 ≤ 32767 := fun j => getD_range q5 (by omega) (by omega) j
    have hE2 : anaE 2 was shape (otherL pcm k) = 0 := (askedE_zero (by omega)).2 ⟨q1, q2, q3, other_len pcm k, other_mem hpm (by decide) (by decide) k⟩
    have HB := Lib.hid (fun (W : World) (r : Option Addr) (d' : Nat) (hd : 512 ≤ d') (hI : IsInts W r (otherL pcm k)) => show Calls Try.prog 11 #[.int .u8 2, .int .u8 was, .int .u8 shape, .slice r 512 d'] W (RListG (anaL (winsL 2 was shape) (otherL pcm k)) 0 W) by
      have h := ana_any 2 was shape h2 h0 h1 (otherL pcm k) (by rw [other_len]; omega) r d' (by rw [other_len]; omega) W hI
      have e2 : anaN 2 was shape (otherL pcm k) = (anaL (winsL 2 was shape) (otherL pcm k), 0) := by unfold anaN; rw [if_pos hE2]
      rw [e2, other_len] at h
      exact h.mono (fun e w' h => list_g h))
    have hAl := ana_length 2 was shape (.inr (.inr (.inl rfl))) h0' h1' pcm q4
    have hBl := ana_length 2 was shape (.inr (.inr (.inl rfl))) h0' h1' (otherL pcm k) (other_len pcm k)
    have hAB := fun i (hi : i < 32) => shorts_own was shape h0' h1' pcm q4 hk hi
    rw [q4] at HA ⊢
    by_cases hF : synE 2 was shape lines = 0
    · have e2 : synN 2 was shape lines = (synL (winsL 2 was shape) lines, 0) := by unfold synN; rw [if_pos hF]
      rw [e2] at HX
      obtain ⟨r1, r2, r3, r4, r5⟩ := (askedE_zero (by omega)).1 hF
      have hlm : ∀ j, -268435455 ≤ lines.getD j 0 ∧ lines.getD j 0 ≤ 268435455 := fun j => getD_range r5 (by omega) (by omega) j
      have HY := Lib.hid (fun (W : World) (r : Option Addr) (d' i : Nat) (hi : i < 8) (hd : 256 ≤ d') (hI : IsInts W r (oneL lines i)) => show Calls Try.prog 10 #[.int .u8 2, .int .u8 was, .int .u8 shape, .slice r 256 d'] W (RListB ((List.range 512).map (fun j => addW was shape lines j i)) 0 W) by
        have hF2 : synE 2 was shape (oneL lines i) = 0 := (askedE_zero (by omega)).2 ⟨r1, r2, r3, one_len lines i, one_mem hlm (by decide) (by decide) i⟩
        have h := syn_any 2 was shape h2 h0 h1 (oneL lines i) (by rw [one_len]; omega) r d' (by rw [one_len]; omega) W hI
        have e3 : synN 2 was shape (oneL lines i) = (synL (winsL 2 was shape) (oneL lines i), 0) := by unfold synN; rw [if_pos hF2]
        rw [e3, one_len, one_syn_all was shape lines r4 hi] at h
        exact h.mono (fun e w' h => list_b h))
      rw [r4] at HX ⊢
      refine shorts_oo was shape k hk p q 512 256 c d w D3 D4 pcm _ _ q4 hAl hBl A0 hAB HA HB lines _ r4 (synL_len _ _) A1 (fun j hj => syn_all was shape lines hj) (fun j i hi => ?_) (fun j i hi => addW_fit was shape h0' h1' lines r4 hlm j hi) HX HY
      have := sumW_fit was shape h0' h1' lines r4 hlm j i hi
      omega
    · have e2 : synN 2 was shape lines = ([], synE 2 was shape lines) := by unfold synN; rw [if_neg hF]
      rw [e2] at HX
      exact shorts_ob was shape k hk p q 512 _ c d w D3 D4 pcm _ _ q4 hAl hBl A0 hAB HA HB D2 _ HX (beq_eq_false_iff_ne.2 hF) (by simp [bne, beq_eq_false_iff_ne.2 hF])
  · have e : anaN 2 was shape pcm = ([], anaE 2 was shape pcm) := by unfold anaN; rw [if_neg hE]
    rw [e] at HA
    by_cases hF : synE 2 was shape lines = 0
    · have e2 : synN 2 was shape lines = (synL (winsL 2 was shape) lines, 0) := by unfold synN; rw [if_pos hF]
      rw [e2] at HX
      obtain ⟨r1, r2, r3, r4, r5⟩ := (askedE_zero (by omega)).1 hF
      have h0' : was = 0 ∨ was = 1 := by omega
      have h1' : shape = 0 ∨ shape = 1 := by omega
      have hlm : ∀ j, -268435455 ≤ lines.getD j 0 ∧ lines.getD j 0 ≤ 268435455 := fun j => getD_range r5 (by omega) (by omega) j
      have HY := Lib.hid (fun (W : World) (r : Option Addr) (d' i : Nat) (hi : i < 8) (hd : 256 ≤ d') (hI : IsInts W r (oneL lines i)) => show Calls Try.prog 10 #[.int .u8 2, .int .u8 was, .int .u8 shape, .slice r 256 d'] W (RListB ((List.range 512).map (fun j => addW was shape lines j i)) 0 W) by
        have hF2 : synE 2 was shape (oneL lines i) = 0 := (askedE_zero (by omega)).2 ⟨r1, r2, r3, one_len lines i, one_mem hlm (by decide) (by decide) i⟩
        have h := syn_any 2 was shape h2 h0 h1 (oneL lines i) (by rw [one_len]; omega) r d' (by rw [one_len]; omega) W hI
        have e3 : synN 2 was shape (oneL lines i) = (synL (winsL 2 was shape) (oneL lines i), 0) := by unfold synN; rw [if_pos hF2]
        rw [e3, one_len, one_syn_all was shape lines r4 hi] at h
        exact h.mono (fun e w' h => list_b h))
      rw [r4] at HX ⊢
      refine shorts_bo was shape k hk p q _ 256 c d w D3 D4 D1 _ HA (beq_eq_false_iff_ne.2 hE) (by simp [bne, beq_eq_false_iff_ne.2 hE]) lines _ r4 (synL_len _ _) A1 (fun j hj => syn_all was shape lines hj) (fun j i hi => ?_) (fun j i hi => addW_fit was shape h0' h1' lines r4 hlm j hi) HX HY
      have := sumW_fit was shape h0' h1' lines r4 hlm j i hi
      omega
    · have e2 : synN 2 was shape lines = ([], synE 2 was shape lines) := by unfold synN; rw [if_neg hF]
      rw [e2] at HX
      exact shorts_bb was shape k hk p q _ _ c d w D3 D4 D1 _ HA (beq_eq_false_iff_ne.2 hE) (by simp [bne, beq_eq_false_iff_ne.2 hE]) D2 _ HX (beq_eq_false_iff_ne.2 hF) (by simp [bne, beq_eq_false_iff_ne.2 hF])
end Go.Proofs.Ytclbbfpagkhonaa
