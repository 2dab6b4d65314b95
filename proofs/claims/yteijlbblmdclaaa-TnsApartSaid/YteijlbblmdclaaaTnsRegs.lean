/- The regions that filters make are apart. -/
import Derived.Test.YteijlbblmdclaaaTnsFwd
set_option linter.unusedVariables false
namespace Go.Proofs.Yteijlbblmdclaaa

theorem topP_anti (max : Nat) (fs : List FV) (h : ∀ j, j < fs.length → 0 ≤ (fs.getD j default).len) {i : Nat} : ∀ {j : Nat}, i ≤ j → j ≤ fs.length → topP max fs j ≤ topP max fs i
  | 0, hi, _ => by rw [show i = 0 by omega]; exact Nat.le_refl _
  | j + 1, hi, hj => by
    by_cases e : i = j + 1
    · rw [e]; exact Nat.le_refl _
    · have ih := topP_anti max fs h (i := i) (j := j) (by omega) (by omega)
      have := topP_mono max fs (h j (by omega))
      omega
theorem mem_regsIn {offs : List Int} {max wi : Nat} {fs : List FV} {j : Nat} {s : Reg} (h : s ∈ regsIn offs max wi fs j) : ∃ i, i < j ∧ s = regP offs max wi fs i := by
  unfold regsIn at h
  obtain ⟨i, hi, rfl⟩ := List.mem_map.1 h
  exact ⟨i, List.mem_range.1 hi, rfl⟩
theorem mem_regsTo {offs : List Int} {max : Nat} {B : List BV} {j : Nat} {s : Reg} (h : s ∈ regsTo offs max B j) : ∃ w i, w < j ∧ i < (B.getD w default).fs.length ∧ s = regP offs max w (B.getD w default).fs i := by
  unfold regsTo at h
  obtain ⟨w, hw, h⟩ := List.mem_flatMap.1 h
  obtain ⟨i, hi, rfl⟩ := mem_regsIn h
  exact ⟨w, i, List.mem_range.1 hw, hi, rfl⟩
/-- What holds of filters that may be. -/
structure RegsOk (offs : List Int) (max lines : Nat) (B : List BV) : Prop where
  o : OffsOk offs max lines
  w : ∀ j, j < B.length → 32 * j + lines ≤ 256
  l : 1 < B.length → lines ≤ 32
  p : ∀ j, j < B.length → ∀ i, i < (B.getD j default).fs.length → 0 ≤ ((B.getD j default).fs.getD i default).len
theorem RegsOk.fit {offs : List Int} {max lines : Nat} {B : List BV} (h : RegsOk offs max lines B) {w i : Nat} (hw : w < B.length) (hi : i < (B.getD w default).fs.length) : 32 * w ≤ (regP offs max w (B.getD w default).fs i).from_ ∧ (regP offs max w (B.getD w default).fs i).from_ ≤ (regP offs max w (B.getD w default).fs i).to_ ∧ (regP offs max w (B.getD w default).fs i).to_ ≤ 32 * w + lines ∧ (regP offs max w (B.getD w default).fs i).to_ ≤ 256 := by
  obtain ⟨a, b, _, _, c, d⟩ := regP_fit h.o (h.w w hw) (h.p w hw) hi
  refine ⟨?_, a, ?_, b⟩
  · show 32 * w ≤ 32 * w + _; omega
  · show 32 * w + (offs.getD (topP max (B.getD w default).fs i) 0).toNat ≤ _; omega
theorem RegsOk.le {offs : List Int} {max lines : Nat} {B : List BV} (h : RegsOk offs max lines B) : ∀ s ∈ regsTo offs max B B.length, s.to_ ≤ 256 := by
  intro s hs
  obtain ⟨w, i, hw, hi, rfl⟩ := mem_regsTo hs
  exact (h.fit hw hi).2.2.2
theorem RegsOk.in_apart {offs : List Int} {max lines : Nat} {B : List BV} (h : RegsOk offs max lines B) {w : Nat} (hw : w < B.length) {i j : Nat} (hij : i < j) (hj : j < (B.getD w default).fs.length) : Apart2 (regP offs max w (B.getD w default).fs i) (regP offs max w (B.getD w default).fs j) := by
  intro p h1 h2
  have t := topP_anti max (B.getD w default).fs (h.p w hw) (i := i + 1) (j := j) hij (by omega)
  have t0 := topP_le max (B.getD w default).fs (h.p w hw) (i + 1) (by omega)
  have m := h.o.2.1 _ _ t (by have := h.o.1; omega)
  have a : 32 * w + (offs.getD (topP max (B.getD w default).fs (i + 1)) 0).toNat ≤ p := h1.1
  have b : p < 32 * w + (offs.getD (topP max (B.getD w default).fs j) 0).toNat := h2.2
  omega
theorem RegsOk.pair_in {offs : List Int} {max lines : Nat} {B : List BV} (h : RegsOk offs max lines B) {w : Nat} (hw : w < B.length) : ∀ j, j ≤ (B.getD w default).fs.length → (regsIn offs max w (B.getD w default).fs j).Pairwise Apart2
  | 0, _ => by unfold regsIn; exact List.Pairwise.nil
  | j + 1, hj => by
    rw [regsIn_succ, List.pairwise_append]
    refine ⟨h.pair_in hw j (by omega), List.pairwise_singleton _ _, fun s hs t ht => ?_⟩
    obtain ⟨i, hi, rfl⟩ := mem_regsIn hs
    obtain rfl := List.mem_singleton.1 ht
    exact h.in_apart hw hi (by omega)
theorem RegsOk.pair {offs : List Int} {max lines : Nat} {B : List BV} (h : RegsOk offs max lines B) : ∀ j, j ≤ B.length → (regsTo offs max B j).Pairwise Apart2
  | 0, _ => by unfold regsTo; exact List.Pairwise.nil
  | j + 1, hj => by
    rw [regsTo_succ, List.pairwise_append]
    refine ⟨h.pair j (by omega), h.pair_in (by omega) _ (Nat.le_refl _), fun s hs t ht => ?_⟩
    obtain ⟨w, i, hw, hi, rfl⟩ := mem_regsTo hs
    obtain ⟨k, hk, rfl⟩ := mem_regsIn ht
    intro p h1 h2
    have a := h.fit (w := w) (by omega) hi
    have b := h.fit (w := j) (by omega) hk
    have hl := h.l (by omega)
    have := h1.2
    have := h2.1
    omega
theorem good_regs {rate seq shape max : Int} {G : List Int} {B : List BV} {x : List Int} (h : TnsGood rate seq shape max G B x) : RegsOk (bandL rate (seq == 2)) max.toNat (if (seq == 2) then 32 else 256) B := by
  have hw8 : winN seq = 8 ∧ (seq == 2) = true ∨ winN seq = 1 ∧ (seq == 2) = false := by
    unfold winN
    by_cases hs : seq = 2
    · left; simp [hs]
    · right; simp [hs]
  have hb := h.bl
  refine ⟨offsOk rate (seq == 2) h.r0 h.r1 h.m1, fun j hj => ?_, fun hl => ?_, fun j hj i hi => (filt_len (h.fE j hj i hi)).1⟩
  · rcases hw8 with ⟨h1, h2⟩ | ⟨h1, h2⟩ <;> rw [h2] <;> simp <;> omega
  · rcases hw8 with ⟨h1, h2⟩ | ⟨h1, h2⟩ <;> rw [h2] <;> simp <;> omega
/-- Back and forth. -/
theorem all_undo {sg rate seq shape max : Int} (hsg : sg = 1 ∨ sg = -1) {G : List Int} {B : List BV} {x : List Int} (h : TnsGood rate seq shape max G B x)
    (hq : ∀ p, p < 256 → (allL sg (bandL rate (seq == 2)) max.toNat B x).getD p 0 ≠ 268435455 ∧ (allL sg (bandL rate (seq == 2)) max.toNat B x).getD p 0 ≠ -268435455) :
    allL (-sg) (bandL rate (seq == 2)) max.toNat B (allL sg (bandL rate (seq == 2)) max.toNat B x) = x :=
  runS_undo sg hsg _ (good_regs h).le ((good_regs h).pair _ (Nat.le_refl _)) x h.xl h.xb hq
theorem ready_of {rate seq shape max : Int} {G : List Int} {B : List BV} {x y : List Int} (h : readyE rate seq shape max G B x = 0) (hl : y.length = 256) (hb : ∀ j, -268435455 ≤ y.getD j 0 ∧ y.getD j 0 ≤ 268435455) : readyE rate seq shape max G B y = 0 := by
  obtain ⟨h1, h2, h3, h4, h5, h6⟩ := readyE_zero h
  unfold readyE
  rw [if_neg (by simp [h1]), if_neg (by rw [h3]; simp [h2]), if_neg (by simp [h4]), if_neg (by simp [hl]), if_neg]
  have a := (minTo_le (-268435455) y y.length (by omega)).2 (fun j _ => (hb j).1)
  have b := (le_maxTo 268435455 y y.length (by omega)).2 (fun j _ => (hb j).2)
  omega
end Go.Proofs.Yteijlbblmdclaaa
