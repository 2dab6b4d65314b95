/- reedpiperef10: windows that may be, in plain numbers. -/
import Derived.Test.YteijlbblmdclaaaInfoChk
set_option linter.unusedVariables false
namespace Go.Proofs.Yteijlbblmdclaaa

theorem grp_low {G : List Int} {k : Nat} (hk : k < G.length) (h : G.getD k 0 < 1) : grpB 2 G = false := by
  unfold grpB
  rw [if_pos rfl, all_not hk (by unfold okG; rw [decide_eq_false (by omega : ¬ 1 ≤ G.getD k 0)]; rfl)]
  rfl
theorem sumG_le {G : List Int} (h : ∀ j, j < G.length → 1 ≤ G.getD j 0) {i : Nat} : ∀ {k : Nat}, i ≤ k → k ≤ G.length → sumG G i ≤ sumG G k
  | 0, hi, _ => by rw [show i = 0 by omega]; exact Int.le_refl _
  | k + 1, hi, hk => by
    rcases Nat.lt_or_ge k i with h1 | h1
    · rw [show i = k + 1 by omega]; exact Int.le_refl _
    · have ih := sumG_le h h1 (by omega)
      have := h k (by omega)
      show _ ≤ sumG G k + G.getD k 0
      omega
theorem all_ok {G : List Int} (h : G.all okG = true) : ∀ j, j < G.length → 1 ≤ G.getD j 0 ∧ G.getD j 0 ≤ 8 := by
  intro j hj
  have := (List.all_eq_true.1 h) G[j] (List.getElem_mem hj)
  rw [List.getD_eq_getElem?_getD, List.getElem?_eq_getElem hj]
  unfold okG at this
  simpa using this
theorem grp_high {G : List Int} {k : Nat} (hk : k < G.length) (h : 8 - sumG G k < G.getD k 0) : grpB 2 G = false := by
  unfold grpB
  rw [if_pos rfl]
  cases ha : G.all okG
  · rfl
  · have h1 := all_ok ha
    have h2 := sumG_le (fun j hj => (h1 j hj).1) (show k + 1 ≤ G.length from hk) (Nat.le_refl _)
    have h3 : sumG G (k + 1) = sumG G k + G.getD k 0 := rfl
    rw [decide_eq_false (by omega : ¬ sumG G G.length = 8)]
    rfl
theorem sumG_ge {G : List Int} (h : ∀ j, j < G.length → 1 ≤ G.getD j 0) : ∀ k, k ≤ G.length → (k : Int) ≤ sumG G k
  | 0, _ => by simp [sumG]
  | k + 1, hk => by
    have ih := sumG_ge h k (by omega)
    have := h k (by omega)
    show _ ≤ sumG G k + G.getD k 0
    omega
theorem grp_end {G : List Int} (h1 : ∀ j, j < G.length → 1 ≤ G.getD j 0) (h2 : sumG G G.length ≤ 8) : grpB 2 G = decide (sumG G G.length = 8) := by
  have h3 := sumG_ge h1 _ (Nat.le_refl _)
  unfold grpB
  rw [if_pos rfl, all_step (fun j hj => ?_), decide_eq_true (by omega : G.length ≤ 8)]
  · simp
  · have a := h1 j hj
    have b := sumG_le h1 (show j + 1 ≤ G.length from hj) (Nat.le_refl _)
    have c : sumG G (j + 1) = sumG G j + G.getD j 0 := rfl
    have d := sumG_ge h1 j (by omega)
    unfold okG
    simp only [Bool.and_eq_true, decide_eq_true_eq]
    omega
theorem band_most (rate : Int) (short : Bool) (h0 : 0 ≤ rate) (h1 : rate ≤ 11) : (bandL rate short).length ≤ (bandL 11 short).length := by
  have h : ∀ r : Fin 12, ∀ s : Bool, (bandL (r.1 : Int) s).length ≤ (bandL 11 s).length := by decide +kernel
  have := h ⟨rate.toNat, by omega⟩ short
  rwa [show ((rate.toNat : Nat) : Int) = rate by omega] at this
theorem may_most {rate seq shape max : Int} {G : List Int} (h0 : 0 ≤ rate) (h1 : rate ≤ 11) (h : mayB rate seq shape max G = true) : mayB 11 seq shape max G = true := by
  have hm := band_most rate (seq == 2) h0 h1
  unfold mayB at *
  simp only [Bool.not_eq_true', Bool.or_eq_false_iff, decide_eq_false_iff_not] at *
  refine ⟨h.1, h.2.1, h.2.2.1, by have := h.2.2.2.1; omega, h.2.2.2.2⟩
end Go.Proofs.Yteijlbblmdclaaa
