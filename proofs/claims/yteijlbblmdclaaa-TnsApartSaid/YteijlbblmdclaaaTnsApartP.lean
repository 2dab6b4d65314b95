/- TnsApart: its law in plain numbers. -/
import Derived.Test.YteijlbblmdclaaaTnsRegs
set_option linter.unusedVariables false
namespace Go.Proofs.Yteijlbblmdclaaa

theorem topP_bot (max : Nat) (fs : List FV) (h : ∀ j, j < fs.length → 0 ≤ (fs.getD j default).len) {j : Nat} (hj : j < fs.length) : topP max fs fs.length ≤ topP max fs (j + 1) := topP_anti max fs h hj (Nat.le_refl _)
/-- Lines of a window's that lie below all its filters' bands, or above. -/
theorem out_lines {offs : List Int} {max lines : Nat} {B : List BV} (h : RegsOk offs max lines B) {W n many : Nat} (hW : W < B.length) (hm : many ≤ 32 ∨ B.length = 1) (hn : n < many)
    (ho : (n : Int) < offs.getD (topP max (B.getD W default).fs (B.getD W default).fs.length) 0 ∨ offs.getD max 0 ≤ n) : ∀ s ∈ regsTo offs max B B.length, ¬ s.Has (32 * W + n) := by
  intro s hs hh
  obtain ⟨w, i, hw, hi, rfl⟩ := mem_regsTo hs
  have f := h.fit hw hi
  by_cases e : w = W
  · subst e
    have h1 : 32 * w + (offs.getD (topP max (B.getD w default).fs (i + 1)) 0).toNat ≤ 32 * w + n := hh.1
    have h2 : 32 * w + n < 32 * w + (offs.getD (topP max (B.getD w default).fs i) 0).toNat := hh.2
    have t1 := topP_bot max (B.getD w default).fs (h.p w hw) hi
    have t2 := topP_le max (B.getD w default).fs (h.p w hw) i (by omega)
    have t3 := topP_le max (B.getD w default).fs (h.p w hw) (i + 1) (by omega)
    have o1 := h.o.2.1 _ _ t1 (by have := h.o.1; omega)
    have o2 := h.o.2.1 _ _ t2 h.o.1
    rcases ho with ho | ho <;> omega
  · have hl := h.l (by omega)
    have h1 := hh.1
    have h2 := hh.2
    omega
/-- One window's filters alone. -/
def aloneB (B : List BV) (W : Nat) : List BV := (List.replicate B.length (default : BV)).set W (B.getD W default)
theorem alone_len (B : List BV) (W : Nat) : (aloneB B W).length = B.length := by unfold aloneB; rw [List.length_set, List.length_replicate]
theorem alone_get (B : List BV) {W j : Nat} (hj : j < B.length) : (aloneB B W).getD j default = if j = W then B.getD W default else default := by
  unfold aloneB
  by_cases e : j = W
  · subst e
    rw [if_pos rfl, List.getD_eq_getElem?_getD, List.getElem?_set_self (by rw [List.length_replicate]; exact hj)]
    rfl
  · rw [if_neg e, List.getD_eq_getElem?_getD, List.getElem?_set_ne (fun h => e h.symm), List.getElem?_replicate, if_pos hj]
    rfl
theorem alone_regs (offs : List Int) (max : Nat) (B : List BV) {W : Nat} (hW : W < B.length) : ∀ j, j ≤ B.length → regsTo offs max (aloneB B W) j = if W < j then regsIn offs max W (B.getD W default).fs (B.getD W default).fs.length else []
  | 0, _ => by rw [if_neg (by omega)]; rfl
  | j + 1, hj => by
    rw [regsTo_succ, alone_regs offs max B hW j (by omega), alone_get B (by omega)]
    by_cases e : j = W
    · subst e
      rw [if_neg (by omega), if_pos rfl, if_pos (by omega)]; rfl
    · rw [if_neg e]
      have h0 : regsIn offs max j (default : BV).fs (default : BV).fs.length = [] := rfl
      rw [h0, List.append_nil]
      by_cases h : W < j
      · rw [if_pos h, if_pos (by omega)]
      · rw [if_neg h, if_neg (by omega)]
theorem alone_all (sg : Int) (offs : List Int) (max : Nat) (B : List BV) (x : List Int) {W : Nat} (hW : W < B.length) : allL sg offs max (aloneB B W) x = runS sg (regsIn offs max W (B.getD W default).fs (B.getD W default).fs.length) x := by
  unfold allL
  rw [alone_len, alone_regs offs max B hW _ (Nat.le_refl _), if_pos hW]
/-- A window's lines hang on its filters alone. -/
theorem alone_in {sg : Int} {offs : List Int} {max lines : Nat} {B : List BV} (h : RegsOk offs max lines B) {W : Nat} (hW : W < B.length) (x : List Int) {p : Nat} (hp : p < 256) (hin : B.length = 1 ∨ 32 * W ≤ p ∧ p < 32 * W + 32) : (allL sg offs max (aloneB B W) x).getD p 0 = (allL sg offs max B x).getD p 0 := by
  rw [alone_all sg offs max B x hW]
  have hsub : ∀ s ∈ regsIn offs max W (B.getD W default).fs (B.getD W default).fs.length, s ∈ regsTo offs max B B.length := fun s hs => by
    unfold regsTo
    exact List.mem_flatMap.2 ⟨W, List.mem_range.2 hW, hs⟩
  have hle := h.le
  by_cases hex : ∃ s ∈ regsIn offs max W (B.getD W default).fs (B.getD W default).fs.length, s.Has p
  · obtain ⟨s, hs, hsp⟩ := hex
    rw [runS_in sg hp _ x (fun t ht => hle t (hsub t ht)) (h.pair_in hW _ (Nat.le_refl _)) s hs hsp]
    exact (runS_in sg hp _ x hle (h.pair _ (Nat.le_refl _)) s (hsub s hs) hsp).symm
  · rw [runS_out sg hp _ x (fun s hs hh => hex ⟨s, hs, hh⟩)]
    refine (runS_out sg hp _ x (fun s hs hh => ?_)).symm
    obtain ⟨w, i, hw, hi, rfl⟩ := mem_regsTo hs
    by_cases e : w = W
    · subst e
      exact hex ⟨_, List.mem_map.2 ⟨i, List.mem_range.2 hi, rfl⟩, hh⟩
    · have f := h.fit hw hi
      have hl := h.l (by omega)
      have h1 := hh.1
      have h2 := hh.2
      omega
theorem alone_out {sg : Int} {offs : List Int} {max lines : Nat} {B : List BV} (h : RegsOk offs max lines B) {W : Nat} (hW : W < B.length) (x : List Int) {p : Nat} (hp : p < 256) (h1 : 1 < B.length) (hout : p < 32 * W ∨ 32 * W + 32 ≤ p) : (allL sg offs max (aloneB B W) x).getD p 0 = x.getD p 0 := by
  rw [alone_all sg offs max B x hW]
  refine runS_out sg hp _ x (fun s hs hh => ?_)
  obtain ⟨i, hi, rfl⟩ := mem_regsIn hs
  have f := h.fit hW hi
  have hl := h.l h1
  have a := hh.1
  have b := hh.2
  omega
theorem alone_fs (B : List BV) {W : Nat} (hW : W < B.length) : ∀ j, j ≤ B.length → fsTo (aloneB B W) j = if W < j then (B.getD W default).fs else []
  | 0, _ => by rw [if_neg (by omega)]; rfl
  | j + 1, hj => by
    rw [fsTo_succ, alone_fs B hW j (by omega), alone_get B (by omega)]
    by_cases e : j = W
    · subst e
      rw [if_neg (by omega), if_pos rfl, if_pos (by omega)]; rfl
    · rw [if_neg e, show (default : BV).fs = [] from rfl, List.append_nil]
      by_cases h : W < j
      · rw [if_pos h, if_pos (by omega)]
      · rw [if_neg h, if_neg (by omega)]
theorem firstE_none : ∀ {L : List FV}, (∀ f ∈ L, f.E = 0) → firstE L = 0
  | [], _ => rfl
  | f :: L, h => by
    show (if f.E = 0 then firstE L else f.E) = 0
    rw [if_pos (h f List.mem_cons_self), firstE_none (fun g hg => h g (List.mem_cons_of_mem _ hg))]
theorem alone_ready {rate seq shape max : Int} {G : List Int} {B : List BV} {x : List Int} (h : readyE rate seq shape max G B x = 0) {W : Nat} (hW : W < B.length) : readyE rate seq shape max G (aloneB B W) x = 0 := by
  obtain ⟨h1, h2, h3, h4, h5, h6⟩ := readyE_zero h
  unfold readyE
  have hany : (aloneB B W).any (longB (mostN seq)) = false := by
    rw [List.any_eq_false]
    intro v hv
    obtain ⟨i, hi, rfl⟩ := List.getElem_of_mem hv
    rw [alone_len] at hi
    have hg := alone_get B (W := W) hi
    rw [List.getD_eq_getElem?_getD, List.getElem?_eq_getElem (by rw [alone_len]; exact hi)] at hg
    simp only [Option.getD_some] at hg
    rw [hg]
    by_cases e : i = W
    · rw [if_pos e]
      rw [List.any_eq_false] at h3
      exact h3 _ (by rw [List.getD_eq_getElem?_getD, List.getElem?_eq_getElem hW]; exact List.getElem_mem hW)
    · rw [if_neg e]
      unfold longB mostN
      show ¬ decide (((0 : Nat) : Int) > _) = true
      simp
      split <;> omega
  have hf : firstE (fsTo (aloneB B W) (aloneB B W).length) = 0 := by
    rw [alone_len, alone_fs B hW _ (Nat.le_refl _), if_pos hW]
    refine firstE_none (fun f hf => firstE_mem h4 f ?_)
    unfold fsTo
    exact List.mem_flatMap.2 ⟨W, List.mem_range.2 hW, hf⟩
  have a := (minTo_le (-268435455) x x.length (by omega)).2 (fun j _ => (h6 j).1)
  have b := (le_maxTo 268435455 x x.length (by omega)).2 (fun j _ => (h6 j).2)
  rw [if_neg (by simp [h1]), if_neg (by rw [hany, alone_len]; simp [h2]), if_neg (by simp [hf]), if_neg (by simp [h5]), if_neg (by omega)]
end Go.Proofs.Yteijlbblmdclaaa
