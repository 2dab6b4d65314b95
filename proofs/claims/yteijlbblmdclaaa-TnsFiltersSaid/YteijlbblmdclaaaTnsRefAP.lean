/- What the document's test of filters and lines answers, in plain numbers. -/
import Derived.Test.YteijlbblmdclaaaTnsFwd
set_option linter.unusedVariables false
set_option linter.unusedSimpArgs false
namespace Go.Proofs.Yteijlbblmdclaaa
theorem firstE_stop : ∀ (a b : List FV), firstE a ≠ 0 → firstE (a ++ b) = firstE a
  | [], b, h => absurd rfl h
  | f :: a, b, h => by
    show (if f.E = 0 then firstE (a ++ b) else f.E) = if f.E = 0 then firstE a else f.E
    by_cases hf : f.E = 0
    · have h2 : firstE a ≠ 0 := by
        intro e; apply h; show (if f.E = 0 then firstE a else f.E) = 0; rw [if_pos hf, e]
      rw [if_pos hf, if_pos hf, firstE_stop a b h2]
    · rw [if_neg hf, if_neg hf]
theorem fsTo_more (B : List BV) (k : Nat) : ∀ d, ∃ r, fsTo B (k + d) = fsTo B k ++ r
  | 0 => ⟨[], by simp⟩
  | d + 1 => by
    obtain ⟨r, h⟩ := fsTo_more B k d
    exact ⟨r ++ (B.getD (k + d) default).fs, by rw [← Nat.add_assoc, fsTo_succ, h, List.append_assoc]⟩
theorem firstE_found {B : List BV} {k i : Nat} (hk : k < B.length) (hi : i < (B.getD k default).fs.length) (h1 : firstE (fsTo B k) = 0) (h2 : firstE ((B.getD k default).fs.take i) = 0) (h3 : ((B.getD k default).fs.getD i default).E ≠ 0) :
    firstE (fsTo B B.length) = ((B.getD k default).fs.getD i default).E := by
  obtain ⟨r, hr⟩ := fsTo_more B (k + 1) (B.length - (k + 1))
  rw [show k + 1 + (B.length - (k + 1)) = B.length by omega] at hr
  have h4 := firstE_take hi h2 h3
  have h5 : firstE (fsTo B (k + 1)) = ((B.getD k default).fs.getD i default).E := by rw [fsTo_succ, firstE_app _ _ h1, h4]
  rw [hr, firstE_stop _ _ (by rw [h5]; exact h3), h5]
theorem firstE_row {B : List BV} {k : Nat} (h1 : firstE (fsTo B k) = 0) (h2 : firstE ((B.getD k default).fs.take (B.getD k default).fs.length) = 0) : firstE (fsTo B (k + 1)) = 0 := by
  rw [fsTo_succ, firstE_app _ _ h1]
  rwa [List.take_length] at h2
section
variable {rate seq shape max : Int} {G : List Int} {B : List BV} {x : List Int}
theorem asked_info (h : infoE rate seq shape max G ≠ 0) : readyE rate seq shape max G B x = infoE rate seq shape max G := by unfold readyE; rw [if_pos h]
theorem asked_many (h : infoE rate seq shape max G = 0) (h2 : B.length ≠ winN seq ∨ B.any (longB (mostN seq)) = true) : readyE rate seq shape max G B x = 4 := by
  unfold readyE; rw [if_neg (by simp [h]), if_pos h2]
theorem asked_first (h : infoE rate seq shape max G = 0) (h2 : ¬ (B.length ≠ winN seq ∨ B.any (longB (mostN seq)) = true)) (h3 : firstE (fsTo B B.length) ≠ 0) : readyE rate seq shape max G B x = firstE (fsTo B B.length) := by
  unfold readyE; rw [if_neg (by simp [h]), if_neg h2, if_pos h3]
theorem asked_len (h : infoE rate seq shape max G = 0) (h2 : ¬ (B.length ≠ winN seq ∨ B.any (longB (mostN seq)) = true)) (h3 : firstE (fsTo B B.length) = 0) (h4 : x.length ≠ 256) : readyE rate seq shape max G B x = 4 := by
  unfold readyE; rw [if_neg (by simp [h]), if_neg h2, if_neg (by simp [h3]), if_pos h4]
theorem asked_odd (h : infoE rate seq shape max G = 0) (h2 : ¬ (B.length ≠ winN seq ∨ B.any (longB (mostN seq)) = true)) (h3 : firstE (fsTo B B.length) = 0) (h4 : x.length = 256) {j : Nat} (hj : j < 256) (h5 : x.getD j 0 < -268435455 ∨ 268435455 < x.getD j 0) : readyE rate seq shape max G B x = 2 := by
  unfold readyE
  rw [if_neg (by simp [h]), if_neg h2, if_neg (by simp [h3]), if_neg (by simp [h4]), if_pos]
  rcases h5 with h5 | h5
  · left
    by_cases hm : minTo x x.length < -268435455
    · exact hm
    · have := (minTo_le (-268435455) x x.length (by omega)).1 (by omega) j (by omega)
      omega
  · right
    by_cases hm : 268435455 < maxTo x x.length
    · exact hm
    · have := (le_maxTo 268435455 x x.length (by omega)).1 (by omega) j (by omega)
      omega
theorem asked_fine (h : infoE rate seq shape max G = 0) (h2 : ¬ (B.length ≠ winN seq ∨ B.any (longB (mostN seq)) = true)) (h3 : firstE (fsTo B B.length) = 0) (h4 : x.length = 256) (h5 : ∀ j, j < 256 → -268435455 ≤ x.getD j 0 ∧ x.getD j 0 ≤ 268435455) : readyE rate seq shape max G B x = 0 := by
  unfold readyE
  rw [if_neg (by simp [h]), if_neg h2, if_neg (by simp [h3]), if_neg (by simp [h4]), if_neg]
  have m1 := (minTo_le (-268435455) x x.length (by omega)).2 (fun j hj => (h5 j (by omega)).1)
  have m2 := (le_maxTo 268435455 x x.length (by omega)).2 (fun j hj => (h5 j (by omega)).2)
  omega
theorem any_long {m : Int} {k : Nat} (hk : k < B.length) (h : ((B.getD k default).fs.length : Int) > m) : B.any (longB m) = true := by
  rw [List.any_eq_true]
  refine ⟨B.getD k default, by rw [List.getD_eq_getElem?_getD, List.getElem?_eq_getElem hk]; exact List.getElem_mem hk, ?_⟩
  unfold longB
  exact decide_eq_true h
theorem any_short {m : Int} (h : ∀ k, k < B.length → ((B.getD k default).fs.length : Int) ≤ m) : B.any (longB m) = false := by
  rw [List.any_eq_false]
  intro b hb
  obtain ⟨i, hi, rfl⟩ := List.getElem_of_mem hb
  have := h i hi
  rw [List.getD_eq_getElem?_getD, List.getElem?_eq_getElem hi] at this
  unfold longB
  simpa using this
end
end Go.Proofs.Yteijlbblmdclaaa
