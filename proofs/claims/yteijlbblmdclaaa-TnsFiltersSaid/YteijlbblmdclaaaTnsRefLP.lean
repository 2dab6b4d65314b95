/- Lines that are filtered a part at a time, in plain numbers. -/
import Derived.Test.YteijlbblmdclaaaTnsFwd
set_option linter.unusedVariables false
set_option linter.unusedSimpArgs false
namespace Go.Proofs.Yteijlbblmdclaaa
/-- A part of lines. -/
def partL (O : List Int) (lo hi : Nat) : List Int := (List.range (hi - lo)).map (fun j => O.getD (lo + j) 0)
theorem part_len (O : List Int) (lo hi : Nat) : (partL O lo hi).length = hi - lo := by simp [partL]
theorem part_at (O : List Int) (lo hi : Nat) {j : Nat} (h : j < hi - lo) : (partL O lo hi).getD j 0 = O.getD (lo + j) 0 := by
  unfold partL
  rw [List.getD_eq_getElem?_getD, List.getElem?_map, List.getElem?_range h]; rfl
theorem getD_reverse (l : List Int) {j : Nat} (h : j < l.length) : l.reverse.getD j 0 = l.getD (l.length - 1 - j) 0 := by
  rw [List.getD_eq_getElem?_getD, List.getElem?_reverse h, ← List.getD_eq_getElem?_getD]
theorem list_extD {a b : List Int} {n : Nat} (ha : a.length = n) (hb : b.length = n) (h : ∀ p, p < n → a.getD p 0 = b.getD p 0) : a = b := by
  apply List.ext_getElem (by omega)
  intro p h1 h2
  have := h p (by omega)
  rw [List.getD_eq_getElem?_getD, List.getD_eq_getElem?_getD, List.getElem?_eq_getElem h1, List.getElem?_eq_getElem h2] at this
  simpa using this
/-- A list in a filter's order. -/
def turnL (down : Bool) (l : List Int) : List Int := if down then l.reverse else l
theorem turn_len (down : Bool) (l : List Int) : (turnL down l).length = l.length := by unfold turnL; split <;> simp
theorem lines_part (s : Reg) (O : List Int) (h : s.from_ ≤ s.to_) : turnL s.down (partL O s.from_ s.to_) = s.lines O := by
  refine list_extD (n := s.many) (by rw [turn_len, part_len]; rfl) (s.lines_len O) (fun p hp => ?_)
  rw [s.lines_get O hp]
  unfold Reg.many at hp
  unfold turnL Reg.at
  cases s.down
  · simp only [Bool.false_eq_true, if_false]
    rw [part_at _ _ _ hp]
  · simp only [if_true]
    rw [getD_reverse _ (by rw [part_len]; exact hp), part_len, part_at _ _ _ (by omega)]
    congr 1
    omega
/-- Lines of which the first k of a part are written. -/
def putL (O : List Int) (lo : Nat) (P : List Int) (k : Nat) : List Int := (List.range 256).map (fun p => if lo ≤ p ∧ p < lo + k then P.getD (p - lo) 0 else O.getD p 0)
theorem put_len (O : List Int) (lo : Nat) (P : List Int) (k : Nat) : (putL O lo P k).length = 256 := by simp [putL]
theorem put_at (O : List Int) (lo : Nat) (P : List Int) (k : Nat) {p : Nat} (h : p < 256) : (putL O lo P k).getD p 0 = if lo ≤ p ∧ p < lo + k then P.getD (p - lo) 0 else O.getD p 0 := by
  unfold putL
  rw [List.getD_eq_getElem?_getD, List.getElem?_map, List.getElem?_range h]; rfl
theorem put_zero {O : List Int} (h : O.length = 256) (lo : Nat) (P : List Int) : putL O lo P 0 = O :=
  list_extD (put_len _ _ _ _) h (fun p hp => by rw [put_at _ _ _ _ hp, if_neg (by omega)])
theorem getD_set (l : List Int) (i : Nat) (v : Int) (p : Nat) (h : p < l.length) : (l.set i v).getD p 0 = if i = p then v else l.getD p 0 := by
  rw [List.getD_eq_getElem?_getD, List.getElem?_set]
  by_cases e : i = p
  · subst e; simp [h]
  · rw [if_neg e, if_neg e, ← List.getD_eq_getElem?_getD]
theorem put_succ (O : List Int) (lo : Nat) (P : List Int) (k : Nat) (h : lo + k < 256) : (putL O lo P k).set (lo + k) (P.getD k 0) = putL O lo P (k + 1) := by
  refine list_extD (n := 256) (by rw [List.length_set, put_len]) (put_len _ _ _ _) (fun p hp => ?_)
  rw [getD_set _ _ _ _ (by rw [put_len]; exact hp), put_at _ _ _ _ hp, put_at _ _ _ _ hp]
  by_cases e : lo + k = p
  · rw [if_pos e, if_pos (by omega), show p - lo = k by omega]
  · rw [if_neg e]
    by_cases f : lo ≤ p ∧ p < lo + k
    · rw [if_pos f, if_pos (by omega)]
    · rw [if_neg f, if_neg (by omega)]
theorem put_run (s : Reg) (sg : Int) (O : List Int) (h1 : s.from_ ≤ s.to_) (h2 : s.to_ ≤ 256) : putL O s.from_ (turnL s.down (filtP sg s.a (s.lines O) s.many)) s.many = s.run sg O := by
  refine list_extD (put_len _ _ _ _) (s.run_len sg O) (fun p hp => ?_)
  rw [put_at _ _ _ _ hp]
  have hm : s.many = s.to_ - s.from_ := rfl
  by_cases f : s.Has p
  · rw [s.ran_in sg O hp f, if_pos ⟨f.1, by have := f.2; omega⟩]
    have hi := s.inv_lt f
    have hl := filtP_len sg s.a (s.lines O) s.many
    unfold Reg.Has at f
    unfold turnL
    unfold Reg.inv at *
    cases hd : s.down
    · rw [hd] at hi; simp only [Bool.false_eq_true, if_false] at hi ⊢
    · rw [hd] at hi
      simp only [if_true] at hi ⊢
      rw [getD_reverse _ (by rw [hl]; omega), hl]
      congr 1
      omega
  · rw [s.run_out sg O hp f, if_neg]
    intro h
    exact f ⟨h.1, by omega⟩
end Go.Proofs.Yteijlbblmdclaaa
