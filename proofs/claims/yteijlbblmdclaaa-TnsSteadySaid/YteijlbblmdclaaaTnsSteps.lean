/- tns: lines filtered, in plain numbers. -/
import Derived.Test.YteijlbblmdclaaaTnsAbs
set_option linter.unusedVariables false
namespace Go.Proofs.Yteijlbblmdclaaa

def keptB (n : Int) : Int := min (max n (-268435455)) 268435455
theorem keptB_range (n : Int) : -268435455 ≤ keptB n ∧ keptB n ≤ 268435455 := by unfold keptB; omega
theorem keptB_id {n : Int} (h1 : -268435455 ≤ n) (h2 : n ≤ 268435455) : keptB n = n := by unfold keptB; omega
theorem keptB_not {n : Int} (h1 : keptB n ≠ 268435455) (h2 : keptB n ≠ -268435455) : keptB n = n := by unfold keptB at *; omega
/-- Line n, filtered: xs the lines, ys those that are filtered already. -/
def stepY (sign : Int) (a xs ys : List Int) (n : Nat) : Int := keptB (xs.getD n 0 + sign * rnd (toldF a (if 0 < sign then xs else ys) n (min a.length n)) 20)
def filtP (sign : Int) (a xs : List Int) : Nat → List Int
  | 0 => []
  | n + 1 => filtP sign a xs n ++ [stepY sign a xs (filtP sign a xs n) n]
theorem filtP_len (sign : Int) (a xs : List Int) : ∀ n, (filtP sign a xs n).length = n
  | 0 => rfl
  | n + 1 => by rw [filtP, List.length_append, filtP_len sign a xs n]; rfl
theorem filtP_get (sign : Int) (a xs : List Int) {j : Nat} : ∀ {m : Nat}, j < m → (filtP sign a xs m).getD j 0 = stepY sign a xs (filtP sign a xs j) j
  | 0, h => by omega
  | m + 1, h => by
    have hl := filtP_len sign a xs m
    rw [filtP]
    by_cases e : j = m
    · subst e
      rw [List.getD_eq_getElem?_getD, List.getElem?_append_right (by omega)]
      simp [hl]
    · rw [List.getD_eq_getElem?_getD, List.getElem?_append_left (by omega), ← List.getD_eq_getElem?_getD]
      exact filtP_get sign a xs (by omega)
theorem filtP_same (sign : Int) (a xs : List Int) {j n m : Nat} (h1 : j < n) (h2 : j < m) : (filtP sign a xs n).getD j 0 = (filtP sign a xs m).getD j 0 := by rw [filtP_get _ _ _ h1, filtP_get _ _ _ h2]
theorem filtP_range (sign : Int) (a xs : List Int) (n j : Nat) : -268435455 ≤ (filtP sign a xs n).getD j 0 ∧ (filtP sign a xs n).getD j 0 ≤ 268435455 := by
  by_cases h : j < n
  · rw [filtP_get _ _ _ h]; exact keptB_range _
  · rw [List.getD_eq_getElem?_getD, List.getElem?_eq_none (by rw [filtP_len]; omega)]; simp
theorem told_congr {a x y : List Int} {n j : Nat} (hj : j ≤ n) (h : ∀ i, i < n → x.getD i 0 = y.getD i 0) : toldF a x n j = toldF a y n j :=
  sumF_congr j (fun k hk => by rw [h (n - 1 - k) (by omega)])
theorem stepY_congr {sign : Int} {a x x' y y' : List Int} {n : Nat} (h0 : ∀ i, i ≤ n → x.getD i 0 = x'.getD i 0) (h : ∀ i, i < n → y.getD i 0 = y'.getD i 0) : stepY sign a x y n = stepY sign a x' y' n := by
  unfold stepY
  rw [h0 n (Nat.le_refl _)]
  by_cases hs : 0 < sign
  · rw [if_pos hs, if_pos hs, told_congr (Nat.min_le_right _ _) (fun i hi => h0 i (by omega))]
  · rw [if_neg hs, if_neg hs, told_congr (Nat.min_le_right _ _) h]
theorem filtP_congr {sign : Int} {a x x' : List Int} : ∀ {n : Nat}, (∀ i, i < n → x.getD i 0 = x'.getD i 0) → filtP sign a x n = filtP sign a x' n
  | 0, _ => rfl
  | n + 1, h => by
    have ih := filtP_congr (sign := sign) (a := a) (n := n) (fun i hi => h i (by omega))
    rw [filtP, filtP, ih, stepY_congr (x' := x') (y' := filtP sign a x' n) (fun i hi => h i (by omega)) (fun _ _ => rfl)]
/-- What was filtered is as it was, filtered the other way, if nothing was kept. -/
theorem filt_forth (a xs : List Int) (m : Nat) (hx : ∀ j, -268435455 ≤ xs.getD j 0 ∧ xs.getD j 0 ≤ 268435455) (hq : ∀ j, j < m → (filtP 1 a xs m).getD j 0 ≠ 268435455 ∧ (filtP 1 a xs m).getD j 0 ≠ -268435455) :
    ∀ n, n ≤ m → ∀ j, j < n → (filtP (-1) a (filtP 1 a xs m) n).getD j 0 = xs.getD j 0 := by
  intro n
  induction n with
  | zero => intro _ j hj; omega
  | succ n ih =>
    intro hn j hj
    by_cases e : j = n
    · subst e
      rw [filtP_get _ _ _ (by omega)]
      have q := hq j (by omega)
      have f := filtP_get 1 a xs (j := j) (m := m) (by omega)
      rw [f] at q
      unfold stepY at q f ⊢
      rw [if_pos (by decide)] at q f
      rw [if_neg (by decide), f, keptB_not q.1 q.2]
      have ht : toldF a (filtP (-1) a (filtP 1 a xs m) j) j (min a.length j) = toldF a xs j (min a.length j) := told_congr (Nat.min_le_right _ _) (fun i hi => ih (by omega) i hi)
      rw [ht]
      generalize rnd (toldF a xs j (min a.length j)) 20 = R
      rw [show xs.getD j 0 + 1 * R + -1 * R = xs.getD j 0 by omega]
      exact keptB_id (hx j).1 (hx j).2
    · rw [filtP_same _ _ _ (n := n + 1) (m := n) (by omega) (by omega)]
      exact ih (by omega) j (by omega)
theorem filt_back (a xs : List Int) (m : Nat) (hx : ∀ j, -268435455 ≤ xs.getD j 0 ∧ xs.getD j 0 ≤ 268435455) (hq : ∀ j, j < m → (filtP (-1) a xs m).getD j 0 ≠ 268435455 ∧ (filtP (-1) a xs m).getD j 0 ≠ -268435455) :
    ∀ j, j < m → (filtP 1 a (filtP (-1) a xs m) m).getD j 0 = xs.getD j 0 := by
  intro j hj
  rw [filtP_get _ _ _ hj]
  have q := hq j hj
  have f := filtP_get (-1) a xs (j := j) (m := m) hj
  rw [f] at q
  unfold stepY at q f ⊢
  rw [if_neg (by decide)] at q f
  rw [if_pos (by decide), f, keptB_not q.1 q.2]
  have ht : toldF a (filtP (-1) a xs m) j (min a.length j) = toldF a (filtP (-1) a xs j) j (min a.length j) := told_congr (Nat.min_le_right _ _) (fun i hi => filtP_same _ _ _ (by omega) hi)
  rw [ht]
  generalize rnd (toldF a (filtP (-1) a xs j) j (min a.length j)) 20 = R
  rw [show xs.getD j 0 + -1 * R + 1 * R = xs.getD j 0 by omega]
  exact keptB_id (hx j).1 (hx j).2
/-- A filter's lines: from one to another, downward or not, and its coefficients. -/
structure Reg where
  from_ : Nat
  to_ : Nat
  down : Bool
  a : List Int
/-- The place of line n of a region's. -/
def Reg.at (s : Reg) (n : Nat) : Nat := if s.down then s.to_ - 1 - n else s.from_ + n
def Reg.inv (s : Reg) (p : Nat) : Nat := if s.down then s.to_ - 1 - p else p - s.from_
def Reg.many (s : Reg) : Nat := s.to_ - s.from_
def Reg.Has (s : Reg) (p : Nat) : Prop := s.from_ ≤ p ∧ p < s.to_
theorem Reg.at_has (s : Reg) {n : Nat} (h : n < s.many) : s.Has (s.at n) ∧ s.inv (s.at n) = n := by
  unfold Reg.many at h
  unfold Reg.Has Reg.at Reg.inv
  cases s.down <;> simp <;> omega
theorem Reg.inv_lt (s : Reg) {p : Nat} (h : s.Has p) : s.inv p < s.many ∧ s.at (s.inv p) = p := by
  unfold Reg.Has at h
  unfold Reg.at Reg.inv Reg.many
  cases s.down <;> simp <;> omega
/-- Its lines, in order. -/
def Reg.lines (s : Reg) (O : List Int) : List Int := (List.range s.many).map (fun n => O.getD (s.at n) 0)
theorem Reg.lines_get (s : Reg) (O : List Int) {n : Nat} (h : n < s.many) : (s.lines O).getD n 0 = O.getD (s.at n) 0 := by
  unfold Reg.lines
  rw [List.getD_eq_getElem?_getD, List.getElem?_map, List.getElem?_range h]; rfl
theorem Reg.lines_len (s : Reg) (O : List Int) : (s.lines O).length = s.many := by simp [Reg.lines]
/-- Lines of which the first n of a region's are filtered. -/
def Reg.part (s : Reg) (O ys : List Int) (n : Nat) : List Int := (List.range 256).map (fun p => if s.from_ ≤ p ∧ p < s.to_ ∧ s.inv p < n then ys.getD (s.inv p) 0 else O.getD p 0)
theorem Reg.part_len (s : Reg) (O ys : List Int) (n : Nat) : (s.part O ys n).length = 256 := by simp [Reg.part]
theorem Reg.part_get (s : Reg) (O ys : List Int) (n : Nat) {p : Nat} (h : p < 256) : (s.part O ys n).getD p 0 = if s.from_ ≤ p ∧ p < s.to_ ∧ s.inv p < n then ys.getD (s.inv p) 0 else O.getD p 0 := by
  unfold Reg.part
  rw [List.getD_eq_getElem?_getD, List.getElem?_map, List.getElem?_range h]; rfl
/-- A region filtered. -/
def Reg.run (s : Reg) (sign : Int) (O : List Int) : List Int := s.part O (filtP sign s.a (s.lines O) s.many) s.many
theorem list_ext256 {a b : List Int} (ha : a.length = 256) (hb : b.length = 256) (h : ∀ p, p < 256 → a.getD p 0 = b.getD p 0) : a = b := by
  apply List.ext_getElem (by omega)
  intro p h1 h2
  have := h p (by omega)
  rw [List.getD_eq_getElem?_getD, List.getD_eq_getElem?_getD, List.getElem?_eq_getElem h1, List.getElem?_eq_getElem h2] at this
  simpa using this
theorem Reg.ran_in (s : Reg) (sign : Int) (O : List Int) {p : Nat} (hp : p < 256) (h : s.Has p) : (s.run sign O).getD p 0 = (filtP sign s.a (s.lines O) s.many).getD (s.inv p) 0 := by
  unfold Reg.run
  rw [s.part_get _ _ _ hp, if_pos ⟨h.1, h.2, (s.inv_lt h).1⟩]
theorem Reg.run_out (s : Reg) (sign : Int) (O : List Int) {p : Nat} (hp : p < 256) (h : ¬ s.Has p) : (s.run sign O).getD p 0 = O.getD p 0 := by
  unfold Reg.run
  rw [s.part_get _ _ _ hp, if_neg (fun h' => h ⟨h'.1, h'.2.1⟩)]
theorem Reg.run_len (s : Reg) (sign : Int) (O : List Int) : (s.run sign O).length = 256 := s.part_len _ _ _
theorem Reg.lines_congr (s : Reg) {O O' : List Int} (h : ∀ p, s.Has p → O.getD p 0 = O'.getD p 0) : s.lines O = s.lines O' := by
  unfold Reg.lines
  exact List.map_congr_left (fun n hn => h _ (s.at_has (List.mem_range.1 hn)).1)
theorem Reg.run_congr (s : Reg) (sign : Int) {O O' : List Int} (h : ∀ p, s.Has p → O.getD p 0 = O'.getD p 0) {p : Nat} (hp : p < 256) (hs : s.Has p) : (s.run sign O).getD p 0 = (s.run sign O').getD p 0 := by
  rw [s.ran_in sign O hp hs, s.ran_in sign O' hp hs, s.lines_congr h]
def runS (sign : Int) (l : List Reg) (O : List Int) : List Int := l.foldl (fun O s => s.run sign O) O
def Apart2 (s t : Reg) : Prop := ∀ p, s.Has p → ¬ t.Has p
theorem runS_out (sign : Int) {p : Nat} (hp : p < 256) : ∀ (l : List Reg) (O : List Int), (∀ s ∈ l, ¬ s.Has p) → (runS sign l O).getD p 0 = O.getD p 0
  | [], O, _ => rfl
  | s :: l, O, h => by
    unfold runS
    rw [List.foldl_cons]
    have := runS_out sign hp l (s.run sign O) (fun t ht => h t (List.mem_cons_of_mem _ ht))
    unfold runS at this
    rw [this, s.run_out sign O hp (h s List.mem_cons_self)]
theorem runS_len (sign : Int) : ∀ (l : List Reg) (O : List Int), O.length = 256 → (runS sign l O).length = 256
  | [], O, h => h
  | s :: l, O, h => by
    unfold runS
    rw [List.foldl_cons]
    exact runS_len sign l _ (s.run_len sign O)
/-- Regions that are apart: each by itself. -/
theorem runS_in (sign : Int) {p : Nat} (hp : p < 256) : ∀ (l : List Reg) (O : List Int), (∀ t ∈ l, t.to_ ≤ 256) → l.Pairwise Apart2 → ∀ s ∈ l, s.Has p → (runS sign l O).getD p 0 = (s.run sign O).getD p 0
  | [], O, _, _, s, h, _ => by cases h
  | t :: l, O, hle, hpw, s, h, hs => by
    unfold runS
    rw [List.foldl_cons]
    obtain ⟨h1, h2⟩ := List.pairwise_cons.1 hpw
    rcases List.mem_cons.1 h with rfl | h
    · have := runS_out sign hp l (s.run sign O) (fun u hu => h1 u hu p hs)
      unfold runS at this
      exact this
    · have := runS_in sign hp l (t.run sign O) (fun u hu => hle u (List.mem_cons_of_mem _ hu)) h2 s h hs
      unfold runS at this
      rw [this]
      refine s.run_congr sign (fun q hq => ?_) hp hs
      have hq2 : q < 256 := by have := hle s (List.mem_cons_of_mem _ h); have := hq.2; omega
      exact t.run_out sign O hq2 (fun hh => h1 s h q hh hq)
/-- What was filtered one way, and nothing of it kept, is as it was, filtered the other way. -/
theorem run_undo (s : Reg) (sign : Int) (hsg : sign = 1 ∨ sign = -1) (hto : s.to_ ≤ 256) (O : List Int) (hO : ∀ j, -268435455 ≤ O.getD j 0 ∧ O.getD j 0 ≤ 268435455) (hq : ∀ p, s.Has p → (s.run sign O).getD p 0 ≠ 268435455 ∧ (s.run sign O).getD p 0 ≠ -268435455) {p : Nat} (hp : p < 256) (hs : s.Has p) :
    (s.run (-sign) (s.run sign O)).getD p 0 = O.getD p 0 := by
  have hl : ∀ n, n < s.many → (s.lines (s.run sign O)).getD n 0 = (filtP sign s.a (s.lines O) s.many).getD n 0 := fun n hn => by
    have ha := s.at_has hn
    have h256 : s.at n < 256 := by have := ha.1.2; omega
    rw [s.lines_get _ hn, s.ran_in sign O h256 ha.1, ha.2]
  have hx : ∀ j, -268435455 ≤ (s.lines O).getD j 0 ∧ (s.lines O).getD j 0 ≤ 268435455 := fun j => by
    by_cases hj : j < s.many
    · rw [s.lines_get O hj]; exact hO _
    · rw [List.getD_eq_getElem?_getD, List.getElem?_eq_none (by rw [s.lines_len]; omega)]; simp
  have hqq : ∀ j, j < s.many → (filtP sign s.a (s.lines O) s.many).getD j 0 ≠ 268435455 ∧ (filtP sign s.a (s.lines O) s.many).getD j 0 ≠ -268435455 := fun j hj => by
    have ha := s.at_has hj
    have := hq (s.at j) ha.1
    rw [s.ran_in sign O (by have := ha.1.2; omega) ha.1, ha.2] at this
    exact this
  have hi := s.inv_lt hs
  rw [s.ran_in (-sign) _ hp hs, filtP_congr hl]
  have key : (filtP (-sign) s.a (filtP sign s.a (s.lines O) s.many) s.many).getD (s.inv p) 0 = (s.lines O).getD (s.inv p) 0 := by
    rcases hsg with rfl | rfl
    · exact filt_forth s.a (s.lines O) s.many hx hqq s.many (Nat.le_refl _) _ hi.1
    · exact filt_back s.a (s.lines O) s.many hx hqq _ hi.1
  rw [key, s.lines_get O hi.1, hi.2]
theorem runS_undo (sign : Int) (hsg : sign = 1 ∨ sign = -1) (l : List Reg) (hle : ∀ t ∈ l, t.to_ ≤ 256) (hpw : l.Pairwise Apart2) (O : List Int) (hl : O.length = 256) (hO : ∀ j, -268435455 ≤ O.getD j 0 ∧ O.getD j 0 ≤ 268435455)
    (hq : ∀ p, p < 256 → (runS sign l O).getD p 0 ≠ 268435455 ∧ (runS sign l O).getD p 0 ≠ -268435455) : runS (-sign) l (runS sign l O) = O := by
  refine list_ext256 (runS_len _ _ _ (runS_len _ _ _ hl)) hl (fun p hp => ?_)
  by_cases h : ∃ s ∈ l, s.Has p
  · obtain ⟨s, hs, hsp⟩ := h
    have hto := hle s hs
    rw [runS_in (-sign) hp l _ hle hpw s hs hsp]
    rw [s.run_congr (-sign) (O' := s.run sign O) (fun q hq => runS_in sign (by have := hq.2; omega) l O hle hpw s hs hq) hp hsp]
    refine run_undo s sign hsg hto O hO (fun q hq' => ?_) hp hsp
    have hq2 : q < 256 := by have := hq'.2; omega
    have := hq q hq2
    rw [runS_in sign hq2 l O hle hpw s hs hq'] at this
    exact this
  · have hn : ∀ s ∈ l, ¬ s.Has p := fun s hs hh => h ⟨s, hs, hh⟩
    rw [runS_out (-sign) hp l _ hn, runS_out sign hp l _ hn]
end Go.Proofs.Yteijlbblmdclaaa
