/- Quantised lines, in plain numbers: the places, and what each round does. -/
import Derived.Test.YtppfbfiigfjncaaInfoGroup
set_option linter.unusedVariables false
namespace Go.Proofs.Ytppfbfiigfjncaa

/-- A line's place: its number, its group, its band. -/
structure Pl where
  n : Nat
  g : Nat
  b : Nat
/-- The places of one band's first so many lines. -/
def bandPl (w g b a : Nat) (k : Nat) : List Pl := (List.range k).map (fun i => ⟨32 * w + (a + i), g, b⟩)
def wideB (offs : List Int) (b : Nat) : Nat := (offs.getD (b + 1) 0 - offs.getD b 0).toNat
def winPl (offs : List Int) (G : List Int) (w : Nat) : Nat → List Pl
  | 0 => []
  | b + 1 => winPl offs G w b ++ bandPl w (grpOf G w) b (offs.getD b 0).toNat (wideB offs b)
def allPl (offs : List Int) (G : List Int) (mx : Nat) : Nat → List Pl
  | 0 => []
  | w + 1 => allPl offs G mx w ++ winPl offs G w mx
theorem bandPl_succ (w g b a k : Nat) : bandPl w g b a (k + 1) = bandPl w g b a k ++ [⟨32 * w + (a + k), g, b⟩] := by
  unfold bandPl; rw [List.range_succ, List.map_append]; rfl
theorem mem_bandPl {w g b a k : Nat} {p : Pl} (h : p ∈ bandPl w g b a k) : ∃ i, i < k ∧ p = ⟨32 * w + (a + i), g, b⟩ := by
  unfold bandPl at h
  obtain ⟨i, hi, rfl⟩ := List.mem_map.1 h
  exact ⟨i, List.mem_range.1 hi, rfl⟩
theorem mem_winPl {offs G : List Int} {w : Nat} {p : Pl} : ∀ {m : Nat}, p ∈ winPl offs G w m → ∃ b i, b < m ∧ i < wideB offs b ∧ p = ⟨32 * w + ((offs.getD b 0).toNat + i), grpOf G w, b⟩
  | 0, h => by cases h
  | m + 1, h => by
    rcases List.mem_append.1 h with h | h
    · obtain ⟨b, i, hb, hi, e⟩ := mem_winPl h
      exact ⟨b, i, by omega, hi, e⟩
    · obtain ⟨i, hi, e⟩ := mem_bandPl h
      exact ⟨m, i, by omega, hi, e⟩
theorem mem_allPl {offs G : List Int} {mx : Nat} {p : Pl} : ∀ {m : Nat}, p ∈ allPl offs G mx m → ∃ w b i, w < m ∧ b < mx ∧ i < wideB offs b ∧ p = ⟨32 * w + ((offs.getD b 0).toNat + i), grpOf G w, b⟩
  | 0, h => by cases h
  | m + 1, h => by
    rcases List.mem_append.1 h with h | h
    · obtain ⟨w, b, i, hw, hb, hi, e⟩ := mem_allPl h
      exact ⟨w, b, i, by omega, hb, hi, e⟩
    · obtain ⟨b, i, hb, hi, e⟩ := mem_winPl h
      exact ⟨m, b, i, by omega, hb, hi, e⟩
def sentB (k : Int) : Bool := decide (1 ≤ k) && decide (k ≤ 11)
def bookOf (Bk : List (List Int)) (p : Pl) : Int := (Bk.getD p.g []).getD p.b 0
/-- One round. -/
def stepQ (F : Int → Int → Int) (Bk St : List (List Int)) (L O : List Int) (p : Pl) : List Int :=
  if sentB (bookOf Bk p) then O.set p.n (F (L.getD p.n 0) (bookOf St p)) else O
theorem stepQ_len (F : Int → Int → Int) (Bk St : List (List Int)) (L O : List Int) (p : Pl) : (stepQ F Bk St L O p).length = O.length := by
  unfold stepQ; split
  · rw [List.length_set]
  · rfl
theorem stepQ_at (F : Int → Int → Int) (Bk St : List (List Int)) (L O : List Int) (p : Pl) (hp : p.n < O.length) : (stepQ F Bk St L O p).getD p.n 0 = if sentB (bookOf Bk p) then F (L.getD p.n 0) (bookOf St p) else O.getD p.n 0 := by
  unfold stepQ; split
  · rw [List.getD_eq_getElem?_getD, List.getElem?_set_self hp]; rfl
  · rfl
theorem stepQ_off (F : Int → Int → Int) (Bk St : List (List Int)) (L O : List Int) (p : Pl) {j : Nat} (hj : p.n ≠ j) : (stepQ F Bk St L O p).getD j 0 = O.getD j 0 := by
  unfold stepQ; split
  · rw [List.getD_eq_getElem?_getD, List.getElem?_set_ne hj, ← List.getD_eq_getElem?_getD]
  · rfl
def runQ (F : Int → Int → Int) (Bk St : List (List Int)) (L : List Int) (ps : List Pl) (O : List Int) : List Int := ps.foldl (stepQ F Bk St L) O
theorem runQ_len (F : Int → Int → Int) (Bk St : List (List Int)) (L : List Int) : ∀ (ps : List Pl) (O : List Int), (runQ F Bk St L ps O).length = O.length
  | [], O => rfl
  | p :: ps, O => by
    unfold runQ; rw [List.foldl_cons]
    exact (runQ_len F Bk St L ps _).trans (stepQ_len F Bk St L O p)
theorem runQ_snoc (F : Int → Int → Int) (Bk St : List (List Int)) (L : List Int) (ps : List Pl) (p : Pl) (O : List Int) : runQ F Bk St L (ps ++ [p]) O = stepQ F Bk St L (runQ F Bk St L ps O) p := by
  unfold runQ; rw [List.foldl_append]; rfl
theorem runQ_off (F : Int → Int → Int) (Bk St : List (List Int)) (L : List Int) {j : Nat} : ∀ (ps : List Pl) (O : List Int), (∀ p ∈ ps, p.n ≠ j) → (runQ F Bk St L ps O).getD j 0 = O.getD j 0
  | [], O, _ => rfl
  | p :: ps, O, h => by
    unfold runQ; rw [List.foldl_cons]
    have := runQ_off F Bk St L ps (stepQ F Bk St L O p) (fun q hq => h q (List.mem_cons_of_mem _ hq))
    unfold runQ at this
    rw [this, stepQ_off F Bk St L O p (h p List.mem_cons_self)]
theorem runQ_at (F : Int → Int → Int) (Bk St : List (List Int)) (L : List Int) : ∀ (ps : List Pl) (O : List Int), ps.Pairwise (fun a b => a.n ≠ b.n) → ∀ p ∈ ps, p.n < O.length → (runQ F Bk St L ps O).getD p.n 0 = if sentB (bookOf Bk p) then F (L.getD p.n 0) (bookOf St p) else O.getD p.n 0
  | [], O, _, p, h, _ => by cases h
  | q :: ps, O, hpw, p, h, hp => by
    obtain ⟨h1, h2⟩ := List.pairwise_cons.1 hpw
    unfold runQ; rw [List.foldl_cons]
    rcases List.mem_cons.1 h with rfl | h
    · have := runQ_off F Bk St L (j := p.n) ps (stepQ F Bk St L O p) (fun r hr e => h1 r hr e.symm)
      unfold runQ at this
      rw [this, stepQ_at F Bk St L O p hp]
    · have := runQ_at F Bk St L ps (stepQ F Bk St L O q) h2 p h (by rw [stepQ_len]; exact hp)
      unfold runQ at this
      rw [this, stepQ_off F Bk St L O q (fun e => h1 p h e)]
end Go.Proofs.Ytppfbfiigfjncaa
