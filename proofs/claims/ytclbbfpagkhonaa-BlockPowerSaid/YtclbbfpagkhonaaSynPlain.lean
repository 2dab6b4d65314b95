/- What is synthesised, in plain numbers. -/
import Derived.Test.YtclbbfpagkhonaaBlockPlain
set_option linter.unusedVariables false
namespace Go.Proofs.Ytclbbfpagkhonaa

theorem lineF_fit (M : Nat) (h : M = 256 ∨ M = 32) (z : List Int) (hz : z.length = 2 * M) (hm : ∀ j, j < z.length → -8388608 ≤ z.getD j 0 ∧ z.getD j 0 ≤ 8388608) (k : Nat) : -33554433 ≤ lineF M z k ∧ lineF M z k ≤ 33554433 := by
  have s := sumX_range z (ffA M k) (ffB M k) 8388608 hm z.length (Nat.le_refl _)
  have e := rnd_spec (sumX z (ffA M k) (ffB M k) z.length) 33 (by decide)
  unfold lineF
  generalize sumX z (ffA M k) (ffB M k) z.length = S at *
  simp at e
  omega
theorem lineI_fit (M : Nat) (h : M = 256 ∨ M = 32) (x : List Int) (hx : x.length = M) (hm : ∀ j, j < x.length → -268435455 ≤ x.getD j 0 ∧ x.getD j 0 ≤ 268435455) (n : Nat) : -68719476736 ≤ lineI M x n ∧ lineI M x n ≤ 68719476736 := by
  have s := sumX_range x (fiA M n) (fiB M n) 268435455 hm x.length (Nat.le_refl _)
  unfold lineI
  generalize sumX x (fiA M n) (fiB M n) x.length = S at *
  rcases h with rfl | rfl
  · have e := rnd_spec S 26 (by decide)
    simp at e ⊢
    omega
  · have e := rnd_spec S 23 (by decide)
    simp at e ⊢
    omega
/-- A window's numbers, of its lines. -/
def partS (p : Int × List Int) (y : List Int) : List Int := timesL (linesI y) p.2 26
/-- What a window adds at a place. -/
def addS (p : Int × List Int) (y : List Int) (n : Nat) : Int := if p.1.toNat ≤ n ∧ n < p.1.toNat + p.2.length then (partS p y).getD (n - p.1.toNat) 0 else 0
def stepS (st : (Nat → Int) × List Int) (p : Int × List Int) : (Nat → Int) × List Int := (fun n => st.1 n + addS p (st.2.take (p.2.length / 2)) n, st.2.drop (p.2.length / 2))
def synP (ws : List (Int × List Int)) (lines : List Int) : (Nat → Int) × List Int := ws.foldl stepS (fun _ => 0, lines)
def synL (ws : List (Int × List Int)) (lines : List Int) : List Int := (List.range 512).map (synP ws lines).1
theorem synP_snoc (ws : List (Int × List Int)) (p : Int × List Int) (lines : List Int) : synP (ws ++ [p]) lines = stepS (synP ws lines) p := by simp [synP]
theorem rnd26 {n : Int} (h0 : -288230376151711744 ≤ n) (h1 : n ≤ 288230376151711744) : -4294967296 ≤ rnd n 26 ∧ rnd n 26 ≤ 4294967296 := by
  unfold rnd; rw [if_neg (by decide)]; omega
theorem linesI_len (y : List Int) : (linesI y).length = 2 * y.length := by unfold linesI; simp
theorem part_len (p : Int × List Int) (y : List Int) : (partS p y).length = 2 * y.length := by unfold partS; rw [timesL_len, linesI_len]
theorem linesI_any {y : List Int} (hy : y.length = 256 ∨ y.length = 32) (hm : ∀ j, -268435455 ≤ y.getD j 0 ∧ y.getD j 0 ≤ 268435455) (j : Nat) : -68719476736 ≤ (linesI y).getD j 0 ∧ (linesI y).getD j 0 ≤ 68719476736 := by
  refine getD_range (fun x hx => ?_) (by omega) (by omega) j
  unfold linesI at hx
  obtain ⟨i, _, rfl⟩ := List.mem_map.1 hx
  exact lineI_fit y.length hy y rfl (fun j _ => hm j) i
theorem part_any {p : Int × List Int} {k : Nat} (h : WinFit k p) {y : List Int} (hy : y.length = 256 ∨ y.length = 32) (hm : ∀ j, -268435455 ≤ y.getD j 0 ∧ y.getD j 0 ≤ 268435455) (j : Nat) : -4294967296 ≤ (partS p y).getD j 0 ∧ (partS p y).getD j 0 ≤ 4294967296 := by
  refine getD_range (fun x hx => ?_) (by omega) (by omega) j
  unfold partS timesL at hx
  obtain ⟨i, _, rfl⟩ := List.mem_map.1 hx
  unfold timeV
  have a := linesI_any hy hm i
  have b := getD_range h.2 (by omega) (by omega) i
  have c := mul_fit a.1 a.2 b.1 b.2
  exact rnd26 (by omega) (by omega)
theorem add_any {p : Int × List Int} {k : Nat} (h : WinFit k p) {y : List Int} (hy : y.length = 256 ∨ y.length = 32) (hm : ∀ j, -268435455 ≤ y.getD j 0 ∧ y.getD j 0 ≤ 268435455) (n : Nat) : -4294967296 ≤ addS p y n ∧ addS p y n ≤ 4294967296 := by
  unfold addS
  split
  · exact part_any h hy hm _
  · omega
theorem getD_take_drop (l : List Int) (a n : Nat) (h : ∀ j, -268435455 ≤ l.getD j 0 ∧ l.getD j 0 ≤ 268435455) (j : Nat) : -268435455 ≤ ((l.drop a).take n).getD j 0 ∧ ((l.drop a).take n).getD j 0 ≤ 268435455 := by
  refine getD_range (fun x hx => ?_) (by omega) (by omega) j
  obtain ⟨i, hi, rfl⟩ := List.getElem_of_mem (List.mem_of_mem_drop (List.mem_of_mem_take hx))
  have := h i
  rw [List.getD_eq_getElem?_getD, List.getElem?_eq_getElem hi] at this
  exact this
theorem wins_uni (seq was shape : Int) (hs : seq = 0 ∨ seq = 1 ∨ seq = 2 ∨ seq = 3) (h0 : was = 0 ∨ was = 1) (h1 : shape = 0 ∨ shape = 1) : ∃ H, (H = 256 ∨ H = 32) ∧ ∀ (k : Nat) (p : Int × List Int), (winsL seq was shape)[k]? = some p → WinFit k p ∧ p.2.length = 2 * H ∧ H * (k + 1) ≤ 256 := by
  by_cases h2 : seq = 2
  · refine ⟨32, .inr rfl, fun k p h => ?_⟩
    have hf := wins_fit seq was shape hs h0 h1 k p h
    unfold winsL at h
    rw [if_pos h2, List.getElem?_map] at h
    have hk : k < 8 := by
      rcases Nat.lt_or_ge k 8 with h' | h'
      · exact h'
      · rw [List.getElem?_eq_none (by simpa using h')] at h; cases h
    rw [List.getElem?_range hk] at h
    obtain rfl : _ = p := by simpa using h
    exact ⟨hf, by show (littleL k was shape).length = _; rw [little_len], by omega⟩
  · refine ⟨256, .inl rfl, fun k p h => ?_⟩
    have hf := wins_fit seq was shape hs h0 h1 k p h
    unfold winsL at h
    rw [if_neg h2] at h
    have hk : k = 0 := by
      rcases Nat.lt_or_ge k 1 with h' | h'
      · omega
      · rw [List.getElem?_eq_none (by simpa using h')] at h; cases h
    subst hk
    obtain rfl : _ = p := by simpa using h
    exact ⟨hf, winL_len seq was shape (by omega), by omega⟩
/-- A step's fit. -/
theorem stepS_fit {p : Int × List Int} {k H : Nat} (hf : WinFit k p) (hH : H = 256 ∨ H = 32) (hp : p.2.length = 2 * H) (hk : H * (k + 1) ≤ 256) {lines : List Int} (hl : lines.length = 256) (hm : ∀ j, -268435455 ≤ lines.getD j 0 ∧ lines.getD j 0 ≤ 268435455)
    {st : (Nat → Int) × List Int} (hr : st.2 = lines.drop (H * k)) (hb : ∀ n, -(4294967296 * (k : Int)) ≤ st.1 n ∧ st.1 n ≤ 4294967296 * (k : Int)) :
    (stepS st p).2 = lines.drop (H * (k + 1)) ∧ ∀ n, -(4294967296 * ((k + 1 : Nat) : Int)) ≤ (stepS st p).1 n ∧ (stepS st p).1 n ≤ 4294967296 * ((k + 1 : Nat) : Int) := by
  have e : p.2.length / 2 = H := by omega
  refine ⟨?_, fun n => ?_⟩
  · unfold stepS
    simp only
    rw [hr, List.drop_drop, e, Nat.mul_add, Nat.mul_one]
  · unfold stepS
    simp only
    rw [hr, e]
    have hlen : ((lines.drop (H * k)).take H).length = H := by
      rw [List.length_take, List.length_drop, hl]
      rw [Nat.mul_add] at hk
      omega
    have := add_any (p := p) hf (y := (lines.drop (H * k)).take H) (by rw [hlen]; exact hH) (fun j => getD_take_drop lines _ _ hm j) n
    have := hb n
    omega
end Go.Proofs.Ytclbbfpagkhonaa
