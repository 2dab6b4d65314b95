/- Frames' windows, and what is made with them, in plain numbers. -/
import Derived.Test.YtclbbfpagkhonaaWindows
import Derived.Test.YtclbbfpagkhonaaWinTab
import Derived.Test.YtclbbfpagkhonaaTimes
import Derived.Test.YtclbbfpagkhonaaMdct
import Derived.Test.YtclbbfpagkhonaaAsked
set_option linter.unusedVariables false
namespace Go.Proofs.Ytclbbfpagkhonaa

theorem hv_range (shape : Int) (short : Bool) (h : shape = 0 ∨ shape = 1) : ∀ x ∈ hvL shape short, 0 ≤ x ∧ x ≤ 4194304 := by
  intro x hx
  rw [hv_tab shape short h] at hx
  have hl : (tabL shape short).length = hvLen short := by rw [← hv_tab shape short h]; exact half_length shape short
  obtain ⟨j, hj, rfl⟩ := List.getElem_of_mem hx
  rw [hl] at hj
  have key : ∀ (l : List Int) (n : Nat) (hn : n < l.length), powOk l n = true → 0 ≤ l[n] ∧ l[n] ≤ 4194304 := by
    intro l n hn hp
    unfold powOk at hp
    rw [List.getD_eq_getElem?_getD, List.getElem?_eq_getElem hn] at hp
    simp only [Option.getD_some, Bool.and_eq_true, decide_eq_true_eq] at hp
    omega
  apply key
  rcases h with rfl | rfl <;> cases short
  · exact List.all_eq_true.1 pow_sineL j (by rw [List.mem_range]; have e1 : hvLen false = 256 := rfl; have e2 : hvLen true = 32 := rfl; omega)
  · exact List.all_eq_true.1 pow_sineS j (by rw [List.mem_range]; have e1 : hvLen false = 256 := rfl; have e2 : hvLen true = 32 := rfl; omega)
  · exact List.all_eq_true.1 pow_kbdL j (by rw [List.mem_range]; have e1 : hvLen false = 256 := rfl; have e2 : hvLen true = 32 := rfl; omega)
  · exact List.all_eq_true.1 pow_kbdS j (by rw [List.mem_range]; have e1 : hvLen false = 256 := rfl; have e2 : hvLen true = 32 := rfl; omega)
theorem win0 (was shape : Int) : winL 0 was shape = hvL was false ++ (hvL shape false).reverse := by
  simp [winL, piecesL, winK, pieceL]
theorem win1 (was shape : Int) : winL 1 was shape = hvL was false ++ (repL 4194304 ++ ((hvL shape true).reverse ++ noughtL)) := by
  simp [winL, piecesL, winK, pieceL]
theorem win3 (was shape : Int) : winL 3 was shape = noughtL ++ (hvL was true ++ (repL 4194304 ++ (hvL shape false).reverse)) := by
  simp [winL, piecesL, winK, pieceL]
theorem winL_len (seq was shape : Int) (hs : seq = 0 ∨ seq = 1 ∨ seq = 3) : (winL seq was shape).length = 512 := by
  have a := half_length was false; have b := half_length shape false; have c := half_length was true; have d := half_length shape true
  have e : hvLen false = 256 := rfl
  have f : hvLen true = 32 := rfl
  rcases hs with rfl | rfl | rfl
  · rw [win0, List.length_append, List.length_reverse]; omega
  · rw [win1]; simp only [List.length_append, List.length_reverse, repL_len, noughtL_len]; omega
  · rw [win3]; simp only [List.length_append, List.length_reverse, repL_len, noughtL_len]; omega
theorem rep_range : ∀ x ∈ repL 4194304, 0 ≤ x ∧ x ≤ 4194304 := by
  intro x hx; unfold repL at hx; rw [List.eq_of_mem_replicate hx]; omega
theorem nought_range : ∀ x ∈ noughtL, 0 ≤ x ∧ x ≤ 4194304 := by
  intro x hx; unfold noughtL at hx; rw [List.eq_of_mem_replicate hx]; omega
theorem winL_range (seq was shape : Int) (hs : seq = 0 ∨ seq = 1 ∨ seq = 3) (h0 : was = 0 ∨ was = 1) (h1 : shape = 0 ∨ shape = 1) : ∀ x ∈ winL seq was shape, 0 ≤ x ∧ x ≤ 4194304 := by
  intro x
  have a := hv_range was false h0 x; have b := hv_range shape false h1 x; have c := hv_range was true h0 x; have d := hv_range shape true h1 x
  have e := rep_range x; have f := nought_range x
  rcases hs with rfl | rfl | rfl
  · rw [win0]; simp only [List.mem_append, List.mem_reverse]; rintro (h | h); exact a h; exact b h
  · rw [win1]; simp only [List.mem_append, List.mem_reverse]; rintro (h | h | h | h); exact a h; exact e h; exact d h; exact f h
  · rw [win3]; simp only [List.mem_append, List.mem_reverse]; rintro (h | h | h | h); exact f h; exact c h; exact e h; exact b h
theorem little_len (i : Nat) (was shape : Int) : (littleL i was shape).length = 64 := by
  unfold littleL
  rw [List.length_append, List.length_reverse, half_length, half_length]; rfl
theorem little_range (i : Nat) (was shape : Int) (h0 : was = 0 ∨ was = 1) (h1 : shape = 0 ∨ shape = 1) : ∀ x ∈ littleL i was shape, 0 ≤ x ∧ x ≤ 4194304 := by
  intro x
  have b := hv_range shape true h1 x
  have a := hv_range (if i = 0 then was else shape) true (by split; exact h0; exact h1) x
  unfold littleL
  simp only [List.mem_append, List.mem_reverse]; rintro (h | h); exact a h; exact b h
/-- What a window is: where it lies, how long it is, and between what its values lie. -/
def WinFit (k : Nat) (p : Int × List Int) : Prop := (k = 0 ∧ p.1 = 0 ∧ p.2.length = 512 ∨ k < 8 ∧ p.1 = 112 + 32 * (k : Int) ∧ p.2.length = 64) ∧ ∀ x ∈ p.2, 0 ≤ x ∧ x ≤ 4194304
theorem wins_fit (seq was shape : Int) (hs : seq = 0 ∨ seq = 1 ∨ seq = 2 ∨ seq = 3) (h0 : was = 0 ∨ was = 1) (h1 : shape = 0 ∨ shape = 1) (k : Nat) (p : Int × List Int) (h : (winsL seq was shape)[k]? = some p) : WinFit k p := by
  unfold winsL at h
  by_cases h2 : seq = 2
  · rw [if_pos h2, List.getElem?_map] at h
    have hk : k < 8 := by
      rcases Nat.lt_or_ge k 8 with h' | h'
      · exact h'
      · rw [List.getElem?_eq_none (by simpa using h')] at h; cases h
    rw [List.getElem?_range hk] at h
    obtain rfl : _ = p := by simpa using h
    exact ⟨.inr ⟨hk, rfl, little_len k was shape⟩, little_range k was shape h0 h1⟩
  · rw [if_neg h2] at h
    have hs' : seq = 0 ∨ seq = 1 ∨ seq = 3 := by omega
    have hk : k = 0 := by
      rcases Nat.lt_or_ge k 1 with h' | h'
      · omega
      · rw [List.getElem?_eq_none (by simpa using h')] at h; cases h
    subst hk
    obtain rfl : _ = p := by simpa using h
    exact ⟨.inl ⟨rfl, rfl, winL_len seq was shape hs'⟩, winL_range seq was shape hs' h0 h1⟩
theorem getD_range {l : List Int} {a b : Int} (h : ∀ x ∈ l, a ≤ x ∧ x ≤ b) (ha : a ≤ 0) (hb : 0 ≤ b) (j : Nat) : a ≤ l.getD j 0 ∧ l.getD j 0 ≤ b := by
  rw [List.getD_eq_getElem?_getD]
  rcases Nat.lt_or_ge j l.length with h' | h'
  · rw [List.getElem?_eq_getElem h']; exact h _ (List.getElem_mem h')
  · rw [List.getElem?_eq_none h']; exact ⟨ha, hb⟩
/-- A window's samples, under it. -/
def cutF (pcm : List Int) (p : Int × List Int) : List Int := (pcm.drop p.1.toNat).take p.2.length
def underL (pcm : List Int) (p : Int × List Int) : List Int := timesL (cutF pcm p) p.2 14
def anaL (ws : List (Int × List Int)) (pcm : List Int) : List Int := ws.flatMap (fun p => linesF (underL pcm p))
theorem anaL_snoc (ws : List (Int × List Int)) (p : Int × List Int) (pcm : List Int) : anaL (ws ++ [p]) pcm = anaL ws pcm ++ linesF (underL pcm p) := by simp [anaL]
theorem cutF_len {pcm : List Int} {p : Int × List Int} {k : Nat} (h : WinFit k p) (hl : pcm.length = 512) : (cutF pcm p).length = p.2.length := by
  unfold cutF
  rw [List.length_take, List.length_drop]
  rcases h.1 with ⟨rfl, h1, h2⟩ | ⟨hk, h1, h2⟩ <;> omega
theorem cutF_get {pcm : List Int} {p : Int × List Int} {j : Nat} (hj : j < p.2.length) : (cutF pcm p).getD j 0 = pcm.getD (p.1.toNat + j) 0 := by
  unfold cutF
  rw [List.getD_eq_getElem?_getD, List.getD_eq_getElem?_getD, List.getElem?_take_of_lt hj, List.getElem?_drop]
theorem mul_fit {x v A : Int} (h0 : -A ≤ x) (h1 : x ≤ A) (h2 : 0 ≤ v) (h3 : v ≤ 4194304) : -(A * 4194304) ≤ x * v ∧ x * v ≤ A * 4194304 := by
  have hA : 0 ≤ A := by omega
  have a := Int.mul_le_mul_of_nonneg_right h1 h2
  have b := Int.mul_le_mul_of_nonneg_right h0 h2
  have c := Int.mul_le_mul_of_nonneg_left h3 hA
  rw [Int.neg_mul] at b
  omega
theorem rnd14 {n : Int} (h0 : -137438953472 ≤ n) (h1 : n ≤ 137438953472) : -8388608 ≤ rnd n 14 ∧ rnd n 14 ≤ 8388608 := by
  unfold rnd; rw [if_neg (by decide)]; omega
theorem under_any {pcm : List Int} {p : Int × List Int} {k : Nat} (h : WinFit k p) (hm : ∀ j, -32768 ≤ pcm.getD j 0 ∧ pcm.getD j 0 ≤ 32768) (j : Nat) : -8388608 ≤ (underL pcm p).getD j 0 ∧ (underL pcm p).getD j 0 ≤ 8388608 := by
  refine getD_range (a := -8388608) (b := 8388608) (fun x hx => ?_) (by omega) (by omega) j
  unfold underL timesL at hx
  obtain ⟨i, hi, rfl⟩ := List.mem_map.1 hx
  unfold timeV
  have hi' := List.mem_range.1 hi
  have a : -32768 ≤ (cutF pcm p).getD i 0 ∧ (cutF pcm p).getD i 0 ≤ 32768 := by
    refine getD_range (fun y hy => ?_) (by omega) (by omega) i
    unfold cutF at hy
    have hy' := List.mem_of_mem_drop (List.mem_of_mem_take hy)
    obtain ⟨n, hn, rfl⟩ := List.getElem_of_mem hy'
    have := hm n
    rw [List.getD_eq_getElem?_getD, List.getElem?_eq_getElem hn] at this
    exact this
  have b := getD_range h.2 (by omega) (by omega) i
  have c := mul_fit a.1 a.2 b.1 b.2
  exact rnd14 (by omega) (by omega)
end Go.Proofs.Ytclbbfpagkhonaa
