/- A sample under no window; noughts where a window has noughts: in plain numbers. -/
import Derived.Test.YtcmbbmilldhnnaaG5
set_option linter.unusedVariables false
namespace Go.Proofs.Ytcmbbmilldhnnaa

/-- Over this place a window lies not, or is a nought. -/
def BareAt (p : Int × List Int) (n : Nat) : Prop := p.1.toNat ≤ n → n < p.1.toNat + p.2.length → p.2.getD (n - p.1.toNat) 0 = 0
def bareB (seq : Int) (n : Nat) : Prop := (seq = 2 ∧ (n < 112 ∨ 400 ≤ n)) ∨ (seq = 1 ∧ 400 ≤ n) ∨ (seq = 3 ∧ n < 112)
theorem nought_at (j : Nat) : noughtL.getD j 0 = 0 := getD_nought (fun x hx => List.eq_of_mem_replicate hx) j
theorem bare_wins (seq was shape : Int) (n : Nat) (h : bareB seq n) : ∀ p ∈ winsL seq was shape, BareAt p n := by
  intro p hp h1 h2
  rcases h with ⟨rfl, h⟩ | ⟨rfl, h⟩ | ⟨rfl, h⟩
  · unfold winsL at hp
    rw [if_pos rfl] at hp
    obtain ⟨i, hi, rfl⟩ := List.mem_map.1 hp
    have hi' := List.mem_range.1 hi
    have hl := little_len i was shape
    simp only at h1 h2
    rw [hl] at h2
    omega
  · unfold winsL at hp
    rw [if_neg (by omega)] at hp
    obtain rfl : p = (0, winL 1 was shape) := by simpa using hp
    have z0 : Int.toNat 0 = 0 := rfl
    show (winL 1 was shape).getD (n - Int.toNat 0) 0 = 0
    rw [z0, Nat.sub_zero, win1, getD_right (hv_len256 was) (by omega), getD_right (repL_len _) (by omega), getD_right (n := 32) (by rw [List.length_reverse, hv_len32]) (by omega)]
    exact nought_at _
  · unfold winsL at hp
    rw [if_neg (by omega)] at hp
    obtain rfl : p = (0, winL 3 was shape) := by simpa using hp
    have z0 : Int.toNat 0 = 0 := rfl
    show (winL 3 was shape).getD (n - Int.toNat 0) 0 = 0
    rw [z0, Nat.sub_zero, win3, getD_left (by rw [noughtL_len]; omega)]
    exact nought_at _
theorem rnd_nought14 : rnd 0 14 = 0 := by decide +kernel
/-- Lists that are alike but at a place where a window is bare are alike under it. -/
theorem under_same {p : Int × List Int} {k : Nat} (hf : WinFit k p) {a b : List Int} (ha : a.length = 512) (hb : b.length = 512) (h : ∀ j, j < p.2.length → a.getD (p.1.toNat + j) 0 = b.getD (p.1.toNat + j) 0 ∨ p.2.getD j 0 = 0) : underL a p = underL b p := by
  unfold underL timesL
  rw [cutF_len hf ha, cutF_len hf hb]
  refine List.map_congr_left (fun j hj => ?_)
  have hj' := List.mem_range.1 hj
  unfold timeV
  rw [cutF_get hj', cutF_get hj']
  rcases h j hj' with e | e
  · rw [e]
  · rw [e, Int.mul_zero, Int.mul_zero]
theorem ana_same {ws : List (Int × List Int)} (hf : ∀ k p, ws[k]? = some p → WinFit k p) {a b : List Int} (ha : a.length = 512) (hb : b.length = 512) (h : ∀ p ∈ ws, ∀ j, j < p.2.length → a.getD (p.1.toNat + j) 0 = b.getD (p.1.toNat + j) 0 ∨ p.2.getD j 0 = 0) : anaL ws a = anaL ws b := by
  unfold anaL
  refine congrArg List.flatten (List.map_congr_left (fun p hp => ?_))
  obtain ⟨k, hk, rfl⟩ := List.getElem_of_mem hp
  rw [under_same (hf k _ (List.getElem?_eq_getElem hk)) ha hb (h _ hp)]
theorem ana_under (seq was shape : Int) (hs : seq = 0 ∨ seq = 1 ∨ seq = 2 ∨ seq = 3) (h0 : was = 0 ∨ was = 1) (h1 : shape = 0 ∨ shape = 1) (n : Nat) (hb : bareB seq n) (pcm : List Int) (hl : pcm.length = 512) (x : Int) :
    anaL (winsL seq was shape) pcm = anaL (winsL seq was shape) (pcm.set n x) := by
  refine ana_same (fun k p h => wins_fit seq was shape hs h0 h1 k p h) hl (by rw [List.length_set]; exact hl) (fun p hp j hj => ?_)
  by_cases e : p.1.toNat + j = n
  · refine .inr ?_
    have := bare_wins seq was shape n hb p hp (by omega) (by omega)
    rw [show n - p.1.toNat = j by omega] at this
    exact this
  · refine .inl ?_
    rw [List.getD_eq_getElem?_getD, List.getD_eq_getElem?_getD, List.getElem?_set_ne (by omega)]
theorem syn_bare_go (n : Nat) : ∀ (ws : List (Int × List Int)) (f : Nat → Int) (lines : List Int), (∀ p ∈ ws, BareAt p n) → (ws.foldl stepS (f, lines)).1 n = f n
  | [], f, lines, _ => rfl
  | p :: ws, f, lines, h => by
    rw [List.foldl_cons]
    have ih := syn_bare_go n ws (stepS (f, lines) p).1 (stepS (f, lines) p).2 (fun q hq => h q (List.mem_cons_of_mem _ hq))
    rw [show ((stepS (f, lines) p).1, (stepS (f, lines) p).2) = stepS (f, lines) p from rfl] at ih
    rw [ih]
    unfold stepS
    simp only
    have ha : addS p (lines.take (p.2.length / 2)) n = 0 := by
      unfold addS
      split
      · rename_i hh
        have hb := h p List.mem_cons_self hh.1 hh.2
        unfold partS timesL
        rw [List.getD_eq_getElem?_getD, List.getElem?_map]
        by_cases hi : n - p.1.toNat < (linesI (lines.take (p.2.length / 2))).length
        · rw [List.getElem?_range hi]
          show timeV _ _ 26 (n - p.1.toNat) = 0
          unfold timeV
          rw [hb, Int.mul_zero, rnd_zero26]
        · rw [List.getElem?_eq_none (by simpa using hi)]; rfl
      · rfl
    rw [ha, Int.add_zero]
theorem syn_bare (seq was shape : Int) (n : Nat) (hb : bareB seq n) (hn : n < 512) (lines : List Int) : (synL (winsL seq was shape) lines).getD n 0 = 0 := by
  have e : (synL (winsL seq was shape) lines).getD n 0 = (synP (winsL seq was shape) lines).1 n := by
    unfold synL
    rw [List.getD_eq_getElem?_getD, List.getElem?_map, List.getElem?_range hn]; rfl
  rw [e]
  exact syn_bare_go n _ _ _ (bare_wins seq was shape n hb)
theorem linesF_any {z : List Int} (hz : z.length = 512 ∨ z.length = 64) (hm : ∀ j, -8388608 ≤ z.getD j 0 ∧ z.getD j 0 ≤ 8388608) : ∀ x ∈ linesF z, -33554433 ≤ x ∧ x ≤ 33554433 := by
  intro x hx
  unfold linesF at hx
  obtain ⟨k, _, rfl⟩ := List.mem_map.1 hx
  exact lineF_fit (z.length / 2) (by omega) z (by omega) (fun j _ => hm j) k
/-- Lines of what may be may be synthesised. -/
theorem ana_range (seq was shape : Int) (hs : seq = 0 ∨ seq = 1 ∨ seq = 2 ∨ seq = 3) (h0 : was = 0 ∨ was = 1) (h1 : shape = 0 ∨ shape = 1) (pcm : List Int) (hl : pcm.length = 512) (hm : ∀ j, -32768 ≤ pcm.getD j 0 ∧ pcm.getD j 0 ≤ 32767) : ∀ x ∈ anaL (winsL seq was shape) pcm, -33554433 ≤ x ∧ x ≤ 33554433 := by
  intro x hx
  unfold anaL at hx
  obtain ⟨p, hp, hx⟩ := List.mem_flatMap.1 hx
  obtain ⟨k, hk, rfl⟩ := List.getElem_of_mem hp
  have hf := wins_fit seq was shape hs h0 h1 k _ (List.getElem?_eq_getElem hk)
  have hul := under_len hf hl
  refine linesF_any ?_ (under_any hf (fun j => ⟨(hm j).1, by have := (hm j).2; omega⟩)) x hx
  rcases hf.1 with ⟨_, _, h⟩ | ⟨_, _, h⟩ <;> omega
theorem syn_of_ana (seq was shape : Int) (hs : seq = 0 ∨ seq = 1 ∨ seq = 2 ∨ seq = 3) (h0 : was = 0 ∨ was = 1) (h1 : shape = 0 ∨ shape = 1) (pcm : List Int) (hl : pcm.length = 512) (hm : ∀ j, -32768 ≤ pcm.getD j 0 ∧ pcm.getD j 0 ≤ 32767) (ls lsh : Int) (h2 : ls ≤ 3) (h3 : was ≤ 1) : synE ls was lsh (anaL (winsL seq was shape) pcm) = 0 ↔ lsh ≤ 1 := by
  unfold synE
  rw [askedE_zero (by omega)]
  constructor
  · rintro ⟨_, _, h, _⟩; exact h
  · intro h
    exact ⟨h2, h3, h, ana_length seq was shape hs h0 h1 pcm hl, fun x hx => by have := ana_range seq was shape hs h0 h1 pcm hl hm x hx; omega⟩
end Go.Proofs.Ytcmbbmilldhnnaa
