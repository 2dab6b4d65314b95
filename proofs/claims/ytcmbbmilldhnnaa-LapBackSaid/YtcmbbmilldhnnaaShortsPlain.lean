/- Of Shorts each window by itself: in plain numbers. -/
import Derived.Test.YtcmbbmilldhnnaaUnderPlain
set_option linter.unusedVariables false
namespace Go.Proofs.Ytcmbbmilldhnnaa

theorem flat_get {f : (Int × List Int) → List Int} {c : Nat} : ∀ (ws : List (Int × List Int)), (∀ p ∈ ws, (f p).length = c) → ∀ (k i : Nat) (p : Int × List Int), ws[k]? = some p → i < c → (ws.flatMap f).getD (c * k + i) 0 = (f p).getD i 0
  | [], _, k, i, p, h, _ => by simp at h
  | q :: ws, hl, k, i, p, h, hi => by
    have hq := hl q List.mem_cons_self
    rw [List.flatMap_cons]
    cases k with
    | zero =>
      obtain rfl : q = p := by simpa using h
      rw [Nat.mul_zero, Nat.zero_add, getD_left (by rw [hq]; exact hi)]
    | succ k =>
      rw [getD_right hq (by rw [Nat.mul_add]; omega)]
      have ih := flat_get ws (fun p hp => hl p (List.mem_cons_of_mem _ hp)) k i p (by simpa using h) hi
      rw [show c * (k + 1) + i - c = c * k + i by rw [Nat.mul_add]; omega]
      exact ih
theorem shorts_at (was shape : Int) {k : Nat} (hk : k < 8) : (winsL 2 was shape)[k]? = some (112 + 32 * (k : Int), littleL k was shape) := by
  unfold winsL
  rw [if_pos rfl, List.getElem?_map, List.getElem?_range hk]
  rfl
/-- The window's own samples alone. -/
def otherL (pcm : List Int) (k : Nat) : List Int := (List.range 512).map (fun n => if 112 + 32 * k ≤ n ∧ n < 176 + 32 * k then pcm.getD n 0 else 0)
theorem other_len (pcm : List Int) (k : Nat) : (otherL pcm k).length = 512 := by simp [otherL]
theorem other_get (pcm : List Int) (k n : Nat) (hn : n < 512) : (otherL pcm k).getD n 0 = if 112 + 32 * k ≤ n ∧ n < 176 + 32 * k then pcm.getD n 0 else 0 := by
  unfold otherL
  rw [List.getD_eq_getElem?_getD, List.getElem?_map, List.getElem?_range hn]; rfl
theorem other_mem {pcm : List Int} {lo hi : Int} (h : ∀ j, lo ≤ pcm.getD j 0 ∧ pcm.getD j 0 ≤ hi) (h0 : lo ≤ 0) (h1 : 0 ≤ hi) (k : Nat) : ∀ x ∈ otherL pcm k, lo ≤ x ∧ x ≤ hi := by
  intro x hx
  unfold otherL at hx
  obtain ⟨n, _, rfl⟩ := List.mem_map.1 hx
  split
  · exact h n
  · exact ⟨h0, h1⟩
theorem shorts_own (was shape : Int) (h0 : was = 0 ∨ was = 1) (h1 : shape = 0 ∨ shape = 1) (pcm : List Int) (hl : pcm.length = 512) {k i : Nat} (hk : k < 8) (hi : i < 32) :
    (anaL (winsL 2 was shape) pcm).getD (32 * k + i) 0 = (anaL (winsL 2 was shape) (otherL pcm k)).getD (32 * k + i) 0 := by
  have hw := shorts_at was shape hk
  have hf := fun k p h => wins_fit 2 was shape (.inr (.inr (.inl rfl))) h0 h1 k p h
  have hlen : ∀ (l : List Int), l.length = 512 → ∀ p ∈ winsL 2 was shape, (linesF (underL l p)).length = 32 := by
    intro l hl' p hp
    obtain ⟨j, hj⟩ := List.mem_iff_getElem?.1 hp
    have hj8 : j < 8 := by
      have h1 := (List.getElem?_eq_some_iff.1 hj).1
      rw [wins_count, if_pos rfl] at h1
      exact h1
    have e := shorts_at was shape hj8
    rw [hj] at e
    obtain rfl : p = (112 + 32 * (j : Int), littleL j was shape) := by simpa using e
    rw [linesF_length, under_len (hf j _ hj) hl']
    show (littleL j was shape).length / 2 = 32
    rw [little_len]
  unfold anaL
  rw [flat_get _ (hlen pcm hl) k i _ hw hi, flat_get _ (hlen _ (other_len pcm k)) k i _ hw hi]
  rw [under_same (hf k _ hw) hl (other_len pcm k) (fun j hj => .inl ?_)]
  have hj' : j < 64 := by have := little_len k was shape; simp only at hj; omega
  show pcm.getD ((112 + 32 * (k : Int)).toNat + j) 0 = (otherL pcm k).getD ((112 + 32 * (k : Int)).toNat + j) 0
  have e : (112 + 32 * (k : Int)).toNat = 112 + 32 * k := by omega
  rw [e, other_get pcm k _ (by omega), if_pos (by omega)]
/-- What window k adds at a place. -/
def addW (was shape : Int) (lines : List Int) (n k : Nat) : Int := addS (112 + 32 * (k : Int), littleL k was shape) ((lines.drop (32 * k)).take 32) n
theorem syn_sum (was shape : Int) (lines : List Int) (n : Nat) : ∀ m, m ≤ 8 → (synP ((winsL 2 was shape).take m) lines).1 n = sumF (addW was shape lines n) m ∧ (synP ((winsL 2 was shape).take m) lines).2 = lines.drop (32 * m)
  | 0, _ => ⟨rfl, by simp [synP]⟩
  | m + 1, h => by
    obtain ⟨i1, i2⟩ := syn_sum was shape lines n m (by omega)
    rw [List.take_add_one, shorts_at was shape (by omega : m < 8)]
    simp only [Option.toList_some]
    rw [synP_snoc]
    unfold stepS
    simp only
    rw [little_len, i1, i2, List.drop_drop, sumF]
    exact ⟨rfl, by rw [Nat.mul_add]⟩
theorem syn_all (was shape : Int) (lines : List Int) {n : Nat} (hn : n < 512) : (synL (winsL 2 was shape) lines).getD n 0 = sumF (addW was shape lines n) 8 := by
  have h := (syn_sum was shape lines n 8 (Nat.le_refl _)).1
  rw [List.take_of_length_le (by rw [wins_count, if_pos rfl]; exact Nat.le_refl _)] at h
  unfold synL
  rw [List.getD_eq_getElem?_getD, List.getElem?_map, List.getElem?_range hn]
  exact h
/-- Window k's own lines alone. -/
def oneL (lines : List Int) (k : Nat) : List Int := (List.range 256).map (fun i => if 32 * k ≤ i ∧ i < 32 * k + 32 then lines.getD i 0 else 0)
theorem one_len (lines : List Int) (k : Nat) : (oneL lines k).length = 256 := by simp [oneL]
theorem one_get (lines : List Int) (k i : Nat) (hi : i < 256) : (oneL lines k).getD i 0 = if 32 * k ≤ i ∧ i < 32 * k + 32 then lines.getD i 0 else 0 := by
  unfold oneL
  rw [List.getD_eq_getElem?_getD, List.getElem?_map, List.getElem?_range hi]; rfl
theorem one_mem {lines : List Int} {lo hi : Int} (h : ∀ j, lo ≤ lines.getD j 0 ∧ lines.getD j 0 ≤ hi) (h0 : lo ≤ 0) (h1 : 0 ≤ hi) (k : Nat) : ∀ x ∈ oneL lines k, lo ≤ x ∧ x ≤ hi := by
  intro x hx
  unfold oneL at hx
  obtain ⟨n, _, rfl⟩ := List.mem_map.1 hx
  split
  · exact h n
  · exact ⟨h0, h1⟩
theorem chunk_get (l : List Int) (k i : Nat) (hi : i < 32) : ((l.drop (32 * k)).take 32).getD i 0 = l.getD (32 * k + i) 0 := by
  rw [List.getD_eq_getElem?_getD, List.getD_eq_getElem?_getD, List.getElem?_take_of_lt hi, List.getElem?_drop]
theorem chunk_eq {a b : List Int} (ha : a.length = 256) (hb : b.length = 256) {k : Nat} (hk : k < 8) (h : ∀ i, i < 32 → a.getD (32 * k + i) 0 = b.getD (32 * k + i) 0) : (a.drop (32 * k)).take 32 = (b.drop (32 * k)).take 32 := by
  have la : ((a.drop (32 * k)).take 32).length = 32 := by rw [List.length_take, List.length_drop]; omega
  have lb : ((b.drop (32 * k)).take 32).length = 32 := by rw [List.length_take, List.length_drop]; omega
  apply List.ext_getElem (by rw [la, lb])
  intro i h1 h2
  have := h i (by omega)
  rw [← chunk_get a k i (by omega), ← chunk_get b k i (by omega), List.getD_eq_getElem?_getD, List.getD_eq_getElem?_getD, List.getElem?_eq_getElem h1, List.getElem?_eq_getElem h2] at this
  simpa using this
theorem add_none {p : Int × List Int} {y : List Int} (h : ∀ j, y.getD j 0 = 0) (n : Nat) : addS p y n = 0 := by
  unfold addS partS
  split
  · exact getD_nought (times_nought _ _ _ rnd_zero26 (getD_nought (linesI_nought _ h))) _
  · rfl
theorem addW_one (was shape : Int) (lines : List Int) (hl : lines.length = 256) (n : Nat) {w k : Nat} (hw : w < 8) (hk : k < 8) : addW was shape (oneL lines w) n k = if k = w then addW was shape lines n k else 0 := by
  by_cases e : k = w
  · subst e
    rw [if_pos rfl]
    unfold addW
    rw [chunk_eq (one_len lines k) hl hk (fun i hi => by rw [one_get _ _ _ (by omega), if_pos (by omega)])]
  · rw [if_neg e]
    unfold addW
    refine add_none (fun j => ?_) n
    by_cases hj : j < 32
    · rw [chunk_get _ _ _ hj, one_get _ _ _ (by omega), if_neg (by omega)]
    · rw [List.getD_eq_getElem?_getD, List.getElem?_eq_none (by rw [List.length_take, List.length_drop, one_len]; omega)]; rfl
theorem one_syn (was shape : Int) (lines : List Int) (hl : lines.length = 256) {n w : Nat} (hn : n < 512) (hw : w < 8) : (synL (winsL 2 was shape) (oneL lines w)).getD n 0 = addW was shape lines n w := by
  rw [syn_all was shape _ hn, sumF_congr (g := fun k => if k = w then addW was shape lines n k else 0) 8 (fun k hk => addW_one was shape lines hl n hw hk), sumF_pick, if_pos hw]
theorem addW_out (was shape : Int) (lines : List Int) {n k : Nat} (h : n < 112 + 32 * k ∨ 176 + 32 * k ≤ n) : addW was shape lines n k = 0 := by
  unfold addW addS
  rw [if_neg]
  have e : (112 + 32 * (k : Int)).toNat = 112 + 32 * k := by omega
  show ¬((112 + 32 * (k : Int)).toNat ≤ n ∧ n < (112 + 32 * (k : Int)).toNat + (littleL k was shape).length)
  rw [e, little_len]
  omega
theorem addW_fit (was shape : Int) (h0 : was = 0 ∨ was = 1) (h1 : shape = 0 ∨ shape = 1) (lines : List Int) (hl : lines.length = 256) (hm : ∀ j, -268435455 ≤ lines.getD j 0 ∧ lines.getD j 0 ≤ 268435455) (n : Nat) {k : Nat} (hk : k < 8) : -4294967296 ≤ addW was shape lines n k ∧ addW was shape lines n k ≤ 4294967296 := by
  unfold addW
  exact add_any (wins_fit 2 was shape (.inr (.inr (.inl rfl))) h0 h1 k _ (shorts_at was shape hk)) (.inr (by rw [List.length_take, List.length_drop]; omega)) (fun j => getD_take_drop lines _ _ hm j) n
theorem sumW_fit (was shape : Int) (h0 : was = 0 ∨ was = 1) (h1 : shape = 0 ∨ shape = 1) (lines : List Int) (hl : lines.length = 256) (hm : ∀ j, -268435455 ≤ lines.getD j 0 ∧ lines.getD j 0 ≤ 268435455) (n : Nat) : ∀ m : Nat, m ≤ 8 → -(4294967296 * (m : Int)) ≤ sumF (addW was shape lines n) m ∧ sumF (addW was shape lines n) m ≤ 4294967296 * (m : Int)
  | 0, _ => by simp [sumF]
  | m + 1, h => by
    have := sumW_fit was shape h0 h1 lines hl hm n m (by omega)
    have := addW_fit was shape h0 h1 lines hl hm n (k := m) (by omega)
    rw [sumF]
    omega
end Go.Proofs.Ytcmbbmilldhnnaa
