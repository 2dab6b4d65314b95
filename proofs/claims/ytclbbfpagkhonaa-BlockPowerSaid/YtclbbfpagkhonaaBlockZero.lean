/- Of noughts, noughts; how long what is made is. -/
import Derived.Test.YtclbbfpagkhonaaBlockAny
set_option linter.unusedVariables false
namespace Go.Proofs.Ytclbbfpagkhonaa

theorem sumX_nought (z : List Int) (h : ∀ j, z.getD j 0 = 0) (A B : Int) (k : Nat) : sumX z A B k = 0 := by
  unfold sumX
  rw [sumF_congr (g := fun _ => (0 : Int)) k (fun j _ => by rw [h]; simp), sumF_const]
  simp
theorem getD_nought {l : List Int} (h : ∀ x ∈ l, x = 0) (j : Nat) : l.getD j 0 = 0 := by
  have := getD_range (l := l) (a := 0) (b := 0) (fun x hx => by rw [h x hx]; omega) (Int.le_refl _) (Int.le_refl _) j
  omega
theorem rnd_zero14 : rnd 0 14 = 0 := by decide +kernel
theorem linesF_nought (z : List Int) (h : ∀ j, z.getD j 0 = 0) : ∀ x ∈ linesF z, x = 0 := by
  intro x hx
  unfold linesF at hx
  obtain ⟨k, _, rfl⟩ := List.mem_map.1 hx
  unfold lineF
  rw [sumX_nought z h, rnd_zero33]
theorem linesI_nought (z : List Int) (h : ∀ j, z.getD j 0 = 0) : ∀ x ∈ linesI z, x = 0 := by
  intro x hx
  unfold linesI at hx
  obtain ⟨k, _, rfl⟩ := List.mem_map.1 hx
  unfold lineI
  rw [sumX_nought z h]
  split
  · exact rnd_zero23
  · exact rnd_zero26
theorem times_nought (l v : List Int) (b : Nat) (hb : rnd 0 b = 0) (h : ∀ j, l.getD j 0 = 0) : ∀ x ∈ timesL l v b, x = 0 := by
  intro x hx
  unfold timesL at hx
  obtain ⟨k, _, rfl⟩ := List.mem_map.1 hx
  unfold timeV
  rw [h, Int.zero_mul, hb]
theorem cut_nought {pcm : List Int} (h : ∀ x ∈ pcm, x = 0) (p : Int × List Int) : ∀ x ∈ cutF pcm p, x = 0 := by
  intro x hx
  unfold cutF at hx
  exact h x (List.mem_of_mem_drop (List.mem_of_mem_take hx))
theorem ana_nought {pcm : List Int} (h : ∀ x ∈ pcm, x = 0) (ws : List (Int × List Int)) : ∀ x ∈ anaL ws pcm, x = 0 := by
  intro x hx
  unfold anaL at hx
  obtain ⟨p, _, hx⟩ := List.mem_flatMap.1 hx
  exact linesF_nought _ (getD_nought (times_nought _ _ _ rnd_zero14 (getD_nought (cut_nought h p)))) x hx
theorem synP_nought {lines : List Int} (h : ∀ x ∈ lines, x = 0) : ∀ (ws : List (Int × List Int)) (f : Nat → Int), (∀ n, f n = 0) → ∀ n, (ws.foldl stepS (f, lines)).1 n = 0 := by
  intro ws
  induction ws generalizing lines with
  | nil => intro f hf n; exact hf n
  | cons p ws ih =>
    intro f hf n
    rw [List.foldl_cons]
    unfold stepS
    simp only
    refine ih (fun x hx => h x (List.mem_of_mem_drop hx)) _ (fun m => ?_) n
    rw [hf]
    unfold addS partS
    split
    · rw [getD_nought (times_nought _ _ _ rnd_zero26 (getD_nought (linesI_nought _ (getD_nought (fun x hx => h x (List.mem_of_mem_take hx)))))) _]; rfl
    · rfl
theorem syn_nought {lines : List Int} (h : ∀ x ∈ lines, x = 0) (ws : List (Int × List Int)) : ∀ x ∈ synL ws lines, x = 0 := by
  intro x hx
  unfold synL at hx
  obtain ⟨n, _, rfl⟩ := List.mem_map.1 hx
  exact synP_nought h ws _ (fun _ => rfl) n
theorem zero_mem (n : Nat) : ∀ x ∈ zeroL n, x = 0 := by
  intro x hx; exact List.eq_of_mem_replicate hx
theorem eq_zeroL {l : List Int} {n : Nat} (h : ∀ x ∈ l, x = 0) (hl : l.length = n) : l = zeroL n := by
  unfold zeroL
  exact List.eq_replicate_iff.2 ⟨hl, h⟩
theorem synL_len (ws : List (Int × List Int)) (lines : List Int) : (synL ws lines).length = 512 := by unfold synL; simp
theorem under_len {pcm : List Int} {p : Int × List Int} {k : Nat} (h : WinFit k p) (hl : pcm.length = 512) : (underL pcm p).length = p.2.length := by
  unfold underL; rw [timesL_len]; exact cutF_len h hl
theorem linesF_length (z : List Int) : (linesF z).length = z.length / 2 := by unfold linesF; simp
theorem anaL_all (pcm : List Int) (c : Nat) : ∀ ws : List (Int × List Int), (∀ p ∈ ws, (linesF (underL pcm p)).length = c) → (anaL ws pcm).length = c * ws.length
  | [], _ => by simp [anaL]
  | p :: ws, h => by
    have ih := anaL_all pcm c ws (fun q hq => h q (List.mem_cons_of_mem _ hq))
    have := h p List.mem_cons_self
    rw [show anaL (p :: ws) pcm = linesF (underL pcm p) ++ anaL ws pcm by simp [anaL], List.length_append, ih, this, List.length_cons, Nat.mul_add]
    omega
theorem wins_count (seq was shape : Int) : (winsL seq was shape).length = if seq = 2 then 8 else 1 := by
  unfold winsL
  split
  · simp
  · rfl
theorem ana_length (seq was shape : Int) (hs : seq = 0 ∨ seq = 1 ∨ seq = 2 ∨ seq = 3) (h0 : was = 0 ∨ was = 1) (h1 : shape = 0 ∨ shape = 1) (pcm : List Int) (hl : pcm.length = 512) : (anaL (winsL seq was shape) pcm).length = 256 := by
  have key : ∀ p ∈ winsL seq was shape, ∃ k, WinFit k p := by
    intro p hp
    obtain ⟨k, hk, rfl⟩ := List.getElem_of_mem hp
    exact ⟨k, wins_fit seq was shape hs h0 h1 k _ (List.getElem?_eq_getElem hk)⟩
  obtain ⟨H, hH, hW⟩ := wins_uni seq was shape hs h0 h1
  rw [anaL_all pcm H]
  · rw [wins_count]
    by_cases h2 : seq = 2
    · rw [if_pos h2]
      have := hW 0 _ (List.getElem?_eq_getElem (by rw [wins_count, if_pos h2]; omega))
      have e : ((winsL seq was shape)[0]'(by rw [wins_count, if_pos h2]; omega)).2.length = 64 := by
        simp only [winsL, if_pos h2, List.getElem_map]
        exact little_len _ _ _
      omega
    · rw [if_neg h2]
      have := hW 0 _ (List.getElem?_eq_getElem (by rw [wins_count, if_neg h2]; omega))
      have e : ((winsL seq was shape)[0]'(by rw [wins_count, if_neg h2]; omega)).2.length = 512 := by
        simp only [winsL, if_neg h2, List.getElem_cons_zero]
        exact winL_len seq was shape (by omega)
      omega
  · intro p hp
    obtain ⟨k, hk, rfl⟩ := List.getElem_of_mem hp
    obtain ⟨hf, h2, _⟩ := hW k _ (List.getElem?_eq_getElem hk)
    rw [linesF_length, under_len hf hl]
    omega
theorem zero_asked (seq was shape : Int) (n : Nat) (lo hi : Int) (hn : 0 < n) (hs : seq ≤ 3) (h0 : was ≤ 1) (h1 : shape ≤ 1) (hlo : lo ≤ 0) (hhi : 0 ≤ hi) : askedE seq was shape (zeroL n) n lo hi = 0 := by
  refine (askedE_zero hn).2 ⟨hs, h0, h1, zero_len n, fun x hx => ?_⟩
  rw [zero_mem n x hx]; exact ⟨hlo, hhi⟩
theorem ana_zero (seq was shape : Int) (hs : seq = 0 ∨ seq = 1 ∨ seq = 2 ∨ seq = 3) (h0 : was = 0 ∨ was = 1) (h1 : shape = 0 ∨ shape = 1) : anaN seq was shape (zeroL 512) = (zeroL 256, 0) := by
  unfold anaN anaE
  rw [if_pos (zero_asked seq was shape 512 _ _ (by omega) (by omega) (by omega) (by omega) (by omega) (by omega)), eq_zeroL (ana_nought (zero_mem 512) _) (ana_length seq was shape hs h0 h1 _ (zero_len 512))]
theorem syn_zero (seq was shape : Int) (hs : seq = 0 ∨ seq = 1 ∨ seq = 2 ∨ seq = 3) (h0 : was = 0 ∨ was = 1) (h1 : shape = 0 ∨ shape = 1) : synN seq was shape (zeroL 256) = (zeroL 512, 0) := by
  unfold synN synE
  rw [if_pos (zero_asked seq was shape 256 _ _ (by omega) (by omega) (by omega) (by omega) (by omega) (by omega)), eq_zeroL (syn_nought (zero_mem 256) _) (synL_len _ _)]
end Go.Proofs.Ytclbbfpagkhonaa
