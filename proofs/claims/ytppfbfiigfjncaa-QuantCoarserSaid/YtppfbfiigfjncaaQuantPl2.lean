/- Quantised lines, in plain numbers: which place a line has, and what it becomes. -/
import Derived.Test.YtppfbfiigfjncaaQuantPl
import Derived.Test.YtppfbfiigfjncaaBandMany
set_option linter.unusedVariables false
namespace Go.Proofs.Ytppfbfiigfjncaa

/-- Which place a line has. -/
def placeAt (ps : List Pl) (j : Nat) : Option Pl := ps.find? (fun p => p.n == j)
def valQ (F : Int → Int → Int) (Bk St : List (List Int)) (L : List Int) (j : Nat) : Option Pl → Int
  | some p => if sentB (bookOf Bk p) then F (L.getD j 0) (bookOf St p) else 0
  | none => 0
theorem runQ_val (F : Int → Int → Int) (Bk St : List (List Int)) (L : List Int) (ps : List Pl) (O : List Int) (hpw : ps.Pairwise (fun a b => a.n ≠ b.n)) (j : Nat) (hj : j < O.length) (h0 : O.getD j 0 = 0) :
    (runQ F Bk St L ps O).getD j 0 = valQ F Bk St L j (placeAt ps j) := by
  unfold placeAt
  cases hf : ps.find? (fun p => p.n == j) with
  | none =>
    rw [List.find?_eq_none] at hf
    rw [runQ_off F Bk St L ps O (fun p hp e => hf p hp (by simpa using e)), h0]; rfl
  | some p =>
    have hm := List.mem_of_find?_eq_some hf
    have hn : p.n = j := by simpa using List.find?_some hf
    subst hn
    rw [runQ_at F Bk St L ps O hpw p hm hj, h0]; rfl
theorem win_pairwise {offs G : List Int} {w m : Nat} (hmono : ∀ i j, i ≤ j → j ≤ m → offs.getD i 0 ≤ offs.getD j 0) (hpos : ∀ j, j ≤ m → 0 ≤ offs.getD j 0) :
    (winPl offs G w m).Pairwise (fun a b => a.n ≠ b.n) := by
  induction m with
  | zero => exact List.Pairwise.nil
  | succ m ih =>
    refine List.pairwise_append.2 ⟨ih (fun i j hi hj => hmono i j hi (by omega)) (fun j hj => hpos j (by omega)), ?_, ?_⟩
    · unfold bandPl
      refine List.Pairwise.map _ (R := fun a b => a ≠ b) (fun a b h => by simp; omega) ?_
      exact List.nodup_range
    · intro p hp q hq
      obtain ⟨b, i, hb, hi, rfl⟩ := mem_winPl hp
      obtain ⟨i', hi', rfl⟩ := mem_bandPl hq
      have h1 := hmono (b + 1) m (by omega) (by omega)
      have h2 := hpos b (by omega)
      have h3 := hpos m (by omega)
      have h4 := hmono b (b + 1) (by omega) (by omega)
      unfold wideB at hi hi'
      simp only
      omega
theorem all_pairwise {offs G : List Int} {mx many : Nat} (Ln : Nat) (hmono : ∀ i j, i ≤ j → j ≤ mx → offs.getD i 0 ≤ offs.getD j 0) (hpos : ∀ j, j ≤ mx → 0 ≤ offs.getD j 0) (hL : offs.getD mx 0 ≤ 32 ∨ many ≤ 1) :
    (allPl offs G mx many).Pairwise (fun a b => a.n ≠ b.n) := by
  induction many with
  | zero => exact List.Pairwise.nil
  | succ m ih =>
    refine List.pairwise_append.2 ⟨ih (by omega), win_pairwise hmono hpos, ?_⟩
    intro p hp q hq
    obtain ⟨w, b, i, hw, hb, hi, rfl⟩ := mem_allPl hp
    obtain ⟨b', i', hb', hi', rfl⟩ := mem_winPl hq
    have h1 := hmono (b + 1) mx (by omega) (by omega)
    have h2 := hpos b (by omega)
    have h3 := hpos b' (by omega)
    have h4 := hmono b (b + 1) (by omega) (by omega)
    unfold wideB at hi hi'
    simp only
    omega
/-- Offsets of bands below the greatest that is sent. -/
structure OffsQ (offs : List Int) (mx many : Nat) : Prop where
  lt : mx < offs.length
  len : offs.length ≤ 41
  mono : ∀ i j, i ≤ j → j < offs.length → offs.getD i 0 ≤ offs.getD j 0
  pos : ∀ j, j < offs.length → 0 ≤ offs.getD j 0
  top : (many = 8 ∧ ∀ j, j < offs.length → offs.getD j 0 ≤ 32) ∨ (many = 1 ∧ ∀ j, j < offs.length → offs.getD j 0 ≤ 256)
theorem OffsQ.pw {offs G : List Int} {mx many : Nat} (h : OffsQ offs mx many) : (allPl offs G mx many).Pairwise (fun a b => a.n ≠ b.n) := by
  refine all_pairwise 0 (fun i j hi hj => h.mono i j hi (by have := h.lt; omega)) (fun j hj => h.pos j (by have := h.lt; omega)) ?_
  rcases h.top with ⟨h1, h2⟩ | ⟨h1, h2⟩
  · exact .inl (h2 mx h.lt)
  · exact .inr (by omega)
theorem OffsQ.place {offs G : List Int} {mx many : Nat} (h : OffsQ offs mx many) {p : Pl} (hp : p ∈ allPl offs G mx many) : p.n < 256 ∧ p.b < mx ∧ ∃ w, w < many ∧ p.g = grpOf G (w : Int) := by
  obtain ⟨w, b, i, hw, hb, hi, rfl⟩ := mem_allPl hp
  have hl := h.lt
  have h1 := h.pos b (by omega)
  have h2 := h.mono b (b + 1) (by omega) (by omega)
  unfold wideB at hi
  refine ⟨?_, hb, w, hw, rfl⟩
  rcases h.top with ⟨e, h3⟩ | ⟨e, h3⟩
  · have := h3 (b + 1) (by omega)
    simp only
    omega
  · have := h3 (b + 1) (by omega)
    simp only
    omega
theorem runQ_all (F : Int → Int → Int) (Bk St : List (List Int)) (L : List Int) {offs G : List Int} {mx many : Nat} (h : OffsQ offs mx many) (j : Nat) (hj : j < 256) :
    (runQ F Bk St L (allPl offs G mx many) (List.replicate 256 0)).getD j 0 = valQ F Bk St L j (placeAt (allPl offs G mx many) j) := by
  refine runQ_val F Bk St L _ _ h.pw j (by rw [List.length_replicate]; exact hj) ?_
  rw [List.getD_eq_getElem?_getD, List.getElem?_replicate]; split <;> rfl
theorem winPl_mem {offs G : List Int} {w b i : Nat} : ∀ {m : Nat}, b < m → i < wideB offs b → (⟨32 * w + ((offs.getD b 0).toNat + i), grpOf G w, b⟩ : Pl) ∈ winPl offs G w m
  | 0, h, _ => by omega
  | m + 1, h, hi => by
    refine List.mem_append.2 ?_
    by_cases e : b = m
    · subst e
      exact .inr (List.mem_map.2 ⟨i, List.mem_range.2 hi, rfl⟩)
    · exact .inl (winPl_mem (by omega) hi)
theorem allPl_mem {offs G : List Int} {mx w : Nat} {p : Pl} : ∀ {many : Nat}, w < many → p ∈ winPl offs G w mx → p ∈ allPl offs G mx many
  | 0, h, _ => by omega
  | m + 1, h, hp => by
    refine List.mem_append.2 ?_
    by_cases e : w = m
    · subst e; exact .inr hp
    · exact .inl (allPl_mem (by omega) hp)
/-- A line's place, by its window and its band. -/
theorem place_of {offs G : List Int} {mx many : Nat} (h : OffsQ offs mx many) {w n b : Nat} (hw : w < many) (hn : n < 256 / many) (hb : b + 1 < offs.length) (h1 : offs.getD b 0 ≤ n) (h2 : (n : Int) < offs.getD (b + 1) 0) :
    placeAt (allPl offs G mx many) (32 * w + n) = if b < mx then some ⟨32 * w + n, grpOf G w, b⟩ else none := by
  have hp := h.pos b (by omega)
  have hpw := h.pw (G := G)
  have hmem : b < mx → (⟨32 * w + n, grpOf G w, b⟩ : Pl) ∈ allPl offs G mx many := by
    intro hbm
    refine allPl_mem hw ?_
    have := winPl_mem (offs := offs) (G := G) (w := w) (b := b) (i := n - (offs.getD b 0).toNat) hbm (by unfold wideB; omega)
    rwa [show (offs.getD b 0).toNat + (n - (offs.getD b 0).toNat) = n by omega] at this
  unfold placeAt
  cases hf : (allPl offs G mx many).find? (fun p => p.n == 32 * w + n) with
  | none =>
    rw [List.find?_eq_none] at hf
    rw [if_neg (fun hbm => hf _ (hmem hbm) (by simp))]
  | some p =>
    have hm := List.mem_of_find?_eq_some hf
    have hpn : p.n = 32 * w + n := by simpa using List.find?_some hf
    obtain ⟨w', b', i', hw', hb', hi', rfl⟩ := mem_allPl hm
    have hlt := h.lt
    have q1 := h.pos b' (by omega)
    have q2 := h.mono b' (b' + 1) (by omega) (by omega)
    unfold wideB at hi'
    simp only at hpn
    have hww : w' = w := by
      rcases h.top with ⟨e, h3⟩ | ⟨e, h3⟩
      · have := h3 (b' + 1) (by omega)
        subst e
        omega
      · omega
    subst hww
    have hbb : b' = b := by
      rcases Nat.lt_trichotomy b' b with hlt | he | hgt
      · have := h.mono (b' + 1) b (by omega) (by omega); omega
      · exact he
      · have := h.mono (b + 1) b' (by omega) (by omega); omega
    subst hbb
    rw [if_pos hb', hpn]
end Go.Proofs.Ytppfbfiigfjncaa
