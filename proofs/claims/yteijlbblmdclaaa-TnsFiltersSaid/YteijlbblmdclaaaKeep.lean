/- Rows of integers that stay while others are written. -/
import Derived.Test.YteijlbblmdclaaaGP
set_option linter.unusedVariables false
namespace Go.Proofs.Yteijlbblmdclaaa
open Go.ChangeShapes Go.WideShapes Go.ChangeAt Go.RowKit

/-- A slice's integers, in a block from lo on and below hi. -/
def IntsB (w : World) (p : Option Addr) (l : List Int) (lo hi : Nat) : Prop :=
  hi ≤ w.heap.size ∧ (l = [] ∨ ∃ b off, p = some ⟨b, off, none⟩ ∧ lo ≤ b ∧ b < hi ∧ ∀ j, j < l.length → w.cell? ⟨b, off + j, none⟩ = some (.int .i64 (l.getD j 0)))
theorem IntsB.ints {w : World} {p : Option Addr} {l : List Int} {lo hi : Nat} (h : IntsB w p l lo hi) : IsInts w p l := by
  obtain ⟨h0, h | ⟨b, off, hp, h1, h2, hc⟩⟩ := h
  · exact .inl h
  · exact .inr ⟨b, off, hp, Nat.lt_of_lt_of_le h2 h0, hc⟩
theorem IsInts.inB {w : World} {p : Option Addr} {l : List Int} (h : IsInts w p l) : IntsB w p l 0 w.heap.size := by
  refine ⟨Nat.le_refl _, ?_⟩
  rcases h with h | ⟨b, off, hp, hlt, hc⟩
  · exact .inl h
  · exact .inr ⟨b, off, hp, Nat.zero_le _, hlt, hc⟩
theorem IntsB.keep {w w' : World} {p : Option Addr} {l : List Int} {lo hi B : Nat} (h : IntsB w p l lo hi) (hb : Below B w w') (hB : hi ≤ B) : IntsB w' p l lo hi := by
  obtain ⟨h0, h⟩ := h
  refine ⟨Nat.le_trans h0 hb.size, ?_⟩
  rcases h with h | ⟨b, off, hp, h1, h2, hc⟩
  · exact .inl h
  · exact .inr ⟨b, off, hp, h1, h2, fun j hj => (hb.cell (p := ⟨b, off + j, none⟩) (Nat.lt_of_lt_of_le h2 hB)).trans (hc j hj)⟩
theorem IntsB.setCell {w : World} {p : Option Addr} {l : List Int} {lo hi : Nat} (h : IntsB w p l lo hi) (a : Addr) (u : Value) (hne : a.block < lo ∨ hi ≤ a.block) : IntsB (w.setCell a u) p l lo hi := by
  obtain ⟨h0, h⟩ := h
  refine ⟨by simpa [World.setCell] using h0, ?_⟩
  rcases h with h | ⟨b, off, hp, h1, h2, hc⟩
  · exact .inl h
  · refine .inr ⟨b, off, hp, h1, h2, fun j hj => ?_⟩
    rw [← hc j hj]
    exact World.cell?_of_block (Below.heap_setCell _ _ _ _ (show b ≠ a.block by omega))
theorem IntsB.alloc {w : World} {p : Option Addr} {l : List Int} {lo hi : Nat} (h : IntsB w p l lo hi) (o : Obj) : IntsB (w.alloc o) p l lo hi := h.keep ((Below.refl _ _).alloc (Nat.le_refl _) _) h.1
theorem IntsB.drewN {w : World} {p : Option Addr} {l : List Int} {lo hi : Nat} (h : IntsB w p l lo hi) (n : Nat) : IntsB (w.drewN n) p l lo hi := h
theorem IntsB.wide {w : World} {p : Option Addr} {l : List Int} {lo hi lo' hi' : Nat} (h : IntsB w p l lo hi) (h1 : lo' ≤ lo) (h2 : hi ≤ hi') (h3 : hi' ≤ w.heap.size) : IntsB w p l lo' hi' := by
  obtain ⟨h0, h⟩ := h
  refine ⟨h3, ?_⟩
  rcases h with h | ⟨b, off, hp, a1, a2, hc⟩
  · exact .inl h
  · exact .inr ⟨b, off, hp, Nat.le_trans h1 a1, Nat.lt_of_lt_of_le a2 h2, hc⟩
theorem IntsB.at {w : World} {p : Option Addr} {l : List Int} {lo hi : Nat} (h : IntsB w p l lo hi) {j : Nat} (hj : j < l.length) :
    ∃ b off, p = some ⟨b, off, none⟩ ∧ w.cell? ⟨b, off + j, none⟩ = some (.int .i64 (l.getD j 0)) := by
  obtain ⟨h0, h | ⟨b, off, hp, h1, h2, hc⟩⟩ := h
  · simp [h] at hj
  · exact ⟨b, off, hp, hc j hj⟩

/-- A row of the call's own reads so. -/
theorem owns_any {w : World} {base : Nat} {v : Value} {l : List Int} (h : w.ownsRow base 3 1 v l.length (l.map (Value.int .i64))) : ∃ p cap, v = .slice p l.length cap ∧ IntsB w p l base w.heap.size := by
  by_cases hne : l = []
  · subst hne
    rcases h.2 with ⟨h', _⟩ | ⟨g', cap, cur, h', _⟩
    · exact ⟨none, 0, h', Nat.le_refl _, .inl rfl⟩
    · exact ⟨some ⟨g', 0, none⟩, cap, h', Nat.le_refl _, .inl rfl⟩
  · obtain ⟨g, cap, hv, hg, hlt, hc⟩ := owns_at h hne
    exact ⟨_, cap, hv, Nat.le_refl _, .inr ⟨g, 0, rfl, hg, hlt, fun j hj => by simpa using hc j hj⟩⟩
theorem owns_lower {w : World} {base base' : Nat} {e : TypeId} {size n : Nat} {v : Value} {xs : List Value} (h : w.ownsRow base e size v n xs) (hle : base' ≤ base) : w.ownsRow base' e size v n xs := by
  refine ⟨h.1, ?_⟩
  rcases h.2 with h' | ⟨g', cap, cur, h', hg, rest⟩
  · exact .inl h'
  · exact .inr ⟨g', cap, cur, h', Nat.le_trans hle hg, rest⟩
def RRowE (p : List Int × Int) (w : World) (e : Ending) (w' : World) : Prop := ∃ v, e = .returned (.tuple #[v, .int .i64 p.2]) ∧ w'.ownsRow w.heap.size 3 1 v p.1.length (p.1.map (Value.int .i64)) ∧ Below w.heap.size w w'
/-- A row that is being written: its cells, in a block from lo on and below hi. -/
def Spoil (w : World) (p : Option Addr) (n c lo hi : Nat) (xs : List Value) : Prop :=
  xs.length = n ∧ hi ≤ w.heap.size ∧ (n ≠ 0 → ∃ g, p = some ⟨g, 0, none⟩ ∧ lo ≤ g ∧ g < hi ∧ w.ownsRow lo 3 1 (.slice (some ⟨g, 0, none⟩) n c) n xs)
theorem Spoil.of {w : World} {p : Option Addr} {l : List Int} {c lo : Nat} (h : w.ownsRow lo 3 1 (.slice p l.length c) l.length (l.map (Value.int .i64))) : Spoil w p l.length c lo w.heap.size (l.map (Value.int .i64)) := by
  refine ⟨by simp, Nat.le_refl _, fun hn => ?_⟩
  obtain ⟨g, cap, hv, h1, h2⟩ := owns_shape h (by omega)
  obtain ⟨rfl, rfl⟩ : p = some ⟨g, 0, none⟩ ∧ c = cap := by simpa using hv
  exact ⟨g, rfl, h1, h2, h⟩
theorem owns_keepB {w w' : World} {base B : Nat} {e : TypeId} {size : Nat} {v : Value} {n : Nat} {xs : List Value} (h : w.ownsRow base e size v n xs) (hb : Below B w w') (hB : ∀ g, v.ownBlock = some g → g < B) : w'.ownsRow base e size v n xs := by
  refine ⟨h.1, ?_⟩
  rcases h.2 with hn | ⟨g, cap, cur, rfl, hg, hgg, rest⟩
  · exact .inl hn
  · refine .inr ⟨g, cap, cur, rfl, hg, ?_, rest⟩
    rw [hb.block g (hB g rfl)]
    exact hgg
theorem Spoil.keep {w w' : World} {p : Option Addr} {n c lo hi B : Nat} {xs : List Value} (h : Spoil w p n c lo hi xs) (hb : Below B w w') (hB : hi ≤ B) : Spoil w' p n c lo hi xs := by
  obtain ⟨hl, hh, h⟩ := h
  refine ⟨hl, Nat.le_trans hh hb.size, fun hn => ?_⟩
  obtain ⟨g, hp, h1, h2, hO⟩ := h hn
  exact ⟨g, hp, h1, h2, owns_keepB hO hb (fun k e => by obtain rfl : g = k := (by simpa [Value.ownBlock] using e); omega)⟩
theorem Spoil.drewN {w : World} {p : Option Addr} {n c lo hi : Nat} {xs : List Value} (h : Spoil w p n c lo hi xs) (m : Nat) : Spoil (w.drewN m) p n c lo hi xs := h
/-- One cell is written. -/
theorem Spoil.at {w : World} {p : Option Addr} {n c lo hi : Nat} {xs : List Value} (h : Spoil w p n c lo hi xs) {k : Nat} (hk : k < n) :
    ∃ g, p = some ⟨g, 0, none⟩ ∧ lo ≤ g ∧ g < hi ∧ w.cell? ⟨g, k, none⟩ = xs[k]? ∧ w.frozen? ⟨g, k, none⟩ = false ∧ ∀ u, Spoil (w.setCell ⟨g, k, none⟩ u) p n c lo hi (xs.set k u) := by
  obtain ⟨hl, hh, h⟩ := h
  obtain ⟨g, hp, h1, h2, hO⟩ := h (by omega)
  refine ⟨g, hp, h1, h2, hO.cellAt k (by omega), hO.frozenAt k, fun u => ⟨by simp [hl], by simpa [World.setCell] using hh, fun _ => ⟨g, hp, h1, h2, (hO.stored k u).1⟩⟩⟩
theorem Spoil.apart {w : World} {p : Option Addr} {n c lo hi : Nat} {xs : List Value} (h : Spoil w p n c lo hi xs) (a : Addr) (u : Value) (hne : a.block < lo ∨ hi ≤ a.block) : Spoil (w.setCell a u) p n c lo hi xs := by
  obtain ⟨hl, hh, h⟩ := h
  refine ⟨hl, by simpa [World.setCell] using hh, fun hn => ?_⟩
  obtain ⟨g, hp, h1, h2, hO⟩ := h hn
  refine ⟨g, hp, h1, h2, hO.1, ?_⟩
  rcases hO.2 with ⟨h', _⟩ | ⟨g', cap, cur, h', hg, hgg, rest⟩
  · simp at h'
  · obtain ⟨rfl, rfl⟩ : g = g' ∧ c = cap := by simpa using h'
    refine .inr ⟨g, c, cur, rfl, hg, ?_, rest⟩
    rw [Below.heap_setCell _ _ _ _ (show g ≠ a.block by omega)]
    exact hgg
/-- A written row reads so. -/
theorem Spoil.ints {w : World} {p : Option Addr} {n c lo hi : Nat} {l : List Int} (h : Spoil w p n c lo hi (l.map (Value.int .i64))) : IntsB w p l lo hi := by
  obtain ⟨hl, hh, h⟩ := h
  refine ⟨hh, ?_⟩
  by_cases hn : n = 0
  · left
    have : l.length = 0 := by simpa [hn] using hl
    exact List.eq_nil_of_length_eq_zero this
  · obtain ⟨g, hp, h1, h2, hO⟩ := h hn
    refine .inr ⟨g, 0, hp, h1, h2, fun j hj => ?_⟩
    have : l.length = n := by simpa using hl
    rw [Nat.zero_add, hO.cellAt j (by omega)]
    simp [List.getD_eq_getElem?_getD, hj]
theorem fill_eq {xs : List Value} {m : Nat} {f : Nat → Int} (hl : xs.length = m) (h : ∀ j, j < m → xs[j]? = some (.int .i64 (f j))) : xs = ((List.range m).map f).map (Value.int .i64) := by
  apply List.ext_getElem?
  intro j
  by_cases hj : j < m
  · rw [h j hj]; simp [hj]
  · rw [List.getElem?_eq_none (by omega), List.getElem?_eq_none (by simp; omega)]
theorem fill_step {xs : List Value} {k n : Nat} {f : Nat → Int} (hn : xs.length = n) (hk : k < n) (h : ∀ j, j < k → xs[j]? = some (.int .i64 (f j))) {v : Int} (hv : f k = v) : ∀ j, j < k + 1 → (xs.set k (.int .i64 v))[j]? = some (.int .i64 (f j)) := by
  intro j hj
  by_cases e : j = k
  · rw [e, List.getElem?_set_self (by omega), hv]
  · rw [List.getElem?_set_ne (by omega)]; exact h j (by omega)
/-- What a list's cells are; and behind one that is written. -/
theorem row_get (l : List Int) : ∀ j, 0 ≤ j → j < l.length → (l.map (Value.int .i64))[j]? = some (.int .i64 (l.getD j 0)) := by
  intro j _ h
  simp [List.getD_eq_getElem?_getD, h]
theorem row_set {xs : List Value} {k n : Nat} {l : List Int} (h : ∀ j, k ≤ j → j < n → xs[j]? = some (.int .i64 (l.getD j 0))) (u : Value) : ∀ j, k + 1 ≤ j → j < n → (xs.set k u)[j]? = some (.int .i64 (l.getD j 0)) := by
  intro j h1 h2
  rw [List.getElem?_set_ne (by omega)]
  exact h j (by omega) h2
end Go.Proofs.Yteijlbblmdclaaa
