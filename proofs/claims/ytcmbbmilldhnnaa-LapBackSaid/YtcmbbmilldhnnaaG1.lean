/- Texts bundled: Base Own Keep Args ArgsK Open MakeRow. -/
import Derived.Test.YtcmbbmilldhnnaaRows
import Derived.WalkKit
import Derived.ProofKit
import Derived.OpenShut
import Derived.BigQuiet
import Derived.Lib.Hide
import Derived.Maps.AppendAt
import Derived.Deep.QuietTactic
import Derived.Laws.AppendOwn
import Derived.Laws.AppendOwnNone
import Derived.Lib.SmallJoins
/- Lemmas that every proof of this seat uses: a slice that reads as a list of integers. -/
namespace Go.Proofs.Ytcmbbmilldhnnaa
open Go.ChangeShapes Go.WideShapes Go.ChangeAt Go.RowKit

/-- The slice's elements, by its address: the integers l. -/
def IsInts (w : World) (p : Option Addr) (l : List Int) : Prop :=
  l = [] ∨ ∃ b off, p = some ⟨b, off, none⟩ ∧ b < w.heap.size ∧ ∀ j, j < l.length → w.cell? ⟨b, off + j, none⟩ = some (.int .i64 (l.getD j 0))

theorem IsInts.nil (w : World) (p : Option Addr) : IsInts w p [] := .inl rfl

theorem IsInts.keep {w w' : World} {p : Option Addr} {l : List Int} (h : IsInts w p l) (hb : Below w.heap.size w w') : IsInts w' p l := by
  rcases h with h | ⟨b, off, hp, hlt, hc⟩
  · exact .inl h
  · exact .inr ⟨b, off, hp, Nat.lt_of_lt_of_le hlt hb.size, fun j hj => (hb.cell (p := ⟨b, off + j, none⟩) hlt).trans (hc j hj)⟩

theorem IsInts.at {w : World} {p : Option Addr} {l : List Int} (h : IsInts w p l) {j : Nat} (hj : j < l.length) :
    ∃ b off, p = some ⟨b, off, none⟩ ∧ b < w.heap.size ∧ ∀ j, j < l.length → w.cell? ⟨b, off + j, none⟩ = some (.int .i64 (l.getD j 0)) := by
  rcases h with h | h
  · simp [h] at hj
  · exact h

/-- A row of the call's own, of integers. -/
theorem owns_at {w : World} {base : Nat} {v : Value} {l : List Int} (h : w.ownsRow base 3 1 v l.length (l.map (Value.int .i64))) (hne : l ≠ []) :
    ∃ g cap, v = .slice (some ⟨g, 0, none⟩) l.length cap ∧ base ≤ g ∧ g < w.heap.size ∧ ∀ j, j < l.length → w.cell? ⟨g, j, none⟩ = some (.int .i64 (l.getD j 0)) := by
  have hlt := h.lt
  have h' := h
  obtain ⟨h1, h2 | ⟨g, cap, cur, rfl, hg, hh, r⟩⟩ := h
  · simp at h2; exact absurd h2.2 hne
  · have := hlt g rfl
    refine ⟨g, cap, rfl, hg, this.2, fun j hj => ?_⟩
    rw [h'.cellAt j (by omega)]
    simp [List.getD_eq_getElem?_getD, hj]

/-- A new block of integers: a literal's. -/
theorem isInts_new (w : World) (l : List Int) (t : TypeId) {n : Nat} (hn : w.heap.size = n) : IsInts (w.alloc (.cells (l.map (Value.int .i64)).toArray t)) (some ⟨n, 0, none⟩) l := by
  subst hn
  refine .inr ⟨_, 0, rfl, by simp, fun j hj => ?_⟩
  rw [World.cell?_alloc_at _ _ _ _ rfl]
  simp [List.getD_eq_getElem?_getD, hj]

theorem isInts_of {w : World} {g : Nat} {l : List Int} (hlt : g < w.heap.size) (h : ∀ j, j < l.length → w.cell? ⟨g, j, none⟩ = some (.int .i64 (l.getD j 0))) : IsInts w (some ⟨g, 0, none⟩) l :=
  .inr ⟨g, 0, rfl, hlt, fun j hj => by simpa using h j hj⟩

theorem IsInts.alloc {w : World} {p : Option Addr} {l : List Int} (h : IsInts w p l) (o : Obj) : IsInts (w.alloc o) p l := h.keep ((Below.refl _ _).alloc (Nat.le_refl _) _)
theorem IsInts.drewN {w : World} {p : Option Addr} {l : List Int} (h : IsInts w p l) (n : Nat) : IsInts (w.drewN n) p l := h

theorem below_drewN {B : Nat} {a w : World} (h : Below B a w) (n : Nat) : Below B a (w.drewN n) := h.trans ⟨rfl, rfl, rfl, Nat.le_refl _, fun _ _ => rfl⟩

theorem ret_bool {a b : Bool} (h : a = b) : Ending.returned (.bool a) = .returned (.bool b) := by rw [h]
theorem ret_int {k : IntKind} {a b : Int} (h : a = b) : Ending.returned (.int k a) = .returned (.int k b) := by rw [h]
theorem ret_ints {k k' : IntKind} {a b a' b' : Int} (h : a = b) (h' : a' = b') : Ending.returned (.tuple #[.int k a, .int k' a']) = .returned (.tuple #[.int k b, .int k' b']) := by rw [h, h']

theorem one_int (n : Int) : ∀ u ∈ [Value.int .i64 n], u.oneCell' = true := by simp [Value.oneCell']
theorem Try.infoInt : (Try.prog.info? 3).map (fun i => (i.zero, i.size, i.bytes)) = some (some (.int .i64 0), 1, 8) := by kernel_rfl

end Go.Proofs.Ytcmbbmilldhnnaa
/- Rows of the call's own, kept while other memory is made or written. -/
set_option linter.unusedVariables false
namespace Go.Proofs.Ytcmbbmilldhnnaa
open Go.ChangeShapes Go.WideShapes Go.ChangeAt Go.RowKit

theorem owns_keep {w w' : World} {base : Nat} {e : TypeId} {size : Nat} {v : Value} {n : Nat} {xs : List Value} (h : w.ownsRow base e size v n xs) (hb : Below w.heap.size w w') : w'.ownsRow base e size v n xs := by
  refine ⟨h.1, ?_⟩
  rcases h.2 with hn | ⟨g, cap, cur, rfl, hg, hgg, rest⟩
  · exact .inl hn
  · refine .inr ⟨g, cap, cur, rfl, hg, ?_, rest⟩
    rw [hb.block g (Array.getElem?_eq_some_iff.1 hgg).1]
    exact hgg
theorem owns_shape {w : World} {base : Nat} {e : TypeId} {size : Nat} {v : Value} {n : Nat} {xs : List Value} (h : w.ownsRow base e size v n xs) (hn : 0 < n) : ∃ g cap, v = .slice (some ⟨g, 0, none⟩) n cap ∧ base ≤ g ∧ g < w.heap.size := by
  have hlt := h.lt
  rcases h.2 with h2 | ⟨g, cap, cur, rfl, hg, hgg, rest⟩
  · omega
  · exact ⟨g, cap, rfl, hg, (hlt g rfl).2⟩
theorem IsInts.setCell {w : World} {g off' : Nat} {l : List Int} (h : IsInts w (some ⟨g, off', none⟩) l) (a : Addr) (u : Value) (hne : g ≠ a.block) : IsInts (w.setCell a u) (some ⟨g, off', none⟩) l := by
  rcases h with h | ⟨b, off, hp, hlt, hc⟩
  · exact .inl h
  · obtain ⟨rfl, rfl⟩ : g = b ∧ off' = off := by simpa using hp
    refine .inr ⟨g, off', rfl, by simpa [World.setCell] using hlt, fun j hj => ?_⟩
    rw [← hc j hj]
    exact World.cell?_of_block (Below.heap_setCell _ _ _ _ hne)
end Go.Proofs.Ytcmbbmilldhnnaa
/- Rows of integers that stay while others are written. -/
set_option linter.unusedVariables false
namespace Go.Proofs.Ytcmbbmilldhnnaa
open Go.ChangeShapes Go.WideShapes Go.ChangeAt Go.RowKit

/-- A slice's integers, in a block from lo on and below hi. -/
def IntsB (w : World) (p : Option Addr) (l : List Int) (lo hi : Nat) : Prop :=
  hi ≤ w.heap.size ∧ (l = [] ∨ ∃ b off, p = some ⟨b, off, none⟩ ∧ lo ≤ b ∧ b < hi ∧ ∀ j, j < l.length → w.cell? ⟨b, off + j, none⟩ = some (.int .i64 (l.getD j 0)))
theorem IntsB.ints {w : World} {p : Option Addr} {l : List Int} {lo hi : Nat} (h : IntsB w p l lo hi) : IsInts w p l := by
  obtain ⟨h0, h | ⟨b, off, hp, h1, h2, hc⟩⟩ := h
  · exact .inl h
  · exact .inr ⟨b, off, hp, Nat.lt_of_lt_of_le h2 h0, hc⟩
theorem IsInts.inB {w : World} {p : Option Addr} {l : List Int} (h : IsInts w p l) : IntsB w p l 0 w.heap.size := by
  refine ⟨Nat.le_refl _, ?_⟩
  rcases h with h | ⟨b, off, hp, hlt, hc⟩
  · exact .inl h
  · exact .inr ⟨b, off, hp, Nat.zero_le _, hlt, hc⟩
theorem IntsB.keep {w w' : World} {p : Option Addr} {l : List Int} {lo hi B : Nat} (h : IntsB w p l lo hi) (hb : Below B w w') (hB : hi ≤ B) : IntsB w' p l lo hi := by
  obtain ⟨h0, h⟩ := h
  refine ⟨Nat.le_trans h0 hb.size, ?_⟩
  rcases h with h | ⟨b, off, hp, h1, h2, hc⟩
  · exact .inl h
  · exact .inr ⟨b, off, hp, h1, h2, fun j hj => (hb.cell (p := ⟨b, off + j, none⟩) (Nat.lt_of_lt_of_le h2 hB)).trans (hc j hj)⟩
theorem IntsB.setCell {w : World} {p : Option Addr} {l : List Int} {lo hi : Nat} (h : IntsB w p l lo hi) (a : Addr) (u : Value) (hne : a.block < lo ∨ hi ≤ a.block) : IntsB (w.setCell a u) p l lo hi := by
  obtain ⟨h0, h⟩ := h
  refine ⟨by simpa [World.setCell] using h0, ?_⟩
  rcases h with h | ⟨b, off, hp, h1, h2, hc⟩
  · exact .inl h
  · refine .inr ⟨b, off, hp, h1, h2, fun j hj => ?_⟩
    rw [← hc j hj]
    exact World.cell?_of_block (Below.heap_setCell _ _ _ _ (show b ≠ a.block by omega))
theorem IntsB.alloc {w : World} {p : Option Addr} {l : List Int} {lo hi : Nat} (h : IntsB w p l lo hi) (o : Obj) : IntsB (w.alloc o) p l lo hi := h.keep ((Below.refl _ _).alloc (Nat.le_refl _) _) h.1
theorem IntsB.drewN {w : World} {p : Option Addr} {l : List Int} {lo hi : Nat} (h : IntsB w p l lo hi) (n : Nat) : IntsB (w.drewN n) p l lo hi := h
theorem IntsB.wide {w : World} {p : Option Addr} {l : List Int} {lo hi lo' hi' : Nat} (h : IntsB w p l lo hi) (h1 : lo' ≤ lo) (h2 : hi ≤ hi') (h3 : hi' ≤ w.heap.size) : IntsB w p l lo' hi' := by
  obtain ⟨h0, h⟩ := h
  refine ⟨h3, ?_⟩
  rcases h with h | ⟨b, off, hp, a1, a2, hc⟩
  · exact .inl h
  · exact .inr ⟨b, off, hp, Nat.le_trans h1 a1, Nat.lt_of_lt_of_le a2 h2, hc⟩
theorem IntsB.at {w : World} {p : Option Addr} {l : List Int} {lo hi : Nat} (h : IntsB w p l lo hi) {j : Nat} (hj : j < l.length) :
    ∃ b off, p = some ⟨b, off, none⟩ ∧ w.cell? ⟨b, off + j, none⟩ = some (.int .i64 (l.getD j 0)) := by
  obtain ⟨h0, h | ⟨b, off, hp, h1, h2, hc⟩⟩ := h
  · simp [h] at hj
  · exact ⟨b, off, hp, hc j hj⟩

/-- A row of the call's own reads so. -/
theorem owns_any {w : World} {base : Nat} {v : Value} {l : List Int} (h : w.ownsRow base 3 1 v l.length (l.map (Value.int .i64))) : ∃ p cap, v = .slice p l.length cap ∧ IntsB w p l base w.heap.size := by
  by_cases hne : l = []
  · subst hne
    rcases h.2 with ⟨h', _⟩ | ⟨g', cap, cur, h', _⟩
    · exact ⟨none, 0, h', Nat.le_refl _, .inl rfl⟩
    · exact ⟨some ⟨g', 0, none⟩, cap, h', Nat.le_refl _, .inl rfl⟩
  · obtain ⟨g, cap, hv, hg, hlt, hc⟩ := owns_at h hne
    exact ⟨_, cap, hv, Nat.le_refl _, .inr ⟨g, 0, rfl, hg, hlt, fun j hj => by simpa using hc j hj⟩⟩
theorem owns_lower {w : World} {base base' : Nat} {e : TypeId} {size n : Nat} {v : Value} {xs : List Value} (h : w.ownsRow base e size v n xs) (hle : base' ≤ base) : w.ownsRow base' e size v n xs := by
  refine ⟨h.1, ?_⟩
  rcases h.2 with h' | ⟨g', cap, cur, h', hg, rest⟩
  · exact .inl h'
  · exact .inr ⟨g', cap, cur, h', Nat.le_trans hle hg, rest⟩
def RRowE (p : List Int × Int) (w : World) (e : Ending) (w' : World) : Prop := ∃ v, e = .returned (.tuple #[v, .int .i64 p.2]) ∧ w'.ownsRow w.heap.size 3 1 v p.1.length (p.1.map (Value.int .i64)) ∧ Below w.heap.size w w'
/-- A row that is being written: its cells, in a block from lo on and below hi. -/
def Spoil (w : World) (p : Option Addr) (n c lo hi : Nat) (xs : List Value) : Prop :=
  xs.length = n ∧ hi ≤ w.heap.size ∧ (n ≠ 0 → ∃ g, p = some ⟨g, 0, none⟩ ∧ lo ≤ g ∧ g < hi ∧ w.ownsRow lo 3 1 (.slice (some ⟨g, 0, none⟩) n c) n xs)
theorem Spoil.of {w : World} {p : Option Addr} {l : List Int} {c lo : Nat} (h : w.ownsRow lo 3 1 (.slice p l.length c) l.length (l.map (Value.int .i64))) : Spoil w p l.length c lo w.heap.size (l.map (Value.int .i64)) := by
  refine ⟨by simp, Nat.le_refl _, fun hn => ?_⟩
  obtain ⟨g, cap, hv, h1, h2⟩ := owns_shape h (by omega)
  obtain ⟨rfl, rfl⟩ : p = some ⟨g, 0, none⟩ ∧ c = cap := by simpa using hv
  exact ⟨g, rfl, h1, h2, h⟩
theorem owns_keepB {w w' : World} {base B : Nat} {e : TypeId} {size : Nat} {v : Value} {n : Nat} {xs : List Value} (h : w.ownsRow base e size v n xs) (hb : Below B w w') (hB : ∀ g, v.ownBlock = some g → g < B) : w'.ownsRow base e size v n xs := by
  refine ⟨h.1, ?_⟩
  rcases h.2 with hn | ⟨g, cap, cur, rfl, hg, hgg, rest⟩
  · exact .inl hn
  · refine .inr ⟨g, cap, cur, rfl, hg, ?_, rest⟩
    rw [hb.block g (hB g rfl)]
    exact hgg
theorem Spoil.keep {w w' : World} {p : Option Addr} {n c lo hi B : Nat} {xs : List Value} (h : Spoil w p n c lo hi xs) (hb : Below B w w') (hB : hi ≤ B) : Spoil w' p n c lo hi xs := by
  obtain ⟨hl, hh, h⟩ := h
  refine ⟨hl, Nat.le_trans hh hb.size, fun hn => ?_⟩
  obtain ⟨g, hp, h1, h2, hO⟩ := h hn
  exact ⟨g, hp, h1, h2, owns_keepB hO hb (fun k e => by obtain rfl : g = k := (by simpa [Value.ownBlock] using e); omega)⟩
theorem Spoil.drewN {w : World} {p : Option Addr} {n c lo hi : Nat} {xs : List Value} (h : Spoil w p n c lo hi xs) (m : Nat) : Spoil (w.drewN m) p n c lo hi xs := h
/-- One cell is written. -/
theorem Spoil.at {w : World} {p : Option Addr} {n c lo hi : Nat} {xs : List Value} (h : Spoil w p n c lo hi xs) {k : Nat} (hk : k < n) :
    ∃ g, p = some ⟨g, 0, none⟩ ∧ lo ≤ g ∧ g < hi ∧ w.cell? ⟨g, k, none⟩ = xs[k]? ∧ w.frozen? ⟨g, k, none⟩ = false ∧ ∀ u, Spoil (w.setCell ⟨g, k, none⟩ u) p n c lo hi (xs.set k u) := by
  obtain ⟨hl, hh, h⟩ := h
  obtain ⟨g, hp, h1, h2, hO⟩ := h (by omega)
  refine ⟨g, hp, h1, h2, hO.cellAt k (by omega), hO.frozenAt k, fun u => ⟨by simp [hl], by simpa [World.setCell] using hh, fun _ => ⟨g, hp, h1, h2, (hO.stored k u).1⟩⟩⟩
theorem Spoil.apart {w : World} {p : Option Addr} {n c lo hi : Nat} {xs : List Value} (h : Spoil w p n c lo hi xs) (a : Addr) (u : Value) (hne : a.block < lo ∨ hi ≤ a.block) : Spoil (w.setCell a u) p n c lo hi xs := by
  obtain ⟨hl, hh, h⟩ := h
  refine ⟨hl, by simpa [World.setCell] using hh, fun hn => ?_⟩
  obtain ⟨g, hp, h1, h2, hO⟩ := h hn
  refine ⟨g, hp, h1, h2, hO.1, ?_⟩
  rcases hO.2 with ⟨h', _⟩ | ⟨g', cap, cur, h', hg, hgg, rest⟩
  · simp at h'
  · obtain ⟨rfl, rfl⟩ : g = g' ∧ c = cap := by simpa using h'
    refine .inr ⟨g, c, cur, rfl, hg, ?_, rest⟩
    rw [Below.heap_setCell _ _ _ _ (show g ≠ a.block by omega)]
    exact hgg
/-- A written row reads so. -/
theorem Spoil.ints {w : World} {p : Option Addr} {n c lo hi : Nat} {l : List Int} (h : Spoil w p n c lo hi (l.map (Value.int .i64))) : IntsB w p l lo hi := by
  obtain ⟨hl, hh, h⟩ := h
  refine ⟨hh, ?_⟩
  by_cases hn : n = 0
  · left
    have : l.length = 0 := by simpa [hn] using hl
    exact List.eq_nil_of_length_eq_zero this
  · obtain ⟨g, hp, h1, h2, hO⟩ := h hn
    refine .inr ⟨g, 0, hp, h1, h2, fun j hj => ?_⟩
    have : l.length = n := by simpa using hl
    rw [Nat.zero_add, hO.cellAt j (by omega)]
    simp [List.getD_eq_getElem?_getD, hj]
theorem fill_eq {xs : List Value} {m : Nat} {f : Nat → Int} (hl : xs.length = m) (h : ∀ j, j < m → xs[j]? = some (.int .i64 (f j))) : xs = ((List.range m).map f).map (Value.int .i64) := by
  apply List.ext_getElem?
  intro j
  by_cases hj : j < m
  · rw [h j hj]; simp [hj]
  · rw [List.getElem?_eq_none (by omega), List.getElem?_eq_none (by simp; omega)]
theorem fill_step {xs : List Value} {k n : Nat} {f : Nat → Int} (hn : xs.length = n) (hk : k < n) (h : ∀ j, j < k → xs[j]? = some (.int .i64 (f j))) {v : Int} (hv : f k = v) : ∀ j, j < k + 1 → (xs.set k (.int .i64 v))[j]? = some (.int .i64 (f j)) := by
  intro j hj
  by_cases e : j = k
  · rw [e, List.getElem?_set_self (by omega), hv]
  · rw [List.getElem?_set_ne (by omega)]; exact h j (by omega)
/-- What a list's cells are; and behind one that is written. -/
theorem row_get (l : List Int) : ∀ j, 0 ≤ j → j < l.length → (l.map (Value.int .i64))[j]? = some (.int .i64 (l.getD j 0)) := by
  intro j _ h
  simp [List.getD_eq_getElem?_getD, h]
theorem row_set {xs : List Value} {k n : Nat} {l : List Int} (h : ∀ j, k ≤ j → j < n → xs[j]? = some (.int .i64 (l.getD j 0))) (u : Value) : ∀ j, k + 1 ≤ j → j < n → (xs.set k u)[j]? = some (.int .i64 (l.getD j 0)) := by
  intro j h1 h2
  rw [List.getElem?_set_ne (by omega)]
  exact h j (by omega) h2
end Go.Proofs.Ytcmbbmilldhnnaa
/- Slices of integers that came in; a copy of one. -/
set_option linter.unusedVariables false
set_option linter.unusedSimpArgs false
namespace Go.Proofs.Ytcmbbmilldhnnaa
open Go.ChangeShapes Go.WideShapes Go.ChangeAt Go.RowKit

theorem block_lt {w : World} {a : Addr} {v : Value} (h : w.cell? a = some v) : a.block < w.heap.size := by
  unfold World.cell? at h
  cases hb : w.heap[a.block]? with
  | none => rw [hb] at h; simp at h
  | some o => exact (Array.getElem?_eq_some_iff.1 hb).1
/-- A slice of integers that came in. -/
def IsArg (w : World) (p : Option Addr) (c : Nat) (l : List Int) : Prop := IsInts w p l ∧ (p = none → c = 0 ∧ l = []) ∧ l.length ≤ maxLen ∧ ∀ n ∈ l, -9223372036854775808 ≤ n ∧ n ≤ 9223372036854775807
theorem arg_of {w : World} {a : Option Addr} {len cap : Nat} {zs : List Int}
    (h : (a = none ∧ len = 0 ∧ cap = 0 ∧ zs = []) ∨ ∃ x, a = some x ∧ len ≤ cap ∧ cap ≤ maxLen ∧ zs.length = cap ∧ (∀ i, i < zs.length → w.cell? (x.add i) = some (.int .i64 (zs.getD i 0))) ∧ ∀ n ∈ zs, (Lit.int .i64 n).wf = true) :
    ∃ l : List Int, l.length = len ∧ IsArg w a cap l := by
  rcases h with ⟨rfl, rfl, rfl, rfl⟩ | ⟨x, rfl, hl, hm, hz, hcell, hwz⟩
  · exact ⟨[], rfl, .inl rfl, (fun _ => ⟨rfl, rfl⟩), (by simp), (fun _ h => by cases h)⟩
  · have hlen : (zs.take len).length = len := by simp; omega
    refine ⟨zs.take len, hlen, ?_, (fun h => by cases h), (by rw [hlen]; omega), (fun n hn => ?_)⟩
    · rcases Nat.eq_zero_or_pos len with h0 | h0
      · exact .inl (by simp [h0])
      · have h1 := hcell 0 (by omega)
        have hs := World.cell?_spot h1
        obtain ⟨b, off, spot⟩ := x
        have hspot : spot = none := by simpa [Addr.add] using hs
        subst hspot
        have hb := block_lt h1
        refine .inr ⟨b, off, rfl, by simpa [Addr.add] using hb, fun j hj => ?_⟩
        have h2 := hcell j (by rw [hlen] at hj; omega)
        rw [Addr.add_lit] at h2
        rw [h2]
        simp [List.getD_eq_getElem?_getD, List.getElem?_take, show j < len by rw [hlen] at hj; exact hj]
    · have := bounds_i64 (hwz n (List.mem_of_mem_take hn))
      omega
theorem IsArg.keep {w w' : World} {p : Option Addr} {c : Nat} {l : List Int} (h : IsArg w p c l) (hb : Below w.heap.size w w') : IsArg w' p c l := ⟨h.1.keep hb, h.2⟩
theorem IsArg.drewN {w : World} {p : Option Addr} {c : Nat} {l : List Int} (h : IsArg w p c l) (n : Nat) : IsArg (w.drewN n) p c l := h
/-- Integers that came in are put behind a row of the call's own. -/
theorem append_ints {w : World} {ops : Array Oper} {rest : List Oper} {o : Oper} {a : Act} {Q : Exit → Act → World → Prop} (hgd : o.guard = none) (s x : Operand)
    (ho : o.op = .call { callee := .builtin .append, args := #[s, x], argTypes := #[22, 22] }) (base : Nat)
    (v : Value) (n : Nat) (xs : List Value) (hs : a.eval s = v) (hown : w.ownsRow base 3 1 v n xs)
    (p : Option Addr) (c : Nat) (l : List Int) (hx : a.eval x = .slice p l.length c) (hI : IsArg w p c l) (h63 : n + l.length ≤ maxLen) (hbytes : (n + l.length) * 8 ≤ 140737488355328) (hbase : base ≤ w.heap.size)
    (h : ∀ v' w', w'.ownsRow base 3 1 v' (n + l.length) (xs ++ l.map (Value.int .i64)) → w.grownBy w' v.ownBlock → wpList Try.prog ops Q rest (a.put o.dst v') w') : wpList Try.prog ops Q (o :: rest) a w := by
  obtain ⟨i0, hi, hz0, hz1, hz2⟩ := info_parts Try.infoInt
  cases p with
  | none =>
    obtain ⟨rfl, rfl⟩ := hI.2.1 rfl
    refine wpList_append_own_none hgd s x _ ho base 3 i0 1 Try.underlying22 hi v n xs hs hown hx ?_
    exact h v w (by simpa using hown) (World.grownBy.refl w _)
  | some ad =>
    refine wpList_append_own w hgd s x _ ho base 3 i0 (.int .i64 0) 1 8 Try.underlying22 hi hz0 hz1 hz2 rfl (by decide) v n xs hs hown ad l.length c (l.map (Value.int .i64)) hx (by simp) ?_ (by simp [Value.oneCell']) h63 hbytes hbase (fun v' w' h1 h2 _ => h v' w' h1 h2)
    intro j u hu
    have hj : j < l.length := by
      rcases Nat.lt_or_ge j l.length with h | h
      · exact h
      · rw [List.getElem?_eq_none (by simp; omega)] at hu; cases hu
    obtain ⟨b, off, hp, _, hc⟩ := hI.1.at hj
    obtain rfl : ad = ⟨b, off, none⟩ := by simpa using hp
    rw [Addr.add_lit, hc j hj, ← hu]
    simp [List.getD_eq_getElem?_getD, hj]
end Go.Proofs.Ytcmbbmilldhnnaa
/- Slices of integers of any kind that came in. -/
set_option linter.unusedVariables false
set_option linter.unusedSimpArgs false
namespace Go.Proofs.Ytcmbbmilldhnnaa
open Go.ChangeShapes Go.WideShapes Go.ChangeAt Go.RowKit

def IsArgK (k : IntKind) (w : World) (p : Option Addr) (c : Nat) (l : List Int) : Prop :=
  (l = [] ∨ ∃ b off, p = some ⟨b, off, none⟩ ∧ b < w.heap.size ∧ ∀ j, j < l.length → w.cell? ⟨b, off + j, none⟩ = some (.int k (l.getD j 0))) ∧ (p = none → c = 0 ∧ l = []) ∧ l.length ≤ maxLen ∧ ∀ n ∈ l, (Lit.int k n).wf = true
theorem IsArgK.keep {k : IntKind} {w w' : World} {p : Option Addr} {c : Nat} {l : List Int} (h : IsArgK k w p c l) (hb : Below w.heap.size w w') : IsArgK k w' p c l := by
  obtain ⟨h1, h2⟩ := h
  refine ⟨?_, h2⟩
  rcases h1 with h | ⟨b, off, hp, hlt, hc⟩
  · exact .inl h
  · exact .inr ⟨b, off, hp, Nat.lt_of_lt_of_le hlt hb.size, fun j hj => (hb.cell (p := ⟨b, off + j, none⟩) hlt).trans (hc j hj)⟩
theorem IsArgK.at {k : IntKind} {w : World} {p : Option Addr} {c : Nat} {l : List Int} (h : IsArgK k w p c l) {j : Nat} (hj : j < l.length) :
    ∃ b off, p = some ⟨b, off, none⟩ ∧ b < w.heap.size ∧ w.cell? ⟨b, off + j, none⟩ = some (.int k (l.getD j 0)) := by
  rcases h.1 with h | ⟨b, off, hp, hlt, hc⟩
  · simp [h] at hj
  · exact ⟨b, off, hp, hlt, hc j hj⟩
theorem argK_of {k : IntKind} {w : World} {a : Option Addr} {len cap : Nat} {zs : List Int}
    (h : (a = none ∧ len = 0 ∧ cap = 0 ∧ zs = []) ∨ ∃ x, a = some x ∧ len ≤ cap ∧ cap ≤ maxLen ∧ zs.length = cap ∧ (∀ i, i < zs.length → w.cell? (x.add i) = some (.int k (zs.getD i 0))) ∧ ∀ n ∈ zs, (Lit.int k n).wf = true) :
    ∃ l : List Int, l.length = len ∧ IsArgK k w a cap l := by
  rcases h with ⟨rfl, rfl, rfl, rfl⟩ | ⟨x, rfl, hl, hm, hz, hcell, hwz⟩
  · exact ⟨[], rfl, .inl rfl, (fun _ => ⟨rfl, rfl⟩), (by simp), (fun _ h => by cases h)⟩
  · have hlen : (zs.take len).length = len := by simp; omega
    refine ⟨zs.take len, hlen, ?_, (fun h => by cases h), (by rw [hlen]; omega), (fun n hn => hwz n (List.mem_of_mem_take hn))⟩
    rcases Nat.eq_zero_or_pos len with h0 | h0
    · exact .inl (by simp [h0])
    · have h1 := hcell 0 (by omega)
      have hs := World.cell?_spot h1
      obtain ⟨b, off, spot⟩ := x
      have hspot : spot = none := by simpa [Addr.add] using hs
      subst hspot
      have hb := block_lt h1
      refine .inr ⟨b, off, rfl, by simpa [Addr.add] using hb, fun j hj => ?_⟩
      have h2 := hcell j (by rw [hlen] at hj; omega)
      rw [Addr.add_lit] at h2
      rw [h2]
      simp [List.getD_eq_getElem?_getD, show j < len by rw [hlen] at hj; exact hj]
theorem came_any {H : Type} {enc : TypeId × Value → H} {P : Program} {W : World} {t e : TypeId} {k : IntKind} {a : Option Addr} {len cap : Nat} {d : DataW H} {ps : List MemPlace} (ht : P.underlying t = some (.slice e)) (he : P.underlying e = some (.int k)) (hc : P.cellsOf e = 1)
    (h : DataW.Trod enc P W 0 (fun _ => true) true t (.slice a len cap) d ps) : (a = none ∧ len = 0 ∧ cap = 0 ∧ ([] : List Int) = []) ∨ ∃ zs : List Int, ∃ x, a = some x ∧ len ≤ cap ∧ cap ≤ maxLen ∧ zs.length = cap ∧ (∀ i, i < zs.length → W.cell? (x.add i) = some (.int k (zs.getD i 0))) ∧ ∀ n ∈ zs, (Lit.int k n).wf = true := by
  obtain ⟨fuel, hf⟩ := h
  rcases open_ints ht he hc hf with ⟨hcs, _⟩ | ⟨x, l, c, zs, hcs, _, hl, hm, hz, _, hcell, hwz⟩
  · simp [Value.cells] at hcs
    obtain ⟨rfl, rfl, rfl⟩ := hcs
    exact .inl ⟨rfl, rfl, rfl, rfl⟩
  · simp [Value.cells] at hcs
    obtain ⟨rfl, rfl, rfl⟩ := hcs
    exact .inr ⟨zs, x, rfl, hl, hm, by simpa using hz, hcell, hwz⟩
theorem came_k {H : Type} {enc : TypeId × Value → H} {P : Program} {W : World} {t e : TypeId} {k : IntKind} {a : Option Addr} {len cap : Nat} {d : DataW H} {ps : List MemPlace} (ht : P.underlying t = some (.slice e)) (he : P.underlying e = some (.int k)) (hc : P.cellsOf e = 1)
    (h : DataW.Trod enc P W 0 (fun _ => true) true t (.slice a len cap) d ps) : ∃ l : List Int, l.length = len ∧ IsArgK k W a cap l := by
  rcases came_any ht he hc h with h | ⟨zs, h⟩
  · exact argK_of (.inl h)
  · exact argK_of (.inr h)
theorem came_i64 {H : Type} {enc : TypeId × Value → H} {P : Program} {W : World} {t e : TypeId} {a : Option Addr} {len cap : Nat} {d : DataW H} {ps : List MemPlace} (ht : P.underlying t = some (.slice e)) (he : P.underlying e = some (.int .i64)) (hc : P.cellsOf e = 1)
    (h : DataW.Trod enc P W 0 (fun _ => true) true t (.slice a len cap) d ps) : ∃ l : List Int, l.length = len ∧ IsArg W a cap l := by
  rcases came_any ht he hc h with h | ⟨zs, h⟩
  · exact arg_of (.inl h)
  · exact arg_of (.inr h)
end Go.Proofs.Ytcmbbmilldhnnaa
/- Arguments that are structs, opened; a slice's room. -/
set_option linter.unusedVariables false
set_option linter.unusedSimpArgs false
namespace Go.Proofs.Ytcmbbmilldhnnaa
open Go.ChangeShapes Go.WideShapes Go.ChangeAt Go.RowKit
theorem came_le {H : Type} {enc : TypeId × Value → H} {P : Program} {W : World} {t e : TypeId} {k : IntKind} {a : Option Addr} {len cap : Nat} {d : DataW H} {ps : List MemPlace} (ht : P.underlying t = some (.slice e)) (he : P.underlying e = some (.int k)) (hc : P.cellsOf e = 1)
    (h : DataW.Trod enc P W 0 (fun _ => true) true t (.slice a len cap) d ps) : len ≤ cap := by
  rcases came_any ht he hc h with ⟨_, rfl, rfl, _⟩ | ⟨zs, x, _, h, _⟩
  · exact Nat.le_refl _
  · exact h
theorem u8_range {a : Int} (h : (Lit.int .u8 a).wf = true) : 0 ≤ a ∧ a ≤ 255 := bounds_u8 h
end Go.Proofs.Ytcmbbmilldhnnaa
/- A row that is made. -/
set_option linter.unusedVariables false
namespace Go.Proofs.Ytcmbbmilldhnnaa
open Go.ChangeShapes Go.WideShapes Go.ChangeAt Go.RowKit
theorem make_row {w : World} {ops : Array Oper} {rest : List Oper} {o : Oper} {a : Act} {Q : Exit → Act → World → Prop} (hgd : o.guard = none) (l c : Operand)
    (ho : o.op = Op.makeSlice 22 l c) (m : Nat) (hm : m ≤ 4096) (hl : a.eval l = .int .i64 m) (hc : a.eval c = .int .i64 m)
    (h : ∀ w', w.heap.size < w'.heap.size → w'.ownsRow w.heap.size 3 1 (.slice (some ⟨w.heap.size, 0, none⟩) m m) m (List.replicate m (.int .i64 0)) → Below w.heap.size w w' → wpList Try.prog ops Q rest (a.put o.dst (.slice (some ⟨w.heap.size, 0, none⟩) m m)) w') : wpList Try.prog ops Q (o :: rest) a w := by
  obtain ⟨i0, hi, hz0, hz1, hz2⟩ := info_parts Try.infoInt
  refine wpList_make_full _ hgd l c 22 ho w.heap.size 3 i0 (.int .i64 0) 1 Try.underlying22 hi hz0 hz1 .i64 .i64 _ _ m hl hc ?hL ?hC ?b2 ?b3 ?b4 ?_
  case hL => rfl
  case hC => rfl
  case b2 => rw [hz2]; omega
  case b3 => unfold maxLen; omega
  case b4 => exact Nat.le_refl _
  intro w' r1 r2
  have e := toList_madeCells_one (.int .i64 0) m
  have r1' : w'.ownsRow w.heap.size 3 1 (.slice (some ⟨w.heap.size, 0, none⟩) m m) m (List.replicate m (.int .i64 0)) := by rw [← e]; rw [Nat.mul_one] at r1; exact r1
  exact h w' (r1'.lt _ rfl).2 r1' ((Below.refl _ _).grown r2 (Nat.le_refl _) (fun _ e => by cases e))
end Go.Proofs.Ytcmbbmilldhnnaa
