/- A variable of many cells. -/
import Derived.Test.YtppfbfiigfjncaaBase
import Derived.Laws.Tables
set_option linter.unusedVariables false
namespace Go.Proofs.Ytppfbfiigfjncaa
open Go.ChangeShapes Go.WideShapes Go.ChangeAt Go.RowKit
def CellsAt (W : World) (g : Nat) (t : TypeId) (cs : Array Value) : Prop := W.heap[g]? = some (.cells cs t (0, 0))
section
variable {W : World} {g : Nat} {t : TypeId} {cs : Array Value}
theorem CellsAt.lt (h : CellsAt W g t cs) : g < W.heap.size := (Array.getElem?_eq_some_iff.1 h).1
theorem CellsAt.cell (h : CellsAt W g t cs) (j : Nat) : W.cell? ⟨g, j, none⟩ = cs[j]? := by simp [World.cell?, show W.heap[g]? = _ from h]
theorem CellsAt.frozen (h : CellsAt W g t cs) (i : Nat) : W.frozen? ⟨g, i, none⟩ = false := by simp [World.frozen?, show W.heap[g]? = _ from h]
theorem CellsAt.new (W : World) (t : TypeId) (cs : Array Value) {g : Nat} (hg : W.heap.size = g) : CellsAt (W.alloc (.cells cs t)) g t cs := by subst hg; show (W.heap.push _)[W.heap.size]? = _; simp
theorem CellsAt.keep {W' : World} {B : Nat} (h : CellsAt W g t cs) (hb : Below B W W') (hB : g < B) : CellsAt W' g t cs := (hb.block g hB).trans h
theorem CellsAt.alloc (h : CellsAt W g t cs) (o : Obj) : CellsAt (W.alloc o) g t cs := (Below.heap_alloc W o g h.lt).trans h
theorem CellsAt.other (h : CellsAt W g t cs) (p : Addr) (hp : g ≠ p.block) (u : Value) : CellsAt (W.setCell p u) g t cs := (Below.heap_setCell W p u g hp).trans h
theorem CellsAt.set (h : CellsAt W g t cs) (j : Nat) (u : Value) : CellsAt (W.setCell ⟨g, j, none⟩ u) g t (cs.setIfInBounds j u) := by
  obtain ⟨hlt, hk⟩ := Array.getElem?_eq_some_iff.1 h
  show (W.heap.modify g _)[g]? = _
  rw [Array.getElem?_eq_getElem (by rw [Array.size_modify]; exact hlt), Array.getElem_modify_self, hk]
  rfl
theorem CellsAt.drewN (h : CellsAt W g t cs) (n : Nat) : CellsAt (W.drewN n) g t cs := h
end
/-- A row of integers as the cells of a block. -/
def valsL (l : List Int) : Array Value := (l.map (Value.int .i64)).toArray
theorem valsL_get (l : List Int) {j : Nat} (h : j < l.length) : (valsL l)[j]? = some (.int .i64 (l.getD j 0)) := by
  simp [valsL, List.getD_eq_getElem?_getD, h]
theorem valsL_size (l : List Int) : (valsL l).size = l.length := by simp [valsL]
theorem valsL_set (l : List Int) (j : Nat) (x : Int) : (valsL l).setIfInBounds j (.int .i64 x) = valsL (l.set j x) := by
  simp [valsL]
theorem CellsAt.ints {W : World} {g : Nat} {t : TypeId} {l : List Int} (h : CellsAt W g t (valsL l)) : IsInts W (some ⟨g, 0, none⟩) l := isInts_of h.lt (fun j hj => by rw [h.cell, valsL_get l hj])
theorem CellsAt.int {W : World} {g : Nat} {t : TypeId} {l : List Int} (h : CellsAt W g t (valsL l)) {j : Nat} (hj : j < l.length) : W.cell? ⟨g, j, none⟩ = some (.int .i64 (l.getD j 0)) := by rw [h.cell, valsL_get l hj]
theorem CellsAt.setRow {W : World} {g : Nat} {t : TypeId} {cs : Array Value} (h : CellsAt W g t cs) (cs' : Array Value) : CellsAt (W.setRow g cs') g t cs' := setRow_heap W g cs cs' t _ h
theorem CellsAt.otherRow {W : World} {g k : Nat} {t : TypeId} {cs : Array Value} (h : CellsAt W g t cs) (hk : g ≠ k) (cs' : Array Value) : CellsAt (W.setRow k cs') g t cs := (setRow_other W k g cs' hk).trans h
theorem below_setRow {B : Nat} {w W : World} (h : Below B w W) {g : Nat} (hg : B ≤ g) (cs : Array Value) : Below B w (W.setRow g cs) := h.trans ⟨rfl, rfl, rfl, by simp, fun k hk => setRow_other W g k cs (by omega)⟩
/-- The whole of it, as the walk asks. -/
theorem CellsAt.load {P : Program} {W : World} {g : Nat} {t : TypeId} {cs : Array Value} (h : CellsAt W g t cs) {n : Nat} (hn : cs.size = n) : (loadCellsFrom ⟨g, 0, none⟩ 0 n #[]).run P W = .ok cs W := by
  subst hn
  have := run_loadCells_list (P := P) W ⟨g, 0, none⟩ cs.toList (fun j v hv => by
    have hadd : (⟨g, 0, none⟩ : Addr).add j = ⟨g, j, none⟩ := by unfold Addr.add; split <;> simp_all
    rw [hadd, h.cell j]
    simpa using hv)
  simpa [loadCells] using this
theorem CellsAt.store {P : Program} {W : World} {g : Nat} {t ty : TypeId} {cs : Array Value} (h : CellsAt W g t cs) (cs' : Array Value) (hi : (P.info? ty).map (·.size) = some cs'.size) (ho : cs.size = cs'.size) (h1 : cs'.all (·.oneCell') = true) : (storeCells ⟨g, 0, none⟩ cs'.toList 0).run P W = .ok () (W.setRow g cs') := by
  have := run_storeVar_row (P := P) W g t ty cs cs' h hi ho h1
  cases hq : P.info? ty with
  | none => simp [hq] at hi
  | some i =>
    have hs : cs'.size = i.size := by simp [hq] at hi; omega
    simpa [storeVar, sizeOf, typeInfo, hq, Value.cells, hs] using this
theorem valsL_one (l : List Int) : (valsL l).all (·.oneCell') = true := by
  rw [Array.all_eq_true_iff_forall_mem]
  intro v hv
  simp [valsL] at hv
  obtain ⟨x, _, rfl⟩ := hv
  rfl
/-- Cells written one behind the other. -/
def setAll (W : World) (g : Nat) : List Value → Nat → World
  | [], _ => W
  | v :: vs, i => setAll (W.setCell ⟨g, i, none⟩ v) g vs (i + 1)
def setVals (cs : Array Value) : List Value → Nat → Array Value
  | [], _ => cs
  | v :: vs, i => setVals (cs.setIfInBounds i v) vs (i + 1)
theorem setVals_size : ∀ (vs : List Value) (cs : Array Value) (i : Nat), (setVals cs vs i).size = cs.size
  | [], _, _ => rfl
  | v :: vs, cs, i => by rw [setVals, setVals_size vs]; simp
theorem setVals_get : ∀ (vs : List Value) (cs : Array Value) (i j : Nat), j < cs.size → (setVals cs vs i)[j]? = if i ≤ j ∧ j < i + vs.length then vs[j - i]? else cs[j]?
  | [], cs, i, j, hj => by rw [setVals, if_neg (by simp only [List.length_nil]; omega)]
  | v :: vs, cs, i, j, hj => by
    rw [setVals, setVals_get vs _ _ _ (by simpa using hj)]
    simp only [List.length_cons]
    by_cases h1 : i + 1 ≤ j ∧ j < i + 1 + vs.length
    · rw [if_pos h1, if_pos (by omega), show j - i = (j - (i + 1)) + 1 by omega, List.getElem?_cons_succ]
    · rw [if_neg h1]
      by_cases h2 : j = i
      · subst h2; rw [if_pos (by omega), Nat.sub_self, List.getElem?_cons_zero, Array.getElem?_setIfInBounds_self_of_lt hj]
      · rw [if_neg (by omega), Array.getElem?_setIfInBounds_ne (by omega)]
theorem CellsAt.setAll {g : Nat} {t : TypeId} : ∀ (vs : List Value) {W : World} {cs : Array Value} (i : Nat), CellsAt W g t cs → CellsAt (setAll W g vs i) g t (setVals cs vs i)
  | [], _, _, _, h => h
  | v :: vs, _, _, i, h => CellsAt.setAll vs (i + 1) (h.set i v)
theorem CellsAt.otherAll {g k : Nat} {t : TypeId} (hk : g ≠ k) {cs : Array Value} : ∀ (vs : List Value) {W : World} (i : Nat), CellsAt W g t cs → CellsAt (Go.Proofs.Ytppfbfiigfjncaa.setAll W k vs i) g t cs
  | [], _, _, h => h
  | v :: vs, _, i, h => CellsAt.otherAll hk vs (i + 1) (h.other ⟨k, i, none⟩ hk v)
theorem below_setAll {B : Nat} {w : World} {g : Nat} (hg : B ≤ g) : ∀ (vs : List Value) {W : World} (i : Nat), Below B w W → Below B w (setAll W g vs i)
  | [], _, _, h => h
  | v :: vs, _, i, h => below_setAll hg vs (i + 1) (h.setCell (p := ⟨g, i, none⟩) hg v)
theorem setVals_whole (cs : Array Value) (l : List Int) (h : cs.size = l.length) : setVals cs (l.map (Value.int .i64)) 0 = valsL l := by
  apply Array.ext_getElem?
  intro j
  by_cases hj : j < cs.size
  · rw [setVals_get _ _ _ _ hj, if_pos (by simp; omega), Nat.sub_zero]
    simp [valsL]
  · rw [Array.getElem?_eq_none (by rw [setVals_size]; omega), Array.getElem?_eq_none (by rw [valsL_size]; omega)]
theorem twelve {L : List Int} (h : L.length = 12) : ∃ x0 x1 x2 x3 x4 x5 x6 x7 x8 x9 x10 x11, L = [x0, x1, x2, x3, x4, x5, x6, x7, x8, x9, x10, x11] := by
  match L, h with
  | [x0, x1, x2, x3, x4, x5, x6, x7, x8, x9, x10, x11], _ => exact ⟨x0, x1, x2, x3, x4, x5, x6, x7, x8, x9, x10, x11, rfl⟩
end Go.Proofs.Ytppfbfiigfjncaa
