/- A list of rows that grows. -/
import Derived.Test.YtppfbfiigfjncaaGP
import Derived.Deep.AppendLies
set_option linter.unusedVariables false
set_option linter.unusedSimpArgs false
namespace Go.Proofs.Ytppfbfiigfjncaa
open Go.ChangeShapes Go.WideShapes Go.ChangeAt Go.RowKit
theorem Try.infoRow : (Try.prog.info? 22).map (fun i => (i.zero, i.size, i.bytes)) = some (some (.slice none 0 0), 1, 24) := by kernel_rfl
def RV.val (r : RV) : Value := .slice r.q r.l.length r.c
theorem rv_one (r : RV) : ∀ u ∈ [r.val], u.oneCell' = true := by simp [RV.val, Value.oneCell']
/-- A row, in another block than that of the list. -/
def RowFar (w : World) (V : Value) (r : RV) : Prop := r.l = [] ∨ ∃ b off, r.q = some ⟨b, off, none⟩ ∧ b < w.heap.size ∧ V.ownBlock ≠ some b ∧ ∀ j, j < r.l.length → w.cell? ⟨b, off + j, none⟩ = some (.int .i64 (r.l.getD j 0))
structure RowsG (w : World) (base : Nat) (V : Value) (R : List RV) : Prop where
  own : w.ownsRow base 22 1 V R.length (R.map RV.val)
  far : ∀ j, j < R.length → RowFar w V (R.getD j default)
theorem RowFar.keep {w w' : World} {V : Value} {r : RV} (h : RowFar w V r) (hb : Below w.heap.size w w') : RowFar w' V r := by
  rcases h with h | ⟨b, off, hq, hlt, hn, hc⟩
  · exact .inl h
  · exact .inr ⟨b, off, hq, Nat.lt_of_lt_of_le hlt hb.size, hn, fun j hj => (hb.cell (p := ⟨b, _, none⟩) hlt).trans (hc j hj)⟩
theorem RowFar.ints {w : World} {V : Value} {r : RV} (h : RowFar w V r) : IsInts w r.q r.l := by
  rcases h with h | ⟨b, off, hq, hlt, _, hc⟩
  · exact .inl h
  · exact .inr ⟨b, off, hq, hlt, hc⟩
theorem owns_keepT {w w' : World} {base : Nat} {e : TypeId} {size : Nat} {v : Value} {n : Nat} {xs : List Value} (h : w.ownsRow base e size v n xs) (hb : Below w.heap.size w w') : w'.ownsRow base e size v n xs :=
  owns_keepB h hb (fun g e => (h.lt g e).2)
theorem RowsG.keep {w w' : World} {base : Nat} {V : Value} {R : List RV} (h : RowsG w base V R) (hb : Below w.heap.size w w') : RowsG w' base V R :=
  ⟨owns_keepT h.own hb, fun j hj => (h.far j hj).keep hb⟩
theorem RowsG.nil (w : World) (base : Nat) : RowsG w base (.slice none 0 0) [] := ⟨World.ownsRow_nil _ _ _ _, fun j hj => by simp at hj⟩
theorem RowsG.isRows {w : World} {base : Nat} {V : Value} {R : List RV} (h : RowsG w base V R) : ∃ q c, V = .slice q R.length c ∧ IsRows w q R := by
  have hr : ∀ j, j < R.length → IsInts w (R.getD j default).q (R.getD j default).l := fun j hj => (h.far j hj).ints
  rcases h.own.2 with ⟨hv, hn⟩ | ⟨g, cap, cur, hv, hg, hgg, rest⟩
  · have he : R = [] := List.eq_nil_of_length_eq_zero hn
    subst he
    exact ⟨none, 0, hv, .inl rfl, hr⟩
  · refine ⟨_, _, hv, .inr ⟨g, 0, rfl, ?_, fun j hj => ?_⟩, hr⟩
    · have := h.own.lt g (by rw [hv]; rfl)
      exact this.2
    · subst hv
      rw [Nat.zero_add, h.own.cellAt j (by omega)]
      simp [List.getD_eq_getElem?_getD, hj, RV.val]
theorem RowFar.of {wr : World} {B : Nat} {V : Value} {r : RV} (hV : ∀ g, V.ownBlock = some g → g < B) (hI : IntsB wr r.q r.l B wr.heap.size) : RowFar wr V r := by
  rcases hI.2 with h | ⟨b, off, hq, h1, h2, hc⟩
  · exact .inl h
  · exact .inr ⟨b, off, hq, h2, fun e => by have := hV b e; omega, hc⟩
theorem append_row {w : World} {ops : Array Oper} {rest : List Oper} {o : Oper} {a : Act} {Q : Exit → Act → World → Prop} (hgd : o.guard = none) (s x : Operand)
    (ho : o.op = .call { callee := .builtin .append, args := #[s, x], argTypes := #[28, 28] }) (base : Nat)
    (V : Value) (R : List RV) (hs : a.eval s = V) (hR : RowsG w base V R) (r : RV) (hr : RowFar w V r) (bx : Nat) (hx : a.eval x = .slice (some ⟨bx, 0, none⟩) 1 1)
    (hcell : w.cell? ⟨bx, 0, none⟩ = some r.val) (hn : R.length ≤ 1000) (hbase : base ≤ w.heap.size)
    (h : ∀ V' w', RowsG w' base V' (R ++ [r]) → Below base w w' → wpList Try.prog ops Q rest (a.put o.dst V') w') : wpList Try.prog ops Q (o :: rest) a w := by
  obtain ⟨i0, hi, hz0, hz1, hz2⟩ := info_parts Try.infoRow
  refine wpList_plain hgd fun _ hK => wp_append_lies w s x _ ho base 22 i0 (.slice none 0 0) 1 24 Try.underlying28 hi hz0 hz1 hz2 rfl (by decide) V R.length (R.map RV.val) hs hR.own ⟨bx, 0, none⟩ 1 1 [r.val] hx rfl ?_ (rv_one r) (by decide) (by unfold maxLen; omega) (by omega) hbase w.heap.size rfl ?_
  · intro j u hu
    have hj : j = 0 := by
      rcases Nat.eq_zero_or_pos j with h | h
      · exact h
      · rw [List.getElem?_eq_none (by simp; omega)] at hu; cases hu
    subst hj
    have : u = r.val := by simpa using hu.symm
    rw [this]
    simpa [Addr.add] using hcell
  · intro g cap w' hown hg hat hlt
    refine hK _ _ (h _ _ ⟨by simpa using hown, fun j hj => ?_⟩ ((Below.refl _ w).grown hg hbase (fun k hk => (hR.own.lt k hk).1)))
    have key : ∀ r : RV, RowFar w V r → RowFar w' (.slice (some ⟨g, 0, none⟩) (R.length + 1) cap) r := by
      intro r hr
      rcases hr with hr | ⟨b, off, hq, hlt, hne, hc⟩
      · exact .inl hr
      · refine .inr ⟨b, off, hq, Nat.lt_of_lt_of_le hlt hg.size, ?_, fun j hj => ?_⟩
        · intro e
          obtain rfl : g = b := by simpa [Value.ownBlock] using e
          rcases hat with hat | hat
          · exact hne hat
          · omega
        · rw [World.cell?_of_block (hg.block b hlt (fun e => hne e.symm))]
          exact hc j hj
    rw [List.length_append, List.length_singleton] at hj
    by_cases e : j < R.length
    · have : (R ++ [r]).getD j default = R.getD j default := by rw [List.getD_eq_getElem?_getD, List.getElem?_append_left e, ← List.getD_eq_getElem?_getD]
      rw [this]
      exact key _ (hR.far j e)
    · have hjR : j = R.length := by omega
      subst hjR
      have : (R ++ [r]).getD R.length default = r := by rw [List.getD_eq_getElem?_getD, List.getElem?_append_right (Nat.le_refl _)]; simp
      rw [this]
      exact key _ hr
end Go.Proofs.Ytppfbfiigfjncaa
