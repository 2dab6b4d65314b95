/- Slices of integers that came in; a copy of one. -/
import Derived.Test.YteijlbblmdclaaaKeep
import Derived.Laws.AppendOwn
import Derived.Laws.AppendOwnNone
set_option linter.unusedVariables false
set_option linter.unusedSimpArgs false
namespace Go.Proofs.Yteijlbblmdclaaa
open Go.ChangeShapes Go.WideShapes Go.ChangeAt Go.RowKit

theorem block_lt {w : World} {a : Addr} {v : Value} (h : w.cell? a = some v) : a.block < w.heap.size := by
  unfold World.cell? at h
  cases hb : w.heap[a.block]? with
  | none => rw [hb] at h; simp at h
  | some o => exact (Array.getElem?_eq_some_iff.1 hb).1
/-- A slice of integers that came in. -/
def IsArg (w : World) (p : Option Addr) (c : Nat) (l : List Int) : Prop := IsInts w p l ∧ (p = none → c = 0 ∧ l = []) ∧ l.length ≤ maxLen ∧ ∀ n ∈ l, -9223372036854775808 ≤ n ∧ n ≤ 9223372036854775807
theorem arg_of {w : World} {a : Option Addr} {len cap : Nat} {zs : List Int}
    (h : (a = none ∧ len = 0 ∧ cap = 0 ∧ zs = []) ∨ ∃ x, a = some x ∧ len ≤ cap ∧ cap ≤ maxLen ∧ zs.length = cap ∧ (∀ i, i < zs.length → w.cell? (x.add i) = some (.int .i64 (zs.getD i 0))) ∧ ∀ n ∈ zs, (Lit.int .i64 n).wf = true) :
    ∃ l : List Int, l.length = len ∧ IsArg w a cap l := by
  rcases h with ⟨rfl, rfl, rfl, rfl⟩ | ⟨x, rfl, hl, hm, hz, hcell, hwz⟩
  · exact ⟨[], rfl, .inl rfl, (fun _ => ⟨rfl, rfl⟩), (by simp), (fun _ h => by cases h)⟩
  · have hlen : (zs.take len).length = len := by simp; omega
    refine ⟨zs.take len, hlen, ?_, (fun h => by cases h), (by rw [hlen]; omega), (fun n hn => ?_)⟩
    · rcases Nat.eq_zero_or_pos len with h0 | h0
      · exact .inl (by simp [h0])
      · have h1 := hcell 0 (by omega)
        have hs := World.cell?_spot h1
        obtain ⟨b, off, spot⟩ := x
        have hspot : spot = none := by simpa [Addr.add] using hs
        subst hspot
        have hb := block_lt h1
        refine .inr ⟨b, off, rfl, by simpa [Addr.add] using hb, fun j hj => ?_⟩
        have h2 := hcell j (by rw [hlen] at hj; omega)
        rw [Addr.add_lit] at h2
        rw [h2]
        simp [List.getD_eq_getElem?_getD, List.getElem?_take, show j < len by rw [hlen] at hj; exact hj]
    · have := bounds_i64 (hwz n (List.mem_of_mem_take hn))
      omega
theorem IsArg.keep {w w' : World} {p : Option Addr} {c : Nat} {l : List Int} (h : IsArg w p c l) (hb : Below w.heap.size w w') : IsArg w' p c l := ⟨h.1.keep hb, h.2⟩
theorem IsArg.drewN {w : World} {p : Option Addr} {c : Nat} {l : List Int} (h : IsArg w p c l) (n : Nat) : IsArg (w.drewN n) p c l := h
/-- Integers that came in are put behind a row of the call's own. -/
theorem append_ints {w : World} {ops : Array Oper} {rest : List Oper} {o : Oper} {a : Act} {Q : Exit → Act → World → Prop} (hgd : o.guard = none) (s x : Operand)
    (ho : o.op = .call { callee := .builtin .append, args := #[s, x], argTypes := #[22, 22] }) (base : Nat)
    (v : Value) (n : Nat) (xs : List Value) (hs : a.eval s = v) (hown : w.ownsRow base 3 1 v n xs)
    (p : Option Addr) (c : Nat) (l : List Int) (hx : a.eval x = .slice p l.length c) (hI : IsArg w p c l) (h63 : n + l.length ≤ maxLen) (hbytes : (n + l.length) * 8 ≤ 140737488355328) (hbase : base ≤ w.heap.size)
    (h : ∀ v' w', w'.ownsRow base 3 1 v' (n + l.length) (xs ++ l.map (Value.int .i64)) → w.grownBy w' v.ownBlock → wpList Try.prog ops Q rest (a.put o.dst v') w') : wpList Try.prog ops Q (o :: rest) a w := by
  obtain ⟨i0, hi, hz0, hz1, hz2⟩ := info_parts Try.infoInt
  cases p with
  | none =>
    obtain ⟨rfl, rfl⟩ := hI.2.1 rfl
    refine wpList_append_own_none hgd s x _ ho base 3 i0 1 Try.underlying22 hi v n xs hs hown hx ?_
    exact h v w (by simpa using hown) (World.grownBy.refl w _)
  | some ad =>
    refine wpList_append_own w hgd s x _ ho base 3 i0 (.int .i64 0) 1 8 Try.underlying22 hi hz0 hz1 hz2 rfl (by decide) v n xs hs hown ad l.length c (l.map (Value.int .i64)) hx (by simp) ?_ (by simp [Value.oneCell']) h63 hbytes hbase (fun v' w' h1 h2 _ => h v' w' h1 h2)
    intro j u hu
    have hj : j < l.length := by
      rcases Nat.lt_or_ge j l.length with h | h
      · exact h
      · rw [List.getElem?_eq_none (by simp; omega)] at hu; cases hu
    obtain ⟨b, off, hp, _, hc⟩ := hI.1.at hj
    obtain rfl : ad = ⟨b, off, none⟩ := by simpa using hp
    rw [Addr.add_lit, hc j hj, ← hu]
    simp [List.getD_eq_getElem?_getD, hj]
end Go.Proofs.Yteijlbblmdclaaa
