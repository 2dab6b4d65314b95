/- append(nil, x...) as a step of a region that draws its order. -/
import Derived.Test.YtcmbbmilldhnnaaG1
import Derived.Laws.OwnMore
import Derived.Deep.RegionLaw
set_option linter.unusedVariables false
set_option linter.unusedSimpArgs false
namespace Go.Proofs.Ytcmbbmilldhnnaa
open Go.ChangeShapes Go.WideShapes Go.ChangeAt Go.RowKit
theorem grown_below0 {w w' : World} {v : Value} {base n : Nat} {e : TypeId} {xs : List Value} (hg : w.grownBy w' v.ownBlock) (ho : w.ownsRow base e 1 v n xs) (hb : base ≤ w.heap.size) : Below base w w' :=
  (Below.refl base w).grown hg hb (fun j hj => (ho.lt j hj).1)
theorem step_append_arg {w : World} {ops : Array Oper} {o : Oper} {a : Act} {K : Act → World → Prop} {Q : Exit → Act → World → Prop} {E : Prop} (hgd : o.guard = none) (s x : Operand)
    (ho : o.op = .call { callee := .builtin .append, args := #[s, x], argTypes := #[22, 22] })
    (hs : a.eval s = .slice none 0 0) (p : Option Addr) (c : Nat) (l : List Int) (hx : a.eval x = .slice p l.length c) (hI : IsArg w p c l) (hl : l.length ≤ 4096)
    (hK : ∀ v' w', w'.ownsRow w.heap.size 3 1 v' l.length (l.map (Value.int .i64)) → Below w.heap.size w w' → K (a.put o.dst v') w') :
    if Region.wanted o (yielded ops a.tmps) = true then Oper.wp Try.prog o a w K Q else E := by
  have hw : Region.wanted o (yielded ops a.tmps) = true := by simp [Region.wanted, hgd]
  rw [if_pos hw]
  obtain ⟨i0, hi, hz0, hz1, hz2⟩ := info_parts Try.infoInt
  have hown := World.ownsRow_nil w w.heap.size 3 1
  cases p with
  | none =>
    obtain ⟨rfl, rfl⟩ := hI.2.1 rfl
    have hrun := run_append_owned_none (P := Try.prog) (w := w) w.heap.size 22 o.type 3 i0 1 Try.underlying22 hi (.slice none 0 0) 0 [] hown
    unfold Oper.wp
    have hx' : a.eval x = .slice none 0 0 := hx
    simp [execOp, ho, resolve, invoke, builtin, hs, hx', hrun, Result.andThen]
    exact hK _ _ hown (Below.refl _ _)
  | some ad =>
    refine wp_append_own w s x 22 ho w.heap.size 3 i0 (.int .i64 0) 1 8 Try.underlying22 hi hz0 hz1 hz2 rfl (by decide) (.slice none 0 0) 0 [] hs hown ad l.length c (l.map (Value.int .i64)) hx (by simp) ?_ (by simp [Value.oneCell']) (by unfold maxLen; omega) (by omega) (Nat.le_refl _) (fun v' w' h1 h2 _ => hK v' w' (by simpa using h1) (grown_below0 h2 hown (Nat.le_refl _)))
    intro j u hu
    have hj : j < l.length := by
      rcases Nat.lt_or_ge j l.length with h | h
      · exact h
      · rw [List.getElem?_eq_none (by simp; omega)] at hu; cases hu
    obtain ⟨b, off, hp, _, hc⟩ := hI.1.at hj
    obtain rfl : ad = ⟨b, off, none⟩ := by simpa using hp
    rw [Addr.add_lit, hc j hj, ← hu]
    simp [List.getD_eq_getElem?_getD, hj]
end Go.Proofs.Ytcmbbmilldhnnaa
