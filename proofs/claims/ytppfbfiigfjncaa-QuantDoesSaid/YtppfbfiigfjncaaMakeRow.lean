/- A row that is made. -/
import Derived.Test.YtppfbfiigfjncaaGP
set_option linter.unusedVariables false
namespace Go.Proofs.Ytppfbfiigfjncaa
open Go.ChangeShapes Go.WideShapes Go.ChangeAt Go.RowKit
theorem make_row {w : World} {ops : Array Oper} {rest : List Oper} {o : Oper} {a : Act} {Q : Exit → Act → World → Prop} (hgd : o.guard = none) (l c : Operand)
    (ho : o.op = Op.makeSlice 22 l c) (m : Nat) (hm : m ≤ 4096) (hl : a.eval l = .int .i64 m) (hc : a.eval c = .int .i64 m)
    (h : ∀ w', w.heap.size < w'.heap.size → w'.ownsRow w.heap.size 3 1 (.slice (some ⟨w.heap.size, 0, none⟩) m m) m (List.replicate m (.int .i64 0)) → Below w.heap.size w w' → wpList Try.prog ops Q rest (a.put o.dst (.slice (some ⟨w.heap.size, 0, none⟩) m m)) w') : wpList Try.prog ops Q (o :: rest) a w := by
  obtain ⟨i0, hi, hz0, hz1, hz2⟩ := info_parts Try.infoInt
  refine wpList_make_full _ hgd l c 22 ho w.heap.size 3 i0 (.int .i64 0) 1 Try.underlying22 hi hz0 hz1 .i64 .i64 _ _ m hl hc ?hL ?hC ?b2 ?b3 ?b4 ?_
  case hL => rfl
  case hC => rfl
  case b2 => rw [hz2]; omega
  case b3 => unfold maxLen; omega
  case b4 => exact Nat.le_refl _
  intro w' r1 r2
  have e := toList_madeCells_one (.int .i64 0) m
  have r1' : w'.ownsRow w.heap.size 3 1 (.slice (some ⟨w.heap.size, 0, none⟩) m m) m (List.replicate m (.int .i64 0)) := by rw [← e]; rw [Nat.mul_one] at r1; exact r1
  exact h w' (r1'.lt _ rfl).2 r1' ((Below.refl _ _).grown r2 (Nat.le_refl _) (fun _ e => by cases e))
end Go.Proofs.Ytppfbfiigfjncaa
