/- A row of no filters, made. -/
import Derived.Test.YteijlbblmdclaaaTnsConcat
import Derived.Test.YteijlbblmdclaaaMakeRow
import Derived.Test.YteijlbblmdclaaaTnsApartP
set_option linter.unusedVariables false
namespace Go.Proofs.Yteijlbblmdclaaa
open Go.ChangeShapes Go.WideShapes Go.ChangeAt Go.RowKit
theorem Try.infoSl : (Try.prog.info? 39).map (fun i => (i.zero, i.size, i.bytes)) = some (some (.slice none 0 0), 1, 24) := by kernel_rfl
theorem make_bank {w : World} {ops : Array Oper} {rest : List Oper} {o : Oper} {a : Act} {Q : Exit → Act → World → Prop} (hgd : o.guard = none) (l c : Operand)
    (ho : o.op = Op.makeSlice 34 l c) (m : Nat) (hm : m ≤ 4096) (hl : a.eval l = .int .i64 m) (hc : a.eval c = .int .i64 m)
    (h : ∀ w', w.heap.size < w'.heap.size → w'.ownsRow w.heap.size 39 1 (.slice (some ⟨w.heap.size, 0, none⟩) m m) m (List.replicate m (.slice none 0 0)) → Below w.heap.size w w' → wpList Try.prog ops Q rest (a.put o.dst (.slice (some ⟨w.heap.size, 0, none⟩) m m)) w') : wpList Try.prog ops Q (o :: rest) a w := by
  obtain ⟨i0, hi, hz0, hz1, hz2⟩ := info_parts Try.infoSl
  refine wpList_make_full _ hgd l c 34 ho w.heap.size 39 i0 (.slice none 0 0) 1 Try.underlying34 hi hz0 hz1 .i64 .i64 _ _ m hl hc ?hL ?hC ?b2 ?b3 ?b4 ?_
  case hL => rfl
  case hC => rfl
  case b2 => rw [hz2]; omega
  case b3 => unfold maxLen; omega
  case b4 => exact Nat.le_refl _
  intro w' r1 r2
  have e := toList_madeCells_one (.slice none 0 0) m
  have r1' : w'.ownsRow w.heap.size 39 1 (.slice (some ⟨w.heap.size, 0, none⟩) m m) m (List.replicate m (.slice none 0 0)) := by rw [← e]; rw [Nat.mul_one] at r1; exact r1
  exact h w' (r1'.lt _ rfl).2 r1' ((Below.refl _ _).grown r2 (Nat.le_refl _) (fun _ e => by cases e))
theorem alone_bank {W : World} {base g c : Nat} {B : List BV} {W0 : Nat} {v : BV} (hW : W0 < B.length) (hv : B.getD W0 default = v) (hO : W.ownsRow base 39 1 (.slice (some ⟨g, 0, none⟩) B.length c) B.length ((List.replicate B.length (.slice none 0 0)).set W0 (.slice v.q v.fs.length v.c))) (hf : IsFilts W v.q v.fs) (ho : FsOk W v.fs) : IsBank W (some ⟨g, 0, none⟩) (aloneB B W0) := by
  refine ⟨.inr ⟨g, 0, rfl, (hO.lt g rfl).2, fun j hj => ?_⟩, fun j hj => ?_⟩
  · rw [alone_len] at hj
    rw [Nat.zero_add, hO.cellAt j (by omega), alone_get B hj]
    by_cases e : j = W0
    · subst e
      rw [if_pos rfl, hv, List.getElem?_set_self (by rw [List.length_replicate]; exact hj)]
    · rw [if_neg e, List.getElem?_set_ne (fun h => e h.symm), List.getElem?_replicate, if_pos hj]
      rfl
  · rw [alone_len] at hj
    rw [alone_get B hj]
    by_cases e : j = W0
    · rw [if_pos e, hv]; exact ⟨hf, ho⟩
    · rw [if_neg e]; exact ⟨.inl rfl, fun i hi => by simp [show (default : BV).fs = [] from rfl] at hi⟩
theorem alone_nil {B : List BV} {W0 : Nat} (hW : W0 < B.length) (h : ∀ j, j < B.length → (B.getD j default).q = none → (B.getD j default).fs = [] ∧ (B.getD j default).c = 0) : ∀ j, j < (aloneB B W0).length → ((aloneB B W0).getD j default).q = none → ((aloneB B W0).getD j default).fs = [] ∧ ((aloneB B W0).getD j default).c = 0 := by
  intro j hj
  rw [alone_len] at hj
  rw [alone_get B hj]
  by_cases e : j = W0
  · rw [if_pos e]; exact h W0 hW
  · rw [if_neg e]; exact fun _ => ⟨rfl, rfl⟩
end Go.Proofs.Yteijlbblmdclaaa
