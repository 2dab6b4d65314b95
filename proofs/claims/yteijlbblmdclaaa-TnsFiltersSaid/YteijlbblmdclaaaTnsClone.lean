/- slices.Clone of a row that has numbers. -/
import Derived.Test.YteijlbblmdclaaaArgs
import Derived.WalkSpells
set_option linter.unusedVariables false
set_option linter.unusedSimpArgs false
namespace Go.Proofs.Yteijlbblmdclaaa
open Go.ChangeShapes Go.WideShapes Go.ChangeAt Go.RowKit
set_option maxHeartbeats 1000000 in
theorem clone_row (l : List Int) (hl : 0 < l.length) (hl2 : l.length ≤ 4096) (b off c : Nat) (w : World) (hI : IsInts w (some ⟨b, off, none⟩) l) :
    Calls Try.prog 35 #[.slice (some ⟨b, off, none⟩) l.length c] w fun e w' => ∃ g' c', e = .returned (.slice (some ⟨g', 0, none⟩) l.length c') ∧ w.heap.size ≤ g' ∧ w'.ownsRow w.heap.size 3 1 (.slice (some ⟨g', 0, none⟩) l.length c') l.length (l.map (Value.int .i64)) ∧ Below w.heap.size w w' := by
  obtain ⟨i0, hi, hz0, hz1, hz2⟩ := info_parts Try.infoInt
  have hown : (w.alloc (.cells #[] 3)).ownsRow w.heap.size 3 1 (.slice (some ⟨w.heap.size, 0, none⟩) 0 0) 0 [] := World.ownsRow_made w #[] 0 (Nat.le_refl _) (by unfold maxLen; omega) (by simp)
  have hb : Below w.heap.size w (w.alloc (.cells #[] 3)) := (Below.refl _ w).alloc (Nat.le_refl _) _
  have HC := Lib.hid (show ∀ j u, (l.map (Value.int .i64))[j]? = some u → (w.alloc (.cells #[] 3)).cell? ((⟨b, off, none⟩ : Addr).add j) = some u from by
    intro j u hu
    have hj : j < l.length := by
      rcases Nat.lt_or_ge j l.length with h | h
      · exact h
      · rw [List.getElem?_eq_none (by simp; omega)] at hu; cases hu
    obtain ⟨b', off', hp, _, hc⟩ := (hI.keep hb).at hj
    obtain ⟨rfl, rfl⟩ : b = b' ∧ off = off' := by simpa using hp
    rw [Addr.add_lit, hc j hj, ← hu]
    simp [List.getD_eq_getElem?_getD, hj])
  have hl0 := Lib.hid hown.lt
  have q22 : ∀ (w : World) (a : Option Addr) (n c n' c' : Nat), (binOp .eql 22 (.slice a n c) (.slice none n' c')).run Try.prog w = .ok (.bool a.isNone) w := fun w a n c n' c' => Lib.run_eql_slice_nil w _ _ a n c n' c' Try.underlying22
  clear hI
  go_enter Try.func35, Try.ntmps35
  go_wp2_with (at_builtin; refine wpList_append_own _ rfl _ _ 22 rfl w.heap.size 3 i0 (.int .i64 0) 1 8 Try.underlying22 hi hz0 hz1 hz2 rfl (by decide) _ 0 [] rfl hown ⟨b, off, none⟩ l.length c (l.map (Value.int .i64)) rfl (by simp) HC.out (by simp [Value.oneCell']) (by unfold maxLen; omega) (by omega) hb.size ?_; intro v' w1 hO hg _)
  have hB : Below w.heap.size w w1 := hb.grown hg hb.size (fun j hj => (hl0.out j hj).1)
  rw [Nat.zero_add, List.nil_append] at hO
  obtain ⟨g', c', rfl, hg1, hg2⟩ := owns_shape hO hl
  have HO := Lib.hid hO
  clear hO hg hown
  go_wp2
  go_ret
  exact ⟨g', c', rfl, hg1, HO.out, hB⟩
end Go.Proofs.Yteijlbblmdclaaa
