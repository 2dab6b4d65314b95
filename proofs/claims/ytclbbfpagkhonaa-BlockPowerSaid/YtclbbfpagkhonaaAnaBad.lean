/- block.Analyse and Synth where they refuse. -/
import Derived.Test.YtclbbfpagkhonaaAnalyse
set_option linter.unusedVariables false
namespace Go.Proofs.Ytclbbfpagkhonaa
open Go.ChangeShapes Go.WideShapes Go.ChangeAt Go.RowKit
attribute [local go_sem] Oper.semAt_some
set_option maxRecDepth 100000 in
set_option maxHeartbeats 4000000 in
theorem ana_bad (seq was shape E : Int) (n c : Nat) (p : Option Addr) (w : World) (hE : E ≠ 0)
    (hA : ∀ W, Below w.heap.size w W → Calls Try.prog 22 #[.int .u8 seq, .int .u8 was, .int .u8 shape, .slice p n c, .int .i64 512, .int .i64 (-32768), .int .i64 32767] W (RAsked E W)) :
    Calls Try.prog 11 #[.int .u8 seq, .int .u8 was, .int .u8 shape, .slice p n c] w (RRowE ([], E) w) := by
  unfold RAsked at hA
  have HAS := Lib.hid hA
  have d1 : (E == 0) = false := beq_eq_false_iff_ne.2 hE
  have d2 : (E != 0) = true := by simp [bne, d1]
  clear hA
  refine (callsIn_wide (n := 3)).1 ?_
  refine callsIn_of_wp Try.func11 rfl trivial ?_ rfl
  simp only [Try.ntmps11, List.size_toArray, List.length_cons, List.length_nil, Nat.reduceAdd, Nat.reduceSub, Array.replicate_succ, Array.replicate_zero, List.push_toArray, List.append_toArray, List.nil_append, List.cons_append]
  gi_wp2_with fail
  have hB0 : Below w.heap.size w (((w.alloc (.cells #[.slice p n c] 23)).alloc (.cells #[.slice none 0 0] 23)).alloc (.cells #[.int .i64 0] 24)) := (((Below.refl _ w).alloc (Nat.le_refl _) _).alloc (by simp) _).alloc (by simp; omega) _
  refine ⟨trivial, ?_⟩
  refine (callsIn_wide.2 (HAS.out _ hB0)).mono ?_
  rintro e w1 ⟨rfl, hw⟩
  rw [← hw]
  clear hw w1
  obtain ⟨W0, hW0⟩ : ∃ W0, (((w.alloc (.cells #[.slice p n c] 23)).alloc (.cells #[.slice none 0 0] 23)).alloc (.cells #[.int .i64 0] 24)) = W0 := ⟨_, rfl⟩
  have b8 : Boxed W0 (w.heap.size + 1) 23 (.slice none 0 0) := by rw [← hW0]; exact (box_new _ _ _ (by simp)).alloc _
  have b9 : Boxed W0 (w.heap.size + 2) 24 (.int .i64 0) := by rw [← hW0]; exact box_new _ _ _ (by simp)
  rw [hW0] at hB0 ⊢
  clear hW0
  have hc8 := b8.cell
  have hf8 := b8.frozen
  have hc9 := b9.cell
  have hf9 := b9.frozen
  gi_wp2
  have q8 := ((b8.set (.slice none 0 0)).other (B' := w.heap.size + 1 + 1) (by omega) (.int .i64 E)).cell
  have q9 := ((b9.other (B' := w.heap.size + 1) (by omega) (.slice none 0 0)).set (.int .i64 E)).cell
  refine bodyPost_ret (v := .tuple #[.slice none 0 0, .int .i64 E]) ?_ rfl ?_
  · simp [results, Try.f11, go_sem, q8, q9]
  · exact ⟨_, rfl, World.ownsRow_nil _ _ _ _, (hB0.setCell (p := ⟨w.heap.size + 1, 0, none⟩) (by show _ ≤ w.heap.size + 1; omega) _).setCell (p := ⟨w.heap.size + 1 + 1, 0, none⟩) (by show _ ≤ w.heap.size + 1 + 1; omega) _⟩
set_option maxRecDepth 100000 in
set_option maxHeartbeats 4000000 in
theorem syn_bad (seq was shape E : Int) (n c : Nat) (p : Option Addr) (w : World) (hE : E ≠ 0)
    (hA : ∀ W, Below w.heap.size w W → Calls Try.prog 22 #[.int .u8 seq, .int .u8 was, .int .u8 shape, .slice p n c, .int .i64 256, .int .i64 (-268435455), .int .i64 268435455] W (RAsked E W)) :
    Calls Try.prog 10 #[.int .u8 seq, .int .u8 was, .int .u8 shape, .slice p n c] w (RRowE ([], E) w) := by
  unfold RAsked at hA
  have HAS := Lib.hid hA
  have d1 : (E == 0) = false := beq_eq_false_iff_ne.2 hE
  have d2 : (E != 0) = true := by simp [bne, d1]
  clear hA
  refine (callsIn_wide (n := 3)).1 ?_
  refine callsIn_of_wp Try.func10 rfl trivial ?_ rfl
  simp only [Try.ntmps10, List.size_toArray, List.length_cons, List.length_nil, Nat.reduceAdd, Nat.reduceSub, Array.replicate_succ, Array.replicate_zero, List.push_toArray, List.append_toArray, List.nil_append, List.cons_append]
  gi_wp2_with fail
  have hB0 : Below w.heap.size w (((w.alloc (.cells #[.slice p n c] 23)).alloc (.cells #[.slice none 0 0] 23)).alloc (.cells #[.int .i64 0] 24)) := (((Below.refl _ w).alloc (Nat.le_refl _) _).alloc (by simp) _).alloc (by simp; omega) _
  refine ⟨trivial, ?_⟩
  refine (callsIn_wide.2 (HAS.out _ hB0)).mono ?_
  rintro e w1 ⟨rfl, hw⟩
  rw [← hw]
  clear hw w1
  obtain ⟨W0, hW0⟩ : ∃ W0, (((w.alloc (.cells #[.slice p n c] 23)).alloc (.cells #[.slice none 0 0] 23)).alloc (.cells #[.int .i64 0] 24)) = W0 := ⟨_, rfl⟩
  have b8 : Boxed W0 (w.heap.size + 1) 23 (.slice none 0 0) := by rw [← hW0]; exact (box_new _ _ _ (by simp)).alloc _
  have b9 : Boxed W0 (w.heap.size + 2) 24 (.int .i64 0) := by rw [← hW0]; exact box_new _ _ _ (by simp)
  rw [hW0] at hB0 ⊢
  clear hW0
  have hc8 := b8.cell
  have hf8 := b8.frozen
  have hc9 := b9.cell
  have hf9 := b9.frozen
  gi_wp2
  have q8 := ((b8.set (.slice none 0 0)).other (B' := w.heap.size + 1 + 1) (by omega) (.int .i64 E)).cell
  have q9 := ((b9.other (B' := w.heap.size + 1) (by omega) (.slice none 0 0)).set (.int .i64 E)).cell
  refine bodyPost_ret (v := .tuple #[.slice none 0 0, .int .i64 E]) ?_ rfl ?_
  · simp [results, Try.f10, go_sem, q8, q9]
  · exact ⟨_, rfl, World.ownsRow_nil _ _ _ _, (hB0.setCell (p := ⟨w.heap.size + 1, 0, none⟩) (by show _ ≤ w.heap.size + 1; omega) _).setCell (p := ⟨w.heap.size + 1 + 1, 0, none⟩) (by show _ ≤ w.heap.size + 1 + 1; omega) _⟩
end Go.Proofs.Ytclbbfpagkhonaa
