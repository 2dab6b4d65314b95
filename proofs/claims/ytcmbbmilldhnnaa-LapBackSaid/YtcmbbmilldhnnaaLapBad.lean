/- lap.Next where it refuses; at whatever arguments. -/
import Derived.Test.YtcmbbmilldhnnaaLapNext
set_option linter.unusedVariables false
namespace Go.Proofs.Ytcmbbmilldhnnaa
open Go.ChangeShapes Go.WideShapes Go.ChangeAt Go.RowKit
attribute [local go_sem] Oper.semAt_some
set_option maxRecDepth 100000 in
set_option maxHeartbeats 4000000 in
theorem next_bad1 (ls lsh seq shape : Int) (n c m d : Nat) (p q : Option Addr) (w : World)
    (hA : ∀ W, Below w.heap.size w W → Calls Try.prog 13 #[.agg #[.slice p n c, .int .u8 ls, .int .u8 lsh]] W (RCheck 8 W)) :
    Calls Try.prog 9 #[.agg #[.slice p n c, .int .u8 ls, .int .u8 lsh], .int .u8 seq, .int .u8 shape, .slice q m d] w (RNext (([], 0, 0), [], 8) w) := by
  unfold RCheck at hA
  have HCK := Lib.hid hA
  clear hA
  have C0 := Box3.new w 24 (.slice p n c) (.int .u8 ls) (.int .u8 lsh) rfl
  obtain ⟨W0, hW0⟩ : ∃ W0, ((w.alloc (.cells #[.slice p n c, .int .u8 ls, .int .u8 lsh] 24)).alloc (.cells #[.slice none 0 0, .int .u8 0, .int .u8 0] 24)).alloc (.cells #[.slice none 0 0] 22) = W0 := ⟨_, rfl⟩
  have hsz0 : W0.heap.size = w.heap.size + 3 := by rw [← hW0]; simp
  have hB0 : Below w.heap.size w W0 := by rw [← hW0]; exact (((Below.refl _ w).alloc (Nat.le_refl _) _).alloc (by simp) _).alloc (by simp; omega) _
  have x4 : Box3 W0 w.heap.size 24 (.slice p n c) (.int .u8 ls) (.int .u8 lsh) := by rw [← hW0]; exact (C0.alloc _).alloc _
  have x8 : Box3 W0 (w.heap.size + 1) 24 (.slice none 0 0) (.int .u8 0) (.int .u8 0) := by rw [← hW0]; exact (Box3.new _ _ _ _ _ (by simp)).alloc _
  have x9 : Boxed W0 (w.heap.size + 2) 22 (.slice none 0 0) := by rw [← hW0]; exact box_new _ _ _ (by simp)
  have j0 := x4.cell0
  have j1 := x4.cell1
  have j2 := x4.cell2
  clear C0
  refine (callsIn_wide (n := 3)).1 ?_
  refine callsIn_of_wp Try.func9 rfl trivial ?_ rfl
  simp only [Try.ntmps9, List.size_toArray, List.length_cons, List.length_nil, Nat.reduceAdd, Nat.reduceSub, Array.replicate_succ, Array.replicate_zero, List.push_toArray, List.append_toArray, List.nil_append, List.cons_append]
  gi_wp2_with fail
  refine ⟨trivial, ?_⟩
  refine (callsIn_wide.2 (HCK.out _ hB0)).mono ?_
  rintro e w1 ⟨rfl, hB1⟩
  have y8 := x8.keep hB1 x8.lt
  have y9 : Boxed w1 (w.heap.size + 2) 22 (.slice none 0 0) := (hB1.block _ x9.lt).trans x9
  have hB01 := hB0.trans (hB1.mono (by omega))
  clear j0 j1 j2 hW0 HCK hB1 x4 x8 x9 hB0
  have q0 := y8.cell0
  have q1 := y8.cell1
  have q2 := y8.cell2
  have q9 := y9.cell
  gi_wp2
  refine bodyPost_ret (v := .tuple #[.agg #[.slice none 0 0, .int .u8 0, .int .u8 0], .slice none 0 0, .int .i64 8]) ?_ rfl ?_
  · simp [results, Try.f9, go_sem, q0, q1, q2, q9]
  · exact ⟨_, _, rfl, World.ownsRow_nil _ _ _ _, World.ownsRow_nil _ _ _ _, (fun g h => by simp [Value.ownBlock] at h), hB01⟩
set_option maxRecDepth 100000 in
set_option maxHeartbeats 4000000 in
theorem next_bad2 (ls lsh seq shape E : Int) (n c m d : Nat) (p q : Option Addr) (w : World) (hE : E ≠ 0)
    (hA : ∀ W, Below w.heap.size w W → Calls Try.prog 13 #[.agg #[.slice p n c, .int .u8 ls, .int .u8 lsh]] W (RCheck 0 W))
    (hS : ∀ W, Below w.heap.size w W → Calls Try.prog 19 #[.int .u8 seq, .int .u8 lsh, .int .u8 shape, .slice q m d] W (RRowE ([], E) W)) :
    Calls Try.prog 9 #[.agg #[.slice p n c, .int .u8 ls, .int .u8 lsh], .int .u8 seq, .int .u8 shape, .slice q m d] w (RNext (([], 0, 0), [], E) w) := by
  unfold RCheck at hA
  unfold RRowE at hS
  dsimp only at hS
  have HCK := Lib.hid hA
  have HSY := Lib.hid hS
  have d1 : (E == 0) = false := beq_eq_false_iff_ne.2 hE
  have d2 : (E != 0) = true := by simp [bne, d1]
  clear hA hS
  have C0 := Box3.new w 24 (.slice p n c) (.int .u8 ls) (.int .u8 lsh) rfl
  obtain ⟨W0, hW0⟩ : ∃ W0, ((w.alloc (.cells #[.slice p n c, .int .u8 ls, .int .u8 lsh] 24)).alloc (.cells #[.slice none 0 0, .int .u8 0, .int .u8 0] 24)).alloc (.cells #[.slice none 0 0] 22) = W0 := ⟨_, rfl⟩
  have hsz0 : W0.heap.size = w.heap.size + 3 := by rw [← hW0]; simp
  have hB0 : Below w.heap.size w W0 := by rw [← hW0]; exact (((Below.refl _ w).alloc (Nat.le_refl _) _).alloc (by simp) _).alloc (by simp; omega) _
  have x4 : Box3 W0 w.heap.size 24 (.slice p n c) (.int .u8 ls) (.int .u8 lsh) := by rw [← hW0]; exact (C0.alloc _).alloc _
  have x8 : Box3 W0 (w.heap.size + 1) 24 (.slice none 0 0) (.int .u8 0) (.int .u8 0) := by rw [← hW0]; exact (Box3.new _ _ _ _ _ (by simp)).alloc _
  have x9 : Boxed W0 (w.heap.size + 2) 22 (.slice none 0 0) := by rw [← hW0]; exact box_new _ _ _ (by simp)
  have j0 := x4.cell0
  have j1 := x4.cell1
  have j2 := x4.cell2
  clear C0
  refine (callsIn_wide (n := 3)).1 ?_
  refine callsIn_of_wp Try.func9 rfl trivial ?_ rfl
  simp only [Try.ntmps9, List.size_toArray, List.length_cons, List.length_nil, Nat.reduceAdd, Nat.reduceSub, Array.replicate_succ, Array.replicate_zero, List.push_toArray, List.append_toArray, List.nil_append, List.cons_append]
  gi_wp2_with fail
  refine ⟨trivial, ?_⟩
  refine (callsIn_wide.2 (HCK.out _ hB0)).mono ?_
  rintro e w1 ⟨rfl, hB1⟩
  have y4 := x4.keep hB1 x4.lt
  have y8 := x8.keep hB1 x8.lt
  have y9 : Boxed w1 (w.heap.size + 2) 22 (.slice none 0 0) := (hB1.block _ x9.lt).trans x9
  have hB01 := hB0.trans (hB1.mono (by omega))
  clear j0 j1 j2 hW0 HCK hB1 x4 x8 x9 hB0
  have j0 := y4.cell0
  have j1 := y4.cell1
  have j2 := y4.cell2
  gi_wp2_with fail
  refine ⟨trivial, ?_⟩
  refine (callsIn_wide.2 (HSY.out _ hB01)).mono ?_
  rintro e w2 ⟨v2, rfl, hO2, hB2⟩
  obtain ⟨p2, c2, rfl, _⟩ := owns_any hO2
  have z8 := y8.keep hB2 y8.lt
  have z9 : Boxed w2 (w.heap.size + 2) 22 (.slice none 0 0) := (hB2.block _ y9.lt).trans y9
  have hB02 := hB01.trans (hB2.mono hB01.size)
  clear j0 j1 j2 HSY hB2 y4 y8 y9 hB01 hO2
  have k0 := z8.cell0
  have k1 := z8.cell1
  have k2 := z8.cell2
  have k9 := z9.cell
  have f0 := z8.frozen 0
  have f1 := z8.frozen 1
  have f2 := z8.frozen 2
  have f9 := z9.frozen
  gi_wp2
  obtain ⟨W8, hW8⟩ : ∃ W8, (((w2.setCell ⟨w.heap.size + 1, 0, none⟩ (.slice none 0 0)).setCell ⟨w.heap.size + 1, 1, none⟩ (.int .u8 0)).setCell ⟨w.heap.size + 1, 2, none⟩ (.int .u8 0)).setCell ⟨w.heap.size + 1 + 1, 0, none⟩ (.slice none 0 0) = W8 := ⟨_, rfl⟩
  have f8 : Box3 W8 (w.heap.size + 1) 24 (.slice none 0 0) (.int .u8 0) (.int .u8 0) := by rw [← hW8]; exact (z8.all _ _ _).other _ (by show w.heap.size + 1 ≠ w.heap.size + 1 + 1; omega) _
  have f9 : Boxed W8 (w.heap.size + 2) 22 (.slice none 0 0) := by
    rw [← hW8]
    exact Boxed.set _ (boxed_off (boxed_off (boxed_off z9 _ (by show _ ≠ w.heap.size + 1; omega) _) _ (by show _ ≠ w.heap.size + 1; omega) _) _ (by show _ ≠ w.heap.size + 1; omega) _)
  have hB8 : Below w.heap.size w W8 := by
    rw [← hW8]
    exact (((hB02.setCell (p := ⟨w.heap.size + 1, 0, none⟩) (by show _ ≤ w.heap.size + 1; omega) _).setCell (p := ⟨w.heap.size + 1, 1, none⟩) (by show _ ≤ w.heap.size + 1; omega) _).setCell (p := ⟨w.heap.size + 1, 2, none⟩) (by show _ ≤ w.heap.size + 1; omega) _).setCell (p := ⟨w.heap.size + 1 + 1, 0, none⟩) (by show _ ≤ w.heap.size + 1 + 1; omega) _
  rw [hW8]
  have q0 := f8.cell0
  have q1 := f8.cell1
  have q2 := f8.cell2
  have q9 := f9.cell
  refine bodyPost_ret (v := .tuple #[.agg #[.slice none 0 0, .int .u8 0, .int .u8 0], .slice none 0 0, .int .i64 E]) ?_ rfl ?_
  · simp [results, Try.f9, go_sem, q0, q1, q2, q9]
  · exact ⟨_, _, rfl, World.ownsRow_nil _ _ _ _, World.ownsRow_nil _ _ _ _, (fun g h => by simp [Value.ownBlock] at h), hB8⟩
theorem next_any (l : List Int) (ls lsh seq shape : Int) (lines : List Int) (hs0 : 0 ≤ seq) (hsh0 : 0 ≤ lsh) (hsp0 : 0 ≤ shape) (hl1 : l.length ≤ 4611686018427387904) (hl2 : lines.length ≤ 4611686018427387904)
    (p q : Option Addr) (c d : Nat) (hc : l.length ≤ c) (hd : lines.length ≤ d) (w : World) (hI : IsInts w p l) (hJ : IsInts w q lines) :
    Calls Try.prog 9 #[.agg #[.slice p l.length c, .int .u8 ls, .int .u8 lsh], .int .u8 seq, .int .u8 shape, .slice q lines.length d] w (RNext (lapN l ls lsh seq shape lines) w) := by
  unfold lapN
  cases hm : mayB l ls lsh
  · rw [if_pos rfl]
    refine next_bad1 ls lsh seq shape l.length c lines.length d p q w (fun W hW => ?_)
    have := check_ok l p c ls lsh hl1 W (hI.keep hW)
    rw [hm] at this
    exact this
  · rw [if_neg (by simp)]
    by_cases hE : synE seq lsh shape lines ≠ 0
    · rw [if_pos hE]
      refine next_bad2 ls lsh seq shape _ l.length c lines.length d p q w hE (fun W hW => ?_) (fun W hW => ?_)
      · have := check_ok l p c ls lsh hl1 W (hI.keep hW)
        rw [hm] at this
        exact this
      · have := syn_any seq lsh shape hs0 hsh0 hsp0 lines (by omega) q d hd W (hJ.keep hW)
        unfold synN at this
        rw [if_neg hE] at this
        exact this
    · rw [if_neg hE]
      have hE' : synE seq lsh shape lines = 0 := by omega
      obtain ⟨h256, _⟩ := mayB_spec hm
      rw [h256] at hc ⊢
      exact next_ok l ls lsh seq shape lines hm hE' hs0 hsh0 hsp0 p q c d hc hd w hI hJ
end Go.Proofs.Ytcmbbmilldhnnaa
