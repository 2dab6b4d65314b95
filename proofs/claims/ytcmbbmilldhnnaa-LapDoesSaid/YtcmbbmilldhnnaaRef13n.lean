/- reedpiperef13: Next. -/
import Derived.Test.YtcmbbmilldhnnaaRef13
set_option linter.unusedVariables false
set_option linter.unusedSimpArgs false
namespace Go.Proofs.Ytcmbbmilldhnnaa
open Go.ChangeShapes Go.WideShapes Go.ChangeAt Go.RowKit

abbrev LapO (a b c : Value) : Obj := .cells #[a, b, c] 24
/-- What the document's Next answers. -/
def RNextR (r : (List Int × Int × Int) × List Int × Int) (w : World) (e : Ending) (w' : World) : Prop :=
  ∃ p1 c1 p2 c2, e = .returned (.tuple #[.agg #[.slice p1 r.1.1.length c1, .int .u8 r.1.2.1, .int .u8 r.1.2.2], .slice p2 r.2.1.length c2, .int .i64 r.2.2]) ∧ IsInts w' p1 r.1.1 ∧ IsInts w' p2 r.2.1 ∧ Below w.heap.size w w'
theorem boxes2 (w : World) (a b c x y z : Value) : Box3 ((w.alloc (LapO a b c)).alloc (LapO x y z)) w.heap.size 24 a b c ∧ Box3 ((w.alloc (LapO a b c)).alloc (LapO x y z)) (w.heap.size + 1) 24 x y z ∧ Below w.heap.size w ((w.alloc (LapO a b c)).alloc (LapO x y z)) := by
  refine ⟨(Box3.new w _ _ _ _ rfl).alloc _, ?_, ((Below.refl _ w).alloc (Nat.le_refl _) _).alloc (by simp) _⟩
  have := Box3.new (w.alloc (LapO a b c)) 24 x y z rfl
  rw [World.size_alloc] at this
  exact this
set_option maxRecDepth 100000 in
set_option maxHeartbeats 2000000 in
theorem refnext_bad1 (ls lsh seq shape : Int) (n c m d : Nat) (p q : Option Addr) (w : World) (HM : Hid (∀ W, Below w.heap.size w W → Calls Try.prog 30 #[.agg #[.slice p n c, .int .u8 ls, .int .u8 lsh]] W (RMay false W))) :
    Calls Try.prog 14 #[.agg #[.slice p n c, .int .u8 ls, .int .u8 lsh], .int .u8 seq, .int .u8 shape, .slice q m d] w (RNextR (([], 0, 0), [], 8) w) := by
  obtain ⟨B0, B1, hb0⟩ := boxes2 w (.slice p n c) (.int .u8 ls) (.int .u8 lsh) (.slice none 0 0) (.int .u8 0) (.int .u8 0)
  have HB1 := Lib.hid B1
  unfold RMay at HM
  clear B0 B1
  go_enter Try.func14, Try.ntmps14
  go_wp2_with fail
  refine (HM.out _ hb0).mono ?_
  rintro e w1 ⟨rfl, hB1⟩
  have hb1 := hb0.trans (hB1.mono hb0.size)
  have Z4 := HB1.out.keep hB1 HB1.out.lt
  have k0 := Z4.cell0
  have k1 := Z4.cell1
  have k2 := Z4.cell2
  have f0 := Z4.frozen 0
  have f1 := Z4.frozen 1
  have f2 := Z4.frozen 2
  have Z5 := Lib.hid (Z4.all (.slice none 0 0) (.int .u8 0) (.int .u8 0))
  clear hB1 hb0 Z4 HB1
  go_wp2
  have j0 := Z5.out.cell0
  have j1 := Z5.out.cell1
  have j2 := Z5.out.cell2
  refine bodyPost_ret (v := .tuple #[.agg #[.slice none 0 0, .int .u8 0, .int .u8 0], .slice none 0 0, .int .i64 8]) ?_ rfl ?_
  · simp [results, Try.f14, go_sem, j0, j1, j2]
  · exact ⟨none, 0, none, 0, rfl, IsInts.nil _ _, IsInts.nil _ _, below_3set (g := w.heap.size + 1) hb1 (by omega) _ _ _⟩
set_option maxRecDepth 100000 in
set_option maxHeartbeats 2000000 in
theorem refnext_bad2 (ls lsh seq shape E : Int) (n c m d : Nat) (p q : Option Addr) (w : World) (hE : E ≠ 0) (HM : Hid (∀ W, Below w.heap.size w W → Calls Try.prog 30 #[.agg #[.slice p n c, .int .u8 ls, .int .u8 lsh]] W (RMay true W)))
    (HS : Hid (∀ W, Below w.heap.size w W → Calls Try.prog 31 #[.int .u8 seq, .int .u8 lsh, .int .u8 shape, .slice q m d] W (RRowE ([], E) W))) :
    Calls Try.prog 14 #[.agg #[.slice p n c, .int .u8 ls, .int .u8 lsh], .int .u8 seq, .int .u8 shape, .slice q m d] w (RNextR (([], 0, 0), [], E) w) := by
  have d1 : (E == 0) = false := beq_eq_false_iff_ne.2 hE
  have d2 : (E != 0) = true := by simp [bne, d1]
  obtain ⟨B0, B1, hb0⟩ := boxes2 w (.slice p n c) (.int .u8 ls) (.int .u8 lsh) (.slice none 0 0) (.int .u8 0) (.int .u8 0)
  have HB0 := Lib.hid B0
  have HB1 := Lib.hid B1
  unfold RMay at HM
  clear B0 B1 hE
  go_enter Try.func14, Try.ntmps14
  go_wp2_with fail
  refine (HM.out _ hb0).mono ?_
  rintro e w1 ⟨rfl, hB1⟩
  have hb1 := hb0.trans (hB1.mono hb0.size)
  have X1 := Lib.hid (HB1.out.keep hB1 HB1.out.lt)
  have X0 := HB0.out.keep hB1 HB0.out.lt
  have x0 := X0.cell0
  have x1 := X0.cell1
  have x2 := X0.cell2
  clear hB1 hb0 HB1 HB0 X0
  go_wp2_with fail
  refine (HS.out _ hb1).mono ?_
  rintro e w2 ⟨v, rfl, _, hB2⟩
  have hb2 := hb1.trans (hB2.mono hb1.size)
  have Z4 := X1.out.keep hB2 X1.out.lt
  have k0 := Z4.cell0
  have k1 := Z4.cell1
  have k2 := Z4.cell2
  have f0 := Z4.frozen 0
  have f1 := Z4.frozen 1
  have f2 := Z4.frozen 2
  have Z5 := Lib.hid (Z4.all (.slice none 0 0) (.int .u8 0) (.int .u8 0))
  clear hB2 hb1 Z4 X1 x0 x1 x2
  go_wp2
  have j0 := Z5.out.cell0
  have j1 := Z5.out.cell1
  have j2 := Z5.out.cell2
  refine bodyPost_ret (v := .tuple #[.agg #[.slice none 0 0, .int .u8 0, .int .u8 0], .slice none 0 0, .int .i64 E]) ?_ rfl ?_
  · simp [results, Try.f14, go_sem, j0, j1, j2]
  · exact ⟨none, 0, none, 0, rfl, IsInts.nil _ _, IsInts.nil _ _, below_3set (g := w.heap.size + 1) hb2 (by omega) _ _ _⟩
set_option maxRecDepth 100000 in
set_option maxHeartbeats 2000000 in
theorem refnext_ok (T P S : List Int) (ls lsh seq shape : Int) (n c m d : Nat) (p q : Option Addr) (w : World) (hT : T.length = 256) (hP : P.length = 256) (HM : Hid (∀ W, Below w.heap.size w W → Calls Try.prog 30 #[.agg #[.slice p n c, .int .u8 ls, .int .u8 lsh]] W (RMay true W)))
    (HS : Hid (∀ W, Below w.heap.size w W → Calls Try.prog 31 #[.int .u8 seq, .int .u8 lsh, .int .u8 shape, .slice q m d] W (RRowE (S, 0) W)))
    (HD : Hid (∀ W, Below w.heap.size w W → Calls Try.prog 32 #[.agg #[.slice p n c, .int .u8 ls, .int .u8 lsh], .int .u8 seq, .int .u8 shape, .slice q m d] W (RDone T P seq shape W))) :
    Calls Try.prog 14 #[.agg #[.slice p n c, .int .u8 ls, .int .u8 lsh], .int .u8 seq, .int .u8 shape, .slice q m d] w (RNextR ((T, seq, shape), P, 0) w) := by
  obtain ⟨B0, B1, hb0⟩ := boxes2 w (.slice p n c) (.int .u8 ls) (.int .u8 lsh) (.slice none 0 0) (.int .u8 0) (.int .u8 0)
  have HB0 := Lib.hid B0
  have HB1 := Lib.hid B1
  have HT := Lib.hid hT
  have HP := Lib.hid hP
  unfold RMay at HM
  clear B0 B1 hT hP
  go_enter Try.func14, Try.ntmps14
  go_wp2_with fail
  refine (HM.out _ hb0).mono ?_
  rintro e w1 ⟨rfl, hB1⟩
  have hb1 := hb0.trans (hB1.mono hb0.size)
  have X1 := Lib.hid (HB1.out.keep hB1 HB1.out.lt)
  have X0 := HB0.out.keep hB1 HB0.out.lt
  have x0 := X0.cell0
  have x1 := X0.cell1
  have x2 := X0.cell2
  clear hB1 hb0 HB1 HB0
  have X00 := Lib.hid X0
  clear X0
  go_wp2_with fail
  refine (HS.out _ hb1).mono ?_
  rintro e w2 ⟨v, rfl, _, hB2⟩
  have hb2 := hb1.trans (hB2.mono hb1.size)
  have Y1 := Lib.hid (X1.out.keep hB2 X1.out.lt)
  have Y0 := X00.out.keep hB2 X00.out.lt
  have y0 := Y0.cell0
  have y1 := Y0.cell1
  have y2 := Y0.cell2
  clear hB2 hb1 X1 X00 x0 x1 x2 Y0
  go_wp2_with fail
  refine (HD.out _ hb2).mono ?_
  rintro e w3 ⟨g1, c1, g2, c2, rfl, hg1, I1, hg2, I2, hB3⟩
  have hb3 := hb2.trans (hB3.mono hb2.size)
  have hz2 := hb2.size
  have hlt := Y1.out.lt
  have J1 := Lib.hid I1
  have J2 := Lib.hid I2
  have hl1 : w.heap.size + 1 < w3.heap.size := Nat.lt_of_lt_of_le hlt hB3.size
  have Z4 := Y1.out.keep hB3 hlt
  have k0 := Z4.cell0
  have k1 := Z4.cell1
  have k2 := Z4.cell2
  have f0 := Z4.frozen 0
  have f1 := Z4.frozen 1
  have f2 := Z4.frozen 2
  have Z5 := Lib.hid ((Z4.all (.slice (some ⟨g1, 0, none⟩) 256 c1) (.int .u8 seq) (.int .u8 shape)).alloc (LapO (.slice (some ⟨g1, 0, none⟩) 256 c1) (.int .u8 seq) (.int .u8 shape)))
  have hb30 := below_3set (g := w.heap.size + 1) hb3 (by omega) (.slice (some ⟨g1, 0, none⟩) 256 c1) (.int .u8 seq) (.int .u8 shape)
  have hb4 := Lib.hid (hb30.alloc hb30.size (LapO (.slice (some ⟨g1, 0, none⟩) 256 c1) (.int .u8 seq) (.int .u8 shape)))
  have K1 := Lib.hid ((ints_3set (g := w.heap.size + 1) J1.out (by omega) (.slice (some ⟨g1, 0, none⟩) 256 c1) (.int .u8 seq) (.int .u8 shape)).alloc (LapO (.slice (some ⟨g1, 0, none⟩) 256 c1) (.int .u8 seq) (.int .u8 shape)))
  have K2 := Lib.hid ((ints_3set (g := w.heap.size + 1) J2.out (by omega) (.slice (some ⟨g1, 0, none⟩) 256 c1) (.int .u8 seq) (.int .u8 shape)).alloc (LapO (.slice (some ⟨g1, 0, none⟩) 256 c1) (.int .u8 seq) (.int .u8 shape)))
  clear hB3 hb2 Z4 Y1 y0 y1 y2 I1 I2 J1 J2 hb3 hb30
  go_wp2
  have j0 := Z5.out.cell0
  have j1 := Z5.out.cell1
  have j2 := Z5.out.cell2
  refine bodyPost_ret (v := .tuple #[.agg #[.slice (some ⟨g1, 0, none⟩) 256 c1, .int .u8 seq, .int .u8 shape], .slice (some ⟨g2, 0, none⟩) 256 c2, .int .i64 0]) ?_ rfl ?_
  · simp [results, Try.f14, go_sem, j0, j1, j2]
  · exact ⟨some ⟨g1, 0, none⟩, c1, some ⟨g2, 0, none⟩, c2, by simp only [HT.out, HP.out], K1.out, K2.out, hb4.out⟩
theorem refnext_any (l : List Int) (ls lsh seq shape : Int) (lines : List Int) (hs0 : 0 ≤ seq) (hsh0 : 0 ≤ lsh) (hsp0 : 0 ≤ shape) (hl2 : lines.length ≤ 4611686018427387904)
    (p q : Option Addr) (c d : Nat) (hd : lines.length ≤ d) (w : World) (hI : IsInts w p l) (hJ : IsInts w q lines) :
    Calls Try.prog 14 #[.agg #[.slice p l.length c, .int .u8 ls, .int .u8 lsh], .int .u8 seq, .int .u8 shape, .slice q lines.length d] w (RNextR (lapN l ls lsh seq shape lines) w) := by
  have HM : ∀ b, mayB l ls lsh = b → Hid (∀ W, Below w.heap.size w W → Calls Try.prog 30 #[.agg #[.slice p l.length c, .int .u8 ls, .int .u8 lsh]] W (RMay b W)) := fun b hb => Lib.hid (fun W hW => hb ▸ ref_may l p c ls lsh W (hI.keep hW))
  unfold lapN
  cases hm : mayB l ls lsh
  · rw [if_pos rfl]
    exact refnext_bad1 ls lsh seq shape l.length c lines.length d p q w (HM _ hm)
  · rw [if_neg (by simp)]
    have hsyn := fun W hW => refsyn_any seq lsh shape hs0 hsh0 hsp0 lines (by omega) q d hd W (hJ.keep hW)
    by_cases hE : synE seq lsh shape lines ≠ 0
    · rw [if_pos hE]
      refine refnext_bad2 ls lsh seq shape _ l.length c lines.length d p q w hE (HM _ hm) (Lib.hid (fun W hW => ?_))
      have := hsyn W hW
      unfold synN at this
      rw [if_neg hE] at this
      exact this
    · rw [if_neg hE]
      have hE' : synE seq lsh shape lines = 0 := by omega
      obtain ⟨h256, hb, h3, h4⟩ := mayB_spec hm
      obtain ⟨a1, a2, a3, a4, a5⟩ := (askedE_zero (by omega)).1 hE'
      have a6 := fun j => getD_range a5 (by omega) (by omega) j
      refine refnext_ok _ _ (synL (winsL seq lsh shape) lines) ls lsh seq shape l.length c lines.length d p q w (by rw [List.length_drop, synL_len]) (by unfold pcmL sumsL; rw [List.length_map, List.length_map, List.length_range, h256]) (HM _ hm) (Lib.hid (fun W hW => ?_)) (Lib.hid (fun W hW => ?_))
      · have := hsyn W hW
        unfold synN at this
        rw [if_pos hE'] at this
        exact this
      · rw [h256]
        exact ref_done l ls lsh seq shape h256 hb _ (synL_len _ _) (fun j => synL_range seq lsh shape (by omega) (by omega) (by omega) a4 a6 j) p q c lines.length d W (hI.keep hW) (Lib.hid (fun V hV => ref_Numbers seq lsh shape (by omega) (by omega) (by omega) lines a4 a6 q d (by omega) V ((hJ.keep hW).keep hV)))
end Go.Proofs.Ytcmbbmilldhnnaa
