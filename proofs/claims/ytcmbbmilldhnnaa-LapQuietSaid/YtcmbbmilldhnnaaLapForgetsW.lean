/- LapForgets: the walk. -/
import Derived.Test.YtcmbbmilldhnnaaLapAlive
import Derived.Test.YtcmbbmilldhnnaaG1
import Derived.Deep.QuietTactic
set_option linter.unusedVariables false
set_option linter.unusedSimpArgs false
namespace Go.Proofs.Ytcmbbmilldhnnaa
open Go.ChangeShapes Go.WideShapes Go.ChangeAt Go.RowKit

/-- Next's answer, well or not: the rows by their addresses. -/
def RNextG (T P : List Int) (s sh E : Int) (w : World) (e : Ending) (w' : World) : Prop :=
  ∃ p c q d, e = .returned (.tuple #[.agg #[.slice p T.length c, .int .u8 s, .int .u8 sh], .slice q P.length d, .int .i64 E]) ∧ T.length ≤ c ∧ IsInts w' p T ∧ IsInts w' q P ∧ Below w.heap.size w w'
theorem next_g {r : (List Int × Int × Int) × List Int × Int} {w : World} {e : Ending} {w' : World} (h : RNext r w e w') : RNextG r.1.1 r.2.1 r.1.2.1 r.1.2.2 r.2.2 w e w' := by
  obtain ⟨v1, v2, rfl, h1, h2, _, hB⟩ := h
  obtain ⟨p, c, rfl, i1⟩ := owns_any h1
  obtain ⟨q, d, rfl, i2⟩ := owns_any h2
  refine ⟨p, c, q, d, rfl, ?_, i1.ints, i2.ints, hB⟩
  rcases h1.2 with ⟨h', _⟩ | ⟨g', cap, cur, e', _, _, h3, _⟩
  · have := h'
    simp at this
    omega
  · obtain ⟨_, rfl⟩ : p = some ⟨g', 0, none⟩ ∧ c = cap := by simpa using e'
    exact h3
set_option maxRecDepth 100000 in
set_option maxHeartbeats 4000000 in
theorem forget_e1 (p1 p2 p3 p4 : Option Addr) (n1 n2 m1 m2 c1 c2 c3 c4 : Nat) (s1 h1 s2 h2 seq shape : Int) (w : World)  (d1 : decide ((1000 : Int) < (n1 : Int)) = true) : Calls Try.prog 7 #[.agg #[.slice p1 n1 c1, .int .u8 s1, .int .u8 h1], .agg #[.slice p2 n2 c2, .int .u8 s2, .int .u8 h2], .int .u8 seq, .int .u8 shape, .slice p3 m1 c3, .slice p4 m2 c4] w fun e w' => e = .returned (.bool true) ∧ Below w.heap.size w w' := by
  have B0 := Box3.new w 24 (.slice p1 n1 c1) (.int .u8 s1) (.int .u8 h1) rfl
  have A0 := B0.alloc (.cells #[.slice p2 n2 c2, .int .u8 s2, .int .u8 h2] 24)
  have A1 := Box3.new (w.alloc (.cells #[.slice p1 n1 c1, .int .u8 s1, .int .u8 h1] 24)) 24 (.slice p2 n2 c2) (.int .u8 s2) (.int .u8 h2) rfl
  have hb0 : Below w.heap.size w ((w.alloc (.cells #[.slice p1 n1 c1, .int .u8 s1, .int .u8 h1] 24)).alloc (.cells #[.slice p2 n2 c2, .int .u8 s2, .int .u8 h2] 24)) := ((Below.refl _ w).alloc (Nat.le_refl _) _).alloc (by simp) _
  rw [World.size_alloc] at A1
  go_enter Try.func7, Try.ntmps7
  go_wp2_with fail
  refine (alive13 _).mono ?_
  rintro e w1 ⟨rfl, hB1⟩
  have X6 := A0.keep hB1 A0.lt
  have X7 := A1.keep hB1 A1.lt
  have hb1 := hb0.trans (hB1.mono (by simp; omega))
  have k60 := X6.cell0
  have k61 := X6.cell1
  have k62 := X6.cell2
  have k70 := X7.cell0
  have k71 := X7.cell1
  have k72 := X7.cell2
  have hl6 := X6.lt
  have hl7 := X7.lt
  clear hB1 hb0 A0 A1 B0
  go_wp2
  go_ret
  exact ⟨rfl, hb1⟩
set_option maxRecDepth 100000 in
set_option maxHeartbeats 4000000 in
theorem forget_e2 (p1 p2 p3 p4 : Option Addr) (n1 n2 m1 m2 c1 c2 c3 c4 : Nat) (s1 h1 s2 h2 seq shape : Int) (w : World) (d1 : decide ((1000 : Int) < (n1 : Int)) = false) (d2 : decide ((1000 : Int) < (n2 : Int)) = true) : Calls Try.prog 7 #[.agg #[.slice p1 n1 c1, .int .u8 s1, .int .u8 h1], .agg #[.slice p2 n2 c2, .int .u8 s2, .int .u8 h2], .int .u8 seq, .int .u8 shape, .slice p3 m1 c3, .slice p4 m2 c4] w fun e w' => e = .returned (.bool true) ∧ Below w.heap.size w w' := by
  have B0 := Box3.new w 24 (.slice p1 n1 c1) (.int .u8 s1) (.int .u8 h1) rfl
  have A0 := B0.alloc (.cells #[.slice p2 n2 c2, .int .u8 s2, .int .u8 h2] 24)
  have A1 := Box3.new (w.alloc (.cells #[.slice p1 n1 c1, .int .u8 s1, .int .u8 h1] 24)) 24 (.slice p2 n2 c2) (.int .u8 s2) (.int .u8 h2) rfl
  have hb0 : Below w.heap.size w ((w.alloc (.cells #[.slice p1 n1 c1, .int .u8 s1, .int .u8 h1] 24)).alloc (.cells #[.slice p2 n2 c2, .int .u8 s2, .int .u8 h2] 24)) := ((Below.refl _ w).alloc (Nat.le_refl _) _).alloc (by simp) _
  rw [World.size_alloc] at A1
  go_enter Try.func7, Try.ntmps7
  go_wp2_with fail
  refine (alive13 _).mono ?_
  rintro e w1 ⟨rfl, hB1⟩
  have X6 := A0.keep hB1 A0.lt
  have X7 := A1.keep hB1 A1.lt
  have hb1 := hb0.trans (hB1.mono (by simp; omega))
  have k60 := X6.cell0
  have k61 := X6.cell1
  have k62 := X6.cell2
  have k70 := X7.cell0
  have k71 := X7.cell1
  have k72 := X7.cell2
  have hl6 := X6.lt
  have hl7 := X7.lt
  clear hB1 hb0 A0 A1 B0
  go_wp2
  go_ret
  exact ⟨rfl, hb1⟩
set_option maxRecDepth 100000 in
set_option maxHeartbeats 4000000 in
theorem forget_e3 (p1 p2 p3 p4 : Option Addr) (n1 n2 m1 m2 c1 c2 c3 c4 : Nat) (s1 h1 s2 h2 seq shape : Int) (w : World) (d1 : decide ((1000 : Int) < (n1 : Int)) = false) (d2 : decide ((1000 : Int) < (n2 : Int)) = false) (d3 : decide ((1000 : Int) < (m1 : Int)) = true) : Calls Try.prog 7 #[.agg #[.slice p1 n1 c1, .int .u8 s1, .int .u8 h1], .agg #[.slice p2 n2 c2, .int .u8 s2, .int .u8 h2], .int .u8 seq, .int .u8 shape, .slice p3 m1 c3, .slice p4 m2 c4] w fun e w' => e = .returned (.bool true) ∧ Below w.heap.size w w' := by
  have B0 := Box3.new w 24 (.slice p1 n1 c1) (.int .u8 s1) (.int .u8 h1) rfl
  have A0 := B0.alloc (.cells #[.slice p2 n2 c2, .int .u8 s2, .int .u8 h2] 24)
  have A1 := Box3.new (w.alloc (.cells #[.slice p1 n1 c1, .int .u8 s1, .int .u8 h1] 24)) 24 (.slice p2 n2 c2) (.int .u8 s2) (.int .u8 h2) rfl
  have hb0 : Below w.heap.size w ((w.alloc (.cells #[.slice p1 n1 c1, .int .u8 s1, .int .u8 h1] 24)).alloc (.cells #[.slice p2 n2 c2, .int .u8 s2, .int .u8 h2] 24)) := ((Below.refl _ w).alloc (Nat.le_refl _) _).alloc (by simp) _
  rw [World.size_alloc] at A1
  go_enter Try.func7, Try.ntmps7
  go_wp2_with fail
  refine (alive13 _).mono ?_
  rintro e w1 ⟨rfl, hB1⟩
  have X6 := A0.keep hB1 A0.lt
  have X7 := A1.keep hB1 A1.lt
  have hb1 := hb0.trans (hB1.mono (by simp; omega))
  have k60 := X6.cell0
  have k61 := X6.cell1
  have k62 := X6.cell2
  have k70 := X7.cell0
  have k71 := X7.cell1
  have k72 := X7.cell2
  have hl6 := X6.lt
  have hl7 := X7.lt
  clear hB1 hb0 A0 A1 B0
  go_wp2
  go_ret
  exact ⟨rfl, hb1⟩
set_option maxRecDepth 100000 in
set_option maxHeartbeats 4000000 in
theorem forget_e4 (p1 p2 p3 p4 : Option Addr) (n1 n2 m1 m2 c1 c2 c3 c4 : Nat) (s1 h1 s2 h2 seq shape : Int) (w : World) (d1 : decide ((1000 : Int) < (n1 : Int)) = false) (d2 : decide ((1000 : Int) < (n2 : Int)) = false) (d3 : decide ((1000 : Int) < (m1 : Int)) = false) (d4 : decide ((1000 : Int) < (m2 : Int)) = true) : Calls Try.prog 7 #[.agg #[.slice p1 n1 c1, .int .u8 s1, .int .u8 h1], .agg #[.slice p2 n2 c2, .int .u8 s2, .int .u8 h2], .int .u8 seq, .int .u8 shape, .slice p3 m1 c3, .slice p4 m2 c4] w fun e w' => e = .returned (.bool true) ∧ Below w.heap.size w w' := by
  have B0 := Box3.new w 24 (.slice p1 n1 c1) (.int .u8 s1) (.int .u8 h1) rfl
  have A0 := B0.alloc (.cells #[.slice p2 n2 c2, .int .u8 s2, .int .u8 h2] 24)
  have A1 := Box3.new (w.alloc (.cells #[.slice p1 n1 c1, .int .u8 s1, .int .u8 h1] 24)) 24 (.slice p2 n2 c2) (.int .u8 s2) (.int .u8 h2) rfl
  have hb0 : Below w.heap.size w ((w.alloc (.cells #[.slice p1 n1 c1, .int .u8 s1, .int .u8 h1] 24)).alloc (.cells #[.slice p2 n2 c2, .int .u8 s2, .int .u8 h2] 24)) := ((Below.refl _ w).alloc (Nat.le_refl _) _).alloc (by simp) _
  rw [World.size_alloc] at A1
  go_enter Try.func7, Try.ntmps7
  go_wp2_with fail
  refine (alive13 _).mono ?_
  rintro e w1 ⟨rfl, hB1⟩
  have X6 := A0.keep hB1 A0.lt
  have X7 := A1.keep hB1 A1.lt
  have hb1 := hb0.trans (hB1.mono (by simp; omega))
  have k60 := X6.cell0
  have k61 := X6.cell1
  have k62 := X6.cell2
  have k70 := X7.cell0
  have k71 := X7.cell1
  have k72 := X7.cell2
  have hl6 := X6.lt
  have hl7 := X7.lt
  clear hB1 hb0 A0 A1 B0
  go_wp2
  go_ret
  exact ⟨rfl, hb1⟩
set_option maxRecDepth 100000 in
set_option maxHeartbeats 4000000 in
theorem forget_e5 (p1 p2 p3 p4 : Option Addr) (n1 n2 m1 m2 c1 c2 c3 c4 : Nat) (s1 h1 s2 h2 seq shape : Int) (w : World) (d1 : decide ((1000 : Int) < (n1 : Int)) = false) (d2 : decide ((1000 : Int) < (n2 : Int)) = false) (d3 : decide ((1000 : Int) < (m1 : Int)) = false) (d4 : decide ((1000 : Int) < (m2 : Int)) = false) (d5 : (h1 == h2) = false) (d5' : (h1 != h2) = true) : Calls Try.prog 7 #[.agg #[.slice p1 n1 c1, .int .u8 s1, .int .u8 h1], .agg #[.slice p2 n2 c2, .int .u8 s2, .int .u8 h2], .int .u8 seq, .int .u8 shape, .slice p3 m1 c3, .slice p4 m2 c4] w fun e w' => e = .returned (.bool true) ∧ Below w.heap.size w w' := by
  have B0 := Box3.new w 24 (.slice p1 n1 c1) (.int .u8 s1) (.int .u8 h1) rfl
  have A0 := B0.alloc (.cells #[.slice p2 n2 c2, .int .u8 s2, .int .u8 h2] 24)
  have A1 := Box3.new (w.alloc (.cells #[.slice p1 n1 c1, .int .u8 s1, .int .u8 h1] 24)) 24 (.slice p2 n2 c2) (.int .u8 s2) (.int .u8 h2) rfl
  have hb0 : Below w.heap.size w ((w.alloc (.cells #[.slice p1 n1 c1, .int .u8 s1, .int .u8 h1] 24)).alloc (.cells #[.slice p2 n2 c2, .int .u8 s2, .int .u8 h2] 24)) := ((Below.refl _ w).alloc (Nat.le_refl _) _).alloc (by simp) _
  rw [World.size_alloc] at A1
  go_enter Try.func7, Try.ntmps7
  go_wp2_with fail
  refine (alive13 _).mono ?_
  rintro e w1 ⟨rfl, hB1⟩
  have X6 := A0.keep hB1 A0.lt
  have X7 := A1.keep hB1 A1.lt
  have hb1 := hb0.trans (hB1.mono (by simp; omega))
  have k60 := X6.cell0
  have k61 := X6.cell1
  have k62 := X6.cell2
  have k70 := X7.cell0
  have k71 := X7.cell1
  have k72 := X7.cell2
  have hl6 := X6.lt
  have hl7 := X7.lt
  clear hB1 hb0 A0 A1 B0
  go_wp2
  go_ret
  exact ⟨rfl, hb1⟩
set_option maxRecDepth 100000 in
set_option maxHeartbeats 4000000 in
theorem forget_bb (p1 p2 p3 p4 : Option Addr) (n1 n2 m1 m2 c1 c2 c3 c4 : Nat) (s1 h1 s2 h2 seq shape : Int) (w : World) (d1 : decide ((1000 : Int) < (n1 : Int)) = false) (d2 : decide ((1000 : Int) < (n2 : Int)) = false) (d3 : decide ((1000 : Int) < (m1 : Int)) = false) (d4 : decide ((1000 : Int) < (m2 : Int)) = false) (d5 : (h1 == h2) = true) (d5' : (h1 != h2) = false) (TA PA TB PB : List Int) (sA hA sB hB EA EB : Int) (hE1 : (EA == 0) = false) (hE1' : (EA != 0) = true) (hE2 : (EB == 0) = false) (hE2' : (EB != 0) = true) (hTA : TA.length = 0) (hTB : TB.length = 0)
    (HNA : Hid (∀ W, Below w.heap.size w W → Calls Try.prog 9 #[.agg #[.slice p1 n1 c1, .int .u8 s1, .int .u8 h1], .int .u8 seq, .int .u8 shape, .slice p3 m1 c3] W (RNextG TA PA sA hA EA W)))
    (HNB : Hid (∀ W, Below w.heap.size w W → Calls Try.prog 9 #[.agg #[.slice p2 n2 c2, .int .u8 s2, .int .u8 h2], .int .u8 seq, .int .u8 shape, .slice p3 m1 c3] W (RNextG TB PB sB hB EB W))) : Calls Try.prog 7 #[.agg #[.slice p1 n1 c1, .int .u8 s1, .int .u8 h1], .agg #[.slice p2 n2 c2, .int .u8 s2, .int .u8 h2], .int .u8 seq, .int .u8 shape, .slice p3 m1 c3, .slice p4 m2 c4] w fun e w' => e = .returned (.bool true) ∧ Below w.heap.size w w' := by


  unfold RNextG at HNA HNB
  rw [hTA] at HNA
  rw [hTB] at HNB
  clear hTA
  clear hTB
  have B0 := Box3.new w 24 (.slice p1 n1 c1) (.int .u8 s1) (.int .u8 h1) rfl
  have A0 := B0.alloc (.cells #[.slice p2 n2 c2, .int .u8 s2, .int .u8 h2] 24)
  have A1 := Box3.new (w.alloc (.cells #[.slice p1 n1 c1, .int .u8 s1, .int .u8 h1] 24)) 24 (.slice p2 n2 c2) (.int .u8 s2) (.int .u8 h2) rfl
  have hb0 : Below w.heap.size w ((w.alloc (.cells #[.slice p1 n1 c1, .int .u8 s1, .int .u8 h1] 24)).alloc (.cells #[.slice p2 n2 c2, .int .u8 s2, .int .u8 h2] 24)) := ((Below.refl _ w).alloc (Nat.le_refl _) _).alloc (by simp) _
  rw [World.size_alloc] at A1
  go_enter Try.func7, Try.ntmps7
  go_wp2_with fail
  refine (alive13 _).mono ?_
  rintro e w1 ⟨rfl, hB1⟩
  have X6 := A0.keep hB1 A0.lt
  have X7 := A1.keep hB1 A1.lt
  have hb1 := hb0.trans (hB1.mono (by simp; omega))
  have k60 := X6.cell0
  have k61 := X6.cell1
  have k62 := X6.cell2
  have k70 := X7.cell0
  have k71 := X7.cell1
  have k72 := X7.cell2
  have hl6 := X6.lt
  have hl7 := X7.lt
  clear hB1 hb0 A0 A1 B0
  go_wp2_with fail
  refine (HNA.out _ hb1).mono ?_
  rintro e w2 ⟨p5, c5, q5, d5_, rfl, hc5, hI5, hJ5, hB2⟩
  have hz1 := hb1.size
  have hz2 := hB2.size
  have hB2' := hB2.alloc hz2 (.cells #[.slice p5 0 c5, .int .u8 sA, .int .u8 hA] 24)
  have Y6 := X6.keep hB2' hl6
  have Y7 := X7.keep hB2' hl7
  have Y14 := Box3.new w2 24 (.slice p5 0 c5) (.int .u8 sA) (.int .u8 hA) rfl
  have hb2 := hb1.trans (hB2'.mono hz1)
  have I5 := Lib.hid (hI5.alloc (.cells #[.slice p5 0 c5, .int .u8 sA, .int .u8 hA] 24))
  clear k60 k61 k62 k70 k71 k72 hB2 hI5 hJ5 HNA hB2'
  have k70 := Y7.cell0
  have k71 := Y7.cell1
  have k72 := Y7.cell2
  have hl14 := Y14.lt
  have hl7' := Y7.lt
  go_wp2_with fail
  refine (HNB.out _ hb2).mono ?_
  rintro e w3 ⟨p6, c6, q6, d6, rfl, hc6, hI6, hJ6, hB3⟩
  have hz3 := hB3.size
  have hB3' := hB3.alloc hz3 (.cells #[.slice p6 0 c6, .int .u8 sB, .int .u8 hB] 24)
  have Z14 := Y14.keep hB3' hl14
  have Z17 := Box3.new w3 24 (.slice p6 0 c6) (.int .u8 sB) (.int .u8 hB) rfl
  have hb3 := hb2.trans (hB3'.mono hb2.size)
  have J5 := Lib.hid (I5.out.keep hB3')
  have J6 := Lib.hid (hI6.alloc (.cells #[.slice p6 0 c6, .int .u8 sB, .int .u8 hB] 24))
  clear k70 k71 k72 hB3 hI6 hJ6 HNB hB3' I5
  have k140 := Z14.cell0
  have k141 := Z14.cell1
  have k142 := Z14.cell2
  have k170 := Z17.cell0
  have k171 := Z17.cell1
  have k172 := Z17.cell2
  go_wp2
  go_ret
  exact ⟨rfl, hb3⟩
set_option maxRecDepth 100000 in
set_option maxHeartbeats 4000000 in
theorem forget_bo (p1 p2 p3 p4 : Option Addr) (n1 n2 m1 m2 c1 c2 c3 c4 : Nat) (s1 h1 s2 h2 seq shape : Int) (w : World) (d1 : decide ((1000 : Int) < (n1 : Int)) = false) (d2 : decide ((1000 : Int) < (n2 : Int)) = false) (d3 : decide ((1000 : Int) < (m1 : Int)) = false) (d4 : decide ((1000 : Int) < (m2 : Int)) = false) (d5 : (h1 == h2) = true) (d5' : (h1 != h2) = false) (TA PA TB PB : List Int) (sA hA sB hB EA EB : Int) (hE1 : (EA == 0) = false) (hE1' : (EA != 0) = true) (hTA : TA.length = 0) (hEB : EB = 0)
    (HNA : Hid (∀ W, Below w.heap.size w W → Calls Try.prog 9 #[.agg #[.slice p1 n1 c1, .int .u8 s1, .int .u8 h1], .int .u8 seq, .int .u8 shape, .slice p3 m1 c3] W (RNextG TA PA sA hA EA W)))
    (HNB : Hid (∀ W, Below w.heap.size w W → Calls Try.prog 9 #[.agg #[.slice p2 n2 c2, .int .u8 s2, .int .u8 h2], .int .u8 seq, .int .u8 shape, .slice p3 m1 c3] W (RNextG TB PB sB hB EB W))) : Calls Try.prog 7 #[.agg #[.slice p1 n1 c1, .int .u8 s1, .int .u8 h1], .agg #[.slice p2 n2 c2, .int .u8 s2, .int .u8 h2], .int .u8 seq, .int .u8 shape, .slice p3 m1 c3, .slice p4 m2 c4] w fun e w' => e = .returned (.bool true) ∧ Below w.heap.size w w' := by

  subst hEB
  unfold RNextG at HNA HNB
  rw [hTA] at HNA

  clear hTA
  skip
  have B0 := Box3.new w 24 (.slice p1 n1 c1) (.int .u8 s1) (.int .u8 h1) rfl
  have A0 := B0.alloc (.cells #[.slice p2 n2 c2, .int .u8 s2, .int .u8 h2] 24)
  have A1 := Box3.new (w.alloc (.cells #[.slice p1 n1 c1, .int .u8 s1, .int .u8 h1] 24)) 24 (.slice p2 n2 c2) (.int .u8 s2) (.int .u8 h2) rfl
  have hb0 : Below w.heap.size w ((w.alloc (.cells #[.slice p1 n1 c1, .int .u8 s1, .int .u8 h1] 24)).alloc (.cells #[.slice p2 n2 c2, .int .u8 s2, .int .u8 h2] 24)) := ((Below.refl _ w).alloc (Nat.le_refl _) _).alloc (by simp) _
  rw [World.size_alloc] at A1
  go_enter Try.func7, Try.ntmps7
  go_wp2_with fail
  refine (alive13 _).mono ?_
  rintro e w1 ⟨rfl, hB1⟩
  have X6 := A0.keep hB1 A0.lt
  have X7 := A1.keep hB1 A1.lt
  have hb1 := hb0.trans (hB1.mono (by simp; omega))
  have k60 := X6.cell0
  have k61 := X6.cell1
  have k62 := X6.cell2
  have k70 := X7.cell0
  have k71 := X7.cell1
  have k72 := X7.cell2
  have hl6 := X6.lt
  have hl7 := X7.lt
  clear hB1 hb0 A0 A1 B0
  go_wp2_with fail
  refine (HNA.out _ hb1).mono ?_
  rintro e w2 ⟨p5, c5, q5, d5_, rfl, hc5, hI5, hJ5, hB2⟩
  have hz1 := hb1.size
  have hz2 := hB2.size
  have hB2' := hB2.alloc hz2 (.cells #[.slice p5 0 c5, .int .u8 sA, .int .u8 hA] 24)
  have Y6 := X6.keep hB2' hl6
  have Y7 := X7.keep hB2' hl7
  have Y14 := Box3.new w2 24 (.slice p5 0 c5) (.int .u8 sA) (.int .u8 hA) rfl
  have hb2 := hb1.trans (hB2'.mono hz1)
  have I5 := Lib.hid (hI5.alloc (.cells #[.slice p5 0 c5, .int .u8 sA, .int .u8 hA] 24))
  clear k60 k61 k62 k70 k71 k72 hB2 hI5 hJ5 HNA hB2'
  have k70 := Y7.cell0
  have k71 := Y7.cell1
  have k72 := Y7.cell2
  have hl14 := Y14.lt
  have hl7' := Y7.lt
  go_wp2_with fail
  refine (HNB.out _ hb2).mono ?_
  rintro e w3 ⟨p6, c6, q6, d6, rfl, hc6, hI6, hJ6, hB3⟩
  have hz3 := hB3.size
  have hB3' := hB3.alloc hz3 (.cells #[.slice p6 TB.length c6, .int .u8 sB, .int .u8 hB] 24)
  have Z14 := Y14.keep hB3' hl14
  have Z17 := Box3.new w3 24 (.slice p6 TB.length c6) (.int .u8 sB) (.int .u8 hB) rfl
  have hb3 := hb2.trans (hB3'.mono hb2.size)
  have J5 := Lib.hid (I5.out.keep hB3')
  have J6 := Lib.hid (hI6.alloc (.cells #[.slice p6 TB.length c6, .int .u8 sB, .int .u8 hB] 24))
  clear k70 k71 k72 hB3 hI6 hJ6 HNB hB3' I5
  have k140 := Z14.cell0
  have k141 := Z14.cell1
  have k142 := Z14.cell2
  have k170 := Z17.cell0
  have k171 := Z17.cell1
  have k172 := Z17.cell2
  go_wp2
  go_ret
  exact ⟨rfl, hb3⟩
set_option maxRecDepth 100000 in
set_option maxHeartbeats 4000000 in
theorem forget_ob (p1 p2 p3 p4 : Option Addr) (n1 n2 m1 m2 c1 c2 c3 c4 : Nat) (s1 h1 s2 h2 seq shape : Int) (w : World) (d1 : decide ((1000 : Int) < (n1 : Int)) = false) (d2 : decide ((1000 : Int) < (n2 : Int)) = false) (d3 : decide ((1000 : Int) < (m1 : Int)) = false) (d4 : decide ((1000 : Int) < (m2 : Int)) = false) (d5 : (h1 == h2) = true) (d5' : (h1 != h2) = false) (TA PA TB PB : List Int) (sA hA sB hB EA EB : Int) (hE2 : (EB == 0) = false) (hE2' : (EB != 0) = true) (hEA : EA = 0) (hTB : TB.length = 0)
    (HNA : Hid (∀ W, Below w.heap.size w W → Calls Try.prog 9 #[.agg #[.slice p1 n1 c1, .int .u8 s1, .int .u8 h1], .int .u8 seq, .int .u8 shape, .slice p3 m1 c3] W (RNextG TA PA sA hA EA W)))
    (HNB : Hid (∀ W, Below w.heap.size w W → Calls Try.prog 9 #[.agg #[.slice p2 n2 c2, .int .u8 s2, .int .u8 h2], .int .u8 seq, .int .u8 shape, .slice p3 m1 c3] W (RNextG TB PB sB hB EB W))) : Calls Try.prog 7 #[.agg #[.slice p1 n1 c1, .int .u8 s1, .int .u8 h1], .agg #[.slice p2 n2 c2, .int .u8 s2, .int .u8 h2], .int .u8 seq, .int .u8 shape, .slice p3 m1 c3, .slice p4 m2 c4] w fun e w' => e = .returned (.bool true) ∧ Below w.heap.size w w' := by
  subst hEA

  unfold RNextG at HNA HNB

  rw [hTB] at HNB
  skip
  clear hTB
  have B0 := Box3.new w 24 (.slice p1 n1 c1) (.int .u8 s1) (.int .u8 h1) rfl
  have A0 := B0.alloc (.cells #[.slice p2 n2 c2, .int .u8 s2, .int .u8 h2] 24)
  have A1 := Box3.new (w.alloc (.cells #[.slice p1 n1 c1, .int .u8 s1, .int .u8 h1] 24)) 24 (.slice p2 n2 c2) (.int .u8 s2) (.int .u8 h2) rfl
  have hb0 : Below w.heap.size w ((w.alloc (.cells #[.slice p1 n1 c1, .int .u8 s1, .int .u8 h1] 24)).alloc (.cells #[.slice p2 n2 c2, .int .u8 s2, .int .u8 h2] 24)) := ((Below.refl _ w).alloc (Nat.le_refl _) _).alloc (by simp) _
  rw [World.size_alloc] at A1
  go_enter Try.func7, Try.ntmps7
  go_wp2_with fail
  refine (alive13 _).mono ?_
  rintro e w1 ⟨rfl, hB1⟩
  have X6 := A0.keep hB1 A0.lt
  have X7 := A1.keep hB1 A1.lt
  have hb1 := hb0.trans (hB1.mono (by simp; omega))
  have k60 := X6.cell0
  have k61 := X6.cell1
  have k62 := X6.cell2
  have k70 := X7.cell0
  have k71 := X7.cell1
  have k72 := X7.cell2
  have hl6 := X6.lt
  have hl7 := X7.lt
  clear hB1 hb0 A0 A1 B0
  go_wp2_with fail
  refine (HNA.out _ hb1).mono ?_
  rintro e w2 ⟨p5, c5, q5, d5_, rfl, hc5, hI5, hJ5, hB2⟩
  have hz1 := hb1.size
  have hz2 := hB2.size
  have hB2' := hB2.alloc hz2 (.cells #[.slice p5 TA.length c5, .int .u8 sA, .int .u8 hA] 24)
  have Y6 := X6.keep hB2' hl6
  have Y7 := X7.keep hB2' hl7
  have Y14 := Box3.new w2 24 (.slice p5 TA.length c5) (.int .u8 sA) (.int .u8 hA) rfl
  have hb2 := hb1.trans (hB2'.mono hz1)
  have I5 := Lib.hid (hI5.alloc (.cells #[.slice p5 TA.length c5, .int .u8 sA, .int .u8 hA] 24))
  clear k60 k61 k62 k70 k71 k72 hB2 hI5 hJ5 HNA hB2'
  have k70 := Y7.cell0
  have k71 := Y7.cell1
  have k72 := Y7.cell2
  have hl14 := Y14.lt
  have hl7' := Y7.lt
  go_wp2_with fail
  refine (HNB.out _ hb2).mono ?_
  rintro e w3 ⟨p6, c6, q6, d6, rfl, hc6, hI6, hJ6, hB3⟩
  have hz3 := hB3.size
  have hB3' := hB3.alloc hz3 (.cells #[.slice p6 0 c6, .int .u8 sB, .int .u8 hB] 24)
  have Z14 := Y14.keep hB3' hl14
  have Z17 := Box3.new w3 24 (.slice p6 0 c6) (.int .u8 sB) (.int .u8 hB) rfl
  have hb3 := hb2.trans (hB3'.mono hb2.size)
  have J5 := Lib.hid (I5.out.keep hB3')
  have J6 := Lib.hid (hI6.alloc (.cells #[.slice p6 0 c6, .int .u8 sB, .int .u8 hB] 24))
  clear k70 k71 k72 hB3 hI6 hJ6 HNB hB3' I5
  have k140 := Z14.cell0
  have k141 := Z14.cell1
  have k142 := Z14.cell2
  have k170 := Z17.cell0
  have k171 := Z17.cell1
  have k172 := Z17.cell2
  go_wp2
  go_ret
  exact ⟨rfl, hb3⟩
set_option maxRecDepth 100000 in
set_option maxHeartbeats 4000000 in
theorem forget_ok (p1 p2 p3 p4 : Option Addr) (n1 n2 m1 m2 c1 c2 c3 c4 : Nat) (s1 h1 s2 h2 seq shape : Int) (w : World) (d1 : decide ((1000 : Int) < (n1 : Int)) = false) (d2 : decide ((1000 : Int) < (n2 : Int)) = false) (d3 : decide ((1000 : Int) < (m1 : Int)) = false) (d4 : decide ((1000 : Int) < (m2 : Int)) = false) (d5 : (h1 == h2) = true) (d5' : (h1 != h2) = false) (TA PA PB : List Int) (sA hA k2 : Int) (hk2 : seq.tmod 2 = k2) (hk2' : IntKind.u8.wrap k2 = k2) (TU PU : List Int) (sU hU EU : Int) (hR : ∀ j, -32768 ≤ PU.getD j 0 ∧ PU.getD j 0 ≤ 32767) (hTl : TA.length ≤ 4096) (hPl : PU.length ≤ 4096)
    (HNA : Hid (∀ W, Below w.heap.size w W → Calls Try.prog 9 #[.agg #[.slice p1 n1 c1, .int .u8 s1, .int .u8 h1], .int .u8 seq, .int .u8 shape, .slice p3 m1 c3] W (RNextG TA PA sA hA 0 W)))
    (HNB : Hid (∀ W, Below w.heap.size w W → Calls Try.prog 9 #[.agg #[.slice p2 n2 c2, .int .u8 s2, .int .u8 h2], .int .u8 seq, .int .u8 shape, .slice p3 m1 c3] W (RNextG TA PB sA hA 0 W)))
    (HNU : Hid (∀ W p c, Below w.heap.size w W → TA.length ≤ c → IsInts W p TA → Calls Try.prog 9 #[.agg #[.slice p TA.length c, .int .u8 sA, .int .u8 hA], .int .u8 shape, .int .u8 k2, .slice p4 m2 c4] W (RNextG TU PU sU hU EU W))) : Calls Try.prog 7 #[.agg #[.slice p1 n1 c1, .int .u8 s1, .int .u8 h1], .agg #[.slice p2 n2 c2, .int .u8 s2, .int .u8 h2], .int .u8 seq, .int .u8 shape, .slice p3 m1 c3, .slice p4 m2 c4] w fun e w' => e = .returned (.bool true) ∧ Below w.heap.size w w' := by
  obtain ⟨sB, hsB⟩ : ∃ sB, sA = sB := ⟨_, rfl⟩
  obtain ⟨hB, hhB⟩ : ∃ hB, hA = hB := ⟨_, rfl⟩
  have HR := Lib.hid hR
  unfold RNextG at HNA HNB HNU
  have e1 : (EU == EU) = true := by simp
  have e2 : (EU != EU) = false := by simp
  obtain ⟨nT, hnT⟩ : ∃ n, TA.length = n := ⟨_, rfl⟩
  have HT := Lib.hid hnT
  obtain ⟨nU, hnU⟩ : ∃ n, TU.length = n := ⟨_, rfl⟩
  obtain ⟨nP, hnP⟩ : ∃ n, PU.length = n := ⟨_, rfl⟩
  have HP := Lib.hid hnP
  rw [hnU, hnP] at HNU
  rw [hnT] at HNU HNA HNB
  clear hR hnU
  rw [hnT] at hTl
  rw [hnP] at hPl
  clear hnP hnT hsB hhB
  have B0 := Box3.new w 24 (.slice p1 n1 c1) (.int .u8 s1) (.int .u8 h1) rfl
  have A0 := B0.alloc (.cells #[.slice p2 n2 c2, .int .u8 s2, .int .u8 h2] 24)
  have A1 := Box3.new (w.alloc (.cells #[.slice p1 n1 c1, .int .u8 s1, .int .u8 h1] 24)) 24 (.slice p2 n2 c2) (.int .u8 s2) (.int .u8 h2) rfl
  have hb0 : Below w.heap.size w ((w.alloc (.cells #[.slice p1 n1 c1, .int .u8 s1, .int .u8 h1] 24)).alloc (.cells #[.slice p2 n2 c2, .int .u8 s2, .int .u8 h2] 24)) := ((Below.refl _ w).alloc (Nat.le_refl _) _).alloc (by simp) _
  rw [World.size_alloc] at A1
  go_enter Try.func7, Try.ntmps7
  go_wp2_with fail
  refine (alive13 _).mono ?_
  rintro e w1 ⟨rfl, hB1⟩
  have X6 := A0.keep hB1 A0.lt
  have X7 := A1.keep hB1 A1.lt
  have hb1 := hb0.trans (hB1.mono (by simp; omega))
  have k60 := X6.cell0
  have k61 := X6.cell1
  have k62 := X6.cell2
  have k70 := X7.cell0
  have k71 := X7.cell1
  have k72 := X7.cell2
  have hl6 := X6.lt
  have hl7 := X7.lt
  clear hB1 hb0 A0 A1 B0
  go_wp2_with fail
  refine (HNA.out _ hb1).mono ?_
  rintro e w2 ⟨p5, c5, q5, d5_, rfl, hc5, hI5, hJ5, hB2⟩
  have hz1 := hb1.size
  have hz2 := hB2.size
  have hB2' := hB2.alloc hz2 (.cells #[.slice p5 nT c5, .int .u8 sA, .int .u8 hA] 24)
  have Y6 := X6.keep hB2' hl6
  have Y7 := X7.keep hB2' hl7
  have Y14 := Box3.new w2 24 (.slice p5 nT c5) (.int .u8 sA) (.int .u8 hA) rfl
  have hb2 := hb1.trans (hB2'.mono hz1)
  have I5 := Lib.hid (hI5.alloc (.cells #[.slice p5 nT c5, .int .u8 sA, .int .u8 hA] 24))
  clear k60 k61 k62 k70 k71 k72 hB2 hI5 hJ5 HNA hB2'
  have k70 := Y7.cell0
  have k71 := Y7.cell1
  have k72 := Y7.cell2
  have hl14 := Y14.lt
  have hl7' := Y7.lt
  go_wp2_with fail
  refine (HNB.out _ hb2).mono ?_
  rintro e w3 ⟨p6, c6, q6, d6, rfl, hc6, hI6, hJ6, hB3⟩
  have hz3 := hB3.size
  have hB3' := hB3.alloc hz3 (.cells #[.slice p6 nT c6, .int .u8 sA, .int .u8 hA] 24)
  have Z14 := Y14.keep hB3' hl14
  have Z17 := Box3.new w3 24 (.slice p6 nT c6) (.int .u8 sA) (.int .u8 hA) rfl
  have hb3 := hb2.trans (hB3'.mono hb2.size)
  have J5 := Lib.hid (I5.out.keep hB3')
  have J6 := Lib.hid (hI6.alloc (.cells #[.slice p6 nT c6, .int .u8 sA, .int .u8 hA] 24))
  clear k70 k71 k72 hB3 hI6 hJ6 HNB hB3' I5
  have k140 := Z14.cell0
  have k141 := Z14.cell1
  have k142 := Z14.cell2
  have k170 := Z17.cell0
  have k171 := Z17.cell1
  have k172 := Z17.cell2
  have hl14' := Z14.lt
  have hl17 := Z17.lt
  go_wp2_with fail
  refine (HNU.out _ _ _ hb3 hc5 J5.out).mono ?_
  rintro e w4 ⟨p7, c7, q7, d7, rfl, hc7, hI7, hJ7, hB4⟩
  have hz4 := hB4.size
  have hB4' := hB4.alloc hz4 (.cells #[.slice p7 nU c7, .int .u8 sU, .int .u8 hU] 24)
  have V14 := Z14.keep hB4' hl14'
  have V17 := Z17.keep hB4' hl17
  have V20 := Box3.new w4 24 (.slice p7 nU c7) (.int .u8 sU) (.int .u8 hU) rfl
  have hb4 := hb3.trans (hB4'.mono hb3.size)
  have L5 := Lib.hid (J5.out.keep hB4')
  have L6 := Lib.hid (J6.out.keep hB4')
  have M7 := Lib.hid (hJ7.alloc (.cells #[.slice p7 nU c7, .int .u8 sU, .int .u8 hU] 24))
  clear k140 k141 k142 k170 k171 k172 hB4 hI7 hJ7 hB4' J5 J6
  have k140 := V14.cell0
  have k141 := V14.cell1
  have k142 := V14.cell2
  have k170 := V17.cell0
  have k171 := V17.cell1
  have k172 := V17.cell2
  have hl14'' := V14.lt
  have hl17' := V17.lt
  have hl20 := V20.lt
  go_wp2_with fail
  refine (HNU.out _ _ _ hb4 hc6 L6.out).mono ?_
  rintro e w5 ⟨p8, c8, q8, d8, rfl, hc8, hI8, hJ8, hB5⟩
  have hz5 := hB5.size
  have hB5' := hB5.alloc hz5 (.cells #[.slice p8 nU c8, .int .u8 sU, .int .u8 hU] 24)
  have U14 := V14.keep hB5' hl14''
  have U17 := V17.keep hB5' hl17'
  have U20 := V20.keep hB5' hl20
  have U23 := Box3.new w5 24 (.slice p8 nU c8) (.int .u8 sU) (.int .u8 hU) rfl
  have hb5 := hb4.trans (hB5'.mono hb4.size)
  have R5 := Lib.hid (L5.out.keep hB5')
  have R6 := Lib.hid (L6.out.keep hB5')
  have R7 := Lib.hid (M7.out.keep hB5')
  have R8 := Lib.hid (hJ8.alloc (.cells #[.slice p8 nU c8, .int .u8 sU, .int .u8 hU] 24))
  clear k140 k141 k142 k170 k171 k172 hB5 hI8 hJ8 hB5' L5 L6 M7 HNU
  obtain ⟨WF, hWF⟩ : ∃ WF, w5.alloc (.cells #[.slice p8 nU c8, .int .u8 sU, .int .u8 hU] 24) = WF := ⟨_, rfl⟩
  rw [hWF] at U14 U17 U20 U23 hb5 R5 R6 R7 R8
  have HBF := Lib.hid hb5
  have k140 := U14.cell0
  have k141 := U14.cell1
  have k142 := U14.cell2
  have k170 := U17.cell0
  have k171 := U17.cell1
  have k172 := U17.cell2
  have k200 := U20.cell0
  have k230 := U23.cell0
  have s1' : (sA == sA) = true := by simp
  have s2' : (sA != sA) = false := by simp
  have s3' : (hA == hA) = true := by simp
  have s4' : (hA != hA) = false := by simp
  have n1' : ((nT : Int) == (nT : Int)) = true := by simp
  have n2' : ((nT : Int) != (nT : Int)) = false := by simp
  have n3' : ((nU : Int) == (nU : Int)) = true := by simp
  have n4' : ((nU : Int) != (nU : Int)) = false := by simp
  have n5' : ((nP : Int) == (nP : Int)) = true := by simp
  have n6' : ((nP : Int) != (nP : Int)) = false := by simp
  go_wp2
  go_loopw [26] (fun I wr => ∃ (k m : Nat), I = .int .i64 k ∧ k ≤ nT ∧ wr = WF.drewN m) (fun I _ => nT - (intOf I).toNat)
  case atStart => exact ⟨0, 0, rfl, Nat.zero_le _, rfl⟩
  case round =>
    obtain ⟨k, m, rfl, hk, rfl⟩ := hrel
    by_cases hlt : k < nT
    · have hd : decide ((k : Int) < (nT : Int)) = true := decide_eq_true (by omega)
      obtain ⟨ba, oa, rfl, _, qa⟩ := R5.out.at (j := k) (by rw [HT.out]; exact hlt)
      obtain ⟨bb, ob, rfl, _, qb⟩ := R6.out.at (j := k) (by rw [HT.out]; exact hlt)
      have ra := qa k (by rw [HT.out]; exact hlt)
      have rb := qb k (by rw [HT.out]; exact hlt)
      generalize TA.getD k 0 = z at *
      have z1 : (z == z) = true := by simp
      have z2 : (z != z) = false := by simp
      clear qa qb
      go_wp2
      go_quiet (fail)
      go_wp2
      exact ⟨⟨k + 1, _, by go_num, by omega, rfl⟩, by simp [intOf]; omega⟩
    · have hd : decide ((k : Int) < (nT : Int)) = false := decide_eq_false (by omega)
      go_wp2
      go_loopw [27] (fun I wr => ∃ (k m : Nat), I = .int .i64 k ∧ k ≤ nP ∧ wr = WF.drewN m) (fun I _ => nP - (intOf I).toNat)
      case atStart => exact ⟨0, m, rfl, Nat.zero_le _, rfl⟩
      case round =>
        obtain ⟨j, m, rfl, hj, rfl⟩ := hrel
        by_cases hlj : j < nP
        · have hd : decide ((j : Int) < (nP : Int)) = true := decide_eq_true (by omega)
          obtain ⟨ba, oa, rfl, _, qa⟩ := R7.out.at (j := j) (by rw [HP.out]; exact hlj)
          obtain ⟨bb, ob, rfl, _, qb⟩ := R8.out.at (j := j) (by rw [HP.out]; exact hlj)
          have ra := qa j (by rw [HP.out]; exact hlj)
          have rb := qb j (by rw [HP.out]; exact hlj)
          obtain ⟨g0, g1⟩ := HR.out j
          generalize PU.getD j 0 = z at *
          have z1 : (z == z) = true := by simp
          have z2 : (z != z) = false := by simp
          have z3 : decide (z < -32768) = false := decide_eq_false (by omega)
          have z4 : decide (32767 < z) = false := decide_eq_false (by omega)
          clear qa qb
          go_wp2
          go_quiet (fail)
          go_wp2
          exact ⟨⟨j + 1, _, by go_num, by omega, rfl⟩, by simp [intOf]; omega⟩
        · have hd : decide ((j : Int) < (nP : Int)) = false := decide_eq_false (by omega)
          go_wp2
          go_ret
          exact ⟨rfl, below_drewN HBF.out _⟩
end Go.Proofs.Ytcmbbmilldhnnaa
