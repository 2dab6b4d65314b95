import Derived.Test.YtfjckgdmicgkmaaFixAll
set_option linter.unusedVariables false
namespace Go.Proofs.Ytfjckgdmicgkmaa
open Go.ChangeShapes Go.WideShapes Go.ChangeAt Go.RowKit

set_option maxRecDepth 100000 in
set_option maxHeartbeats 2000000 in
theorem names03  (w : World) :
    Calls Try.prog 7 #[] w fun e w' => e = .returned (.bool true) ∧ Below w.heap.size w w' := by
  have v1 : rndV (-5) 1 = (-2, 0) := by decide +kernel
  have v2 : rndV 6 2 = (2, 0) := by decide +kernel
  have v3 : rndV 7 0 = (7, 0) := by decide +kernel
  have v4 : clpV 40000 16 = (32767, 0) := by decide +kernel
  have v5 : clpV (-40000) 16 = (-32768, 0) := by decide +kernel
  have v6 : clpV 7 16 = (7, 0) := by decide +kernel
  have v7 : cbV 27 = (3, 0) := by decide +kernel
  have v8 : sqV (-1) = (0, 2) := by decide +kernel
  go_enter Try.func7, Try.ntmps7
  go_wp2_with fail
  refine (round_any (-5) 1 _).mono ?_
  rw [v1]
  rintro e w1 ⟨rfl, hb1⟩
  go_wp2_with fail
  refine (round_any 6 2 _).mono ?_
  rw [v2]
  rintro e w2 ⟨rfl, hb2⟩
  go_wp2_with fail
  refine (round_any 7 0 _).mono ?_
  rw [v3]
  rintro e w3 ⟨rfl, hb3⟩
  go_wp2_with fail
  refine (clip_any 40000 16 (by decide) (by decide) _).mono ?_
  rw [v4]
  rintro e w4 ⟨rfl, hb4⟩
  go_wp2_with fail
  refine (clip_any (-40000) 16 (by decide) (by decide) _).mono ?_
  rw [v5]
  rintro e w5 ⟨rfl, hb5⟩
  go_wp2_with fail
  refine (clip_any 7 16 (by decide) (by decide) _).mono ?_
  rw [v6]
  rintro e w6 ⟨rfl, hb6⟩
  go_wp2_with fail
  refine (cbrt_any 27 _).mono ?_
  rw [v7]
  rintro e w7 ⟨rfl, hb7⟩
  go_wp2_with fail
  refine (sqrt_any (-1) _).mono ?_
  rw [v8]
  rintro e w8 ⟨rfl, hb8⟩
  go_wp2_with fail
  refine (alive03 _).mono ?_
  skip
  rintro e w9 ⟨rfl, hb9⟩
  clear v1 v2 v3 v4 v5 v6 v7 v8
  have sz2 : w.heap.size ≤ w1.heap.size := (hb1).size
  have sz3 : w.heap.size ≤ w2.heap.size := ((hb1).trans (hb2.mono sz2)).size
  have sz4 : w.heap.size ≤ w3.heap.size := (((hb1).trans (hb2.mono sz2)).trans (hb3.mono sz3)).size
  have sz5 : w.heap.size ≤ w4.heap.size := ((((hb1).trans (hb2.mono sz2)).trans (hb3.mono sz3)).trans (hb4.mono sz4)).size
  have sz6 : w.heap.size ≤ w5.heap.size := (((((hb1).trans (hb2.mono sz2)).trans (hb3.mono sz3)).trans (hb4.mono sz4)).trans (hb5.mono sz5)).size
  have sz7 : w.heap.size ≤ w6.heap.size := ((((((hb1).trans (hb2.mono sz2)).trans (hb3.mono sz3)).trans (hb4.mono sz4)).trans (hb5.mono sz5)).trans (hb6.mono sz6)).size
  have sz8 : w.heap.size ≤ w7.heap.size := (((((((hb1).trans (hb2.mono sz2)).trans (hb3.mono sz3)).trans (hb4.mono sz4)).trans (hb5.mono sz5)).trans (hb6.mono sz6)).trans (hb7.mono sz7)).size
  have sz9 : w.heap.size ≤ w8.heap.size := ((((((((hb1).trans (hb2.mono sz2)).trans (hb3.mono sz3)).trans (hb4.mono sz4)).trans (hb5.mono sz5)).trans (hb6.mono sz6)).trans (hb7.mono sz7)).trans (hb8.mono sz8)).size
  go_wp2
  go_ret
  exact ⟨rfl, ((((((((hb1).trans (hb2.mono sz2)).trans (hb3.mono sz3)).trans (hb4.mono sz4)).trans (hb5.mono sz5)).trans (hb6.mono sz6)).trans (hb7.mono sz7)).trans (hb8.mono sz8)).trans (hb9.mono sz9)⟩

set_option maxRecDepth 100000 in
set_option maxHeartbeats 2000000 in
theorem does03 (n b : Int) (hn : -9223372036854775808 ≤ n ∧ n ≤ 9223372036854775807) (w : World) :
    Calls Try.prog 8 #[.int .i64 n, .int .i64 b] w fun e w' => e = .returned (.bool true) ∧ Below w.heap.size w w' := by
  go_enter Try.func8, Try.ntmps8
  go_wp2_with fail
  refine (round_any n b _).mono ?_
  skip
  rintro e w1 ⟨rfl, hb1⟩
  go_wp2_with fail
  refine (refround_any n b _).mono ?_
  skip
  rintro e w2 ⟨rfl, hb2⟩
  go_wp2_with fail
  refine (clip_any n b hn.1 hn.2 _).mono ?_
  skip
  rintro e w3 ⟨rfl, hb3⟩
  go_wp2_with fail
  refine (refclip_any n b _).mono ?_
  skip
  rintro e w4 ⟨rfl, hb4⟩
  go_wp2_with fail
  refine (sqrt_any n _).mono ?_
  skip
  rintro e w5 ⟨rfl, hb5⟩
  go_wp2_with fail
  refine (refsqrt_any n _).mono ?_
  skip
  rintro e w6 ⟨rfl, hb6⟩
  go_wp2_with fail
  refine (cbrt_any n _).mono ?_
  skip
  rintro e w7 ⟨rfl, hb7⟩
  go_wp2_with fail
  refine (refcbrt_any n _).mono ?_
  skip
  rintro e w8 ⟨rfl, hb8⟩
  generalize rndV n b = p at *
  generalize clpV n b = q at *
  generalize sqV n = r at *
  generalize cbV n = s at *
  have sz2 : w.heap.size ≤ w1.heap.size := (hb1).size
  have sz3 : w.heap.size ≤ w2.heap.size := ((hb1).trans (hb2.mono sz2)).size
  have sz4 : w.heap.size ≤ w3.heap.size := (((hb1).trans (hb2.mono sz2)).trans (hb3.mono sz3)).size
  have sz5 : w.heap.size ≤ w4.heap.size := ((((hb1).trans (hb2.mono sz2)).trans (hb3.mono sz3)).trans (hb4.mono sz4)).size
  have sz6 : w.heap.size ≤ w5.heap.size := (((((hb1).trans (hb2.mono sz2)).trans (hb3.mono sz3)).trans (hb4.mono sz4)).trans (hb5.mono sz5)).size
  have sz7 : w.heap.size ≤ w6.heap.size := ((((((hb1).trans (hb2.mono sz2)).trans (hb3.mono sz3)).trans (hb4.mono sz4)).trans (hb5.mono sz5)).trans (hb6.mono sz6)).size
  have sz8 : w.heap.size ≤ w7.heap.size := (((((((hb1).trans (hb2.mono sz2)).trans (hb3.mono sz3)).trans (hb4.mono sz4)).trans (hb5.mono sz5)).trans (hb6.mono sz6)).trans (hb7.mono sz7)).size
  go_wp2
  go_ret
  exact ⟨rfl, (((((((hb1).trans (hb2.mono sz2)).trans (hb3.mono sz3)).trans (hb4.mono sz4)).trans (hb5.mono sz5)).trans (hb6.mono sz6)).trans (hb7.mono sz7)).trans (hb8.mono sz8)⟩

end Go.Proofs.Ytfjckgdmicgkmaa
