import Derived.Test.YtginhdfmpkhhiaaRefCos
import Derived.Test.YtginhdfmpkhhiaaTrigFacts
set_option linter.unusedVariables false
namespace Go.Proofs.Ytginhdfmpkhhiaa
open Go.ChangeShapes Go.WideShapes Go.ChangeAt Go.RowKit

set_option maxHeartbeats 1000000 in
theorem does04 (n : Int) (w : World) :
    Calls Try.prog 4 #[.int .i64 n] w fun e w' => e = .returned (.bool true) ∧ Below w.heap.size w w' := by
  go_enter Try.func4, Try.ntmps4
  go_wp2_with fail
  refine (cos_ok n _).mono ?_
  skip
  rintro e w1 ⟨rfl, hb1⟩
  go_wp2_with fail
  refine (refcos_ok n _).mono ?_
  rintro e wx ⟨rfl, rfl⟩
  go_wp2_with fail
  refine (sin_ok n _).mono ?_
  rintro e w2 ⟨rfl, hb2⟩
  go_wp2_with fail
  refine (refsin_ok n _).mono ?_
  rintro e wy ⟨rfl, rfl⟩
  go_wp2
  go_ret
  exact ⟨rfl, hb1.trans (hb2.mono hb1.size)⟩

set_option maxRecDepth 100000 in
set_option maxHeartbeats 1000000 in
theorem all04 (w : World) :
    Calls Try.prog 5 #[] w fun e w' => e = .returned (.bool true) ∧ Below w.heap.size w w' := by
  go_enter Try.func5, Try.ntmps5
  go_wp2_with fail
  refine (cos_ok 0 _).mono ?_
  rw [cos_0]
  rintro e w1 ⟨rfl, hb1⟩
  go_wp2
  go_loopw [1] (fun i wr => ∃ k : Int, i = .int .i64 k ∧ -2048 ≤ k ∧ k ≤ 4096 ∧ Below w.heap.size w wr) (fun i _ => (4096 - intOf i).toNat)
  case atStart => exact ⟨-2048, rfl, by decide, by decide, hb1⟩
  case round =>
    obtain ⟨k, rfl, hk0, hk, hb⟩ := hrel
    have sz0 := hb.size
    by_cases hlt : k < 4096
    · go_wp2_with fail
      refine (cos_ok k _).mono ?_
      rintro e w2 ⟨rfl, hb2⟩
      go_wp2_with fail
      refine (refcos_ok k _).mono ?_
      rintro e w' ⟨rfl, rfl⟩
      go_wp2_with fail
      refine (sin_ok k _).mono ?_
      rintro e w3 ⟨rfl, hb3⟩
      go_wp2_with fail
      refine (refsin_ok k _).mono ?_
      rintro e w' ⟨rfl, rfl⟩
      have b3 := (hb.trans (hb2.mono sz0))
      have b4 := b3.trans (hb3.mono b3.size)
      clear hb2 hb3 hb b3
      go_wp2
      exact ⟨⟨k + 1, rfl, by omega, by omega, b4⟩, by simp [intOf]; omega⟩
    · go_wp2
      go_ret
      exact ⟨rfl, hb⟩
end Go.Proofs.Ytginhdfmpkhhiaa
