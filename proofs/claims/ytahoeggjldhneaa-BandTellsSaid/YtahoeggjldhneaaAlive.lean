import Derived.Test.YtahoeggjldhneaaOff
import Derived.Test.YtahoeggjldhneaaInts
namespace Go.Proofs.Ytahoeggjldhneaa
open Go.ChangeShapes Go.WideShapes Go.ChangeAt Go.RowKit

theorem band11 : bandL 11 true = [0, 4, 8, 12, 16, 20, 24, 32] := by decide +kernel
theorem band0 : bandL 0 true = [0, 4, 8, 16, 28, 32] := by decide +kernel

set_option maxHeartbeats 400000 in
theorem alive_any (w : World) : Calls Try.prog 8 #[] w fun e w' => e = .returned (.bool true) ∧ Below w.heap.size w w' := by
  go_enter Try.func8, Try.ntmps8
  go_wp2_with fail
  refine (offsets_ok 11 true (by decide) (by decide) _).mono ?_
  rintro e w1 ⟨v, rfl, ho, hb1⟩
  rw [band11] at ho
  obtain ⟨g, cap, rfl, hg, hlt, hc⟩ := owns_at ho (by decide)
  have I1 := Lib.hid (isInts_of hlt hc)
  clear ho hc
  go_wp2_with fail
  refine (offsets_ok 0 true (by decide) (by decide) _).mono ?_
  rintro e w2 ⟨v, rfl, ho, hb2⟩
  rw [band0] at ho
  obtain ⟨g2, cap2, rfl, hg2, hlt2, hc⟩ := owns_at ho (by decide)
  have I2 := Lib.hid (isInts_of hlt2 hc)
  have I12 := Lib.hid (I1.out.keep hb2)
  clear ho hc I1
  go_wp2_with fail
  refine (ints_same _ _ [0, 4, 8, 12, 16, 20, 24, 32] _ _ _ (I12.out.alloc _) (isInts_new w2 [0, 4, 8, 12, 16, 20, 24, 32] 3 rfl) (by decide)).mono ?_
  rintro e w3 ⟨rfl, n, rfl⟩
  go_wp2_with fail
  refine (ints_same _ _ [0, 4, 8, 16, 28, 32] _ _ _ (((I2.out.alloc _).drewN n).alloc _) (isInts_new ((w2.alloc _).drewN n) [0, 4, 8, 16, 28, 32] 3 (by simp)) (by decide)).mono ?_
  rintro e w3 ⟨rfl, n', rfl⟩
  go_wp2
  go_ret
  refine ⟨rfl, below_drewN ?_ _⟩
  refine Below.alloc (below_drewN (Below.alloc (hb1.trans (hb2.mono hb1.size)) (by have := hb1.size; have := hb2.size; omega) _) _) (by have := hb1.size; have := hb2.size; simp; omega) _
end Go.Proofs.Ytahoeggjldhneaa
