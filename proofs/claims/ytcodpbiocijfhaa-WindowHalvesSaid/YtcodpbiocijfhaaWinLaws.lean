/- Windows' laws: what they answer. -/
import Derived.Test.YtcodpbiocijfhaaWinTab
set_option linter.unusedVariables false
namespace Go.Proofs.Ytcodpbiocijfhaa
open Go.ChangeShapes Go.WideShapes Go.ChangeAt Go.RowKit

theorem row_at {w : World} {base g : Nat} {l : List Int} {n c : Nat} (h : w.ownsRow base 3 1 (.slice (some ⟨g, 0, none⟩) n c) n (l.map (Value.int .i64))) (j : Nat) (v : Int) (hj : j < n) (hv : l[j]? = some v) : w.cell? ⟨g, j, none⟩ = some (.int .i64 v) := by
  rw [h.cellAt j (by omega)]
  simp [hv]
theorem tab_at {l : List Int} {j : Nat} (h : j < l.length) : l[j]? = some (l.getD j 0) := by
  simp [List.getD_eq_getElem?_getD, List.getElem?_eq_getElem h]

set_option maxRecDepth 100000 in
set_option maxHeartbeats 2000000 in
theorem alive05 (w : World) :
    Calls Try.prog 8 #[] w fun e w' => e = .returned (.bool true) ∧ Below w.heap.size w w' := by
  go_enter Try.func8, Try.ntmps8
  go_wp2_with fail
  refine (half_sine_long _).mono ?_
  rintro e w1 ⟨g, rfl, hO, hb⟩
  rw [show hvL 0 false = sineTabL from sine_long, show hvLen false = 256 from rfl] at hO
  rw [show hvLen false = 256 from rfl]
  have c0 := row_at hO 0 12868 (by decide) (by decide +kernel)
  have c1 := row_at hO 255 4194284 (by decide) (by decide +kernel)
  clear hO
  go_wp2
  go_quiet (fail)
  go_wp2
  go_ret
  exact ⟨rfl, below_drewN hb _⟩

set_option maxRecDepth 100000 in
set_option maxHeartbeats 2000000 in
theorem names05 (w : World) :
    Calls Try.prog 3 #[] w fun e w' => e = .returned (.bool true) ∧ Below w.heap.size w w' := by
  go_enter Try.func3, Try.ntmps3
  go_wp2_with fail
  refine (half_kbd_short _).mono ?_
  rintro e w1 ⟨g, rfl, hO, hb⟩
  clear hO
  rw [show hvLen true = 32 from rfl]
  go_wp2_with fail
  refine (half_bad 2 false (by decide) (by decide) _).mono ?_
  rintro e w2 ⟨rfl, hwl⟩
  obtain rfl := hwl
  go_wp2_with fail
  refine (alive05 _).mono ?_
  rintro e w2 ⟨rfl, hb2⟩
  go_wp2
  go_ret
  exact ⟨rfl, hb.trans (hb2.mono hb.size)⟩

end Go.Proofs.Ytcodpbiocijfhaa
