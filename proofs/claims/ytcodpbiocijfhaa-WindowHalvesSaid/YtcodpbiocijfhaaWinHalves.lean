/- WindowHalves. -/
import Derived.Test.YtcodpbiocijfhaaWinLaws
set_option linter.unusedVariables false
namespace Go.Proofs.Ytcodpbiocijfhaa
open Go.ChangeShapes Go.WideShapes Go.ChangeAt Go.RowKit

set_option maxRecDepth 100000 in
set_option maxHeartbeats 4000000 in
theorem halves05 (w : World) :
    Calls Try.prog 6 #[] w fun e w' => e = .returned (.bool true) ∧ Below w.heap.size w w' := by
  go_enter Try.func6, Try.ntmps6
  go_wp2_with fail
  refine (alive05 _).mono ?_
  rintro e w2 ⟨rfl, hb2⟩
  go_wp2
  go_loopw [2] (fun I wr => ∃ i : Int, I = .int .i64 i ∧ 0 ≤ i ∧ i ≤ 2 ∧ Below w.heap.size w wr) (fun I _ => 2 - (intOf I).toNat)
  case atStart => exact ⟨0, rfl, by decide, by decide, hb2⟩
  case round =>
    obtain ⟨i, rfl, i0, i1, hbw⟩ := hrel
    clear hb2
    have hi : i = 0 ∨ i = 1 ∨ i = 2 := by omega
    clear i0 i1
    rcases hi with rfl | rfl | rfl
    · go_wp2_with fail
      refine (half_sine_long _).mono ?_
      rintro e w1 ⟨g, rfl, hO, hb⟩
      rw [show hvL 0 false = sineTabL from hv_tab 0 false (by decide), show hvLen false = 256 from rfl] at hO
      rw [show hvLen false = 256 from rfl]
      have hb1 := hbw.trans (hb.mono hbw.size)
      have a0 := row_at hO 0 12868 (by decide) (by decide +kernel)
      have a1 := row_at hO 255 4194284 (by decide) (by decide +kernel)
      have a2 := row_at hO 127 2956708 (by decide) (by decide +kernel)
      have hg1 := (hO.lt g rfl).2
      clear hO hb
      go_wp2_with fail
      refine (half_kbd_long _).mono ?_
      rintro e w3 ⟨g', rfl, hO, hb⟩
      rw [show hvL 1 false = kbdTabL from hv_tab 1 false (by decide), show hvLen false = 256 from rfl] at hO
      rw [show hvLen false = 256 from rfl]
      have hb3 := hb1.trans (hb.mono hb1.size)
      have b0 := row_at hO 0 2454 (by decide) (by decide +kernel)
      have b1 := row_at hO 255 4194303 (by decide) (by decide +kernel)
      have b2 := row_at hO 127 2949219 (by decide) (by decide +kernel)
      rw [← hb.cell (p := ⟨g, 0, none⟩) hg1] at a0
      rw [← hb.cell (p := ⟨g, 255, none⟩) hg1] at a1
      rw [← hb.cell (p := ⟨g, 127, none⟩) hg1] at a2
      clear hO hb hb1
      go_wp2
      go_quiet (fail)
      go_wp2
      exact ⟨⟨1, rfl, by decide, by decide, below_drewN hb3 _⟩, by simp [intOf]⟩
    · go_wp2_with fail
      refine (half_sine_short _).mono ?_
      rintro e w1 ⟨g, rfl, hO, hb⟩
      rw [show hvL 0 true = sineTabS from hv_tab 0 true (by decide), show hvLen true = 32 from rfl] at hO
      rw [show hvLen true = 32 from rfl]
      have hb1 := hbw.trans (hb.mono hbw.size)
      have a0 := row_at hO 0 102933 (by decide) (by decide +kernel)
      have a1 := row_at hO 31 4193041 (by decide) (by decide +kernel)
      have a2 := row_at hO 15 2892143 (by decide) (by decide +kernel)
      have hg1 := (hO.lt g rfl).2
      clear hO hb
      go_wp2_with fail
      refine (half_kbd_short _).mono ?_
      rintro e w3 ⟨g', rfl, hO, hb⟩
      rw [show hvL 1 true = kbdTabS from hv_tab 1 true (by decide), show hvLen true = 32 from rfl] at hO
      rw [show hvLen true = 32 from rfl]
      have hb3 := hb1.trans (hb.mono hb1.size)
      have b0 := row_at hO 0 367 (by decide) (by decide +kernel)
      have b1 := row_at hO 31 4194303 (by decide) (by decide +kernel)
      have b2 := row_at hO 15 2799531 (by decide) (by decide +kernel)
      rw [← hb.cell (p := ⟨g, 0, none⟩) hg1] at a0
      rw [← hb.cell (p := ⟨g, 31, none⟩) hg1] at a1
      rw [← hb.cell (p := ⟨g, 15, none⟩) hg1] at a2
      clear hO hb hb1
      go_wp2
      go_quiet (fail)
      go_wp2
      exact ⟨⟨2, rfl, by decide, by decide, below_drewN hb3 _⟩, by simp [intOf]⟩
    · go_wp2
      go_ret
      exact ⟨rfl, hbw⟩
end Go.Proofs.Ytcodpbiocijfhaa
