/- reedpiperef07, whatever the arguments; PowerDoes. -/
import Derived.Test.YtdagcihkdndonaaRefPower
set_option linter.unusedVariables false
namespace Go.Proofs.Ytdagcihkdndonaa
open Go.ChangeShapes Go.WideShapes Go.ChangeAt Go.RowKit

theorem RefFour_any (q : Int) (w : World) : Calls Try.prog 13 #[.int .i64 q] w (RP2 (fourV q) w) := by
  by_cases hb : q < 0 ∨ 8191 < q
  · rw [fourV, if_pos hb]
    go_enter Try.func13, Try.ntmps13
    go_wp2
    all_goals go_ret2
    all_goals exact ⟨rfl, Below.refl _ _⟩
  · rw [fourV, if_neg hb]
    obtain ⟨n, rfl⟩ : ∃ n : Nat, q = n := ⟨q.toNat, by omega⟩
    rw [Int.toNat_natCast]
    have h3 : (n : Int) ≤ 8191 := by omega
    have F := Lib.hid (fun W => refpower_ok n (by omega) W)
    clear hb
    generalize powN n = L at *
    go_enter Try.func13, Try.ntmps13
    go_wp2_with (go_at_call 21; refine (F.out _).mono ?_; rintro e w1 ⟨rfl, rfl⟩)
    go_ret2
    exact ⟨rfl, Below.refl _ _⟩

set_option maxHeartbeats 1000000 in
theorem RefLine_any (q s : Int) (w : World) : Calls Try.prog 14 #[.int .i64 q, .int .i64 s] w (RP2 (lineV q s) w) := by
  by_cases hb : BadQ q 8191 s
  · rw [lineV, if_pos hb]
    unfold BadQ at hb
    go_enter Try.func14, Try.ntmps14
    go_wp2
    all_goals first | (go_ret2; exact ⟨rfl, Below.refl _ _⟩) | (exfalso; omega)
  · rw [lineV, if_neg hb]
    have hb' : ¬ (q < -8191 ∨ 8191 < q ∨ s < 0 ∨ 255 < s) := hb
    clear hb
    obtain ⟨n, rfl⟩ : ∃ n : Nat, s = n := ⟨s.toNat, by omega⟩
    rw [Int.toNat_natCast]
    have F := Lib.hid (fun W => refvalue_ok q n (by omega) (by omega) (by omega) W)
    have h1 : -8191 ≤ q := by omega
    have h2 : q ≤ 8191 := by omega
    have h3 : (n : Int) ≤ 255 := by omega
    clear hb'
    generalize lineL q n = L at *
    go_enter Try.func14, Try.ntmps14
    go_wp2_with (go_at_call 22; refine (F.out _).mono ?_; rintro e w1 ⟨rfl, rfl⟩)
    go_ret2
    exact ⟨rfl, Below.refl _ _⟩

set_option maxHeartbeats 1000000 in
theorem RefQuant_any (q s : Int) (w : World) : Calls Try.prog 15 #[.int .i64 q, .int .i64 s] w (RP2 (quantV q s) w) := by
  by_cases hb : BadQ q 268435455 s
  · rw [quantV, if_pos hb]
    unfold BadQ at hb
    go_enter Try.func15, Try.ntmps15
    go_wp2
    all_goals first | (go_ret2; exact ⟨rfl, Below.refl _ _⟩) | (exfalso; omega)
  · rw [quantV, if_neg hb]
    have hb' : ¬ (q < -268435455 ∨ 268435455 < q ∨ s < 0 ∨ 255 < s) := hb
    clear hb
    obtain ⟨n, rfl⟩ : ∃ n : Nat, s = n := ⟨s.toNat, by omega⟩
    rw [Int.toNat_natCast]
    have F := Lib.hid (fun W => refnear_ok q n (by omega) (by omega) (by omega) W)
    have h1 : -268435455 ≤ q := by omega
    have h2 : q ≤ 268435455 := by omega
    have h3 : (n : Int) ≤ 255 := by omega
    clear hb'
    generalize quantL q n = L at *
    go_enter Try.func15, Try.ntmps15
    go_wp2_with (go_at_call 23; refine (F.out _).mono ?_; rintro e w1 ⟨rfl, rfl⟩)
    go_ret2
    exact ⟨rfl, Below.refl _ _⟩

set_option maxRecDepth 100000 in
set_option maxHeartbeats 1000000 in
theorem does07 (q x s : Int) (w : World) :
    Calls Try.prog 6 #[.int .i64 q, .int .i64 x, .int .i64 s] w fun e w' => e = .returned (.bool true) ∧ Below w.heap.size w w' := by
  go_enter Try.func6, Try.ntmps6
  go_wp2_with fail
  refine (Four_any q _).mono ?_
  skip
  rintro e w1 ⟨rfl, hb1⟩
  go_wp2_with fail
  refine (RefFour_any q _).mono ?_
  skip
  rintro e w2 ⟨rfl, hb2⟩
  go_wp2_with fail
  refine (Line_any q s _).mono ?_
  skip
  rintro e w3 ⟨rfl, hb3⟩
  go_wp2_with fail
  refine (RefLine_any q s _).mono ?_
  skip
  rintro e w4 ⟨rfl, hb4⟩
  go_wp2_with fail
  refine (Quant_any x s _).mono ?_
  skip
  rintro e w5 ⟨rfl, hb5⟩
  go_wp2_with fail
  refine (RefQuant_any x s _).mono ?_
  skip
  rintro e w6 ⟨rfl, hb6⟩
  generalize fourV q = p1 at *
  generalize lineV q s = p2 at *
  generalize quantV x s = p3 at *
  have sz2 : w.heap.size ≤ w1.heap.size := (hb1).size
  have sz3 : w.heap.size ≤ w2.heap.size := ((hb1).trans (hb2.mono sz2)).size
  have sz4 : w.heap.size ≤ w3.heap.size := (((hb1).trans (hb2.mono sz2)).trans (hb3.mono sz3)).size
  have sz5 : w.heap.size ≤ w4.heap.size := ((((hb1).trans (hb2.mono sz2)).trans (hb3.mono sz3)).trans (hb4.mono sz4)).size
  have sz6 : w.heap.size ≤ w5.heap.size := (((((hb1).trans (hb2.mono sz2)).trans (hb3.mono sz3)).trans (hb4.mono sz4)).trans (hb5.mono sz5)).size
  go_wp2
  go_ret
  exact ⟨rfl, (((((hb1).trans (hb2.mono sz2)).trans (hb3.mono sz3)).trans (hb4.mono sz4)).trans (hb5.mono sz5)).trans (hb6.mono sz6)⟩
end Go.Proofs.Ytdagcihkdndonaa
