/- reedpiperef15.Great: what it tells. -/
import Derived.Test.YteijlbblmdclaaaTnsFwd
set_option linter.unusedVariables false
set_option linter.unusedSimpArgs false
namespace Go.Proofs.Yteijlbblmdclaaa
open Go.ChangeShapes Go.WideShapes Go.ChangeAt Go.RowKit
def RGreat (G : List Int) (B : List BV) (x : List Int) (w : World) (e : Ending) (w' : World) : Prop :=
  ∃ b, e = .returned (.bool b) ∧ (b = false → G.length ≤ 100 ∧ B.length ≤ 100 ∧ x.length ≤ 1000) ∧ Below w.heap.size w w'
set_option maxRecDepth 100000 in
set_option maxHeartbeats 4000000 in
theorem tns_great (seq shape max : Int) (G : List Int) (pg q px : Option Addr) (cg cB cx : Nat) (B : List BV) (x : List Int) (w : World) (hB : IsBank w q B) :
    Calls Try.prog 13 #[.agg (infC seq shape max pg G.length cg), .slice q B.length cB, .slice px x.length cx] w (RGreat G B x w) := by
  have hb0 : Below w.heap.size w (w.alloc (.cells (infC seq shape max pg G.length cg) 33)) := (Below.refl _ w).alloc (Nat.le_refl _) _
  have HB := Lib.hid (hB.keep hb0)
  have HB0 := Lib.hid hb0
  clear hB hb0
  by_cases c1 : 100 < G.length
  · have e1 : decide ((G.length : Int) > 100) = true := decide_eq_true (by omega)
    go_enter Try.func13, Try.ntmps13
    go_wp2
    go_ret
    exact Exists.intro true ⟨rfl, fun h => by simp at h, HB0.out⟩
  have e1 : decide ((G.length : Int) > 100) = false := decide_eq_false (by omega)
  by_cases c2 : 100 < B.length
  · have e2 : decide ((B.length : Int) > 100) = true := decide_eq_true (by omega)
    go_enter Try.func13, Try.ntmps13
    go_wp2
    go_ret
    exact Exists.intro true ⟨rfl, fun h => by simp at h, HB0.out⟩
  have e2 : decide ((B.length : Int) > 100) = false := decide_eq_false (by omega)
  by_cases c3 : 1000 < x.length
  · have e3 : decide ((x.length : Int) > 1000) = true := decide_eq_true (by omega)
    go_enter Try.func13, Try.ntmps13
    go_wp2
    go_ret
    exact Exists.intro true ⟨rfl, fun h => by simp at h, HB0.out⟩
  have e3 : decide ((x.length : Int) > 1000) = false := decide_eq_false (by omega)
  have HL := Lib.hid (show G.length ≤ 100 ∧ B.length ≤ 100 ∧ x.length ≤ 1000 by omega)
  have hbl : B.length ≤ 100 := by omega
  clear c1 c2 c3
  go_enter Try.func13, Try.ntmps13
  go_wp2_with fail
  clear e1 e2 e3
  go_loop [7, 8] (fun N K => ∃ (k : Nat) (n : Int), K = .int .i64 k ∧ k ≤ B.length ∧ N = .int .i64 n) (fun _ K => B.length - (intOf K).toNat)
  case atStart => exact ⟨0, 0, rfl, Nat.zero_le _, rfl⟩
  case round =>
    obtain ⟨k, n, rfl, hk, rfl⟩ := hrel
    by_cases hlt : k < B.length
    · have hd : decide ((k : Int) < (B.length : Int)) = true := decide_eq_true (by omega)
      obtain ⟨bq, oq, rfl, _, hc⟩ := HB.out.at hlt
      have r1 := hc k hlt
      obtain ⟨hfs, _⟩ := HB.out.2 k hlt
      generalize B.getD k default = bv at r1 hfs
      obtain ⟨qf, cf, fs⟩ := bv
      dsimp only at r1 hfs
      have HF := Lib.hid hfs
      clear hc hfs
      go_upto_region 8 with fail
      all_goals
        go_wp2_with fail
        go_loop [7, 9] (fun N K => ∃ (i : Nat) (n : Int), K = .int .i64 i ∧ i ≤ fs.length ∧ N = .int .i64 n) (fun _ K => fs.length - (intOf K).toNat)
        case atStart => exact ⟨0, _, rfl, Nat.zero_le _, rfl⟩
        case round =>
          obtain ⟨i, n', rfl, hi, rfl⟩ := hrel
          by_cases hli : i < fs.length
          · have hd1 : decide ((i : Int) < (fs.length : Int)) = true := decide_eq_true (by omega)
            by_cases hl2 : i < 1000
            · have hd2 : decide ((i : Int) < 1000) = true := decide_eq_true (by omega)
              obtain ⟨bf, of_, rfl, _, hc⟩ := HF.out.at hli
              have r2 := (hc i hli).2.2.2.2
              clear hc
              go_wp2
              all_goals
                go_round
                case rel => exact ⟨i + 1, _, by go_num, hli, rfl⟩
                case measure => simp [intOf]; omega
            · have hd2 : decide ((i : Int) < 1000) = false := decide_eq_false (by omega)
              go_wp2
              go_round
              case rel => exact ⟨k + 1, _, by go_num, hlt, rfl⟩
              case measure => simp [intOf]; omega
          · have hd1 : decide ((i : Int) < (fs.length : Int)) = false := decide_eq_false (by omega)
            go_wp2
            go_round
            case rel => exact ⟨k + 1, _, by go_num, hlt, rfl⟩
            case measure => simp [intOf]; omega
    · have hd : decide ((k : Int) < (B.length : Int)) = false := decide_eq_false (by omega)
      go_wp2
      go_ret
      exact Exists.intro _ ⟨rfl, fun _ => HL.out, HB0.out⟩
end Go.Proofs.Yteijlbblmdclaaa
