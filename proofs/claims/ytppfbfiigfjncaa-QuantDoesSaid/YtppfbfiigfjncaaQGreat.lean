/- reedpiperef14.Great: what it tells. -/
import Derived.Test.YtppfbfiigfjncaaQuantVal
import Derived.Test.YtppfbfiigfjncaaGP
set_option linter.unusedVariables false
set_option linter.unusedSimpArgs false
namespace Go.Proofs.Ytppfbfiigfjncaa
open Go.ChangeShapes Go.WideShapes Go.ChangeAt Go.RowKit
def RGreat (G : List Int) (Bk St : List RV) (x : List Int) (w : World) (e : Ending) (w' : World) : Prop :=
  ∃ b, e = .returned (.bool b) ∧ (b = false → G.length ≤ 100 ∧ Bk.length ≤ 100 ∧ St.length ≤ 100 ∧ x.length ≤ 1000) ∧ Below w.heap.size w w'
theorem great_true {G : List Int} {Bk St : List RV} {x : List Int} {w w' : World} (h : Below w.heap.size w w') : RGreat G Bk St x w (.returned (.bool true)) w' := Exists.intro true ⟨rfl, fun h => by simp at h, h⟩
set_option maxRecDepth 100000 in
set_option maxHeartbeats 4000000 in
theorem q_great (seq shape max : Int) (G : List Int) (pg qb qs px : Option Addr) (cg cb cs cx : Nat) (Bk St : List RV) (x : List Int) (w : World) (hB : IsRows w qb Bk) (hS : IsRows w qs St) (lb : ∀ j, j < Bk.length → (Bk.getD j default).l.length ≤ maxLen) (ls : ∀ j, j < St.length → (St.getD j default).l.length ≤ maxLen) :
    Calls Try.prog 11 #[.agg (infoC seq shape max pg G.length cg), .slice qb Bk.length cb, .slice qs St.length cs, .slice px x.length cx] w (RGreat G Bk St x w) := by
  have hb0 : Below w.heap.size w (w.alloc (.cells (infoC seq shape max pg G.length cg) 27)) := (Below.refl _ w).alloc (Nat.le_refl _) _
  have HB := Lib.hid (hB.keep hb0)
  have HS := Lib.hid (hS.keep hb0)
  have HB0 := Lib.hid hb0
  have HLB := Lib.hid lb
  have HLS := Lib.hid ls
  clear hB hS hb0 lb ls
  by_cases c1 : 100 < G.length
  · have e1 : decide ((G.length : Int) > 100) = true := decide_eq_true (by omega)
    go_enter Try.func11, Try.ntmps11
    go_wp2
    go_ret
    exact great_true HB0.out
  have e1 : decide ((G.length : Int) > 100) = false := decide_eq_false (by omega)
  by_cases c2 : 100 < Bk.length
  · have e2 : decide ((Bk.length : Int) > 100) = true := decide_eq_true (by omega)
    go_enter Try.func11, Try.ntmps11
    go_wp2
    go_ret
    exact great_true HB0.out
  have e2 : decide ((Bk.length : Int) > 100) = false := decide_eq_false (by omega)
  by_cases c4 : 100 < St.length
  · have e4 : decide ((St.length : Int) > 100) = true := decide_eq_true (by omega)
    go_enter Try.func11, Try.ntmps11
    go_wp2
    go_ret
    exact great_true HB0.out
  have e4 : decide ((St.length : Int) > 100) = false := decide_eq_false (by omega)
  by_cases c3 : 1000 < x.length
  · have e3 : decide ((x.length : Int) > 1000) = true := decide_eq_true (by omega)
    go_enter Try.func11, Try.ntmps11
    go_wp2
    go_ret
    exact great_true HB0.out
  have e3 : decide ((x.length : Int) > 1000) = false := decide_eq_false (by omega)
  have HL := Lib.hid (show G.length ≤ 100 ∧ Bk.length ≤ 100 ∧ St.length ≤ 100 ∧ x.length ≤ 1000 by omega)
  have hbl : Bk.length ≤ 100 := by omega
  have hsl : St.length ≤ 100 := by omega
  clear c1 c2 c3 c4
  go_enter Try.func11, Try.ntmps11
  go_wp2_with fail
  clear e1 e2 e3 e4
  go_loop [9, 10] (fun N K => ∃ (k : Nat) (n : Int), K = .int .i64 k ∧ k ≤ Bk.length ∧ N = .int .i64 n) (fun _ K => Bk.length - (intOf K).toNat)
  case atStart => exact ⟨0, 0, rfl, Nat.zero_le _, rfl⟩
  case round =>
    obtain ⟨k, n, rfl, hk, rfl⟩ := hrel
    by_cases hlt : k < Bk.length
    · have hd : decide ((k : Int) < (Bk.length : Int)) = true := decide_eq_true (by omega)
      obtain ⟨bq, oq, rfl, _, r1, _⟩ := HB.out.at hlt
      have hml := HLB.out k hlt
      generalize Bk.getD k default = bv at r1 hml
      obtain ⟨qf, cf, fs⟩ := bv
      dsimp only at r1 hml
      have hmx : maxLen = 9223372036854775807 := rfl
      clear HLB HLS
      go_wp2
      all_goals
        go_round
        case rel => exact ⟨k + 1, _, by go_num, hlt, rfl⟩
        case measure => simp [intOf]; omega
    · have hd : decide ((k : Int) < (Bk.length : Int)) = false := decide_eq_false (by omega)
      go_wp2_with fail
      clear hd hlt
      go_loop [9, 11] (fun N K => ∃ (k : Nat) (n : Int), K = .int .i64 k ∧ k ≤ St.length ∧ N = .int .i64 n) (fun _ K => St.length - (intOf K).toNat)
      case atStart => exact ⟨0, _, rfl, Nat.zero_le _, rfl⟩
      case round =>
        obtain ⟨i, m, rfl, hi, rfl⟩ := hrel
        by_cases hlt : i < St.length
        · have hd : decide ((i : Int) < (St.length : Int)) = true := decide_eq_true (by omega)
          obtain ⟨bq, oq, rfl, _, r1, _⟩ := HS.out.at hlt
          have hml := HLS.out i hlt
          generalize St.getD i default = bv at r1 hml
          obtain ⟨qf, cf, fs⟩ := bv
          dsimp only at r1 hml
          have hmx : maxLen = 9223372036854775807 := rfl
          clear HLB HLS
          go_wp2
          all_goals
            go_round
            case rel => exact ⟨i + 1, _, by go_num, hlt, rfl⟩
            case measure => simp [intOf]; omega
        · have hd : decide ((i : Int) < (St.length : Int)) = false := decide_eq_false (by omega)
          clear HLB HLS
          go_wp2
          go_ret
          exact Exists.intro _ ⟨rfl, fun _ => HL.out, HB0.out⟩
end Go.Proofs.Ytppfbfiigfjncaa
