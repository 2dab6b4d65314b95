/- QuantBack: how far two numbers are apart; other quantised lines. -/
import Derived.Test.YtppfbfiigfjncaaQOwnP
set_option linter.unusedVariables false
set_option linter.unusedSimpArgs false
namespace Go.Proofs.Ytppfbfiigfjncaa
open Go.ChangeShapes Go.WideShapes Go.ChangeAt Go.RowKit
theorem far_ok (a b : Int) (ha : -268435455 ≤ a ∧ a ≤ 268435455) (hb : -268435455 ≤ b ∧ b ≤ 268435455) (w : World) :
    Calls Try.prog 18 #[.int .i64 a, .int .i64 b] w fun e w' => e = .returned (.int .i64 (farI a b)) ∧ w = w' := by
  have v1 : IntKind.i64.wrap (a - b) = a - b := IntWalk.i64_in _ (by omega)
  have v2 : IntKind.i64.wrap (b - a) = b - a := IntWalk.i64_in _ (by omega)
  have HF : Hid (farI a b = max (a - b) (b - a)) := rfl
  clear ha hb
  go_enter Try.func18, Try.ntmps18
  go_wp2
  all_goals go_ret
  all_goals exact ⟨ret_int (by rw [HF.out]; omega), rfl⟩
theorem far_same (a b : Int) (ha : -268435455 ≤ a ∧ a ≤ 268435455) (hb : -268435455 ≤ b ∧ b ≤ 268435455) (w : World) :
    Calls Try.prog 18 #[.int .i64 a, .int .i64 b] w fun e w' => e = .returned (.int .i64 (farI a b)) ∧ w' = w := (far_ok a b ha hb w).mono fun _ _ ⟨h, hw⟩ => ⟨h, hw.symm⟩
/-- Another quantised line. -/
def othF (Q : List Int) (d : Int) (j : Nat) : Int := max (min (Q.getD j 0 + d) 8191) (-8191)
theorem oth_eq (Q : List Int) (d : Int) (k : Nat) : othF Q d k = max (min (Q.getD k 0 + d) 8191) (-8191) := rfl
def othL (Q : List Int) (d : Int) : List Int := (List.range 256).map (othF Q d)
theorem oth_len (Q : List Int) (d : Int) : (othL Q d).length = 256 := by simp [othL]
theorem oth_at (Q : List Int) (d : Int) {j : Nat} (hj : j < 256) : (othL Q d).getD j 0 = othF Q d j := by
  unfold othL
  rw [List.getD_eq_getElem?_getD, List.getElem?_map, List.getElem?_range hj]; rfl
theorem oth_range (Q : List Int) (d : Int) (j : Nat) : -8191 ≤ othF Q d j ∧ othF Q d j ≤ 8191 := by
  unfold othF; omega
theorem oth_good {most rate seq shape max : Int} {G : List Int} {Bk St : List RV} {x Q : List Int} (h : QGood most rate seq shape max G Bk St x) (d : Int) : QGood 8191 rate seq shape max G Bk St (othL Q d) :=
  h.with (oth_len _ _) (fun j hj => by rw [oth_at _ _ hj]; exact oth_range Q d j) (by decide)
end Go.Proofs.Ytppfbfiigfjncaa
