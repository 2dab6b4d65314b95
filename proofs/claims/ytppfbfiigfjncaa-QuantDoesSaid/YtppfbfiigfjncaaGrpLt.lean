/- A window's group is one of those that there are. -/
import Derived.Test.YtppfbfiigfjncaaGP
set_option linter.unusedVariables false
namespace Go.Proofs.Ytppfbfiigfjncaa
theorem grp_drop (G : List Int) : ∀ (m k : Nat), k + m = G.length → ∀ x : Int, 0 ≤ x → x < sumG G G.length - sumG G k → grpOf (G.drop k) x < m
  | 0, k, h, x, h0, h1 => by
    have e : k = G.length := by omega
    subst e
    omega
  | m + 1, k, h, x, h0, h1 => by
    rw [grpOf_step (by omega)]
    split
    · omega
    · have := grp_drop G m (k + 1) (by omega) (x - G.getD k 0) (by omega) (by
        have e : sumG G (k + 1) = sumG G k + G.getD k 0 := rfl
        omega)
      omega
theorem grp_lt {seq shape max : Int} {G : List Int} (h : mayB 11 seq shape max G = true) {w : Nat} (hw : w < winN seq) : grpOf G (w : Int) < G.length := by
  have h2 := (may_groups h).2.1
  have := grp_drop G G.length 0 (by omega) (w : Int) (by omega) (by
    have e : sumG G 0 = 0 := rfl
    omega)
  rwa [List.drop_zero] at this
end Go.Proofs.Ytppfbfiigfjncaa
