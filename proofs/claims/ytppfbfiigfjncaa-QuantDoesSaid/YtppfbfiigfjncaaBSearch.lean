/- slices.BinarySearch over integers that rise. -/
import Derived.Test.YtppfbfiigfjncaaGP
set_option linter.unusedVariables false
namespace Go.Proofs.Ytppfbfiigfjncaa
open Go.ChangeShapes Go.WideShapes Go.ChangeAt Go.RowKit

theorem less_ok (a b : Int) (w : World) : Calls Try.prog 51 #[.int .i64 a, .int .i64 b] w fun e w' => e = .returned (.bool (decide (a < b))) ∧ w = w' := by
  go_enter Try.func51, Try.ntmps51
  go_wp2
  go_ret
  exact ⟨rfl, rfl⟩

def RBin (l : List Int) (x : Int) (w : World) (e : Ending) (w' : World) : Prop :=
  ∃ i : Nat, i ≤ l.length ∧ (∀ j, j < i → l.getD j 0 < x) ∧ (∀ j, i ≤ j → j < l.length → x ≤ l.getD j 0) ∧ e = .returned (.tuple #[.int .i64 i, .bool (decide (i < l.length ∧ l.getD i 0 = x))]) ∧ w = w'

set_option maxRecDepth 100000 in
set_option maxHeartbeats 1000000 in
theorem bsearch_ok (l : List Int) (p : Option Addr) (c : Nat) (x : Int) (hl : l.length ≤ 1000) (hs : ∀ i j, i ≤ j → j < l.length → l.getD i 0 ≤ l.getD j 0) (w : World) (hi : IsInts w p l) :
    Calls Try.prog 33 #[.slice p l.length c, .int .i64 x] w (RBin l x w) := by
  have HI := Lib.hid hi
  have HS := Lib.hid hs
  clear hi hs
  go_enter Try.func33, Try.ntmps33
  go_wp2
  go_loop [7, 8] (fun I J => ∃ (i j : Nat), I = .int .i64 i ∧ J = .int .i64 j ∧ i ≤ j ∧ j ≤ l.length ∧ Hid (∀ k, k < i → l.getD k 0 < x) ∧ Hid (∀ k, j ≤ k → k < l.length → x ≤ l.getD k 0)) (fun i j => (intOf j - intOf i).toNat)
  case atStart => exact ⟨0, l.length, rfl, rfl, Nat.zero_le _, Nat.le_refl _, fun _ h => by omega, fun _ h h' => by omega⟩
  case round =>
    obtain ⟨i, j, rfl, rfl, hij, hj, hlo, hhi⟩ := hrel
    by_cases hlt : i < j
    · obtain ⟨b, off, rfl, _, hc⟩ := HI.out.at (show (i + j) / 2 < l.length by omega)
      have c1 := hc ((i + j) / 2) (by omega)
      clear hc
      by_cases hx : l.getD ((i + j) / 2) 0 < x
      · have HX : Hid (∀ k, k < (i + j) / 2 + 1 → l.getD k 0 < x) := fun k hk => Int.lt_of_le_of_lt (HS.out k ((i + j) / 2) (by omega) (by omega)) hx
        have hd : decide (l.getD ((i + j) / 2) 0 < x) = true := decide_eq_true hx
        generalize l.getD ((i + j) / 2) 0 = y at *
        clear hx
        go_wp2_with (go_at_call 51; refine (less_ok _ _ _).mono ?_; rintro e w' ⟨rfl, rfl⟩)
        exact ⟨⟨(i + j) / 2 + 1, j, by go_num, rfl, by omega, hj, HX, hhi⟩, by simp [intOf]; omega⟩
      · have HX : Hid (∀ k, (i + j) / 2 ≤ k → k < l.length → x ≤ l.getD k 0) := fun k hk hkl => Int.le_trans (Int.not_lt.1 hx) (HS.out ((i + j) / 2) k hk hkl)
        have hd : decide (l.getD ((i + j) / 2) 0 < x) = false := decide_eq_false hx
        generalize l.getD ((i + j) / 2) 0 = y at *
        clear hx
        go_wp2_with (go_at_call 51; refine (less_ok _ _ _).mono ?_; rintro e w' ⟨rfl, rfl⟩)
        exact ⟨⟨i, (i + j) / 2, rfl, by go_num, by omega, by omega, hlo, HX⟩, by simp [intOf]; omega⟩
    · obtain rfl : i = j := by omega
      by_cases hin : i < l.length
      · obtain ⟨b, off, rfl, _, hc⟩ := HI.out.at hin
        have c1 := hc i hin
        clear hc
        have hd0 : decide (i < l.length) = true := decide_eq_true hin
        have hd1 : decide ((i : Int) < l.length) = true := by simp; omega
        by_cases he : l.getD i 0 = x
        · have hf : Hid (decide (i < l.length ∧ l.getD i 0 = x) = true) := decide_eq_true ⟨hin, he⟩
          rw [he] at c1
          clear he
          go_wp2
          go_ret2
          exact ⟨i, hj, hlo.out, hhi.out, by rw [hf.out]; rfl, rfl⟩
        · have hf : Hid (decide (i < l.length ∧ l.getD i 0 = x) = false) := decide_eq_false (fun h => he h.2)
          have hne : (l.getD i 0 == x) = false := by simpa using he
          generalize l.getD i 0 = y at c1 hne
          clear he
          go_wp2
          go_ret2
          exact ⟨i, hj, hlo.out, hhi.out, by rw [hf.out]; rfl, rfl⟩
      · have hf : Hid (decide (i < l.length ∧ l.getD i 0 = x) = false) := decide_eq_false (fun h => hin h.1)
        have hd0 : decide (i < l.length) = false := decide_eq_false hin
        have hd1 : decide ((i : Int) < l.length) = false := by simp; omega
        go_wp2
        go_ret2
        exact ⟨i, hj, hlo.out, hhi.out, by rw [hf.out]; rfl, rfl⟩
end Go.Proofs.Ytppfbfiigfjncaa
