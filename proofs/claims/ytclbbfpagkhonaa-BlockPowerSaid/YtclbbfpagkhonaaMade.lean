/- mdct.made: the circle. -/
import Derived.Test.YtclbbfpagkhonaaTrig2
import Derived.Test.YtclbbfpagkhonaaKeep
set_option linter.unusedVariables false
namespace Go.Proofs.Ytclbbfpagkhonaa
open Go.ChangeShapes Go.WideShapes Go.ChangeAt Go.RowKit

def zeroC : Array Value := Array.replicate 2048 (.int .i64 0)
theorem Try.zeroCircle (w : World) : Sem.run Try.prog (zeroValue 85) w = .ok (.agg zeroC) w := by kernel_rfl
theorem zeroC_size : zeroC.size = 2048 := by simp [zeroC]
/-- A circle's cosines lie in a block. -/
def CirAt (w : World) (g : Nat) : Prop := g < w.heap.size ∧ ∀ j : Nat, j < 2048 → w.cell? ⟨g, j, none⟩ = some (.int .i64 (cosL j))
theorem CirAt.keep {w w' : World} {g B : Nat} (h : CirAt w g) (hb : Below B w w') (hB : g < B) : CirAt w' g :=
  ⟨Nat.lt_of_lt_of_le h.1 hb.size, fun j hj => (hb.cell (p := ⟨g, j, none⟩) hB).trans (h.2 j hj)⟩
theorem CirAt.setCell {w : World} {g : Nat} (h : CirAt w g) (a : Addr) (u : Value) (hne : g ≠ a.block) : CirAt (w.setCell a u) g :=
  ⟨by simpa [World.setCell] using h.1, fun j hj => (World.cell?_of_block (Below.heap_setCell _ _ _ _ hne)).trans (h.2 j hj)⟩
theorem CirAt.drewN {w : World} {g : Nat} (h : CirAt w g) (n : Nat) : CirAt (w.drewN n) g := h
def RMade (w : World) (e : Ending) (w' : World) : Prop := ∃ g : Nat, e = .returned (.pointer (some ⟨g, 0, none⟩)) ∧ CirAt w' g ∧ w.heap.size ≤ g ∧ Below w.heap.size w w'
theorem owns_new (w : World) (cur : Array Value) (e : TypeId) (n : Nat) (hs : cur.size = n) (hn : n ≤ maxLen) : (w.alloc (.cells cur e)).ownsRow w.heap.size e 1 (.slice (some ⟨w.heap.size, 0, none⟩) n n) n cur.toList := by
  refine ⟨by simp [hs], .inr ⟨w.heap.size, n, cur, rfl, Nat.le_refl _, ?_, Nat.le_refl _, hn, by simp [hs], ?_⟩⟩
  · show ((w.heap.push _))[w.heap.size]? = _
    simp
  · rw [List.take_of_length_le (by simp [hs])]
set_option maxRecDepth 100000 in
set_option maxHeartbeats 1000000 in
theorem made_ok (w : World) : Calls Try.prog 57 #[] w (RMade w) := by
  have hz := Try.zeroCircle
  have hown := owns_new w zeroC 85 2048 zeroC_size (by decide)
  have hl : zeroC.toList.length = 2048 := by simp [zeroC_size]
  generalize zeroC = z at hz hown hl
  have hb0 : Below w.heap.size w (w.alloc (.cells z 85)) := (Below.refl _ _).alloc (Nat.le_refl _) _
  have hg0 : w.heap.size < (w.alloc (.cells z 85)).heap.size := by simp
  have HO := Lib.hid hown
  clear hown
  go_enter Try.func57, Try.ntmps57
  go_wp2
  go_loopw [3] (fun I wr => ∃ (k : Nat) (xs : List Value), I = .int .i64 k ∧ k ≤ 2048 ∧ Hid (wr.ownsRow w.heap.size 85 1 (.slice (some ⟨w.heap.size, 0, none⟩) 2048 2048) 2048 xs) ∧ xs.length = 2048 ∧ Below w.heap.size w wr ∧ w.heap.size < wr.heap.size ∧ Hid (∀ j : Nat, j < k → xs[j]? = some (.int .i64 (cosL j)))) (fun I _ => 2048 - (intOf I).toNat)
  case atStart => exact ⟨0, _, rfl, by decide, HO, hl, hb0, hg0, Lib.hid (fun _ h => absurd h (Nat.not_lt_zero _))⟩
  case round =>
    obtain ⟨k, xs, rfl, hk, hO, hlenO, hbq, hgq, hxs⟩ := hrel
    by_cases hlt : k < 2048
    · have HC := Lib.hid (fun W => cos_ok k W)
      generalize hv : cosL (k : Int) = v at HC
      have HV := Lib.hid hv
      clear hv HO hz
      go_wp2_with fail
      refine (HC.out _).mono ?_
      rintro e w4 ⟨rfl, hb4⟩
      have hO2 := owns_keep hO.out hb4
      have hbq2 := hbq.trans (hb4.mono hbq.size)
      have hsz := Nat.lt_of_lt_of_le hgq hb4.size
      have hc := hO2.cellAt k (by omega)
      rw [List.getElem?_eq_getElem (by omega)] at hc
      have hf := hO2.frozenAt k
      have hO3 := Lib.hid (hO2.stored k (.int .i64 v)).1
      have hb6 : Below w.heap.size w (w4.setCell ⟨w.heap.size, k, none⟩ (.int .i64 v)) := hbq2.setCell (p := ⟨w.heap.size, k, none⟩) (Nat.le_refl _) _
      have hxs2 : Hid (∀ j : Nat, j < k + 1 → (xs.set k (.int .i64 v))[j]? = some (.int .i64 (cosL j))) := by
        intro j hj
        by_cases e : j = k
        · rw [e, List.getElem?_set_self (by omega), HV.out]
        · rw [List.getElem?_set_ne (by omega)]; exact hxs.out j (by omega)
      clear hxs hb4 hO hO2 hbq hbq2 HC
      go_wp2
      exact ⟨⟨k + 1, _, by go_num, by omega, hO3, by simp [hlenO], hb6, by simpa [World.setCell] using hsz, hxs2⟩, by simp [intOf]; omega⟩
    · have hkM : k = 2048 := by omega
      subst hkM
      go_wp2
      go_ret
      refine ⟨w.heap.size, rfl, ⟨hgq, fun j hj => ?_⟩, Nat.le_refl _, hbq⟩
      rw [hO.out.cellAt j (by omega)]
      exact hxs.out j hj
end Go.Proofs.Ytclbbfpagkhonaa
