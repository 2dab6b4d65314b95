/- WindowDoes. -/
import Derived.Test.YtcodpbiocijfhaaRefWin
import Derived.Test.YtcodpbiocijfhaaSame05
set_option linter.unusedVariables false
namespace Go.Proofs.Ytcodpbiocijfhaa
open Go.ChangeShapes Go.WideShapes Go.ChangeAt Go.RowKit

def RHalfRow (l : List Int) (w : World) (e : Ending) (w' : World) : Prop :=
  ∃ g : Nat, e = .returned (.tuple #[.slice (some ⟨g, 0, none⟩) l.length l.length, .int .i64 0]) ∧ w'.ownsRow w.heap.size 3 1 (.slice (some ⟨g, 0, none⟩) l.length l.length) l.length (l.map (Value.int .i64)) ∧ w.heap.size ≤ g ∧ g < w'.heap.size ∧ IsInts w' (some ⟨g, 0, none⟩) l ∧ Below w.heap.size w w'
theorem half_bounds (shape : Int) (short : Bool) : 32 ≤ (hvL shape short).length ∧ (hvL shape short).length ≤ 256 := by
  rw [half_length]
  cases short <;> decide
theorem half_row (shape : Int) (short : Bool) (h0 : shape = 0 ∨ shape = 1) (w : World) : Calls Try.prog 7 #[.int .u8 shape, .bool short] w (RHalfRow (hvL shape short) w) :=
  (half_ok shape short h0 w).mono fun e w' ⟨g, he, hO, hb⟩ => by
    obtain ⟨l0, l1⟩ := half_bounds shape short
    rw [← half_length shape short] at he hO
    obtain ⟨g', cap, hv, hg, hlt, hc⟩ := owns_at hO (by intro e; simp [e] at l0)
    obtain ⟨rfl, rfl⟩ : g = g' ∧ _ = cap := by simpa using hv
    exact ⟨g, he, hO, hg, hlt, isInts_of hlt hc, hb⟩

set_option maxRecDepth 100000 in
set_option maxHeartbeats 2000000 in
theorem does05_ok (shape : Int) (short : Bool) (h0 : shape = 0 ∨ shape = 1) (w : World) :
    Calls Try.prog 4 #[.int .u8 shape, .bool short] w fun e w' => e = .returned (.bool true) ∧ Below w.heap.size w w' := by
  obtain ⟨l0, l1⟩ := half_bounds shape short
  have F := Lib.hid (fun W => half_row shape short h0 W)
  have G := Lib.hid (fun W => refhalf_ok shape short h0 W)
  generalize hvL shape short = l at *
  have hne : Hid (l ≠ []) := by intro e; simp [e] at l0
  have hmax : Hid (l.length ≤ maxLen) := by unfold maxLen; show _ ≤ _; omega
  go_enter Try.func4, Try.ntmps4
  go_wp2_with fail
  refine (F.out _).mono ?_
  rintro e w1 ⟨g, rfl, hO, hg, hlt, I1, hb1⟩
  have HO := Lib.hid hO
  have HI1 := Lib.hid I1
  clear hO I1
  go_wp2_with fail
  refine (G.out _).mono ?_
  rintro e w2 ⟨v, rfl, hO2, hb2⟩
  obtain ⟨g2, cap, rfl, hg2, hlt2, hc2⟩ := owns_at hO2 hne.out
  have HI2 := Lib.hid (isInts_of hlt2 hc2)
  have HI1' := Lib.hid (HI1.out.keep hb2)
  have HO' := Lib.hid (owns_keep HO.out hb2)
  have hb12 := hb1.trans (hb2.mono hb1.size)
  clear hO2 hc2 HI1 HO
  go_wp2_with fail
  refine (ints_same _ _ l _ _ _ HI1'.out HI2.out hmax.out).mono ?_
  rintro e w3 ⟨rfl, n, rfl⟩
  clear HI1'
  go_wp2
  go_loopw [9] (fun I wr => ∃ (k : Nat) (xs : List Value), I = .int .i64 k ∧ k ≤ l.length ∧ Hid (wr.ownsRow w.heap.size 3 1 (.slice (some ⟨g, 0, none⟩) l.length l.length) l.length xs) ∧ xs.length = l.length ∧ Hid (IsInts wr (some ⟨g2, 0, none⟩) l) ∧ Below w.heap.size w wr ∧ g2 < wr.heap.size) (fun I _ => l.length - (intOf I).toNat)
  case atStart => exact ⟨0, _, rfl, Nat.zero_le _, Lib.hid HO'.out, by simp, Lib.hid (HI2.out.drewN n), below_drewN hb12 n, hlt2⟩
  case round =>
    obtain ⟨k, xs, rfl, hk, hO, hlenO, hI, hbw, hsz⟩ := hrel
    clear HI2 HO' hb12 hb1 hb2
    by_cases hklt : k < l.length
    · have hc := hO.out.cellAt k (by omega)
      rw [List.getElem?_eq_getElem (by omega)] at hc
      have hf := hO.out.frozenAt k
      obtain ⟨hO3, hgr⟩ := hO.out.stored k (.int .i64 0)
      have hO4 := Lib.hid hO3
      have hI4 := Lib.hid (hI.out.setCell ⟨g, k, none⟩ (.int .i64 0) (show g2 ≠ g by omega))
      have hb6 : Below w.heap.size w (wr.setCell ⟨g, k, none⟩ (.int .i64 0)) := hbw.setCell (p := ⟨g, k, none⟩) hg _
      clear hO hI hO3 hgr hbw
      go_wp2
      exact ⟨⟨k + 1, _, by go_num, by omega, hO4, by simp [hlenO], hI4, hb6, by simpa [World.setCell] using hsz⟩, by simp [intOf]; omega⟩
    · clear hO
      go_wp2_with fail
      refine (F.out _).mono ?_
      rintro e w4 ⟨g3, rfl, hO4, hg3, hlt3, I3, hb4⟩
      have HI3 := Lib.hid I3
      have HI4 := Lib.hid (hI.out.keep hb4)
      have hb5 := hbw.trans (hb4.mono hbw.size)
      clear hO4 I3 hI
      go_wp2_with fail
      refine (ints_same _ _ l _ _ _ HI3.out HI4.out hmax.out).mono ?_
      rintro e w5 ⟨rfl, n', rfl⟩
      go_wp2
      go_ret
      exact ⟨rfl, below_drewN hb5 _⟩

set_option maxRecDepth 100000 in
theorem does05_bad (shape : Int) (short : Bool) (h0 : 1 < shape) (w : World) :
    Calls Try.prog 4 #[.int .u8 shape, .bool short] w fun e w' => e = .returned (.bool true) ∧ Below w.heap.size w w' := by
  have F := Lib.hid (fun W => half_bad shape short (by omega) (by omega) W)
  have G := Lib.hid (fun W => refhalf_bad shape short h0 W)
  go_enter Try.func4, Try.ntmps4
  go_wp2_with fail
  refine (F.out _).mono ?_
  rintro e w1 ⟨rfl, hwl⟩
  obtain rfl := hwl
  go_wp2_with fail
  refine (G.out _).mono ?_
  rintro e w1 ⟨rfl, hwl⟩
  obtain rfl := hwl
  go_wp2_with fail
  refine (ints_same none none [] _ _ _ (IsInts.nil _ _) (IsInts.nil _ _) (by decide)).mono ?_
  rintro e w' ⟨rfl, n, rfl⟩
  go_wp2
  refine wp_loop_rounds 1 ?_
  rw [rounds_succ]
  go_wp2_with fail
  refine (F.out _).mono ?_
  rintro e w1 ⟨rfl, hwl⟩
  obtain rfl := hwl
  go_wp2_with fail
  refine (ints_same none none [] _ _ _ (IsInts.nil _ _) (IsInts.nil _ _) (by decide)).mono ?_
  rintro e w' ⟨rfl, n', rfl⟩
  go_wp2
  go_ret
  exact ⟨rfl, below_drewN (Below.refl _ _) _⟩
theorem does05 (shape : Int) (short : Bool) (hb : 0 ≤ shape) (w : World) :
    Calls Try.prog 4 #[.int .u8 shape, .bool short] w fun e w' => e = .returned (.bool true) ∧ Below w.heap.size w w' := by
  by_cases h : 1 < shape
  · exact does05_bad shape short h w
  · exact does05_ok shape short (by omega) w
end Go.Proofs.Ytcodpbiocijfhaa
