/- slices.Reverse: what each call answers. -/
import Derived.Test.YtclbbfpagkhonaaKeep
import Derived.RegionTactic
import Derived.ChangeAlike
set_option linter.unusedVariables false
namespace Go.Proofs.Ytclbbfpagkhonaa
open Go.ChangeShapes Go.WideShapes Go.ChangeAt Go.RowKit

def RRev (p : Option Addr) (n c lo hi : Nat) (l : List Int) (w : World) (e : Ending) (w' : World) : Prop :=
  e = .returned (.tuple #[]) ∧ Spoil w' p n c lo hi (l.reverse.map (Value.int .i64)) ∧ Below lo w w'
def midV (l : List Int) (i t : Nat) : Int := if t < i ∨ l.length - 1 - i < t then l.getD (l.length - 1 - t) 0 else l.getD t 0
set_option maxRecDepth 100000 in
set_option maxHeartbeats 1000000 in
theorem reverse_ok (l : List Int) (p : Option Addr) (c lo hi : Nat) (w : World) (hS : Spoil w p l.length c lo hi (l.map (Value.int .i64))) (hl : l.length ≤ 4611686018427387904) :
    Calls Try.prog 32 #[.slice p l.length c] w (RRev p l.length c lo hi l w) := by
  have HS := Lib.hid hS
  clear hS
  go_enter Try.func32, Try.ntmps32
  go_wp2
  go_loopw [2, 3] (fun I J wr => ∃ (i j : Nat) (jz : Int) (xs : List Value), I = .int .i64 i ∧ J = .int .i64 jz ∧ (i : Int) + jz = l.length - 1 ∧ 2 * i ≤ l.length ∧ Hid (Spoil wr p l.length c lo hi xs) ∧ Hid (∀ t, t < l.length → xs[t]? = some (.int .i64 (midV l i t))) ∧ Below lo w wr) (fun I _ _ => l.length - (intOf I).toNat)
  case atStart =>
    refine ⟨0, l.length - 1, _, _, rfl, rfl, by omega, by omega, HS, Lib.hid (fun t ht => ?_), Below.refl _ _⟩
    rw [row_get l t (Nat.zero_le _) ht, midV, if_neg (by omega)]
  case round =>
    obtain ⟨i, j, jz, xs, rfl, rfl, hij, hi2, kS, hxs, hb⟩ := hrel
    by_cases hlt : (i : Int) < jz
    · obtain ⟨j, rfl⟩ := Int.eq_ofNat_of_zero_le (show 0 ≤ jz by omega)
      have hin : i < l.length := by omega
      have hjn : j < l.length := by omega
      obtain ⟨g, rfl, hg1, hg2, hc, hf, hnext⟩ := kS.out.at hin
      obtain ⟨g', hgp, _, _, hc', hf', hnext'⟩ := kS.out.at hjn
      obtain rfl : g = g' := by simpa using hgp
      rw [hxs.out _ hin] at hc
      rw [hxs.out _ hjn] at hc'
      have hmx : Hid (∀ t, t < l.length → ((xs.set i (.int .i64 (midV l i j))).set j (.int .i64 (midV l i i)))[t]? = some (.int .i64 (midV l (i + 1) t))) := by
        intro t ht
        have hlx := kS.out.1
        by_cases e1 : t = j
        · subst e1
          rw [List.getElem?_set_self (by simp; omega)]
          unfold midV
          rw [if_neg (by omega), if_pos (by omega)]
          have : l.length - 1 - t = i := by omega
          rw [this]
        · rw [List.getElem?_set_ne (by omega)]
          by_cases e2 : t = i
          · subst e2
            rw [List.getElem?_set_self (by omega)]
            unfold midV
            rw [if_neg (by omega), if_pos (by omega)]
            have : l.length - 1 - t = j := by omega
            rw [this]
          · rw [List.getElem?_set_ne (by omega), hxs.out t ht]
            unfold midV
            by_cases h1 : t < i ∨ l.length - 1 - i < t
            · rw [if_pos h1, if_pos (by omega)]
            · rw [if_neg h1, if_neg (by omega)]
      have hy := hxs.out _ hjn
      generalize midV l i i = x at hc hmx
      generalize midV l i j = y at hc' hmx hy
      have hd : decide ((i : Int) < (j : Int)) = true := by simp; omega
      have kS2 := hnext (.int .i64 y)
      obtain ⟨g', hgp2, _, _, hc2, hf2, hnext2⟩ := kS2.at hjn
      rw [List.getElem?_set_ne (by omega), hy] at hc2
      obtain rfl : g = g' := by simpa using hgp2
      have kS3 := Lib.hid (hnext2 (.int .i64 x))
      have hb2 := (hb.setCell (p := ⟨g, i, none⟩) hg1 (.int .i64 y)).setCell (p := ⟨g, j, none⟩) hg1 (.int .i64 x)
      clear hnext hnext' hgp hnext2 hgp2 kS2 hb hxs kS HS hy
      go_wp2_with fail
      go_region
      go_wp2
      exact ⟨⟨i + 1, j - 1, (j : Int) - 1, _, by go_num, rfl, by omega, by omega, kS3, hmx, hb2.drew⟩, by simp [intOf]; omega⟩
    · have hd : decide ((i : Int) < jz) = false := decide_eq_false hlt
      have hend : Hid (xs = l.reverse.map (Value.int .i64)) := by
        apply List.ext_getElem?
        intro t
        by_cases ht : t < l.length
        · rw [hxs.out t ht]
          have e : (l.reverse.map (Value.int .i64))[t]? = some (.int .i64 (l.getD (l.length - 1 - t) 0)) := by
            rw [List.getElem?_map, List.getElem?_reverse ht]
            simp [List.getD_eq_getElem?_getD, show l.length - 1 - t < l.length by omega]
          rw [e]
          unfold midV
          by_cases h1 : t < i ∨ l.length - 1 - i < t
          · rw [if_pos h1]
          · rw [if_neg h1]
            have : l.length - 1 - t = t := by omega
            rw [this]
        · rw [List.getElem?_eq_none (by have := kS.out.1; omega), List.getElem?_eq_none (by simp; omega)]
      clear hxs HS
      go_wp2
      go_end0
      have h2 := kS.out
      rw [hend.out] at h2
      exact ⟨rfl, h2, hb⟩
end Go.Proofs.Ytclbbfpagkhonaa
