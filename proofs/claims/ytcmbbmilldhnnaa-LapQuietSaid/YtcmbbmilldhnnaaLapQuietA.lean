/- LapQuiet: every input. -/
import Derived.Test.YtcmbbmilldhnnaaLapQuietB
import Derived.Test.YtcmbbmilldhnnaaLapQuietO
import Derived.Test.YtcmbbmilldhnnaaLapForgetsA
set_option linter.unusedVariables false
namespace Go.Proofs.Ytcmbbmilldhnnaa
open Go.ChangeShapes Go.WideShapes Go.ChangeAt Go.RowKit

theorem old_len (l : List Int) : (oldL l).length = l.length := by simp [oldL]
theorem old_get (l : List Int) {j : Nat} (h : j < l.length) : (oldL l).getD j 0 = outP (l.getD j 0) := by
  unfold oldL
  rw [List.getD_eq_getElem?_getD, List.getElem?_map, List.getElem?_range h]; rfl
set_option maxRecDepth 100000 in
theorem lap_quiet (l : List Int) (ls lsh one two shape : Int) (p : Option Addr) (c : Nat) (w : World) (A0 : IsArg w p c l) (hc : l.length ≤ c) (h1 : 0 ≤ lsh) (h2 : 0 ≤ one) (h3 : 0 ≤ two) (h4 : 0 ≤ shape) :
    Calls Try.prog 3 #[.agg #[.slice p l.length c, .int .u8 ls, .int .u8 lsh], .int .u8 one, .int .u8 two, .int .u8 shape] w fun e w' => e = .returned (.bool true) ∧ Below w.heap.size w w' := by
  by_cases hn : 1000 < l.length
  · exact quiet_long p _ c ls lsh one two shape w hn
  have hz := zero_len 256
  have HN := fun (W : World) (q : Option Addr) (hW : Below w.heap.size w W) (hq : IsInts W q (zeroL 256)) => next_any l ls lsh one shape (zeroL 256) h2 h1 h4 (by omega) (by rw [hz]; omega) p q c 256 hc (by rw [hz]; omega) W (A0.1.keep hW) hq
  rw [hz] at HN
  by_cases hm : mayB l ls lsh = true
  case neg =>
    have e : lapN l ls lsh one shape (zeroL 256) = (([], 0, 0), [], 8) := by unfold lapN; rw [if_pos (by simpa using hm)]
    rw [e] at HN
    exact quiet_bad1 p _ c ls lsh one two shape 8 w (by omega) (by decide) (Lib.hid (fun W q hW hq => (HN W q hW hq).mono (fun e w' h => next_none h)))
  by_cases hs : synE one lsh shape (zeroL 256) = 0
  case neg =>
    have e : lapN l ls lsh one shape (zeroL 256) = (([], 0, 0), [], synE one lsh shape (zeroL 256)) := by unfold lapN; rw [hm, if_neg (by simp), if_pos hs]
    rw [e] at HN
    exact quiet_bad1 p _ c ls lsh one two shape _ w (by omega) hs (Lib.hid (fun W q hW hq => (HN W q hW hq).mono (fun e w' h => next_none h)))
  obtain ⟨q1, q2, q3, q4, q5⟩ := (askedE_zero (by omega)).1 hs
  obtain ⟨m1, m2, m3, m4⟩ := mayB_spec hm
  have a1 : one ≤ 3 := by omega
  have a2 : shape ≤ 1 := by omega
  rw [lap_zero hm a1 a2] at HN
  have HN1 := Lib.hid (fun W q hW hq => (HN W q hW hq).mono (fun e w' h => next_row hz (by rw [old_len]; exact m1) h))
  have hz2 : (zeroL 256).length ≤ 4611686018427387904 := by rw [hz]; omega
  have HM := fun (V : World) (g : Option Addr) (d : Nat) (hd : 256 ≤ d) (hg : IsInts V g (zeroL 256)) (W : World) (q : Option Addr) (hW : Below V.heap.size V W) (hq : IsInts W q (zeroL 256)) => next_any (zeroL 256) one shape two shape (zeroL 256) h3 h4 h4 hz2 hz2 g q d 256 (by rw [hz]; exact hd) (by rw [hz]; omega) W (hg.keep hW) hq
  rw [hz] at HM
  rw [m1] at HN1 ⊢
  by_cases ht : two ≤ 3
  · rw [lap_zero (may_zero a1 a2) ht a2, old_zero] at HM
    exact quiet_ok p c ls lsh one two shape w l (oldL l) (Lib.hid A0.1) (Lib.hid m1) (Lib.hid ⟨by rw [old_len]; exact m1, fun j hj => old_get l (by omega)⟩) (Lib.hid m2) HN1 (Lib.hid (fun V g d hd hg W q hW hq => (HM V g d hd hg W q hW hq).mono (fun e w' h => next_row hz hz h)))
  · have hs2 : synE two shape shape (zeroL 256) ≠ 0 := fun h => by
      obtain ⟨r1, r2, r3, r4, r5⟩ := (askedE_zero (by omega)).1 h
      omega
    have e : lapN (zeroL 256) one shape two shape (zeroL 256) = (([], 0, 0), [], synE two shape shape (zeroL 256)) := by unfold lapN; rw [may_zero a1 a2, if_neg (by simp), if_pos hs2]
    rw [e] at HM
    exact quiet_bad2 p c ls lsh one two shape _ w (oldL l) hs2 (by omega) HN1 (Lib.hid (fun V g d hd hg W q hW hq => (HM V g d hd hg W q hW hq).mono (fun e w' h => next_none h)))
end Go.Proofs.Ytcmbbmilldhnnaa
