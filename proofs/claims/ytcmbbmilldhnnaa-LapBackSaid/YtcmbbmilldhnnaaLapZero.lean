/- Silence, and one line, lapped: in plain numbers. -/
import Derived.Test.YtcmbbmilldhnnaaLapBad
import Derived.Test.YtcmbbmilldhnnaaG5
set_option linter.unusedVariables false
namespace Go.Proofs.Ytcmbbmilldhnnaa
open Go.ChangeShapes Go.WideShapes Go.ChangeAt Go.RowKit

theorem synL_zero (ws : List (Int × List Int)) : synL ws (zeroL 256) = zeroL 512 := eq_zeroL (syn_nought (zero_mem 256) _) (synL_len _ _)
theorem synE_zero {seq lsh shape : Int} (h : lsh ≤ 1) (h1 : seq ≤ 3) (h2 : shape ≤ 1) : synE seq lsh shape (zeroL 256) = 0 := zero_asked seq lsh shape 256 _ _ (by omega) h1 h h2 (by omega) (by omega)
theorem outP_zero : outP 0 = 0 := by decide +kernel
/-- Of silence: what overlapped alone. -/
def oldL (l : List Int) : List Int := (List.range l.length).map (fun j => outP (l.getD j 0))
theorem pcm_zero (l : List Int) : pcmL l (zeroL 512) = oldL l := by
  unfold pcmL sumsL oldL
  rw [List.map_map]
  refine List.map_congr_left (fun j _ => ?_)
  show outP (l.getD j 0 + (zeroL 512).getD j 0) = _
  rw [zero_get, Int.add_zero]
theorem lap_zero {l : List Int} {ls lsh seq shape : Int} (hm : mayB l ls lsh = true) (h1 : seq ≤ 3) (h2 : shape ≤ 1) : lapN l ls lsh seq shape (zeroL 256) = ((zeroL 256, seq, shape), oldL l, 0) := by
  obtain ⟨_, _, _, h3⟩ := mayB_spec hm
  unfold lapN
  rw [hm, if_neg (by simp), if_neg (by rw [synE_zero h3 h1 h2]; simp), synL_zero, pcm_zero]
  have e : (zeroL 512).drop 256 = zeroL 256 := by unfold zeroL; rw [List.drop_replicate]
  rw [e]
theorem may_zero {ls lsh : Int} (h1 : ls ≤ 3) (h2 : lsh ≤ 1) : mayB (zeroL 256) ls lsh = true := by
  unfold mayB
  have a : (zeroL 256).any farP = false := List.any_eq_false.2 (fun x hx => by rw [zero_mem 256 x hx]; decide)
  rw [a, zero_len]
  simp [h1, h2]
theorem old_zero : oldL (zeroL 256) = zeroL 256 := by
  unfold oldL
  rw [zero_len]
  exact map_zero _ _ (fun j => by rw [zero_get]; exact outP_zero)
def oneX : List Int := (zeroL 256).set 3 16777216
theorem oneX_len : oneX.length = 256 := by unfold oneX; rw [List.length_set, zero_len]
theorem oneX_get (j : Nat) : oneX.getD j 0 = if j = 3 then 16777216 else 0 := by
  unfold oneX
  rw [List.getD_eq_getElem?_getD]
  by_cases h : j = 3
  · subst h; rw [List.getElem?_set_self (by rw [zero_len]; omega), if_pos rfl]; rfl
  · rw [List.getElem?_set_ne (by omega), if_neg h, ← List.getD_eq_getElem?_getD, zero_get]
theorem oneX_sum (a b : Int) : sumX oneX a b 256 = 16777216 * cosL (a + b * 3) := by
  unfold sumX
  have e := sumF_pick (fun i => 16777216 * cosL (a + b * (i : Int))) 3 256
  rw [if_pos (by omega)] at e
  rw [← show (16777216 : Int) * cosL (a + b * ((3 : Nat) : Int)) = 16777216 * cosL (a + b * 3) from rfl, ← e]
  refine sumF_congr _ (fun i _ => ?_)
  rw [oneX_get]
  split <;> simp
theorem oneX_range : ∀ x ∈ oneX, -268435455 ≤ x ∧ x ≤ 268435455 := by
  intro x hx
  obtain ⟨j, hj, rfl⟩ := List.getElem_of_mem hx
  have := oneX_get j
  rw [List.getD_eq_getElem?_getD, List.getElem?_eq_getElem hj] at this
  simp only [Option.getD_some] at this
  rw [this]; split <;> omega
theorem oneX_syn : synE 0 0 0 oneX = 0 := (askedE_zero (by omega)).2 ⟨by omega, by omega, by omega, oneX_len, oneX_range⟩
theorem oneX_val : (synL (winsL 0 0 0) oneX).getD 100 0 = rnd (rnd (16777216 * cosL (fiA 256 100 + fiB 256 100 * 3)) 26 * sineTabL.getD 100 0) 26 := by
  rw [synL_get _ _ (by omega)]
  have hw : winsL 0 0 0 = [(0, winL 0 0 0)] := rfl
  have e3 : (winL 0 0 0).getD 100 0 = sineTabL.getD 100 0 := by
    rw [win0, getD_left (by rw [hv_len256]; omega), hv_tab 0 false (.inl rfl)]; rfl
  have hl := winL_len 0 0 0 (.inl rfl)
  rw [hw]
  generalize winL 0 0 0 = W at *
  have e0 : (synP [(0, W)] oneX).1 100 = 0 + addS (0, W) (oneX.take (W.length / 2)) 100 := rfl
  rw [e0, hl, List.take_of_length_le (by rw [oneX_len]; omega), Int.zero_add]
  have e2 : (linesI oneX).getD 100 0 = rnd (16777216 * cosL (fiA 256 100 + fiB 256 100 * 3)) 26 := by
    unfold linesI
    rw [oneX_len, List.getD_eq_getElem?_getD, List.getElem?_map, List.getElem?_range (by omega)]
    show lineI 256 oneX 100 = _
    unfold lineI
    rw [oneX_len, oneX_sum]
    rfl
  have hli : (linesI oneX).length = 512 := by rw [linesI_len, oneX_len]
  unfold addS partS
  generalize linesI oneX = Y at *
  have e1 : (timesL Y W 26).getD 100 0 = timeV Y W 26 100 := by
    unfold timesL
    rw [hli, List.getD_eq_getElem?_getD, List.getElem?_map, List.getElem?_range (by omega)]
    rfl
  have z0 : Int.toNat 0 = 0 := rfl
  show (if Int.toNat 0 ≤ 100 ∧ 100 < Int.toNat 0 + W.length then (timesL Y W 26).getD (100 - Int.toNat 0) 0 else 0) = _
  rw [z0, hl, if_pos ⟨by omega, by omega⟩, Nat.sub_zero, e1]
  unfold timeV
  rw [e2, e3]
theorem oneX_out : outP (rnd (rnd (16777216 * cosL (fiA 256 100 + fiB 256 100 * 3)) 26 * sineTabL.getD 100 0) 26) ≠ 0 := by decide +kernel
theorem oneX_some : (pcmL (zeroL 256) (synL (winsL 0 0 0) oneX)).getD 100 0 ≠ 0 := by
  unfold pcmL sumsL
  rw [List.map_map, zero_len, List.getD_eq_getElem?_getD, List.getElem?_map, List.getElem?_range (by omega)]
  show outP ((zeroL 256).getD 100 0 + (synL (winsL 0 0 0) oneX).getD 100 0) ≠ 0
  rw [zero_get, Int.zero_add, oneX_val]
  exact oneX_out
end Go.Proofs.Ytcmbbmilldhnnaa
