/- LapBack in plain numbers: a frame more. -/
import Derived.Test.YtcmbbmilldhnnaaBackNear
import Derived.Test.YtcmbbmilldhnnaaLapZero
set_option linter.unusedVariables false
namespace Go.Proofs.Ytcmbbmilldhnnaa

def cutS (S : List Int) (k : Nat) : List Int := (S.drop (256 * k)).take 512
theorem cutS_get {S : List Int} {k j : Nat} (hj : j < 512) : (cutS S k).getD j 0 = S.getD (256 * k + j) 0 := by
  unfold cutS
  rw [List.getD_eq_getElem?_getD, List.getD_eq_getElem?_getD, List.getElem?_take_of_lt hj, List.getElem?_drop]
theorem cutS_len {S : List Int} {k : Nat} (h : 256 * k + 512 ≤ S.length) : (cutS S k).length = 512 := by
  unfold cutS; rw [List.length_take, List.length_drop]; omega
theorem cutS_range {S : List Int} (h : ∀ j, -32768 ≤ S.getD j 0 ∧ S.getD j 0 ≤ 32767) (k j : Nat) : -32768 ≤ (cutS S k).getD j 0 ∧ (cutS S k).getD j 0 ≤ 32767 := by
  by_cases hj : j < 512
  · rw [cutS_get hj]; exact h _
  · rw [List.getD_eq_getElem?_getD, List.getElem?_eq_none (by unfold cutS; rw [List.length_take]; omega)]
    simp
def linesB (S : List Int) (k : Nat) (sq was sh : Int) : List Int := anaL (winsL sq was sh) (cutS S k)
def numsB (S : List Int) (k : Nat) (sq was sh : Int) : List Int := synL (winsL sq was sh) (linesB S k sq was sh)
/-- What overlaps ahead of frame k. -/
def LapSt (S : List Int) (k : Nat) (T : List Int) (sq sh : Int) : Prop :=
  (k = 0 ∧ T = zeroL 256 ∧ sq = 0 ∧ sh = 0) ∨ ∃ was, 0 < k ∧ (was = 0 ∨ was = 1) ∧ (sh = 0 ∨ sh = 1) ∧ (sq = 0 ∨ sq = 1 ∨ sq = 2 ∨ sq = 3) ∧ T = (numsB S (k - 1) sq was sh).drop 256
theorem linesB_len {S : List Int} {k : Nat} {sq was sh : Int} (hs : sq = 0 ∨ sq = 1 ∨ sq = 2 ∨ sq = 3) (h0 : was = 0 ∨ was = 1) (h1 : sh = 0 ∨ sh = 1) (hl : 256 * k + 512 ≤ S.length) : (linesB S k sq was sh).length = 256 := ana_length sq was sh hs h0 h1 _ (cutS_len hl)
section
variable {S : List Int} (hm : ∀ j, -32768 ≤ S.getD j 0 ∧ S.getD j 0 ≤ 32767) {k : Nat} {sq was sh : Int} (hs : sq = 0 ∨ sq = 1 ∨ sq = 2 ∨ sq = 3) (h0 : was = 0 ∨ was = 1) (h1 : sh = 0 ∨ sh = 1) (hl : 256 * k + 512 ≤ S.length)
include hm hs h0 h1 hl
theorem linesB_range : ∀ x ∈ linesB S k sq was sh, -268435455 ≤ x ∧ x ≤ 268435455 := fun x hx => by
  have := ana_range sq was sh hs h0 h1 (cutS S k) (cutS_len hl) (cutS_range hm k) x hx
  omega
theorem linesB_ok : anaN sq was sh (cutS S k) = (linesB S k sq was sh, 0) := by
  unfold anaN
  rw [if_pos]
  · rfl
  · unfold anaE
    rw [askedE_zero (by omega)]
    refine ⟨by omega, by omega, by omega, cutS_len hl, fun x hx => ?_⟩
    obtain ⟨i, hi, rfl⟩ := List.getElem_of_mem hx
    have := cutS_range hm k i
    rw [List.getD_eq_getElem?_getD, List.getElem?_eq_getElem hi] at this
    exact this
theorem numsB_range (j : Nat) : -34359738368 ≤ (numsB S k sq was sh).getD j 0 ∧ (numsB S k sq was sh).getD j 0 ≤ 34359738368 :=
  synL_range sq was sh hs h0 h1 (linesB_len hs h0 h1 hl) (fun j => getD_range (linesB_range hm hs h0 h1 hl) (by omega) (by omega) j) j
theorem linesB_syn : synE sq was sh (linesB S k sq was sh) = 0 := (askedE_zero (by omega)).2 ⟨by omega, by omega, by omega, linesB_len hs h0 h1 hl, linesB_range hm hs h0 h1 hl⟩
theorem numsB_may : mayB ((numsB S k sq was sh).drop 256) sq sh = true := by
  have hr := numsB_range hm hs h0 h1 hl
  have hn : (numsB S k sq was sh).length = 512 := synL_len _ _
  generalize numsB S k sq was sh = Y at *
  unfold mayB
  have e1 : (Y.drop 256).length = 256 := by rw [List.length_drop]; omega
  have e2 : (Y.drop 256).any farP = false := by
    rw [List.any_eq_false]
    intro x hx
    obtain ⟨i, hi, rfl⟩ := List.getElem_of_mem (List.mem_of_mem_drop hx)
    have := hr i
    rw [List.getD_eq_getElem?_getD, List.getElem?_eq_getElem hi] at this
    simp only [Option.getD_some] at this
    unfold farP
    simp only [Bool.or_eq_true, decide_eq_true_eq, not_or]
    omega
  rw [e1, e2, decide_eq_true (show sq ≤ 3 by omega), decide_eq_true (show sh ≤ 1 by omega)]
  rfl
end
theorem st_may {S : List Int} (hm : ∀ j, -32768 ≤ S.getD j 0 ∧ S.getD j 0 ≤ 32767) {k : Nat} {T : List Int} {sq sh : Int} (hl : 256 * k + 256 ≤ S.length) (h : LapSt S k T sq sh) : mayB T sq sh = true ∧ (sh = 0 ∨ sh = 1) := by
  rcases h with ⟨_, hT, hs, hh⟩ | ⟨was, hk, a, b, c, hT⟩
  · rw [hT]; exact ⟨may_zero (by omega) (by omega), .inl hh⟩
  · rw [hT]; exact ⟨numsB_may hm c a b (by omega), b⟩
theorem drop_get (Y : List Int) (a n : Nat) : (Y.drop a).getD n 0 = Y.getD (a + n) 0 := by
  rw [List.getD_eq_getElem?_getD, List.getD_eq_getElem?_getD, List.getElem?_drop]
/-- One frame more: all that the law asks of it. -/
theorem st_next {S : List Int} (hm : ∀ j, -32768 ≤ S.getD j 0 ∧ S.getD j 0 ≤ 32767) {k : Nat} {T : List Int} {sq sh b sh' : Int} (hl : 256 * k + 512 ≤ S.length) (h : LapSt S k T sq sh) (hb : b = 0 ∨ b = 1 ∨ b = 2 ∨ b = 3) (h1 : sh' = 0 ∨ sh' = 1) (hf : 0 < k → FollowP sq b) :
    ∃ X T' P, anaN b sh sh' (cutS S k) = (X, 0) ∧ X.length = 256 ∧ lapN T sq sh b sh' X = ((T', b, sh'), P, 0) ∧ T'.length = 256 ∧ P.length = 256 ∧ LapSt S (k + 1) T' b sh' ∧ mayB T' b sh' = true ∧ (0 < k → ∀ n, n < 256 → -2 ≤ P.getD n 0 - S.getD (256 * k + n) 0 ∧ P.getD n 0 - S.getD (256 * k + n) 0 ≤ 2) := by
  obtain ⟨hmay, h0⟩ := st_may hm (by omega) h
  have hT := (mayB_spec hmay).1
  refine ⟨linesB S k b sh sh', (numsB S k b sh sh').drop 256, pcmL T (numsB S k b sh sh'), linesB_ok hm hb h0 h1 hl, linesB_len hb h0 h1 hl, ?_, ?_, ?_, ?_, numsB_may hm hb h0 h1 hl, ?_⟩
  · unfold lapN
    rw [if_neg (by rw [hmay]; simp), if_neg (by rw [linesB_syn hm hb h0 h1 hl]; simp)]
    rfl
  · rw [List.length_drop, show (numsB S k b sh sh').length = 512 from synL_len _ _]
  · unfold pcmL sumsL; rw [List.length_map, List.length_map, List.length_range, hT]
  · exact .inr ⟨sh, by omega, h0, h1, hb, by rw [Nat.add_sub_cancel]⟩
  · intro hk n hn
    rcases h with ⟨hk0, _⟩ | ⟨was, _, ha, _, hsq, hTe⟩
    · omega
    · rw [hTe] at hT ⊢
      have e : (pcmL ((numsB S (k - 1) sq was sh).drop 256) (numsB S k b sh sh')).getD n 0 = outP (backY sq was sh (cutS S (k - 1)) (256 + n) + backY b sh sh' (cutS S k) n) := by
        unfold pcmL sumsL
        rw [List.map_map, List.getD_eq_getElem?_getD, List.getElem?_map, List.getElem?_range (by omega)]
        show outP (((numsB S (k - 1) sq was sh).drop 256).getD n 0 + (numsB S k b sh sh').getD n 0) = _
        rw [drop_get]
        rfl
      rw [e]
      have key := lap_back (hf hk) ha h0 h1 (cutS_len (S := S) (k := k - 1) (by omega)) (cutS_len hl) (cutS_range hm _) (cutS_range hm _) (fun j hj => by rw [cutS_get (by omega), cutS_get (by omega), show 256 * (k - 1) + (256 + j) = 256 * k + j by omega]) hn
      rw [cutS_get (by omega)] at key
      exact pair_out key (hm _)
end Go.Proofs.Ytcmbbmilldhnnaa
