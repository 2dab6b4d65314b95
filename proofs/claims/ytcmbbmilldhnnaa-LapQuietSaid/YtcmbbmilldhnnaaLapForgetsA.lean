/- LapForgets: every input. -/
import Derived.Test.YtcmbbmilldhnnaaLapForgetsW
import Derived.Test.YtcmbbmilldhnnaaOpenLap
set_option linter.unusedVariables false
namespace Go.Proofs.Ytcmbbmilldhnnaa
open Go.ChangeShapes Go.WideShapes Go.ChangeAt Go.RowKit

theorem lap_err (l : List Int) (ls lsh seq shape : Int) (lines : List Int) (h : (lapN l ls lsh seq shape lines).2.2 ≠ 0) : (lapN l ls lsh seq shape lines).1.1.length = 0 := by
  unfold lapN at h ⊢
  split
  · rfl
  · rename_i h1
    rw [if_neg h1] at h
    split
    · rfl
    · rename_i h2
      rw [if_neg h2] at h
      exact absurd rfl h
theorem lap_fine (l : List Int) (ls lsh seq shape : Int) (lines : List Int) (h : (lapN l ls lsh seq shape lines).2.2 = 0) :
    mayB l ls lsh = true ∧ synE seq lsh shape lines = 0 ∧ lapN l ls lsh seq shape lines = (((synL (winsL seq lsh shape) lines).drop 256, seq, shape), pcmL l (synL (winsL seq lsh shape) lines), 0) := by
  unfold lapN at h ⊢
  by_cases h1 : mayB l ls lsh = false
  · rw [if_pos h1] at h; simp at h
  · rw [if_neg h1] at h ⊢
    by_cases h2 : synE seq lsh shape lines ≠ 0
    · rw [if_pos h2] at h; exact absurd h h2
    · rw [if_neg h2]
      exact ⟨by simpa using h1, by omega, rfl⟩
theorem outP_range (s : Int) : -32768 ≤ outP s ∧ outP s ≤ 32767 := by
  unfold outP clp
  generalize rnd s 4 = r
  have e1 : (2 : Int) ^ (16 - 1) = 32768 := by decide
  rw [e1]
  omega
theorem lap_pcm_range (l : List Int) (ls lsh seq shape : Int) (lines : List Int) (j : Nat) : -32768 ≤ (lapN l ls lsh seq shape lines).2.1.getD j 0 ∧ (lapN l ls lsh seq shape lines).2.1.getD j 0 ≤ 32767 := by
  refine getD_range (fun x hx => ?_) (by omega) (by omega) j
  unfold lapN at hx
  split at hx
  · cases hx
  · split at hx
    · cases hx
    · unfold pcmL at hx
      obtain ⟨s, _, rfl⟩ := List.mem_map.1 hx
      exact outP_range s
theorem lap_pcm_len (l : List Int) (ls lsh seq shape : Int) (lines : List Int) : (lapN l ls lsh seq shape lines).2.1.length ≤ l.length := by
  unfold lapN
  split
  · simp
  · split
    · simp
    · show (pcmL l _).length ≤ _
      rw [pcm_len]; exact Nat.le_refl _
theorem forgets_any (l1 l2 one two : List Int) (s1 h1 s2 h2 seq shape : Int) (p1 p2 p3 p4 : Option Addr) (c1 c2 c3 c4 : Nat) (w : World) (A1 : IsArg w p1 c1 l1) (A2 : IsArg w p2 c2 l2) (A3 : IsArg w p3 c3 one) (A4 : IsArg w p4 c4 two)
    (k1 : l1.length ≤ c1) (k2 : l2.length ≤ c2) (k3 : one.length ≤ c3) (k4 : two.length ≤ c4) (e1 : 0 ≤ h1) (e2 : 0 ≤ h2) (e3 : 0 ≤ seq) (e4 : 0 ≤ shape) :
    Calls Try.prog 7 #[.agg #[.slice p1 l1.length c1, .int .u8 s1, .int .u8 h1], .agg #[.slice p2 l2.length c2, .int .u8 s2, .int .u8 h2], .int .u8 seq, .int .u8 shape, .slice p3 one.length c3, .slice p4 two.length c4] w fun e w' => e = .returned (.bool true) ∧ Below w.heap.size w w' := by
  have m1 := A1.2.2.1; have m2 := A2.2.2.1; have m3 := A3.2.2.1; have m4 := A4.2.2.1
  unfold maxLen at m1 m2 m3 m4
  by_cases d1 : 1000 < l1.length
  · exact forget_e1 p1 p2 p3 p4 _ _ _ _ c1 c2 c3 c4 s1 h1 s2 h2 seq shape w (decide_eq_true (by omega))
  by_cases d2 : 1000 < l2.length
  · exact forget_e2 p1 p2 p3 p4 _ _ _ _ c1 c2 c3 c4 s1 h1 s2 h2 seq shape w (decide_eq_false (by omega)) (decide_eq_true (by omega))
  by_cases d3 : 1000 < one.length
  · exact forget_e3 p1 p2 p3 p4 _ _ _ _ c1 c2 c3 c4 s1 h1 s2 h2 seq shape w (decide_eq_false (by omega)) (decide_eq_false (by omega)) (decide_eq_true (by omega))
  by_cases d4 : 1000 < two.length
  · exact forget_e4 p1 p2 p3 p4 _ _ _ _ c1 c2 c3 c4 s1 h1 s2 h2 seq shape w (decide_eq_false (by omega)) (decide_eq_false (by omega)) (decide_eq_false (by omega)) (decide_eq_true (by omega))
  by_cases d5 : h1 = h2
  case neg =>
    exact forget_e5 p1 p2 p3 p4 _ _ _ _ c1 c2 c3 c4 s1 h1 s2 h2 seq shape w (decide_eq_false (by omega)) (decide_eq_false (by omega)) (decide_eq_false (by omega)) (decide_eq_false (by omega)) (by simp [d5]) (by simp [d5])
  subst d5
  have HNA := Lib.hid (fun (W : World) (hW : Below w.heap.size w W) => (next_any l1 s1 h1 seq shape one e3 e1 e4 (by omega) (by omega) p1 p3 c1 c3 k1 k3 W (A1.1.keep hW) (A3.1.keep hW)).mono (fun e w' h => next_g h))
  have HNB := Lib.hid (fun (W : World) (hW : Below w.heap.size w W) => (next_any l2 s2 h1 seq shape one e3 e1 e4 (by omega) (by omega) p2 p3 c2 c3 k2 k3 W (A2.1.keep hW) (A3.1.keep hW)).mono (fun e w' h => next_g h))
  have D1 : decide ((1000 : Int) < (l1.length : Int)) = false := decide_eq_false (by omega)
  have D2 : decide ((1000 : Int) < (l2.length : Int)) = false := decide_eq_false (by omega)
  have D3 : decide ((1000 : Int) < (one.length : Int)) = false := decide_eq_false (by omega)
  have D4 : decide ((1000 : Int) < (two.length : Int)) = false := decide_eq_false (by omega)
  have D5 : (h1 == h1) = true := by simp
  have D5' : (h1 != h1) = false := by simp
  by_cases f1 : (lapN l1 s1 h1 seq shape one).2.2 = 0
  · by_cases f2 : (lapN l2 s2 h1 seq shape one).2.2 = 0
    · obtain ⟨_, _, r1⟩ := lap_fine _ _ _ _ _ _ f1
      obtain ⟨_, hE, r2⟩ := lap_fine _ _ _ _ _ _ f2
      rw [r1] at HNA
      rw [r2] at HNB
      have hT : ((synL (winsL seq h1 shape) one).drop 256).length = 256 := by rw [List.length_drop, synL_len]
      generalize (synL (winsL seq h1 shape) one).drop 256 = T at *
      have km : 0 ≤ seq.tmod 2 ∧ seq.tmod 2 ≤ 1 := by rw [Int.tmod_eq_emod_of_nonneg e3]; omega
      refine forget_ok p1 p2 p3 p4 _ _ _ _ c1 c2 c3 c4 s1 h1 s2 h1 seq shape w D1 D2 D3 D4 D5 D5' T _ _ seq shape (seq.tmod 2) rfl ?_ (lapN T seq shape shape (seq.tmod 2) two).1.1 (lapN T seq shape shape (seq.tmod 2) two).2.1 (lapN T seq shape shape (seq.tmod 2) two).1.2.1 (lapN T seq shape shape (seq.tmod 2) two).1.2.2 (lapN T seq shape shape (seq.tmod 2) two).2.2 (fun j => lap_pcm_range _ _ _ _ _ _ j) (by omega) (by have := lap_pcm_len T seq shape shape (seq.tmod 2) two; omega) HNA HNB (Lib.hid (fun W p c hW hc hI => ?_))
      · rcases (show seq.tmod 2 = 0 ∨ seq.tmod 2 = 1 by omega) with e | e <;> rw [e] <;> decide
      · exact (next_any T seq shape shape (seq.tmod 2) two e4 e4 km.1 (by omega) (by omega) p p4 c c4 hc k4 W hI (A4.1.keep hW)).mono (fun e w' h => next_g h)
    · exact forget_ob p1 p2 p3 p4 _ _ _ _ c1 c2 c3 c4 s1 h1 s2 h1 seq shape w D1 D2 D3 D4 D5 D5' _ _ _ _ _ _ _ _ _ _ (beq_eq_false_iff_ne.2 f2) (by simp [bne, beq_eq_false_iff_ne.2 f2]) f1 (lap_err _ _ _ _ _ _ f2) HNA HNB
  · by_cases f2 : (lapN l2 s2 h1 seq shape one).2.2 = 0
    · exact forget_bo p1 p2 p3 p4 _ _ _ _ c1 c2 c3 c4 s1 h1 s2 h1 seq shape w D1 D2 D3 D4 D5 D5' _ _ _ _ _ _ _ _ _ _ (beq_eq_false_iff_ne.2 f1) (by simp [bne, beq_eq_false_iff_ne.2 f1]) (lap_err _ _ _ _ _ _ f1) f2 HNA HNB
    · exact forget_bb p1 p2 p3 p4 _ _ _ _ c1 c2 c3 c4 s1 h1 s2 h1 seq shape w D1 D2 D3 D4 D5 D5' _ _ _ _ _ _ _ _ _ _ (beq_eq_false_iff_ne.2 f1) (by simp [bne, beq_eq_false_iff_ne.2 f1]) (beq_eq_false_iff_ne.2 f2) (by simp [bne, beq_eq_false_iff_ne.2 f2]) (lap_err _ _ _ _ _ _ f1) (lap_err _ _ _ _ _ _ f2) HNA HNB
end Go.Proofs.Ytcmbbmilldhnnaa
