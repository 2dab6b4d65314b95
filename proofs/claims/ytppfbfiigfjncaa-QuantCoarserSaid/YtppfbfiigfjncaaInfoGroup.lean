/- info.Group: what a call answers, of a window that there is. -/
import Derived.Test.YtppfbfiigfjncaaInfoChk
set_option linter.unusedVariables false
set_option linter.unusedSimpArgs false
namespace Go.Proofs.Ytppfbfiigfjncaa
open Go.ChangeShapes Go.WideShapes Go.ChangeAt Go.RowKit

/-- Which group's window it is. -/
def grpOf : List Int → Int → Nat
  | [], _ => 0
  | x :: l, w => if w < x then 0 else grpOf l (w - x) + 1
/-- Windows that may be at some rate: their groups. -/
theorem may_groups {seq shape max : Int} {G : List Int} (h : mayB 11 seq shape max G = true) : (∀ j, j < G.length → 1 ≤ G.getD j 0 ∧ G.getD j 0 ≤ 8) ∧ sumG G G.length = winN seq ∧ G.length ≤ 8 := by
  unfold mayB at h
  simp at h
  have hg := h.2.2.2.2
  unfold grpB at hg
  by_cases hs : seq = 2
  · rw [if_pos hs] at hg
    simp at hg
    obtain ⟨h1, h2, h3⟩ := hg
    refine ⟨fun j hj => ?_, by rw [h2, winN, if_pos hs]; rfl, h3⟩
    have := h1 (G.getD j 0) (by rw [List.getD_eq_getElem?_getD, List.getElem?_eq_getElem hj]; exact List.getElem_mem hj)
    unfold okG at this
    simp at this
    rw [List.getD_eq_getElem?_getD]
    exact this
  · rw [if_neg hs] at hg
    have hg : G = [1] := by simpa using hg
    subst hg
    refine ⟨fun j hj => ?_, by rw [winN, if_neg hs]; rfl, by decide⟩
    obtain rfl : j = 0 := by simpa using hj
    decide
theorem grpOf_step {G : List Int} {k : Nat} (hk : k < G.length) (l : Int) : grpOf (G.drop k) l = if l < G.getD k 0 then 0 else grpOf (G.drop (k + 1)) (l - G.getD k 0) + 1 := by
  have hd : G.drop k = G.getD k 0 :: G.drop (k + 1) := by rw [List.drop_eq_getElem_cons hk]; simp [List.getD_eq_getElem?_getD, hk]
  rw [hd]; rfl
set_option maxRecDepth 100000 in
set_option maxHeartbeats 4000000 in
theorem info_group (seq shape max : Int) (G : List Int) (pg : Option Addr) (cg : Nat) (window : Int) (w : World) (hG : IsInts w pg G) (hl : G.length ≤ 100) (hm : mayB 11 seq shape max G = true) (h0 : 0 ≤ window) (h1 : window < winN seq) :
    Calls Try.prog 21 #[.agg (infoC seq shape max pg G.length cg), .int .i64 window] w fun e w' => e = .returned (.tuple #[.int .i64 (grpOf G window : Nat), .int .i64 0]) ∧ Below w.heap.size w w' := by
  have hb0 : Below w.heap.size w (w.alloc (.cells (infoC seq shape max pg G.length cg) 27)) := (Below.refl _ w).alloc (Nat.le_refl _) _
  have X0 := Lib.hid (CellsAt.new w 27 (infoC seq shape max pg G.length cg) rfl)
  obtain ⟨hg1, hg2, hg3⟩ := may_groups hm
  have HC := Lib.hid (fun (W : World) (h : Below w.heap.size w W) => info_windows seq shape max G pg cg W (hG.keep h) hl)
  rw [hm] at HC
  simp only [if_true] at HC
  have hw8 : winN seq ≤ 8 := by unfold winN; split <;> omega
  have HG := Lib.hid (fun (W : World) (h : Below w.heap.size w W) => hG.keep h)
  have HG1 := Lib.hid hg1
  obtain ⟨gr, hgr⟩ : ∃ g, grpOf G window = g := ⟨_, rfl⟩
  rw [hgr]
  have HGR := Lib.hid hgr
  obtain ⟨many, hmany⟩ : ∃ m, winN seq = m := ⟨_, rfl⟩
  rw [hmany] at HC hg2 h1 hw8
  have d0 : decide (window < 0) = false := decide_eq_false (by omega)
  have d1 : decide (window ≥ (many : Int)) = false := decide_eq_false (by omega)
  clear hG hm hgr hmany hg1
  go_enter Try.func21, Try.ntmps21
  go_wp2_with fail
  refine (HC.out _ hb0).mono ?_
  rintro e w1 ⟨rfl, hB⟩
  have hb1 := hb0.trans (hB.mono hb0.size)
  have X1 := Lib.hid (X0.out.keep hB X0.out.lt)
  have kx3 := X1.out.cell 3
  simp only [List.getElem?_toArray, List.getElem?_cons_zero, List.getElem?_cons_succ] at kx3
  have HG2 := Lib.hid (HG.out _ hb1)
  clear hB hb0 HC X0 HG
  go_wp2_with fail
  clear d0 d1
  go_loop [8, 9] (fun K V => ∃ k : Nat, K = .int .i64 k ∧ k < G.length ∧ V = .int .i64 (window - sumG G k) ∧ sumG G k ≤ window ∧ 0 ≤ sumG G k ∧ Hid (gr = k + grpOf (G.drop k) (window - sumG G k))) (fun K _ => G.length - (intOf K).toNat)
  case atStart =>
    refine ⟨0, rfl, ?_, by simp [sumG], by simpa [sumG] using h0, Int.le_refl _, Lib.hid (by rw [← HGR.out]; simp [sumG])⟩
    rcases Nat.eq_zero_or_pos G.length with h | h
    · rw [h] at hg2; simp [sumG] at hg2; omega
    · exact h
  case round =>
    obtain ⟨k, rfl, hlt, rfl, hs, hs0, hR⟩ := hrel
    obtain ⟨b, off, rfl, _, hc⟩ := HG2.out.at hlt
    have r1 := hc k hlt
    have hx := HG1.out k hlt
    have hst := grpOf_step hlt (window - sumG G k)
    have hsucc : sumG G (k + 1) = sumG G k + G.getD k 0 := rfl
    have HST := Lib.hid hst
    have HSU := Lib.hid hsucc
    have hlast : k + 1 = G.length → sumG G k + G.getD k 0 = many := fun h => by rw [← hsucc, h, hg2]
    have HLAST := Lib.hid hlast
    clear hc hst hsucc hlast
    generalize G.getD k 0 = x at r1 hx HST HSU HLAST
    obtain ⟨S, hS⟩ : ∃ S, sumG G k = S := ⟨_, rfl⟩
    rw [hS] at HST HSU HLAST hs hs0 hR ⊢
    clear hS
    by_cases hcase : window - S < x
    · have d2 : decide (window - S ≥ x) = false := decide_eq_false (by omega)
      have HF : Hid (gr = k) := by have := hR.out; have h2 := HST.out; rw [if_pos hcase] at h2; show _ = _; omega
      clear hR HST HSU hcase
      go_wp2
      go_ret2
      exact ⟨by rw [HF.out]; rfl, hb1⟩
    · have d2 : decide (window - S ≥ x) = true := decide_eq_true (by omega)
      have v1 : IntKind.i64.wrap (window - S - x) = window - S - x := IntWalk.i64_in _ (by omega)
      have hk2 : k + 1 < G.length := by
        rcases Nat.lt_or_ge (k + 1) G.length with h | h
        · exact h
        · have := HLAST.out (by omega); omega
      have HN : Hid (gr = (k + 1 : Nat) + grpOf (G.drop (k + 1)) (window - sumG G (k + 1))) := by
        have := hR.out; have h2 := HST.out; rw [if_neg hcase] at h2
        show _ = _
        rw [HSU.out, show window - (S + x) = window - S - x by omega]
        omega
      have hfin : S + x ≤ window ∧ 0 ≤ S + x := by omega
      clear hR HST hcase HLAST
      go_wp2
      go_round
      case rel => exact ⟨k + 1, by go_num, hk2, by rw [HSU.out]; exact congrArg _ (by omega), by rw [HSU.out]; omega, by rw [HSU.out]; omega, HN⟩
      case measure => simp [intOf]; omega
end Go.Proofs.Ytppfbfiigfjncaa
