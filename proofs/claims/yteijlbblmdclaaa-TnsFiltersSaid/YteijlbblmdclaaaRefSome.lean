/- reedpiperef10: Check, Some, Many: what each call answers. -/
import Derived.Test.YteijlbblmdclaaaRefMay
set_option linter.unusedVariables false
set_option linter.unusedSimpArgs false
namespace Go.Proofs.Yteijlbblmdclaaa
open Go.ChangeShapes Go.WideShapes Go.ChangeAt Go.RowKit

set_option maxRecDepth 100000 in
theorem refi_check (rate seq shape max : Int) (G : List Int) (pg : Option Addr) (cg : Nat) (w : World) (hG : IsInts w pg G) (hl : G.length ≤ 100) :
    Calls Try.prog 40 #[.int .i64 rate, .agg (infoC seq shape max pg G.length cg)] w (RE (infoE rate seq shape max G) w) := by
  have hb0 : Below w.heap.size w (w.alloc (.cells (infoC seq shape max pg G.length cg) 33)) := (Below.refl _ w).alloc (Nat.le_refl _) _
  have HM := Lib.hid (fun (h0 : 0 ≤ rate) (h1 : rate ≤ 11) (W : World) (h : Below w.heap.size w W) => ref_may rate seq shape max h0 h1 G pg cg W (hG.keep h) hl)
  unfold RE infoE
  unfold RGrp at HM
  by_cases c1 : rate < 0
  · rw [if_pos (.inl c1)]
    have e1 : decide (rate < 0) = true := decide_eq_true c1
    clear c1 HM
    go_enter Try.func40, Try.ntmps40
    go_wp2
    go_ret
    exact ⟨rfl, hb0⟩
  by_cases c2 : 11 < rate
  · rw [if_pos (.inr c2)]
    have e1 : decide (rate < 0) = false := decide_eq_false c1
    have e2 : decide (rate > 11) = true := decide_eq_true c2
    clear c1 c2 HM
    go_enter Try.func40, Try.ntmps40
    go_wp2
    go_ret
    exact ⟨rfl, hb0⟩
  rw [if_neg (by omega)]
  have HM2 := Lib.hid (HM.out (by omega) (by omega))
  have e1 : decide (rate < 0) = false := decide_eq_false c1
  have e2 : decide (rate > 11) = false := decide_eq_false c2
  generalize mayB rate seq shape max G = b at *
  clear c1 c2 HM
  go_enter Try.func40, Try.ntmps40
  go_wp2_with fail
  refine (HM2.out _ hb0).mono ?_
  rintro e w1 ⟨rfl, hB⟩
  have hb1 := hb0.trans (hB.mono hb0.size)
  clear hB hb0 HM2
  cases b
  · go_wp2
    go_ret
    exact ⟨rfl, hb1⟩
  · go_wp2
    go_ret
    exact ⟨rfl, hb1⟩
set_option maxRecDepth 100000 in
set_option maxHeartbeats 1000000 in
theorem ref_some (seq shape max : Int) (G : List Int) (pg : Option Addr) (cg : Nat) (w : World) (hG : IsInts w pg G) (hl : G.length ≤ 100) :
    Calls Try.prog 57 #[.agg (infoC seq shape max pg G.length cg)] w (RGrp (mayB 11 seq shape max G) w) := by
  have hb0 : Below w.heap.size w (w.alloc (.cells (infoC seq shape max pg G.length cg) 33)) := (Below.refl _ w).alloc (Nat.le_refl _) _
  have X0 := Lib.hid (CellsAt.new w 33 (infoC seq shape max pg G.length cg) rfl)
  have HM := Lib.hid (fun (k : Nat) (hk : k ≤ 11) (W : World) (h : Below w.heap.size w W) => ref_may k seq shape max (by omega) (by omega) G pg cg W (hG.keep h) hl)
  have HT := Lib.hid (fun (k : Nat) (hk : k ≤ 11) (h : mayB k seq shape max G = true) => may_most (rate := k) (by omega) (by omega) h)
  have HB0 := Lib.hid hb0
  unfold RGrp at HM ⊢
  obtain ⟨mb, hmb⟩ : ∃ f : Nat → Bool, ∀ k : Nat, mayB k seq shape max G = f k := ⟨fun k => mayB k seq shape max G, fun _ => rfl⟩
  have hmb2 : mayB 11 seq shape max G = mb 11 := hmb 11
  rw [hmb2] at HT ⊢
  simp only [hmb] at HM HT
  clear hG hmb hmb2 hb0
  go_enter Try.func57, Try.ntmps57
  go_wp2_with fail
  go_loopw [3] (fun K wr => ∃ k : Nat, K = .int .i64 k ∧ k ≤ 12 ∧ Hid (Below w.heap.size w wr) ∧ Hid (CellsAt wr w.heap.size 33 (infoC seq shape max pg G.length cg)) ∧ Hid (k = 12 → mb 11 = false)) (fun K _ => 12 - (intOf K).toNat)
  case atStart => exact ⟨0, rfl, Nat.zero_le _, HB0, X0, fun h => by omega⟩
  case round =>
    obtain ⟨k, rfl, hk, hb, hx, hl⟩ := hrel
    by_cases hlt : k ≤ 11
    · have hd : decide ((k : Int) ≤ 11) = true := decide_eq_true (by omega)
      have HMK := Lib.hid (HM.out k hlt _ hb.out)
      have HTK := Lib.hid (HT.out k hlt)
      have kx0 := hx.out.cell 0
      have kx1 := hx.out.cell 1
      have kx2 := hx.out.cell 2
      have kx3 := hx.out.cell 3
      simp only [List.getElem?_toArray, List.getElem?_cons_zero, List.getElem?_cons_succ] at kx0 kx1 kx2 kx3
      have HKL := Lib.hid (fun h : k = 11 => show mb 11 = mb k by rw [h])
      generalize mb k = b at HMK HTK HKL
      clear HM HT
      go_wp2_with fail
      refine HMK.out.mono ?_
      rintro e w1 ⟨rfl, hB⟩
      have hb1 := Lib.hid (hb.out.trans (hB.mono hb.out.size))
      have X1 := Lib.hid (hx.out.keep hB hx.out.lt)
      clear hB HMK
      cases b
      · go_wp2
        go_roundw
        case rel => exact ⟨k + 1, by go_num, by omega, hb1, X1, fun h => HKL.out (by omega)⟩
        case measure => simp [intOf]; omega
      · go_wp2
        go_ret
        exact ⟨ret_bool (HTK.out trivial).symm, hb1.out⟩
    · have hd : decide ((k : Int) ≤ 11) = false := decide_eq_false (by omega)
      have HF := Lib.hid (hl.out (by omega))
      go_wp2
      go_ret
      exact ⟨ret_bool HF.out.symm, hb.out⟩
set_option maxRecDepth 100000 in
theorem ref_wmany (seq shape max : Int) (pg : Option Addr) (ng cg : Nat) (w : World) :
    Calls Try.prog 58 #[.agg (infoC seq shape max pg ng cg)] w (RE (winN seq : Int) w) := by
  have hb0 : Below w.heap.size w (w.alloc (.cells (infoC seq shape max pg ng cg) 33)) := (Below.refl _ w).alloc (Nat.le_refl _) _
  unfold RE
  by_cases hs : seq = 2
  · subst hs
    go_enter Try.func58, Try.ntmps58
    go_wp2
    go_ret
    exact ⟨rfl, hb0⟩
  · have e1 : (seq == 2) = false := by simpa using hs
    have HS := Lib.hid hs
    clear hs
    go_enter Try.func58, Try.ntmps58
    go_wp2
    go_ret
    exact ⟨by simp [winN, HS.out], hb0⟩
end Go.Proofs.Yteijlbblmdclaaa
