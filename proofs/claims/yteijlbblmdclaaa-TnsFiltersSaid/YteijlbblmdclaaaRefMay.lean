/- reedpiperef10: May: what a call answers. -/
import Derived.Test.YteijlbblmdclaaaRefInfoP
import Derived.Test.YteijlbblmdclaaaRefMany
set_option linter.unusedVariables false
set_option linter.unusedSimpArgs false
namespace Go.Proofs.Yteijlbblmdclaaa
open Go.ChangeShapes Go.WideShapes Go.ChangeAt Go.RowKit

set_option maxRecDepth 100000 in
set_option maxHeartbeats 4000000 in
theorem ref_may (rate seq shape max : Int) (h0 : 0 ≤ rate) (h1 : rate ≤ 11) (G : List Int) (pg : Option Addr) (cg : Nat) (w : World) (hG : IsInts w pg G) (hl : G.length ≤ 100) :
    Calls Try.prog 56 #[.int .i64 rate, .agg (infoC seq shape max pg G.length cg)] w (RGrp (mayB rate seq shape max G) w) := by
  have hb0 : Below w.heap.size w (w.alloc (.cells (infoC seq shape max pg G.length cg) 33)) := (Below.refl _ w).alloc (Nat.le_refl _) _
  have X0 := Lib.hid (CellsAt.new w 33 (infoC seq shape max pg G.length cg) rfl)
  have HG := Lib.hid (hG.keep hb0)
  have HM := Lib.hid (fun W => refmany_ok rate (seq == 2) h0 h1 W)
  obtain ⟨k1, k2, _, _, _⟩ := band_len rate (seq == 2) h0 h1
  have k2' : (bandL rate (seq == 2)).length ≤ 41 := Nat.le_trans k2 (by split <;> omega)
  clear k2
  unfold mayB
  unfold RMany at HM
  unfold RGrp
  generalize (bandL rate (seq == 2)).length = many at *
  obtain ⟨cc, hcc⟩ : ∃ c, (!(decide (3 < seq) || (decide (1 < shape) || (decide (max < 0) || (decide ((many : Int) - 1 < max) || !grpB seq G))))) = c := ⟨_, rfl⟩
  rw [hcc]
  have HCC := Lib.hid hcc
  clear hG hcc
  go_enter Try.func56, Try.ntmps56
  go_wp2_with fail
  refine (HM.out _).mono ?_
  rintro e w1 ⟨rfl, hB1⟩
  have hb1 := hb0.trans (hB1.mono hb0.size)
  have X1 := Lib.hid (X0.out.keep hB1 X0.out.lt)
  have HG1 := Lib.hid (HG.out.keep hB1)
  have kx0 := X1.out.cell 0
  have kx1 := X1.out.cell 1
  have kx2 := X1.out.cell 2
  have kx3 := X1.out.cell 3
  simp only [List.getElem?_toArray, List.getElem?_cons_zero, List.getElem?_cons_succ] at kx0 kx1 kx2 kx3
  clear hB1 hb0 X0 HM HG
  by_cases c1 : 3 < seq
  · have e1 : decide (seq > 3) = true := decide_eq_true c1
    go_wp2
    go_ret
    exact ⟨ret_bool (by rw [← HCC.out]; simp [c1]), hb1⟩
  have e1 : decide (seq > 3) = false := decide_eq_false c1
  by_cases c2 : 1 < shape
  · have e2 : decide (shape > 1) = true := decide_eq_true c2
    go_wp2
    go_ret
    exact ⟨ret_bool (by rw [← HCC.out]; simp [c2]), hb1⟩
  have e2 : decide (shape > 1) = false := decide_eq_false c2
  by_cases c3 : max < 0
  · have e3 : decide (max < 0) = true := decide_eq_true c3
    go_wp2
    go_ret
    exact ⟨ret_bool (by rw [← HCC.out]; simp [c3]), hb1⟩
  have e3 : decide (max < 0) = false := decide_eq_false c3
  by_cases c4 : (many : Int) - 1 < max
  · have e4 : decide (max > (many : Int) - 1) = true := decide_eq_true c4
    go_wp2
    go_ret
    exact ⟨ret_bool (by rw [← HCC.out]; simp [c4]), hb1⟩
  have e4 : decide (max > (many : Int) - 1) = false := decide_eq_false c4
  have C := Lib.hid (show cc = grpB seq G by rw [← HCC.out]; simp [c1, c2, c3, c4])
  clear c1 c2 c3 c4 HCC
  by_cases hs : seq = 2
  · subst hs
    go_wp2_with fail
    clear e1 e2 e3 e4
    go_loop [7, 8] (fun L K => ∃ k : Nat, K = .int .i64 k ∧ k ≤ G.length ∧ L = .int .i64 (8 - sumG G k) ∧ Hid (∀ j, j < k → 1 ≤ G.getD j 0) ∧ sumG G k ≤ 8 ∧ (k : Int) ≤ sumG G k) (fun _ K => G.length - (intOf K).toNat)
    case atStart => exact ⟨0, rfl, Nat.zero_le _, rfl, fun j hj => by omega, by simp [sumG], by simp [sumG]⟩
    case round =>
      obtain ⟨k, rfl, hk, rfl, hall, hs1, hs2⟩ := hrel
      by_cases hlt : k < G.length
      · have hd : decide ((k : Int) < (G.length : Int)) = true := decide_eq_true (by omega)
        obtain ⟨b, off, rfl, _, hc⟩ := HG1.out.at hlt
        have r1 := hc k hlt
        have HSU := Lib.hid (show sumG G (k + 1) = sumG G k + G.getD k 0 from rfl)
        have HLO := Lib.hid (fun h => grp_low hlt h)
        have HHI := Lib.hid (fun h => grp_high hlt h)
        clear hc
        obtain ⟨x, hxe⟩ : ∃ x, G.getD k 0 = x := ⟨_, rfl⟩
        rw [hxe] at r1 HSU HLO HHI
        have HXE := Lib.hid hxe
        obtain ⟨S, hS⟩ : ∃ S, sumG G k = S := ⟨_, rfl⟩
        rw [hS] at HSU HHI hs1 hs2 ⊢
        clear hxe hS
        by_cases c1 : x < 1
        · have e1 : decide (x < 1) = true := decide_eq_true c1
          have HF := Lib.hid (HLO.out c1)
          clear HLO HHI c1
          go_wp2
          go_ret
          exact ⟨ret_bool (by rw [C.out, HF.out]), hb1⟩
        have e1 : decide (x < 1) = false := decide_eq_false c1
        by_cases c2 : 8 - S < x
        · have e2 : decide (x > 8 - S) = true := decide_eq_true c2
          have HF := Lib.hid (HHI.out c2)
          clear HLO HHI c1 c2
          go_wp2
          go_ret
          exact ⟨ret_bool (by rw [C.out, HF.out]), hb1⟩
        have e2 : decide (x > 8 - S) = false := decide_eq_false c2
        have v0 : IntKind.i64.wrap (8 - S - x) = 8 - S - x := IntWalk.i64_in _ (by omega)
        have HC := Lib.hid (And.intro c1 c2)
        clear HLO HHI c1 c2
        go_wp2
        go_round
        case rel =>
          obtain ⟨c1, c2⟩ := HC.out
          refine ⟨k + 1, by go_num, hlt, by rw [HSU.out]; exact congrArg _ (by omega), fun j hj => ?_, by rw [HSU.out]; omega, by rw [HSU.out]; omega⟩
          by_cases e : j = k
          · rw [e, HXE.out]; omega
          · exact hall.out j (by omega)
        case measure => simp [intOf]; omega
      · have hkM : k = G.length := by omega
        subst hkM
        have hd : decide ((G.length : Int) < (G.length : Int)) = false := decide_eq_false (by omega)
        have HE := Lib.hid (grp_end hall.out hs1)
        clear hall
        obtain ⟨S, hS⟩ : ∃ s, sumG G G.length = s := ⟨_, rfl⟩
        rw [hS] at HE hs1 hs2 ⊢
        clear hS
        by_cases c1 : S = 8
        · have HF := Lib.hid (show grpB 2 G = true by rw [HE.out, decide_eq_true c1])
          subst c1
          clear HE
          go_wp2
          go_ret
          exact ⟨ret_bool (by rw [C.out, HF.out]), hb1⟩
        · have e1 : (8 - S == 0) = false := by simp; omega
          have HF := Lib.hid (show grpB 2 G = false by rw [HE.out, decide_eq_false c1])
          clear HE c1
          go_wp2
          go_ret
          exact ⟨ret_bool (by rw [C.out, HF.out]), hb1⟩
  · have es : (seq != 2) = true := by simpa using hs
    have HGB := Lib.hid (show cc = decide (G = [1]) by rw [C.out]; unfold grpB; rw [if_neg hs])
    clear hs C
    by_cases hn : G.length = 1
    · obtain ⟨x, rfl⟩ : ∃ x, G = [x] := List.length_eq_one_iff.1 hn
      obtain ⟨b, off, rfl, _, hc⟩ := HG1.out.at (j := 0) Nat.one_pos
      have r1 := hc 0 Nat.one_pos
      rw [Nat.add_zero] at r1
      have r1 : w1.cell? ⟨b, off, none⟩ = some (.int .i64 x) := r1
      have hd : ((([x] : List Int).length : Nat) : Int) = 1 := rfl
      clear hc hn
      by_cases c1 : x = 1
      · subst c1
        have HF := Lib.hid (show cc = true by rw [HGB.out]; rfl)
        clear HGB
        go_wp2
        go_ret
        exact ⟨ret_bool (by rw [HF.out]), hb1⟩
      · have e5 : (x == 1) = false := by simpa using c1
        have HF := Lib.hid (show cc = false by rw [HGB.out]; simpa using c1)
        clear HGB c1
        go_wp2
        go_ret
        exact ⟨ret_bool (by rw [HF.out]), hb1⟩
    · have e5 : ((G.length : Int) == 1) = false := by simp; omega
      have HF := Lib.hid (show cc = false by rw [HGB.out]; exact decide_eq_false (fun e => hn (by rw [e]; rfl)))
      clear HGB hn
      go_wp2
      go_ret
      exact ⟨ret_bool (by rw [HF.out]), hb1⟩
end Go.Proofs.Yteijlbblmdclaaa
