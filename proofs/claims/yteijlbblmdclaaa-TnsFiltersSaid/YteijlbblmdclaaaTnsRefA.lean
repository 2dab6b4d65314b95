/- reedpiperef15.asked: what a call answers. -/
import Derived.Test.YteijlbblmdclaaaTnsRefAP
import Derived.Test.YteijlbblmdclaaaTnsRef2
import Derived.Test.YteijlbblmdclaaaRefInfo
set_option linter.unusedVariables false
set_option linter.unusedSimpArgs false
namespace Go.Proofs.Yteijlbblmdclaaa
open Go.ChangeShapes Go.WideShapes Go.ChangeAt Go.RowKit
set_option maxRecDepth 100000 in
set_option maxHeartbeats 8000000 in
theorem ref_asked (rate seq shape max : Int) (G : List Int) (pg q px : Option Addr) (cg cB cx : Nat) (B : List BV) (x : List Int) (w : World)
    (hG : IsInts w pg G) (hGl : G.length ≤ 100) (hB : IsBank w q B) (hX : IsInts w px x) (hxl : x.length ≤ 1000) (hBl : B.length ≤ 100) :
    Calls Try.prog 26 #[.int .i64 rate, .agg (infoC seq shape max pg G.length cg), .slice q B.length cB, .slice px x.length cx] w (RE (readyE rate seq shape max G B x) w) := by
  have hb0 : Below w.heap.size w (w.alloc (.cells (infoC seq shape max pg G.length cg) 33)) := (Below.refl _ w).alloc (Nat.le_refl _) _
  have X0 := Lib.hid (CellsAt.new w 33 (infoC seq shape max pg G.length cg) rfl)
  have HC := Lib.hid (fun (W : World) (h : Below w.heap.size w W) => refi_check rate seq shape max G pg cg W (hG.keep h) hGl)
  have HN := Lib.hid (fun (W : World) (h : Below w.heap.size w W) => ref_windows seq shape max G pg cg W (hG.keep h) hGl)
  have HBK := Lib.hid hB
  have HXI := Lib.hid hX
  have HB0 := Lib.hid hb0
  unfold RE at HC ⊢
  obtain ⟨rc, hrc⟩ : ∃ r, readyE rate seq shape max G B x = r := ⟨_, rfl⟩
  rw [hrc]
  have HRC := Lib.hid hrc
  obtain ⟨ic, hic⟩ : ∃ c, infoE rate seq shape max G = c := ⟨_, rfl⟩
  rw [hic] at HC
  have HIC := Lib.hid hic
  clear hG hB hX hb0 hrc hic
  go_enter Try.func26, Try.ntmps26
  go_wp2_with fail
  refine (HC.out _ HB0.out).mono ?_
  rintro e w1 ⟨rfl, hB1⟩
  have HB1 := Lib.hid (HB0.out.trans (hB1.mono HB0.out.size))
  have X1 := Lib.hid (X0.out.keep hB1 X0.out.lt)
  have k0 := X1.out.cell 0
  have k1 := X1.out.cell 1
  have k2 := X1.out.cell 2
  have k3 := X1.out.cell 3
  simp only [infoC, List.getElem?_toArray, List.getElem?_cons_zero, List.getElem?_cons_succ] at k0 k1 k2 k3
  clear hB1 HC X0
  by_cases hic0 : ic = 0
  · subst hic0
    obtain ⟨r0, r1, hmay⟩ := infoE_zero HIC.out
    have hm11 := may_some r0 r1 hmay
    have HWN := Lib.hid (HN.out w1 HB1.out)
    rw [hm11] at HWN
    simp only [if_true] at HWN
    clear HN r0 r1 hmay hm11
    obtain ⟨wn, hwn⟩ : ∃ n, winN seq = n := ⟨_, rfl⟩
    rw [hwn] at HWN
    have HWE := Lib.hid hwn
    clear hwn
    go_wp2_with fail
    refine HWN.out.mono ?_
    rintro e w2 ⟨rfl, hB2⟩
    have HB2 := Lib.hid (HB1.out.trans (hB2.mono HB1.out.size))
    have X2 := Lib.hid (X1.out.keep hB2 X1.out.lt)
    have m0 := X2.out.cell 0
    simp only [infoC, List.getElem?_toArray, List.getElem?_cons_zero] at m0
    clear hB2 HWN X1 X2 HB1 k0 k1 k2 k3
    have hmost : (seq == 2) = true ∧ mostN seq = 1 ∨ (seq == 2) = false ∧ mostN seq = 3 := by
      unfold mostN
      by_cases h : seq = 2
      · left; simp [h]
      · right; simp [h]
    obtain ⟨most, hmo⟩ : ∃ m, mostN seq = m := ⟨_, rfl⟩
    rw [hmo] at hmost
    have HMO := Lib.hid hmo
    clear hmo
    by_cases hbl : B.length = wn
    · subst hbl
      rcases hmost with ⟨hs, rfl⟩ | ⟨hs, rfl⟩
      all_goals
        have e1 : ((B.length : Int) != (B.length : Int)) = false := by simp
        go_wp2_with fail
        clear e1
        go_loop [13] (fun K => ∃ k : Nat, K = .int .i64 k ∧ k ≤ B.length ∧ Hid (∀ j, j < k → ((B.getD j default).fs.length : Int) ≤ mostN seq)) (fun K => B.length - (intOf K).toNat)
        case atStart => exact ⟨0, rfl, Nat.zero_le _, fun j hj => by omega⟩
        case round =>
          obtain ⟨k, rfl, hk, hall⟩ := hrel
          by_cases hlt : k < B.length
          · have hd : decide ((k : Int) < (B.length : Int)) = true := decide_eq_true (by omega)
            obtain ⟨bq, oq, rfl, _, hc⟩ := (HBK.out.keep HB2.out).at hlt
            have r1 := hc k hlt
            have HAL := Lib.hid (fun h => any_long (m := mostN seq) hlt h)
            have HNX := Lib.hid (fun (h : ((B.getD k default).fs.length : Int) ≤ mostN seq) => show ∀ j, j < k + 1 → ((B.getD j default).fs.length : Int) ≤ mostN seq by
              intro j hj
              by_cases e : j = k
              · rw [e]; exact h
              · exact hall.out j (by omega))
            rw [HMO.out] at HAL HNX
            generalize B.getD k default = bv at r1 HAL HNX
            obtain ⟨qf, cf, fs⟩ := bv
            dsimp only at r1 HAL HNX
            clear hc
            first
              | (by_cases hlong : (fs.length : Int) > 1
                 · have hd2 : decide ((fs.length : Int) > 1) = true := decide_eq_true hlong
                   have HF := Lib.hid (asked_many (x := x) HIC.out (.inr (by rw [HMO.out]; exact HAL.out hlong)))
                   clear HAL HNX hlong hall
                   go_wp2
                   go_ret
                   exact ⟨ret_int (by rw [← HRC.out, HF.out]), HB2.out⟩
                 · have hd2 : decide ((fs.length : Int) > 1) = false := decide_eq_false hlong
                   have HNX2 := Lib.hid (HNX.out (by omega))
                   clear HAL HNX hlong hall
                   go_wp2
                   go_round
                   case rel => exact ⟨k + 1, by go_num, hlt, by rw [HMO.out]; exact HNX2⟩
                   case measure => simp [intOf]; omega)
              | (by_cases hlong : (fs.length : Int) > 3
                 · have hd2 : decide ((fs.length : Int) > 3) = true := decide_eq_true hlong
                   have HF := Lib.hid (asked_many (x := x) HIC.out (.inr (by rw [HMO.out]; exact HAL.out hlong)))
                   clear HAL HNX hlong hall
                   go_wp2
                   go_ret
                   exact ⟨ret_int (by rw [← HRC.out, HF.out]), HB2.out⟩
                 · have hd2 : decide ((fs.length : Int) > 3) = false := decide_eq_false hlong
                   have HNX2 := Lib.hid (HNX.out (by omega))
                   clear HAL HNX hlong hall
                   go_wp2
                   go_round
                   case rel => exact ⟨k + 1, by go_num, hlt, by rw [HMO.out]; exact HNX2⟩
                   case measure => simp [intOf]; omega)
          · have hkB : k = B.length := by omega
            subst hkB
            have hd : decide ((B.length : Int) < (B.length : Int)) = false := decide_eq_false (by omega)
            have HNO := Lib.hid (show ¬ (B.length ≠ winN seq ∨ B.any (longB (mostN seq)) = true) by
              rintro (h | h)
              · exact h HWE.out.symm
              · rw [any_short hall.out] at h; simp at h)
            have HL3 := Lib.hid (fun (j : Nat) (hj : j < B.length) => any_three (m := mostN seq) (by unfold mostN; split <;> omega) (any_short hall.out) hj)
            clear hall hlt
            go_wp2_with fail
            clear hd
            go_loopw [9, 14, 15] (fun _ K _ wr => ∃ k : Nat, K = .int .i64 k ∧ k ≤ B.length ∧ Hid (firstE (fsTo B k) = 0) ∧ Hid (Below w.heap.size w wr)) (fun _ K _ _ => B.length - (intOf K).toNat)
            case atStart => exact ⟨0, rfl, Nat.zero_le _, Lib.hid (show firstE (fsTo B 0) = 0 from rfl), HB2⟩
            case round =>
              obtain ⟨k, rfl, hk, hfe, hbw⟩ := hrel
              by_cases hlt : k < B.length
              · have hd : decide ((k : Int) < (B.length : Int)) = true := decide_eq_true (by omega)
                go_wp2_with fail
                go_loopw [9, 15] (fun _ I wq => ∃ i : Nat, I = .int .i64 i ∧ i ≤ (B.getD k default).fs.length ∧ Hid (firstE ((B.getD k default).fs.take i) = 0) ∧ Hid (Below w.heap.size w wq)) (fun _ I _ => (B.getD k default).fs.length - (intOf I).toNat)
                case atStart => exact ⟨0, rfl, Nat.zero_le _, Lib.hid (show firstE ((B.getD k default).fs.take 0) = 0 by rw [List.take_zero]; rfl), hbw⟩
                case round =>
                  obtain ⟨i, rfl, hi, hfi, hbq⟩ := hrel
                  have hbk := HBK.out.keep hbq.out
                  obtain ⟨bq, oq, rfl, _, hc⟩ := hbk.at hlt
                  have r1 := hc k hlt
                  have hfs := (hbk.2 k hlt).1
                  have hok := (hbk.2 k hlt).2
                  by_cases hli : i < (B.getD k default).fs.length
                  · obtain ⟨bf, of_, hqf, _, hcf⟩ := hfs.at hli
                    obtain ⟨z0, z1, z2, z3, z4⟩ := hcf i hli
                    have hI := hok i hli
                    have hl3 := HL3.out k hlt
                    have HFD := Lib.hid (fun h => firstE_found hlt hli hfe.out hfi.out h)
                    have HNX := Lib.hid (fun h => firstE_next hli hfi.out h)
                    have hd1 : decide ((i : Int) < ((B.getD k default).fs.length : Int)) = true := decide_eq_true (by omega)
                    have hEE : ∀ f : FV, f.E = filtE f.len f.order f.fine f.cs := fun _ => rfl
                    obtain ⟨f, hf⟩ : ∃ f, (B.getD k default).fs.getD i default = f := ⟨_, rfl⟩
                    rw [hf] at z0 z1 z2 z3 z4 hI HFD HNX
                    rw [hEE] at HFD HNX
                    obtain ⟨L, hL⟩ : ∃ L, (B.getD k default).fs.length = L := ⟨_, rfl⟩
                    rw [hL] at r1 hd1 hi hli hl3 ⊢
                    rw [hqf] at r1
                    have HLL := Lib.hid hL
                    obtain ⟨len, order, down, fine, cs, p, c⟩ := f
                    dsimp only at z0 z1 z2 z3 z4 hI HFD HNX
                    have HCK := Lib.hid (ref_check len order down fine cs p c hI.2 wr hI.1)
                    obtain ⟨E, hE⟩ : ∃ E, filtE len order fine cs = E := ⟨_, rfl⟩
                    rw [hE] at HCK HFD HNX
                    clear hc hcf hfs hok hbk hf hI hE hL hfi hfe hEE
                    go_wp2_with fail
                    refine HCK.out.mono ?_
                    rintro e w3 ⟨rfl, hB3⟩
                    have HB3 := Lib.hid (hbq.out.trans (hB3.mono hbq.out.size))
                    clear hB3 HCK hbq z0 z1 z2 z3 z4 r1
                    by_cases hE0 : E = 0
                    · subst hE0
                      have HN2 := Lib.hid (HNX.out rfl)
                      clear HNX HFD
                      go_wp2_with fail
                      exact ⟨⟨i + 1, by go_num, by omega, HN2, HB3⟩, by simp [intOf]; omega⟩
                    · have e1 : (E != 0) = true := by simp [hE0]
                      have HF := Lib.hid (HFD.out hE0)
                      have HF2 := Lib.hid (asked_first (x := x) HIC.out HNO.out (by rw [HF.out]; exact hE0))
                      clear HNX HFD hE0
                      go_wp2
                      go_ret
                      exact ⟨ret_int (by rw [← HRC.out, HF2.out, HF.out]), HB3.out⟩
                  · have hiL : i = (B.getD k default).fs.length := by omega
                    subst hiL
                    have HR2 := Lib.hid (firstE_row hfe.out hfi.out)
                    have hd1 : decide ((((B.getD k default).fs.length : Nat) : Int) < ((B.getD k default).fs.length : Int)) = false := by simp
                    have hself : ¬ (B.getD k default).fs.length < (B.getD k default).fs.length := Nat.lt_irrefl _
                    clear hc hfs hok hbk hfi hfe
                    generalize (B.getD k default).fs.length = L at *
                    go_wp2_with fail
                    exact ⟨⟨k + 1, by go_num, by omega, HR2, hbq⟩, by simp [intOf]; omega⟩
              · have hkB : k = B.length := by omega
                subst hkB
                have hd : decide ((B.length : Int) < (B.length : Int)) = false := decide_eq_false (by omega)
                clear hlt
                by_cases hx : x.length = 256
                · have e1 : ((x.length : Int) != 256) = false := by simp [hx]
                  have HXL := Lib.hid hx
                  go_wp2_with fail
                  clear e1 hd
                  have HXW := Lib.hid (HXI.out.keep hbw.out)
                  go_loop [16] (fun K => ∃ k : Nat, K = .int .i64 k ∧ k ≤ 256 ∧ Hid (∀ j, j < k → -268435455 ≤ x.getD j 0 ∧ x.getD j 0 ≤ 268435455)) (fun K => 256 - (intOf K).toNat)
                  case atStart => exact ⟨0, rfl, Nat.zero_le _, fun j hj => by omega⟩
                  case round =>
                    obtain ⟨k, rfl, hk, hall⟩ := hrel
                    by_cases hlt : k < 256
                    · have hd : decide ((k : Int) < 256) = true := decide_eq_true (by omega)
                      obtain ⟨bx, ox, rfl, _, hc⟩ := HXW.out.at (j := k) (by rw [HXL.out]; exact hlt)
                      have r1 := hc k (by rw [HXL.out]; exact hlt)
                      have hki : (k : Int) < (x.length : Int) := by rw [HXL.out]; omega
                      have HOD := Lib.hid (fun h => asked_odd HIC.out HNO.out hfe.out HXL.out hlt h)
                      have HNX := Lib.hid (fun (h : -268435455 ≤ x.getD k 0 ∧ x.getD k 0 ≤ 268435455) => show ∀ j, j < k + 1 → -268435455 ≤ x.getD j 0 ∧ x.getD j 0 ≤ 268435455 by
                        intro j hj
                        by_cases e : j = k
                        · rw [e]; exact h
                        · exact hall.out j (by omega))
                      obtain ⟨v, hv⟩ : ∃ v, x.getD k 0 = v := ⟨_, rfl⟩
                      rw [hv] at r1 HOD HNX
                      clear hc hv hall
                      by_cases c1 : v < -268435455
                      · have d1 : decide (v < -268435455) = true := decide_eq_true c1
                        have HF := Lib.hid (HOD.out (.inl c1))
                        clear c1 HOD HNX
                        go_wp2
                        go_ret
                        exact ⟨ret_int (by rw [← HRC.out, HF.out]), hbw.out⟩
                      have d1 : decide (v < -268435455) = false := decide_eq_false c1
                      by_cases c2 : 268435455 < v
                      · have d2 : decide (v > 268435455) = true := decide_eq_true c2
                        have HF := Lib.hid (HOD.out (.inr c2))
                        clear c1 c2 HOD HNX
                        go_wp2
                        go_ret
                        exact ⟨ret_int (by rw [← HRC.out, HF.out]), hbw.out⟩
                      have d2 : decide (v > 268435455) = false := decide_eq_false c2
                      have HN2 := Lib.hid (HNX.out (by omega))
                      clear c1 c2 HOD HNX
                      go_wp2
                      go_round
                      case rel => exact ⟨k + 1, by go_num, hlt, HN2⟩
                      case measure => simp [intOf]; omega
                    · have hk256 : k = 256 := by omega
                      subst hk256
                      have hd : decide (((256 : Nat) : Int) < 256) = false := by simp
                      have HF := Lib.hid (asked_fine HIC.out HNO.out hfe.out HXL.out hall.out)
                      clear hall
                      go_wp2
                      go_ret
                      exact ⟨ret_int (by rw [← HRC.out, HF.out]), hbw.out⟩
                · have e1 : ((x.length : Int) != 256) = true := by simp; omega
                  have HF := Lib.hid (asked_len (x := x) HIC.out HNO.out hfe.out hx)
                  clear hx
                  go_wp2
                  go_ret
                  exact ⟨ret_int (by rw [← HRC.out, HF.out]), hbw.out⟩
    · have e1 : ((B.length : Int) != (wn : Int)) = true := by simp; omega
      have HF := Lib.hid (asked_many (x := x) HIC.out (.inl (by rw [HWE.out]; exact hbl)))
      clear hbl
      rcases hmost with ⟨hs, rfl⟩ | ⟨hs, rfl⟩
      all_goals
        go_wp2
        go_ret
        exact ⟨ret_int (by rw [← HRC.out, HF.out]), HB2.out⟩
  · have e1 : (ic != 0) = true := by simp [hic0]
    have HNE := Lib.hid hic0
    clear hic0 HN
    go_wp2
    go_ret
    exact ⟨ret_int (by rw [← HRC.out, asked_info (by rw [HIC.out]; exact HNE.out), HIC.out]), HB1.out⟩
end Go.Proofs.Yteijlbblmdclaaa
