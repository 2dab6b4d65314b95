/- tns.ready: what a call answers. -/
import Derived.Test.YteijlbblmdclaaaTnsConcat
import Derived.Test.YteijlbblmdclaaaTnsLens
import Derived.Test.YteijlbblmdclaaaMinWalk
import Derived.Test.YteijlbblmdclaaaInfoChk
import Derived.Laws.EntriesVeiled
import Derived.Deep.CutRange
import Derived.Deep.RegionHeld3
set_option linter.unusedVariables false
set_option linter.unusedSimpArgs false
namespace Go.Proofs.Yteijlbblmdclaaa
open Go.ChangeShapes Go.WideShapes Go.ChangeAt Go.RowKit

def FV.E (f : FV) : Int := filtE f.len f.order f.fine f.cs
/-- The first error of filters. -/
def firstE : List FV → Int
  | [] => 0
  | f :: l => if f.E = 0 then firstE l else f.E
theorem firstE_app : ∀ (a b : List FV), firstE a = 0 → firstE (a ++ b) = firstE b
  | [], b, _ => rfl
  | f :: a, b, h => by
    unfold firstE at h
    by_cases hf : f.E = 0
    · rw [if_pos hf] at h
      show (if f.E = 0 then firstE (a ++ b) else f.E) = _
      rw [if_pos hf, firstE_app a b h]
    · rw [if_neg hf] at h; exact absurd h hf
theorem firstE_take {L : List FV} {k : Nat} (hk : k < L.length) (h : firstE (L.take k) = 0) (hf : (L.getD k default).E ≠ 0) : firstE L = (L.getD k default).E := by
  have hL : L = L.take k ++ L.drop k := (List.take_append_drop k L).symm
  have hd : L.drop k = L.getD k default :: L.drop (k + 1) := by rw [List.drop_eq_getElem_cons hk]; simp [List.getD_eq_getElem?_getD, hk]
  have h2 : firstE (L.take k ++ L.drop k) = firstE (L.drop k) := firstE_app _ _ h
  rw [← hL, hd] at h2
  rw [h2]
  show (if (L.getD k default).E = 0 then _ else _) = _
  rw [if_neg hf]
theorem firstE_next {L : List FV} {k : Nat} (hk : k < L.length) (h : firstE (L.take k) = 0) (hf : (L.getD k default).E = 0) : firstE (L.take (k + 1)) = 0 := by
  rw [List.take_succ_eq_append_getElem hk, firstE_app _ _ h]
  have : L[k] = L.getD k default := by simp [List.getD_eq_getElem?_getD, hk]
  rw [this]
  show (if (L.getD k default).E = 0 then firstE [] else _) = 0
  rw [if_pos hf]; rfl
def mostN (seq : Int) : Int := if seq = 2 then 1 else 3
def readyE (rate seq shape max : Int) (G : List Int) (B : List BV) (x : List Int) : Int :=
  if infoE rate seq shape max G ≠ 0 then infoE rate seq shape max G
  else if B.length ≠ winN seq ∨ B.any (longB (mostN seq)) = true then 4
  else if firstE (fsTo B B.length) ≠ 0 then firstE (fsTo B B.length)
  else if x.length ≠ 256 then 4
  else if minTo x x.length < -268435455 ∨ 268435455 < maxTo x x.length then 2 else 0
theorem fsTo_ok {W : World} {q : Option Addr} {B : List BV} (h : IsBank W q B) {j : Nat} (hj : j < (fsTo B B.length).length) : IsInts W ((fsTo B B.length).getD j default).p ((fsTo B B.length).getD j default).cs ∧ ((fsTo B B.length).getD j default).cs.length ≤ 9223372036854775807 := by
  have hm : (fsTo B B.length).getD j default ∈ fsTo B B.length := by rw [List.getD_eq_getElem?_getD, List.getElem?_eq_getElem hj]; exact List.getElem_mem hj
  unfold fsTo at hm
  obtain ⟨w, hw, hf⟩ := List.mem_flatMap.1 hm
  obtain ⟨i, hi, he⟩ := List.getElem_of_mem hf
  have hfo := (h.2 w (List.mem_range.1 hw)).2 i hi
  rw [List.getD_eq_getElem?_getD, List.getElem?_eq_getElem hi] at hfo
  simp only [Option.getD_some, he] at hfo
  exact hfo
theorem any_three {B : List BV} {m : Int} (hm : m ≤ 3) (h : B.any (longB m) = false) {j : Nat} (hj : j < B.length) : (B.getD j default).fs.length ≤ 3 := by
  rw [List.any_eq_false] at h
  have := h (B.getD j default) (by rw [List.getD_eq_getElem?_getD, List.getElem?_eq_getElem hj]; exact List.getElem_mem hj)
  unfold longB at this
  simp at this
  rw [List.getD_eq_getElem?_getD]
  omega
theorem may_some {rate seq shape max : Int} {G : List Int} (h0 : 0 ≤ rate) (h1 : rate ≤ 11) (h : mayB rate seq shape max G = true) : mayB 11 seq shape max G = true := by
  have hb := (band_rates rate 11 (seq == 2) h0 h1 (by decide)).1
  unfold mayB at h ⊢
  simp at h ⊢
  obtain ⟨a, b, c, d, e⟩ := h
  exact ⟨a, b, c, by omega, e⟩
theorem infoE_zero {rate seq shape max : Int} {G : List Int} (h : infoE rate seq shape max G = 0) : 0 ≤ rate ∧ rate ≤ 11 ∧ mayB rate seq shape max G = true := by
  unfold infoE at h
  split at h
  · simp at h
  · split at h
    · rename_i h1 h2
      exact ⟨by omega, by omega, h2⟩
    · simp at h
set_option maxRecDepth 100000 in
set_option maxHeartbeats 8000000 in
theorem ready_two (rate seq shape max : Int) (hs : seq = 2) (G : List Int) (pg q px : Option Addr) (cg cB cx : Nat) (B : List BV) (x : List Int) (w : World)
    (hG : IsInts w pg G) (hGl : G.length ≤ 100) (hB : IsBank w q B) (hnil : ∀ j, j < B.length → (B.getD j default).q = none → (B.getD j default).fs = [] ∧ (B.getD j default).c = 0) (hX : IsInts w px x) (hxl : x.length ≤ 1000) (hBl : B.length ≤ 9223372036854775807) :
    Calls Try.prog 34 #[.int .i64 rate, .agg (infoC seq shape max pg G.length cg), .slice q B.length cB, .slice px x.length cx] w (RE (readyE rate seq shape max G B x) w) := by
  have hb0 : Below w.heap.size w (w.alloc (.cells (infoC seq shape max pg G.length cg) 33)) := (Below.refl _ w).alloc (Nat.le_refl _) _
  have X0 := Lib.hid (CellsAt.new w 33 (infoC seq shape max pg G.length cg) rfl)
  have HC := Lib.hid (fun (W : World) (h : Below w.heap.size w W) => info_check rate seq shape max G pg cg W (hG.keep h) hGl)
  have HW := Lib.hid (fun (W : World) (h : Below w.heap.size w W) => info_windows seq shape max G pg cg W (hG.keep h) hGl)
  have HBK := Lib.hid hB
  have HNIL := Lib.hid hnil
  have HX := Lib.hid hX
  have hwin : winN seq = 8 := by rw [hs]; rfl
  have hmost : mostN seq = 1 := by rw [hs]; rfl
  obtain ⟨rc, hrc⟩ : ∃ r, readyE rate seq shape max G B x = r := ⟨_, rfl⟩
  have HRC := Lib.hid hrc
  rw [hrc]
  unfold readyE at hrc
  unfold RE at HC ⊢
  obtain ⟨ic, hic⟩ : ∃ c, infoE rate seq shape max G = c := ⟨_, rfl⟩
  rw [hic] at HC hrc
  rw [hwin, hmost] at hrc
  rw [hwin] at HW
  have HHR := Lib.hid hrc
  have HHI := Lib.hid hic
  clear hG hB hnil hX hrc hic hmost hwin
  subst hs
  go_enter Try.func34, Try.ntmps34
  go_wp2_with fail
  refine (HC.out _ hb0).mono ?_
  rintro e w1 ⟨rfl, hB1⟩
  have hb1 := hb0.trans (hB1.mono hb0.size)
  have X1 := Lib.hid (X0.out.keep hB1 X0.out.lt)
  clear hB1 hb0 X0 HC
  by_cases hic0 : ic = 0
  · subst hic0
    obtain ⟨hr0, hr1, hmay⟩ := infoE_zero HHI.out
    have hm11 := may_some hr0 hr1 hmay
    rw [hm11] at HW
    simp only [if_true] at HW
    have kx0 := X1.out.cell 0
    simp only [List.getElem?_toArray, List.getElem?_cons_zero] at kx0
    have R1 := Lib.hid HHR.out
    have hl1 := X1.out.lt
    have hl2 : w.heap.size ≠ w1.heap.size := Nat.ne_of_lt hl1
    clear hmay hm11
    go_upto_region 7 with fail
    have X2 := Lib.hid ((X1.out.alloc (.cells #[.int .i64 1] 3)))
    have hb2 : Below w.heap.size w (w1.alloc (.cells #[.int .i64 1] 3)) := hb1.alloc hb1.size _
    have h10 : (w1.alloc (.cells #[.int .i64 1] 3)).cell? ⟨w1.heap.size, 0, none⟩ = some (.int .i64 1) := by exact ((CellsAt.new w1 3 #[.int .i64 1] rfl).cell 0).trans rfl
    obtain ⟨w2, hw2⟩ : ∃ W, (w1.alloc (.cells #[.int .i64 1] 3)) = W := ⟨_, rfl⟩
    rw [hw2] at X2 hb2 h10 ⊢
    have hl10 := block_lt h10
    have y0 := X2.out.cell 0
    have y1 := X2.out.cell 1
    have y2 := X2.out.cell 2
    have y3 := X2.out.cell 3
    simp only [List.getElem?_toArray, List.getElem?_cons_zero, List.getElem?_cons_succ] at y0 y1 y2 y3
    clear hw2 X1 hb1 kx0
    go_wp2_with fail
    refine (HW.out _ hb2).mono ?_
    rintro e w3 ⟨rfl, hB3⟩
    have hb3 := hb2.trans (hB3.mono hb2.size)
    have h10 := (hB3.cell (p := ⟨w1.heap.size, 0, none⟩) hl10).trans h10
    clear hB3 hb2 X2 HW hl10 y0 y1 y2 y3 hl1 hl2
    by_cases hlen : B.length = 8
    · have e1 : ((B.length : Int) != 8) = false := by simp [hlen]
      have HCL := Lib.hid (contains_long B q cB 1 ⟨w1.heap.size, 0, none⟩ w3 (HBK.out.keep hb3) (by omega) h10)
      have HLEN := Lib.hid hlen
      have hbl8 : B.length ≤ 8 := by omega
      clear hlen h10
      go_wp2_with fail
      refine HCL.out.mono ?_
      rintro e w3' ⟨rfl, hw⟩
      obtain rfl := hw
      clear HCL
      cases hany : B.any (longB 1)
      · have H3 := Lib.hid (fun j (hj : j < B.length) => any_three (show (1 : Int) ≤ 3 by decide) hany hj)
        have HAN := Lib.hid hany
        clear hany
        have HCO := Lib.hid (tns_concat q cB B w3 (HBK.out.keep hb3) hbl8 H3.out HNIL.out)
        go_wp2_with fail
        refine HCO.out.mono ?_
        rintro e w4 ⟨p4, c4, rfl, hI4, hB4⟩
        have hb4 := hb3.trans (hB4.mono hb3.size)
        have HBB := Lib.hid hb4
        have HFO := Lib.hid (fun (W : World) (h : Below w.heap.size w W) j hj => fsTo_ok (HBK.out.keep h) (j := j) hj)
        obtain ⟨L, hL⟩ : ∃ L, fsTo B B.length = L := ⟨_, rfl⟩
        have hL24 : L.length ≤ 24 := by rw [← hL]; have := fsTo_le B B.length H3.out; omega
        rw [hL] at hI4 HFO ⊢
        have HLL := Lib.hid hL
        have HI4 := Lib.hid hI4
        have hz4 := hb4.size
        clear hI4 hB4 hb3 HCO hL
        go_wp2_with fail
        go_loopw [42] (fun K wr => ∃ k : Nat, K = .int .i64 k ∧ k ≤ L.length ∧ Hid (firstE (L.take k) = 0) ∧ Below w4.heap.size w4 wr) (fun K _ => L.length - (intOf K).toNat)
        case atStart => exact ⟨0, rfl, Nat.zero_le _, Lib.hid rfl, Below.refl _ _⟩
        case round =>
          obtain ⟨k, rfl, hk, hfe, hbr⟩ := hrel
          have hbw := HBB.out.trans (hbr.mono hz4)
          by_cases hlt : k < L.length
          · have hd : decide ((k : Int) < (L.length : Int)) = true := decide_eq_true (by omega)
            obtain ⟨bf, of_, rfl, hbf, hcell⟩ := HI4.out.at hlt
            obtain ⟨z0, z1, z2, z3, z4⟩ := hcell k hlt
            have z0 := (hbr.cell (p := ⟨bf, _, none⟩) hbf).trans z0
            have z1 := (hbr.cell (p := ⟨bf, _, none⟩) hbf).trans z1
            have z2 := (hbr.cell (p := ⟨bf, _, none⟩) hbf).trans z2
            have z3 := (hbr.cell (p := ⟨bf, _, none⟩) hbf).trans z3
            have z4 := (hbr.cell (p := ⟨bf, _, none⟩) hbf).trans z4
            have hft := @firstE_take L k hlt hfe.out
            have hfn := @firstE_next L k hlt hfe.out
            obtain ⟨hfi, hfl⟩ := HFO.out wr hbw k hlt
            generalize L.getD k default = fv at z0 z1 z2 z3 z4 hft hfn hfi hfl
            obtain ⟨flen, ford, fdown, ffine, fcs, fp, fc⟩ := fv
            dsimp only at z0 z1 z2 z3 z4 hft hfn hfi hfl
            have HCK := Lib.hid (fun (W : World) (h : Below wr.heap.size wr W) => tns_check flen ford fdown ffine fcs fp fc hfl W (hfi.keep h))
            have hEe : FV.E ⟨flen, ford, fdown, ffine, fcs, fp, fc⟩ = filtE flen ford ffine fcs := rfl
            rw [hEe] at hft hfn
            generalize filtE flen ford ffine fcs = ec at HCK hft hfn
            have HFT := Lib.hid hft
            have HFN := Lib.hid hfn
            have hbn : Below wr.heap.size wr (wr.alloc (.cells #[.int .i64 flen, .int .i64 ford, .bool fdown, .bool ffine, .slice fp fcs.length fc] 24)) := (Below.refl _ wr).alloc (Nat.le_refl _) _
            have HBN := Lib.hid hbn
            clear hcell hft hfn hfi hEe hbn
            go_wp2_with fail
            refine (HCK.out _ HBN.out).mono ?_
            rintro e w5 ⟨rfl, hB5⟩
            have hb5 := hbr.trans ((HBN.out.trans (hB5.mono HBN.out.size)).mono hbr.size)
            have hb5w := HBB.out.trans (hb5.mono hz4)
            clear hB5 HCK z0 z1 z2 z3 z4
            by_cases hec : ec = 0
            · subst hec
              have HFN0 := Lib.hid (HFN.out rfl)
              clear HFN HFT
              go_wp2
              go_round
              case rel => exact ⟨k + 1, by go_num, hlt, HFN0, hb5⟩
              case measure => simp [intOf]; omega
            · have e2 : (ec != 0) = true := by simpa using hec
              have HEC := Lib.hid hec
              clear hec
              go_wp2
              go_ret
              exact ⟨ret_int (by
                have h1 := HFT.out HEC.out
                rw [← R1.out, if_neg (by simp), if_neg (by rw [HLEN.out, HAN.out]; simp), HLL.out, h1, if_pos HEC.out]), hb5w⟩
          · have hkM : k = L.length := by omega
            subst hkM
            have hd : decide ((L.length : Int) < (L.length : Int)) = false := decide_eq_false (by omega)
            clear hlt hk
            have hfe0 : firstE L = 0 := by have := hfe.out; rwa [List.take_length] at this
            have HF0 := Lib.hid hfe0
            clear hfe hfe0 HFO HI4
            by_cases hx2 : x.length = 256
            · have e3 : ((x.length : Int) != 256) = false := by simp [hx2]
              have HXX := HX.out.keep hbw
              have HMI := Lib.hid (min_walk px x cx wr HXX (by omega) (by omega))
              have HMA := Lib.hid (max_walk px x cx wr HXX (by omega) (by omega))
              have HX2 := Lib.hid hx2
              clear HXX hx2
              go_wp2_with fail
              refine HMI.out.mono ?_
              rintro e w6 ⟨rfl, hw6⟩
              subst hw6
              clear HMI
              obtain ⟨mi, hmi⟩ : ∃ m, minTo x x.length = m := ⟨_, rfl⟩
              obtain ⟨ma, hma⟩ : ∃ m, maxTo x x.length = m := ⟨_, rfl⟩
              have HMIN := Lib.hid hmi
              have HMAX := Lib.hid hma
              rw [hma] at HMA
              rw [hmi]
              clear hmi hma
              by_cases hlo : mi < -268435455
              · have e4 : decide (mi < -268435455) = true := decide_eq_true hlo
                have HLO := Lib.hid hlo
                clear hlo HMA
                go_wp2
                go_ret
                exact ⟨ret_int (by rw [← R1.out, if_neg (by simp), if_neg (by rw [HLEN.out, HAN.out]; simp), HLL.out, HF0.out, if_neg (by simp), if_neg (by rw [HX2.out]; simp), HMIN.out, if_pos (.inl HLO.out)]), hbw⟩
              · have e4 : decide (mi < -268435455) = false := decide_eq_false hlo
                have HLO := Lib.hid hlo
                clear hlo
                go_wp2_with fail
                refine HMA.out.mono ?_
                rintro e w7 ⟨rfl, hw7⟩
                subst hw7
                clear HMA
                by_cases hhi : 268435455 < ma
                · have e5 : decide (ma > 268435455) = true := decide_eq_true hhi
                  have HHI2 := Lib.hid hhi
                  clear hhi
                  go_wp2
                  go_ret
                  exact ⟨ret_int (by rw [← R1.out, if_neg (by simp), if_neg (by rw [HLEN.out, HAN.out]; simp), HLL.out, HF0.out, if_neg (by simp), if_neg (by rw [HX2.out]; simp), HMIN.out, HMAX.out, if_pos (.inr HHI2.out)]), hbw⟩
                · have e5 : decide (ma > 268435455) = false := decide_eq_false hhi
                  have HHI2 := Lib.hid hhi
                  clear hhi
                  go_wp2
                  go_ret
                  exact ⟨ret_int (by rw [← R1.out, if_neg (by simp), if_neg (by rw [HLEN.out, HAN.out]; simp), HLL.out, HF0.out, if_neg (by simp), if_neg (by rw [HX2.out]; simp), HMIN.out, HMAX.out, if_neg (fun h => by have h1 := HLO.out; have h2 := HHI2.out; omega)]), hbw⟩
            · have e3 : ((x.length : Int) != 256) = true := by simpa using fun h : (x.length : Int) = 256 => hx2 (by omega)
              have HX2 := Lib.hid hx2
              clear hx2
              go_wp2
              go_ret
              exact ⟨ret_int (by rw [← R1.out, if_neg (by simp), if_neg (by rw [HLEN.out, HAN.out]; simp), HLL.out, HF0.out, if_neg (by simp), if_pos HX2.out]), hbw⟩
      · have HAN := Lib.hid hany
        clear hany
        go_wp2
        go_ret
        exact ⟨ret_int (by rw [← R1.out, if_neg (by simp), if_pos (.inr HAN.out)]), hb3⟩
    · have e1 : ((B.length : Int) != 8) = true := by simpa using fun h : (B.length : Int) = 8 => hlen (by omega)
      have HLEN := Lib.hid hlen
      clear hlen h10
      go_wp2
      go_ret
      exact ⟨ret_int (by rw [← R1.out, if_neg (by simp), if_pos (.inl HLEN.out)]), hb3⟩
  · have e0 : (ic != 0) = true := by simpa using hic0
    have HIC := Lib.hid hic0
    clear hic0
    go_wp2
    go_ret
    exact ⟨ret_int (by rw [← HHR.out, if_pos HIC.out]), hb1⟩
set_option maxRecDepth 100000 in
set_option maxHeartbeats 8000000 in
theorem ready_one' (rate seq shape max : Int) (hs : ¬ seq = 2) (G : List Int) (pg q px : Option Addr) (cg cB cx : Nat) (B : List BV) (x : List Int) (w : World)
    (hG : IsInts w pg G) (hGl : G.length ≤ 100) (hB : IsBank w q B) (hnil : ∀ j, j < B.length → (B.getD j default).q = none → (B.getD j default).fs = [] ∧ (B.getD j default).c = 0) (hX : IsInts w px x) (hxl : x.length ≤ 1000) (hBl : B.length ≤ 9223372036854775807) :
    Calls Try.prog 34 #[.int .i64 rate, .agg (infoC seq shape max pg G.length cg), .slice q B.length cB, .slice px x.length cx] w (RE (readyE rate seq shape max G B x) w) := by
  have hb0 : Below w.heap.size w (w.alloc (.cells (infoC seq shape max pg G.length cg) 33)) := (Below.refl _ w).alloc (Nat.le_refl _) _
  have X0 := Lib.hid (CellsAt.new w 33 (infoC seq shape max pg G.length cg) rfl)
  have HC := Lib.hid (fun (W : World) (h : Below w.heap.size w W) => info_check rate seq shape max G pg cg W (hG.keep h) hGl)
  have HW := Lib.hid (fun (W : World) (h : Below w.heap.size w W) => info_windows seq shape max G pg cg W (hG.keep h) hGl)
  have HBK := Lib.hid hB
  have HNIL := Lib.hid hnil
  have HX := Lib.hid hX
  have hwin : winN seq = 1 := if_neg hs
  have hmost : mostN seq = 3 := if_neg hs
  obtain ⟨rc, hrc⟩ : ∃ r, readyE rate seq shape max G B x = r := ⟨_, rfl⟩
  have HRC := Lib.hid hrc
  rw [hrc]
  unfold readyE at hrc
  unfold RE at HC ⊢
  obtain ⟨ic, hic⟩ : ∃ c, infoE rate seq shape max G = c := ⟨_, rfl⟩
  rw [hic] at HC hrc
  rw [hwin, hmost] at hrc
  rw [hwin] at HW
  have HHR := Lib.hid hrc
  have HHI := Lib.hid hic
  clear hG hB hnil hX hrc hic hmost hwin
  have hsd : (seq == 2) = false := by simpa using hs
  clear hs
  go_enter Try.func34, Try.ntmps34
  go_wp2_with fail
  refine (HC.out _ hb0).mono ?_
  rintro e w1 ⟨rfl, hB1⟩
  have hb1 := hb0.trans (hB1.mono hb0.size)
  have X1 := Lib.hid (X0.out.keep hB1 X0.out.lt)
  clear hB1 hb0 X0 HC
  by_cases hic0 : ic = 0
  · subst hic0
    obtain ⟨hr0, hr1, hmay⟩ := infoE_zero HHI.out
    have hm11 := may_some hr0 hr1 hmay
    rw [hm11] at HW
    simp only [if_true] at HW
    have kx0 := X1.out.cell 0
    simp only [List.getElem?_toArray, List.getElem?_cons_zero] at kx0
    have R1 := Lib.hid HHR.out
    have hl1 := X1.out.lt
    have hl2 : w.heap.size ≠ w1.heap.size := Nat.ne_of_lt hl1
    clear hmay hm11
    go_upto_region 7 with fail
    have X2 := Lib.hid ((X1.out.alloc (.cells #[.int .i64 3] 3)))
    have hb2 : Below w.heap.size w (w1.alloc (.cells #[.int .i64 3] 3)) := hb1.alloc hb1.size _
    have h10 : (w1.alloc (.cells #[.int .i64 3] 3)).cell? ⟨w1.heap.size, 0, none⟩ = some (.int .i64 3) := by exact ((CellsAt.new w1 3 #[.int .i64 3] rfl).cell 0).trans rfl
    obtain ⟨w2, hw2⟩ : ∃ W, (w1.alloc (.cells #[.int .i64 3] 3)) = W := ⟨_, rfl⟩
    rw [hw2] at X2 hb2 h10 ⊢
    have hl10 := block_lt h10
    have y0 := X2.out.cell 0
    have y1 := X2.out.cell 1
    have y2 := X2.out.cell 2
    have y3 := X2.out.cell 3
    simp only [List.getElem?_toArray, List.getElem?_cons_zero, List.getElem?_cons_succ] at y0 y1 y2 y3
    clear hw2 X1 hb1 kx0
    go_wp2_with fail
    refine (HW.out _ hb2).mono ?_
    rintro e w3 ⟨rfl, hB3⟩
    have hb3 := hb2.trans (hB3.mono hb2.size)
    have h10 := (hB3.cell (p := ⟨w1.heap.size, 0, none⟩) hl10).trans h10
    clear hB3 hb2 X2 HW hl10 y0 y1 y2 y3 hl1 hl2
    by_cases hlen : B.length = 1
    · have e1 : ((B.length : Int) != 1) = false := by simp [hlen]
      have HCL := Lib.hid (contains_long B q cB 3 ⟨w1.heap.size, 0, none⟩ w3 (HBK.out.keep hb3) (by omega) h10)
      have HLEN := Lib.hid hlen
      have hbl8 : B.length ≤ 8 := by omega
      clear hlen h10
      go_wp2_with fail
      refine HCL.out.mono ?_
      rintro e w3' ⟨rfl, hw⟩
      obtain rfl := hw
      clear HCL
      cases hany : B.any (longB 3)
      · have H3 := Lib.hid (fun j (hj : j < B.length) => any_three (show (3 : Int) ≤ 3 by decide) hany hj)
        have HAN := Lib.hid hany
        clear hany
        have HCO := Lib.hid (tns_concat q cB B w3 (HBK.out.keep hb3) hbl8 H3.out HNIL.out)
        go_wp2_with fail
        refine HCO.out.mono ?_
        rintro e w4 ⟨p4, c4, rfl, hI4, hB4⟩
        have hb4 := hb3.trans (hB4.mono hb3.size)
        have HBB := Lib.hid hb4
        have HFO := Lib.hid (fun (W : World) (h : Below w.heap.size w W) j hj => fsTo_ok (HBK.out.keep h) (j := j) hj)
        obtain ⟨L, hL⟩ : ∃ L, fsTo B B.length = L := ⟨_, rfl⟩
        have hL24 : L.length ≤ 24 := by rw [← hL]; have := fsTo_le B B.length H3.out; omega
        rw [hL] at hI4 HFO ⊢
        have HLL := Lib.hid hL
        have HI4 := Lib.hid hI4
        have hz4 := hb4.size
        clear hI4 hB4 hb3 HCO hL
        go_wp2_with fail
        go_loopw [42] (fun K wr => ∃ k : Nat, K = .int .i64 k ∧ k ≤ L.length ∧ Hid (firstE (L.take k) = 0) ∧ Below w4.heap.size w4 wr) (fun K _ => L.length - (intOf K).toNat)
        case atStart => exact ⟨0, rfl, Nat.zero_le _, Lib.hid rfl, Below.refl _ _⟩
        case round =>
          obtain ⟨k, rfl, hk, hfe, hbr⟩ := hrel
          have hbw := HBB.out.trans (hbr.mono hz4)
          by_cases hlt : k < L.length
          · have hd : decide ((k : Int) < (L.length : Int)) = true := decide_eq_true (by omega)
            obtain ⟨bf, of_, rfl, hbf, hcell⟩ := HI4.out.at hlt
            obtain ⟨z0, z1, z2, z3, z4⟩ := hcell k hlt
            have z0 := (hbr.cell (p := ⟨bf, _, none⟩) hbf).trans z0
            have z1 := (hbr.cell (p := ⟨bf, _, none⟩) hbf).trans z1
            have z2 := (hbr.cell (p := ⟨bf, _, none⟩) hbf).trans z2
            have z3 := (hbr.cell (p := ⟨bf, _, none⟩) hbf).trans z3
            have z4 := (hbr.cell (p := ⟨bf, _, none⟩) hbf).trans z4
            have hft := @firstE_take L k hlt hfe.out
            have hfn := @firstE_next L k hlt hfe.out
            obtain ⟨hfi, hfl⟩ := HFO.out wr hbw k hlt
            generalize L.getD k default = fv at z0 z1 z2 z3 z4 hft hfn hfi hfl
            obtain ⟨flen, ford, fdown, ffine, fcs, fp, fc⟩ := fv
            dsimp only at z0 z1 z2 z3 z4 hft hfn hfi hfl
            have HCK := Lib.hid (fun (W : World) (h : Below wr.heap.size wr W) => tns_check flen ford fdown ffine fcs fp fc hfl W (hfi.keep h))
            have hEe : FV.E ⟨flen, ford, fdown, ffine, fcs, fp, fc⟩ = filtE flen ford ffine fcs := rfl
            rw [hEe] at hft hfn
            generalize filtE flen ford ffine fcs = ec at HCK hft hfn
            have HFT := Lib.hid hft
            have HFN := Lib.hid hfn
            have hbn : Below wr.heap.size wr (wr.alloc (.cells #[.int .i64 flen, .int .i64 ford, .bool fdown, .bool ffine, .slice fp fcs.length fc] 24)) := (Below.refl _ wr).alloc (Nat.le_refl _) _
            have HBN := Lib.hid hbn
            clear hcell hft hfn hfi hEe hbn
            go_wp2_with fail
            refine (HCK.out _ HBN.out).mono ?_
            rintro e w5 ⟨rfl, hB5⟩
            have hb5 := hbr.trans ((HBN.out.trans (hB5.mono HBN.out.size)).mono hbr.size)
            have hb5w := HBB.out.trans (hb5.mono hz4)
            clear hB5 HCK z0 z1 z2 z3 z4
            by_cases hec : ec = 0
            · subst hec
              have HFN0 := Lib.hid (HFN.out rfl)
              clear HFN HFT
              go_wp2
              go_round
              case rel => exact ⟨k + 1, by go_num, hlt, HFN0, hb5⟩
              case measure => simp [intOf]; omega
            · have e2 : (ec != 0) = true := by simpa using hec
              have HEC := Lib.hid hec
              clear hec
              go_wp2
              go_ret
              exact ⟨ret_int (by
                have h1 := HFT.out HEC.out
                rw [← R1.out, if_neg (by simp), if_neg (by rw [HLEN.out, HAN.out]; simp), HLL.out, h1, if_pos HEC.out]), hb5w⟩
          · have hkM : k = L.length := by omega
            subst hkM
            have hd : decide ((L.length : Int) < (L.length : Int)) = false := decide_eq_false (by omega)
            clear hlt hk
            have hfe0 : firstE L = 0 := by have := hfe.out; rwa [List.take_length] at this
            have HF0 := Lib.hid hfe0
            clear hfe hfe0 HFO HI4
            by_cases hx2 : x.length = 256
            · have e3 : ((x.length : Int) != 256) = false := by simp [hx2]
              have HXX := HX.out.keep hbw
              have HMI := Lib.hid (min_walk px x cx wr HXX (by omega) (by omega))
              have HMA := Lib.hid (max_walk px x cx wr HXX (by omega) (by omega))
              have HX2 := Lib.hid hx2
              clear HXX hx2
              go_wp2_with fail
              refine HMI.out.mono ?_
              rintro e w6 ⟨rfl, hw6⟩
              subst hw6
              clear HMI
              obtain ⟨mi, hmi⟩ : ∃ m, minTo x x.length = m := ⟨_, rfl⟩
              obtain ⟨ma, hma⟩ : ∃ m, maxTo x x.length = m := ⟨_, rfl⟩
              have HMIN := Lib.hid hmi
              have HMAX := Lib.hid hma
              rw [hma] at HMA
              rw [hmi]
              clear hmi hma
              by_cases hlo : mi < -268435455
              · have e4 : decide (mi < -268435455) = true := decide_eq_true hlo
                have HLO := Lib.hid hlo
                clear hlo HMA
                go_wp2
                go_ret
                exact ⟨ret_int (by rw [← R1.out, if_neg (by simp), if_neg (by rw [HLEN.out, HAN.out]; simp), HLL.out, HF0.out, if_neg (by simp), if_neg (by rw [HX2.out]; simp), HMIN.out, if_pos (.inl HLO.out)]), hbw⟩
              · have e4 : decide (mi < -268435455) = false := decide_eq_false hlo
                have HLO := Lib.hid hlo
                clear hlo
                go_wp2_with fail
                refine HMA.out.mono ?_
                rintro e w7 ⟨rfl, hw7⟩
                subst hw7
                clear HMA
                by_cases hhi : 268435455 < ma
                · have e5 : decide (ma > 268435455) = true := decide_eq_true hhi
                  have HHI2 := Lib.hid hhi
                  clear hhi
                  go_wp2
                  go_ret
                  exact ⟨ret_int (by rw [← R1.out, if_neg (by simp), if_neg (by rw [HLEN.out, HAN.out]; simp), HLL.out, HF0.out, if_neg (by simp), if_neg (by rw [HX2.out]; simp), HMIN.out, HMAX.out, if_pos (.inr HHI2.out)]), hbw⟩
                · have e5 : decide (ma > 268435455) = false := decide_eq_false hhi
                  have HHI2 := Lib.hid hhi
                  clear hhi
                  go_wp2
                  go_ret
                  exact ⟨ret_int (by rw [← R1.out, if_neg (by simp), if_neg (by rw [HLEN.out, HAN.out]; simp), HLL.out, HF0.out, if_neg (by simp), if_neg (by rw [HX2.out]; simp), HMIN.out, HMAX.out, if_neg (fun h => by have h1 := HLO.out; have h2 := HHI2.out; omega)]), hbw⟩
            · have e3 : ((x.length : Int) != 256) = true := by simpa using fun h : (x.length : Int) = 256 => hx2 (by omega)
              have HX2 := Lib.hid hx2
              clear hx2
              go_wp2
              go_ret
              exact ⟨ret_int (by rw [← R1.out, if_neg (by simp), if_neg (by rw [HLEN.out, HAN.out]; simp), HLL.out, HF0.out, if_neg (by simp), if_pos HX2.out]), hbw⟩
      · have HAN := Lib.hid hany
        clear hany
        go_wp2
        go_ret
        exact ⟨ret_int (by rw [← R1.out, if_neg (by simp), if_pos (.inr HAN.out)]), hb3⟩
    · have e1 : ((B.length : Int) != 1) = true := by simpa using fun h : (B.length : Int) = 1 => hlen (by omega)
      have HLEN := Lib.hid hlen
      clear hlen h10
      go_wp2
      go_ret
      exact ⟨ret_int (by rw [← R1.out, if_neg (by simp), if_pos (.inl HLEN.out)]), hb3⟩
  · have e0 : (ic != 0) = true := by simpa using hic0
    have HIC := Lib.hid hic0
    clear hic0
    go_wp2
    go_ret
    exact ⟨ret_int (by rw [← HHR.out, if_pos HIC.out]), hb1⟩
theorem tns_ready (rate seq shape max : Int) (G : List Int) (pg q px : Option Addr) (cg cB cx : Nat) (B : List BV) (x : List Int) (w : World)
    (hG : IsInts w pg G) (hGl : G.length ≤ 100) (hB : IsBank w q B) (hnil : ∀ j, j < B.length → (B.getD j default).q = none → (B.getD j default).fs = [] ∧ (B.getD j default).c = 0) (hX : IsInts w px x) (hxl : x.length ≤ 1000) (hBl : B.length ≤ 9223372036854775807) :
    Calls Try.prog 34 #[.int .i64 rate, .agg (infoC seq shape max pg G.length cg), .slice q B.length cB, .slice px x.length cx] w (RE (readyE rate seq shape max G B x) w) := by
  by_cases hs : seq = 2
  · exact ready_two rate seq shape max hs G pg q px cg cB cx B x w hG hGl hB hnil hX hxl hBl
  · exact ready_one' rate seq shape max hs G pg q px cg cB cx B x w hG hGl hB hnil hX hxl hBl
end Go.Proofs.Yteijlbblmdclaaa
