/- reedpiperef15.All: what a call answers. -/
import Derived.Test.YteijlbblmdclaaaTnsRefLP
import Derived.Test.YteijlbblmdclaaaTnsRefF
import Derived.Test.YteijlbblmdclaaaRefMany
import Derived.Deep.CutRange
set_option linter.unusedVariables false
set_option linter.unusedSimpArgs false
namespace Go.Proofs.Yteijlbblmdclaaa
open Go.ChangeShapes Go.WideShapes Go.ChangeAt Go.RowKit
def RFl (Y : List Int) (w : World) (e : Ending) (w' : World) : Prop := ∃ p d, e = .returned (.slice p 256 d) ∧ IsInts w' p Y ∧ Below w.heap.size w w'
set_option maxRecDepth 100000 in
set_option maxHeartbeats 8000000 in
theorem ref_all (sg : Int) (back : Bool) (rate seq shape max : Int) (h0 : 0 ≤ rate) (h1 : rate ≤ 11) (pg q px : Option Addr) (ng cg cB cx lines mx : Nat) (B : List BV) (x : List Int) (w : World)
    (HF : Hid (∀ (a P : List Int) (pa pp : Option Addr) (ca cp : Nat), P.length ≤ 256 → (∀ j, -268435455 ≤ P.getD j 0 ∧ P.getD j 0 ≤ 268435455) → absF a a.length ≤ 4293918720 → a.length ≤ 12 → ∀ W : World, IsInts W pa a → IsInts W pp P →
      Calls Try.prog 44 #[.slice pp P.length cp, .slice pa a.length ca, .bool back] W (RFilt sg a P W)))
    (hB : IsBank w q B) (hBl : B.length ≤ 8) (hX : IsArg w px cx x) (hx : x.length = 256) (bx : ∀ j, -268435455 ≤ x.getD j 0 ∧ x.getD j 0 ≤ 268435455) (hmx : max = (mx : Int))
    (hoff : OffsOk (bandL rate (seq == 2)) mx lines) (hol : (bandL rate (seq == 2)).length ≤ 41) (hw : ∀ j, j < B.length → 32 * j + lines ≤ 256)
    (hfs : ∀ j, j < B.length → (B.getD j default).fs.length ≤ 3 ∧ ∀ i, i < (B.getD j default).fs.length → filtE ((B.getD j default).fs.getD i default).len ((B.getD j default).fs.getD i default).order ((B.getD j default).fs.getD i default).fine ((B.getD j default).fs.getD i default).cs = 0) :
    Calls Try.prog 27 #[.int .i64 rate, .agg (infoC seq shape max pg ng cg), .slice q B.length cB, .slice px x.length cx, .bool back] w (RFl (allL sg (bandL rate (seq == 2)) mx B x) w) := by
  subst hmx
  have HBK := Lib.hid hB
  have HXL := Lib.hid hx
  have HBX := Lib.hid bx
  have HOF := Lib.hid hoff
  have HW := Lib.hid hw
  have HFS := Lib.hid hfs
  obtain ⟨W0, hW0⟩ : ∃ W0, w.alloc (.cells (infoC seq shape mx pg ng cg) 33) = W0 := ⟨_, rfl⟩
  have hb0 : Below w.heap.size w W0 := by rw [← hW0]; exact (Below.refl _ w).alloc (Nat.le_refl _) _
  have X0 := Lib.hid (show CellsAt W0 w.heap.size 33 (infoC seq shape mx pg ng cg) by rw [← hW0]; exact CellsAt.new w _ _ rfl)
  have HOFF := Lib.hid (fun W => refoff_row rate (seq == 2) h0 h1 W)
  have HXA := Lib.hid (hX.keep hb0)
  have HWE := Lib.hid hW0
  obtain ⟨offs, hofs⟩ : ∃ l, bandL rate (seq == 2) = l := ⟨_, rfl⟩
  rw [hofs] at HOFF HOF hol ⊢
  unfold RFl allL
  have hmxl : maxLen = 9223372036854775807 := rfl
  have HZ0 := Lib.hid (show W0.heap.size = w.heap.size + 1 by rw [← hW0]; simp)
  clear hB hX hx bx hoff hw hfs hofs hW0
  go_enter Try.func27, Try.ntmps27
  go_wp2_with (at_builtin; rw [HWE.out]; refine append_ints rfl _ _ rfl W0.heap.size _ 0 [] rfl (World.ownsRow_nil _ _ _ _) px cx x rfl HXA.out ?b1 ?b2 ?b3 ?_)
  case b1 => rw [HXL.out]; omega
  case b2 => rw [HXL.out]; omega
  case b3 => exact Nat.le_refl _
  intro v2 w2 hown2 hg2
  have hB2 : Below W0.heap.size W0 w2 := (Below.refl _ W0).grown hg2 (Nat.le_refl _) (fun k hk => by simp [Value.ownBlock] at hk)
  have hO2 : w2.ownsRow W0.heap.size 3 1 v2 x.length (x.map (Value.int .i64)) := by simpa using hown2
  obtain ⟨go, co, rfl, hgo, hgo2⟩ := owns_shape hO2 (by rw [HXL.out]; decide)
  have hb2 := hb0.trans (hB2.mono hb0.size)
  have X2 := Lib.hid (X0.out.keep hB2 X0.out.lt)
  have hco : 256 ≤ co := by
    rcases hO2.2 with ⟨h', _⟩ | ⟨g', cap, cur, e', _, _, h2, _⟩
    · simp at h'
    · have e3 : go = g' ∧ co = cap := by simpa using e'
      have := HXL.out
      omega
  have hgo1 : w.heap.size < go := by have := HZ0.out; omega
  have S2 := Lib.hid (show Spoil w2 (some ⟨go, 0, none⟩) 256 co go (go + 1) (x.map (Value.int .i64)) from spoil_at hO2 HXL.out)
  rw [HXL.out]
  have kx0 := X2.out.cell 0
  simp only [infoC, List.getElem?_toArray, List.getElem?_cons_zero] at kx0
  clear hB2 hO2 hown2 hg2 hgo HXA HWE X0
  go_wp2_with fail
  refine (HOFF.out _).mono ?_
  rintro e w3 ⟨gf, cf, rfl, hIf, hB3, hgf⟩
  have hb3 := hb2.trans (hB3.mono hb2.size)
  have X3 := Lib.hid (X2.out.keep hB3 X2.out.lt)
  have hgo3 := S2.out.2.1
  have S3 := Lib.hid (S2.out.keep hB3 hgo3)
  have HIF := Lib.hid hIf
  have hz3 := hB3.size
  have hgfo : gf ≠ go := by omega
  have hgf3 : gf < w3.heap.size ∨ offs.length = 0 := by
    rcases hIf with h | ⟨b, off, hp, hlt, _⟩
    · exact .inr (by rw [h]; rfl)
    · obtain ⟨rfl, rfl⟩ : gf = b ∧ 0 = off := by simpa using hp
      exact .inl hlt
  have HGF3 := Lib.hid hgf3
  have hg3 : go < w3.heap.size := by omega
  have hw3 : w.heap.size < w3.heap.size := by omega
  clear hB3 hb2 X2 S2 hIf kx0 HOFF hgf hgf3
  go_wp2_with fail
  go_loopw [13, 14, 15, 16, 17, 18, 19, 20, 21] (fun I _ _ _ _ _ _ _ _ wr => ∃ j : Nat, I = .int .i64 j ∧ j ≤ B.length ∧ Hid (Spoil wr (some ⟨go, 0, none⟩) 256 co go (go + 1) ((runS sg (regsTo offs mx B j) x).map (Value.int .i64))) ∧ StillG go w3.heap.size w3 wr) (fun I _ _ _ _ _ _ _ _ _ => B.length - (intOf I).toNat)
  case atStart => exact ⟨0, rfl, Nat.zero_le _, S3, StillG.refl _ _ _⟩
  case round =>
    obtain ⟨j, rfl, hj, hS, hG⟩ := hrel
    clear S3
    have HW3 := Lib.hid (fun a (h1 : a.block < w.heap.size) => (hG.cell (a := a) (by omega) (by omega)).trans (hb3.cell h1))
    have X4 := Lib.hid (cellsW X3.out hG hw3 (by omega))
    by_cases hlt : j < B.length
    · have hd : decide ((j : Int) < (B.length : Int)) = true := decide_eq_true (by omega)
      obtain ⟨bq, oq, rfl, hbq, hcell⟩ := HBK.out.at hlt
      have y0 := hcell j hlt
      obtain ⟨hFl, hFs⟩ := HFS.out j hlt
      obtain ⟨hI1, hI2⟩ := HBK.out.2 j hlt
      have hwj := HW.out j hlt
      obtain ⟨rv, hrv⟩ : ∃ r, B.getD j default = r := ⟨_, rfl⟩
      have HRV := Lib.hid hrv
      rw [hrv] at y0 hFl hFs hI1 hI2
      obtain ⟨qf, cf2, fs⟩ := rv
      dsimp only at y0 hFl hFs hI1 hI2
      have HFs := Lib.hid hFs
      have HI1 := Lib.hid hI1
      have HI2 := Lib.hid hI2
      have kx2 := X4.out.cell 2
      simp only [infoC, List.getElem?_toArray, List.getElem?_cons_succ, List.getElem?_cons_zero] at kx2
      clear hcell hrv hFs hI1 hI2
      obtain ⟨O1, hO1⟩ : ∃ O, runS sg (regsTo offs mx B j) x = O := ⟨_, rfl⟩
      have HO1 := Lib.hid hO1
      have HO1B := Lib.hid (show ∀ k, -268435455 ≤ O1.getD k 0 ∧ O1.getD k 0 ≤ 268435455 from by rw [← hO1]; exact runS_fit sg _ x HBX.out)
      have HO1L := Lib.hid (show O1.length = 256 from by rw [← hO1]; exact runS_len sg _ x HXL.out)
      rw [hO1] at hS
      have hS0 := hS
      have hG0 := hG
      clear hO1 hS hG
      go_wp2_with fail
      go_loopw [14, 15, 16, 17, 18, 19, 20, 21] (fun TV K _ _ _ _ _ _ wr' => ∃ i : Nat, K = .int .i64 i ∧ i ≤ fs.length ∧ TV = .int .i64 (topP mx fs i : Nat) ∧ Hid (Spoil wr' (some ⟨go, 0, none⟩) 256 co go (go + 1) ((runS sg (regsIn offs mx j fs i) O1).map (Value.int .i64))) ∧ StillG go w3.heap.size w3 wr') (fun _ K _ _ _ _ _ _ _ => fs.length - (intOf K).toNat)
      case atStart => exact ⟨0, rfl, Nat.zero_le _, rfl, hS0, hG0⟩
      case round =>
        obtain ⟨i, rfl, hi, rfl, hS, hG⟩ := hrel
        clear hS0 hG0 X4 kx2 HW3
        have HW3 := Lib.hid (fun a (h1 : a.block < w.heap.size) => (hG.cell (a := a) (by omega) (by omega)).trans (hb3.cell h1))
        have r1 := (HW3.out ⟨bq, oq + j, none⟩ hbq).trans y0
        by_cases hli : i < fs.length
        · have hd2 : decide ((i : Int) < (fs.length : Int)) = true := decide_eq_true (by omega)
          obtain ⟨bf, of_, rfl, hbf, hcell⟩ := HI1.out.at hli
          obtain ⟨z0, z1, z2, z3, z4⟩ := hcell i hli
          have hR := regP_fit HOF.out hwj (fun k hk => (filt_len (HFs.out k hk)).1) hli
          have HNX := Lib.hid (runS_in_succ sg offs mx j fs i O1)
          have hfl := HFs.out i hli
          obtain ⟨T, hT⟩ : ∃ t, topP mx fs i = t := ⟨_, rfl⟩
          obtain ⟨Bo, hBo⟩ : ∃ t, topP mx fs (i + 1) = t := ⟨_, rfl⟩
          have hBT : Bo = botN T (fs.getD i default) := by rw [← hBo, ← hT]; rfl
          have HBO := Lib.hid hBo
          unfold regP at hR HNX
          rw [hT, hBo] at hR HNX
          rw [hT]
          obtain ⟨fv, hfv⟩ : ∃ f, fs.getD i default = f := ⟨_, rfl⟩
          rw [hfv] at hR HNX hfl hBT z0 z1 z2 z3 z4
          obtain ⟨flen, ford, fdown, ffine, fcs, fp, fc⟩ := fv
          have hIf := (HI2.out i hli).1
          rw [hfv] at hIf
          dsimp only at hR HNX hfl hBT hIf z0 z1 z2 z3 z4
          unfold botN at hBT
          dsimp only at hBT
          obtain ⟨hr1, hr2, hr3, hr4, hr5, hr6⟩ := hR
          obtain ⟨hf0, hf63⟩ := filt_len hfl
          obtain ⟨_, hcs12, hcs8⟩ := filt_ok hfl
          have hTm : T ≤ mx := by rw [← hT]; exact topP_le mx fs (fun k hk => (filt_len (HFs.out k hk)).1) i (by omega)
          obtain ⟨vb, hvb⟩ : ∃ v, offs.getD Bo 0 = v := ⟨_, rfl⟩
          obtain ⟨vt, hvt⟩ : ∃ v, offs.getD T 0 = v := ⟨_, rfl⟩
          obtain ⟨bo, oo, hpo, hbo, hoc⟩ := HIF.out.at hr3
          obtain ⟨rfl, rfl⟩ : gf = bo ∧ 0 = oo := by simpa using hpo
          have y1 := (hG.cell (a := ⟨gf, 0 + Bo, none⟩) hbo hgfo).trans (hoc Bo hr3)
          have y2 := (hG.cell (a := ⟨gf, 0 + T, none⟩) hbo hgfo).trans (hoc T hr4)
          rw [Nat.zero_add] at y1 y2
          rw [hvb] at y1 hr1 hr5 HNX
          rw [hvt] at y2 hr1 hr2 hr6 HNX
          have z0 := (HW3.out ⟨bf, _, none⟩ hbf).trans z0
          have z1 := (HW3.out ⟨bf, _, none⟩ hbf).trans z1
          have z2 := (HW3.out ⟨bf, _, none⟩ hbf).trans z2
          have z3 := (HW3.out ⟨bf, _, none⟩ hbf).trans z3
          have z4 := (HW3.out ⟨bf, _, none⟩ hbf).trans z4
          have hIF' := Lib.hid hIf
          have v0 : IntKind.i64.wrap ((T : Int) - flen) = (T : Int) - flen := IntWalk.i64_in _ (by omega)
          clear hcell hfl hIf hfv hT hBo hpo hoc hvb hvt
          go_upto_region 12 with fail
          go_cut [17] from 54 to 58 (fun s17 wx => s17 = .int .i64 (Bo : Nat) ∧ wx = wr.alloc (.cells #[.int .i64 flen, .int .i64 ford, .bool fdown, .bool ffine, .slice fp fcs.length fc] 24))
          case first =>
            go_wp2_with fail
            all_goals
              go_meet
              exact ⟨by congr 1; omega, rfl⟩
          case rest =>
          obtain ⟨rfl, rfl⟩ := hcut
          obtain ⟨O2, hO2⟩ : ∃ O, runS sg (regsIn offs mx j fs i) O1 = O := ⟨_, rfl⟩
          have hO2B : ∀ k, -268435455 ≤ O2.getD k 0 ∧ O2.getD k 0 ≤ 268435455 := by rw [← hO2]; exact runS_fit sg _ O1 HO1B.out
          have hO2L : O2.length = 256 := by rw [← hO2]; exact runS_len sg _ O1 HO1L.out
          rw [hO2] at HNX hS
          have HO2 := Lib.hid (And.intro hO2B hO2L)
          obtain ⟨lo, hlo⟩ : ∃ n, 32 * j + vb.toNat = n := ⟨_, rfl⟩
          obtain ⟨hi2, hhi⟩ : ∃ n, 32 * j + vt.toNat = n := ⟨_, rfl⟩
          rw [hlo, hhi] at hr1 HNX
          rw [hhi] at hr2
          have q0 : IntKind.i64.wrap (32 * (j : Int)) = 32 * (j : Int) := IntWalk.i64_in _ (by omega)
          have q1 : IntKind.i64.wrap (32 * (j : Int) + vb) = (lo : Int) := by rw [IntWalk.i64_in _ (by omega)]; omega
          have q2 : IntKind.i64.wrap (32 * (j : Int) + vt) = (hi2 : Int) := by rw [IntWalk.i64_in _ (by omega)]; omega
          have q3 : (Bo : Int) < (offs.length : Int) := by omega
          have q4 : (T : Int) < (offs.length : Int) := by omega
          have q5 : (lo : Int) ≤ (hi2 : Int) := by omega
          have q6 : (hi2 : Int) ≤ (co : Int) := by omega
          have hb20 := (Below.refl wr.heap.size wr).alloc (Nat.le_refl _) (.cells #[.int .i64 flen, .int .i64 ford, .bool fdown, .bool ffine, .slice fp fcs.length fc] 24)
          have hsz := hG.size
          have y1 := (hb20.cell (p := ⟨gf, Bo, none⟩) (Nat.lt_of_lt_of_le hbo hsz)).trans y1
          have y2 := (hb20.cell (p := ⟨gf, T, none⟩) (Nat.lt_of_lt_of_le hbo hsz)).trans y2
          have X20 := Lib.hid (CellsAt.new wr 24 #[.int .i64 flen, .int .i64 ford, .bool fdown, .bool ffine, .slice fp fcs.length fc] rfl)
          obtain ⟨wa, hwa⟩ : ∃ w, wr.alloc (.cells #[.int .i64 flen, .int .i64 ford, .bool fdown, .bool ffine, .slice fp fcs.length fc] 24) = w := ⟨_, rfl⟩
          have HZZ := Lib.hid (show wa.heap.size = wr.heap.size + 1 by rw [← hwa]; simp)
          rw [hwa] at X20 hb20 y1 y2 ⊢
          have hgr := hS.out.2.1
          have HSa := Lib.hid (hS.out.keep hb20 hgr)
          have HGa := Lib.hid (hG.trans (StillG.of hb20 |>.mono hsz))
          clear z0 z1 z2 z3 z4 hwa hS hG HW3 r1 hBT hlo hhi hO2 hr5 hr6 v0 hf0 hf63
          go_upto_region 15 with fail
          obtain ⟨L, hL⟩ : ∃ L, partL O2 lo hi2 = L := ⟨_, rfl⟩
          have HLl := Lib.hid (show L.length = hi2 - lo by rw [← hL, part_len])
          have HLE := Lib.hid hL
          have HLB := Lib.hid (show ∀ k, -268435455 ≤ L.getD k 0 ∧ L.getD k 0 ≤ 268435455 by
            intro k
            by_cases hk : k < hi2 - lo
            · rw [← hL, part_at _ _ _ hk]; exact HO2.out.1 _
            · rw [List.getD_eq_getElem?_getD, List.getElem?_eq_none (by rw [HLl.out]; omega)]; simp)
          have hgoa : go < wa.heap.size := by have := HZZ.out; omega
          go_cut [20] from 73 to 77 (fun s20 wx => ∃ (qp : Option Addr) (cp : Nat), s20 = .slice qp (hi2 - lo) cp ∧ IntsB wx qp L wa.heap.size wx.heap.size ∧ Below wa.heap.size wa wx)
          case first =>
            have hLr : ∀ n ∈ L, -9223372036854775808 ≤ n ∧ n ≤ 9223372036854775807 := by
              intro n hn
              obtain ⟨k, hk, rfl⟩ := List.getElem_of_mem hn
              have := HLB.out k
              rw [List.getD_eq_getElem?_getD, List.getElem?_eq_getElem hk] at this
              simp only [Option.getD_some] at this
              omega
            by_cases hcl : co = lo
            · have hz : hi2 = lo := by omega
              subst hz
              subst hcl
              obtain rfl : L = [] := List.eq_nil_of_length_eq_zero (by rw [HLl.out]; omega)
              have HLA := Lib.hid (show IsArg wa (some ⟨go, 0, none⟩) 0 [] from ⟨.inl rfl, fun h => by simp at h, by simp, fun n hn => by simp at hn⟩)
              clear hL hLr
              go_wp2_with (at_builtin; refine append_ints rfl _ _ rfl wa.heap.size _ 0 [] rfl (World.ownsRow_nil _ _ _ _) (some ⟨go, 0, none⟩) 0 [] rfl HLA.out ?b1 ?b2 ?b3 ?_)
              case b1 => simp
              case b2 => simp
              case b3 => exact Nat.le_refl _
              intro v4 w4 hown4 hg4
              have hB4 : Below wa.heap.size wa w4 := (Below.refl _ wa).grown hg4 (Nat.le_refl _) (fun k hk => by simp [Value.ownBlock] at hk)
              have hO4 : w4.ownsRow wa.heap.size 3 1 v4 ([] : List Int).length (([] : List Int).map (Value.int .i64)) := by simpa using hown4
              obtain ⟨qp, cp, rfl, hI4⟩ := owns_any hO4
              go_wp2_with fail
              go_meet
              exact ⟨qp, cp, by simp, hI4, hB4⟩
            · have HLA := Lib.hid (show IsArg wa (some ⟨go, lo, none⟩) (co - lo) L from ⟨.inr ⟨go, lo, rfl, hgoa, fun k hk => by
                  rw [HLl.out] at hk
                  obtain ⟨g, hgp, _, _, hc, _⟩ := HSa.out.at (k := lo + k) (by omega)
                  obtain rfl : go = g := by injection hgp with h1; injection h1
                  rw [row_get _ _ (Nat.zero_le _) (by rw [HO2.out.2]; omega)] at hc
                  rw [hc, ← HLE.out, part_at _ _ _ hk]⟩, fun h => by simp at h, by rw [HLl.out]; omega, hLr⟩)
              have hcl' : (co = lo) = False := eq_false hcl
              clear hL hLr hcl
              go_wp2_with (at_builtin; refine append_ints rfl _ _ rfl wa.heap.size _ 0 [] rfl (World.ownsRow_nil _ _ _ _) (some ⟨go, lo, none⟩) (co - lo) L (by rw [HLl.out]; rfl) HLA.out ?b1 ?b2 ?b3 ?_)
              case b1 => rw [HLl.out]; omega
              case b2 => rw [HLl.out]; omega
              case b3 => exact Nat.le_refl _
              intro v4 w4 hown4 hg4
              have hB4 : Below wa.heap.size wa w4 := (Below.refl _ wa).grown hg4 (Nat.le_refl _) (fun k hk => by simp [Value.ownBlock] at hk)
              have hO4 : w4.ownsRow wa.heap.size 3 1 v4 L.length (L.map (Value.int .i64)) := by simpa using hown4
              obtain ⟨qp, cp, rfl, hI4⟩ := owns_any hO4
              rw [HLl.out]
              go_wp2_with fail
              go_meet
              exact ⟨qp, cp, rfl, hI4, hB4⟩
          case rest =>
          obtain ⟨qp, cp, rfl, hPI, hBx⟩ := hcut
          obtain ⟨wx, hwx⟩ : ∃ z, z = wc := ⟨_, rfl⟩
          subst hwx
          have hsa : w3.heap.size ≤ wa.heap.size := by have := HZZ.out; omega
          have X21 := Lib.hid (X20.out.keep hBx X20.out.lt)
          have HSx := Lib.hid (HSa.out.keep hBx HSa.out.2.1)
          have HGx := Lib.hid (HGa.out.trans (StillG.of hBx |>.mono hsa))
          have hszx := hBx.size
          have HPI := Lib.hid hPI
          have HA12 := Lib.hid hcs12
          have HAL := Lib.hid (coefP_len ffine fcs fcs.length)
          have HST := Lib.hid (coef_steady ffine fcs hcs12)
          obtain ⟨A, hA⟩ : ∃ A, coefP ffine fcs fcs.length = A := ⟨_, rfl⟩
          rw [hA] at HNX HAL HST
          have HAE := Lib.hid hA
          have HLP := Lib.hid (lines_part ⟨lo, hi2, fdown, A⟩ O2 hr1)
          have HRUN := Lib.hid (put_run ⟨lo, hi2, fdown, A⟩ sg O2 hr1 hr2)
          dsimp only [Reg.many] at HLP HRUN
          rw [hL] at HLP
          obtain ⟨P, hP⟩ : ∃ P, (⟨lo, hi2, fdown, A⟩ : Reg).lines O2 = P := ⟨_, rfl⟩
          rw [hP] at HLP HRUN
          have HC := Lib.hid (fun (W : World) (h : StillG go w3.heap.size w3 W) => ref_coefs flen ford fdown ffine fcs fp fc hcs12 hcs8 W (hIF'.out.keep (h.below hb3 (Nat.le_of_lt hw3) (Nat.le_of_lt hgo1))))
          rw [hA] at HC
          clear hBx hPI hA hL hP HSa HGa X20 hcs12 hcs8 hgoa
          cases fdown
          · have hPL : P = L := HLP.out.symm
            subst hPL
            have HPL := Lib.hid (show P.length = hi2 - lo from HLl.out)
            have HPB := HLB
            have b0 := X21.out.cell 0
            have b1 := X21.out.cell 1
            have b2 := X21.out.cell 2
            have b3 := X21.out.cell 3
            have b4 := X21.out.cell 4
            simp only [List.getElem?_toArray, List.getElem?_cons_succ, List.getElem?_cons_zero] at b0 b1 b2 b3 b4
            go_wp2_with fail
            refine (HC.out _ HGx.out).mono ?_
            rintro e wy ⟨qa, da, rfl, hAI, hBy⟩
            have HFF := Lib.hid (HF.out A P qa qp da cp (by rw [HPL.out]; omega) HPB.out (by rw [HAL.out]; exact HST.out) (by rw [HAL.out]; exact HA12.out) wy hAI.ints (HPI.out.keep hBy HPI.out.1).ints)
            rw [HPL.out, HAL.out] at HFF
            have HBy := Lib.hid hBy
            have hszy := hBy.size
            clear hAI hBy
            go_wp2_with fail
            refine HFF.out.mono ?_
            unfold RFilt
            rw [HPL.out]
            rintro e wz ⟨qz, dz, rfl, hZI, hBz⟩
            have hBxz := HBy.out.trans (hBz.mono hszy)
            have X21 := Lib.hid (X21.out.keep hBxz X21.out.lt)
            have HSx := Lib.hid (HSx.out.keep hBxz HSx.out.2.1)
            have HGx := Lib.hid (HGx.out.trans (StillG.of hBxz |>.mono (by omega)))
            have hszz := hBxz.size
            have HZI := Lib.hid hZI
            clear hZI hBz hBxz HFF HBy b0 b1 b2 b3 b4
            have b0 := X21.out.cell 0
            have b1 := X21.out.cell 1
            have b2 := X21.out.cell 2
            have b3 := X21.out.cell 3
            have b4 := X21.out.cell 4
            simp only [List.getElem?_toArray, List.getElem?_cons_succ, List.getElem?_cons_zero] at b0 b1 b2 b3 b4
            go_wp2_with fail
            have HWL := Lib.hid (show (filtP sg A P (hi2 - lo)).length = hi2 - lo from filtP_len _ _ _ _)
            have HRN := Lib.hid (show putL O2 lo (filtP sg A P (hi2 - lo)) (hi2 - lo) = _ from HRUN.out)
            obtain ⟨Wl, hWE⟩ : ∃ l, filtP sg A P (hi2 - lo) = l := ⟨_, rfl⟩
            rw [hWE] at HWL HRN HZI
            have HWI := HZI
            have HWE := Lib.hid (hWE)
            have S0 := Lib.hid (show Spoil wz (some ⟨go, 0, none⟩) 256 co go (go + 1) ((putL O2 lo Wl 0).map (Value.int .i64)) by rw [put_zero HO2.out.2]; exact HSx.out)
            have G0 := HGx.out
            have Q0 := HWI
            have hWl := HWL.out
            go_loopw [21] (fun K wr' => ∃ k : Nat, K = .int .i64 k ∧ k ≤ hi2 - lo ∧ Hid (Spoil wr' (some ⟨go, 0, none⟩) 256 co go (go + 1) ((putL O2 lo Wl k).map (Value.int .i64))) ∧ Hid (IntsB wr' qz Wl wy.heap.size wz.heap.size) ∧ StillG go w3.heap.size w3 wr') (fun K _ => hi2 - lo - (intOf K).toNat)
            case atStart => exact ⟨0, rfl, Nat.zero_le _, S0, Q0, G0⟩
            case round =>
              obtain ⟨k, rfl, hk, hS, hW, hG⟩ := hrel
              clear S0 G0 Q0
              by_cases hkm : k < hi2 - lo
              · have hd3 : decide ((k : Int) < ((hi2 - lo : Nat) : Int)) = true := decide_eq_true (by omega)
                obtain ⟨g, hgp, _, _, hc, hf, hnext⟩ := hS.out.at (k := lo + k) (by omega)
                obtain rfl : go = g := by injection hgp with h1; injection h1
                rw [row_get _ _ (Nat.zero_le _) (by rw [put_len]; omega)] at hc
                obtain ⟨bw, ow, rfl, hcw⟩ := hW.out.at (j := k) (by rw [hWl]; exact hkm)
                have c1 := hcw
                have hps := put_succ O2 lo Wl k (by omega)
                obtain ⟨v, hv⟩ : ∃ v, Wl.getD k 0 = v := ⟨_, rfl⟩
                rw [hv] at c1 hps
                obtain ⟨u, hu⟩ : ∃ v, (putL O2 lo Wl k).getD (lo + k) 0 = v := ⟨_, rfl⟩
                rw [hu] at hc
                have HNX2 := Lib.hid (show Spoil _ (some ⟨go, 0, none⟩) 256 co go (go + 1) ((putL O2 lo Wl (k + 1)).map (Value.int .i64)) by
                  have h := hnext (.int .i64 v)
                  rw [← List.map_set, hps] at h
                  exact h)
                have HWN := Lib.hid (hW.out.setCell ⟨go, lo + k, none⟩ (.int .i64 v) (.inl (by show go < _; omega)))
                have HGN := hG.set (lo + k) (.int .i64 v)
                have t1 : IntKind.i64.wrap ((lo : Int) + (k : Int)) = ((lo + k : Nat) : Int) := by rw [IntWalk.i64_in _ (by omega)]; omega
                have t2 : ((lo : Int) + (k : Int)).toNat = lo + k := by omega
                have t3 : (0 : Int) ≤ (lo : Int) + (k : Int) := by omega
                have t4 : (lo : Int) + (k : Int) < 256 := by omega
                have t5 : (k : Int) < ((hi2 - lo : Nat) : Int) := by omega
                clear hgp hnext hcw hv hu hps hS hW hG
                go_wp2_with fail
                exact ⟨⟨k + 1, by go_num, by omega, HNX2, HWN, HGN⟩, by simp [intOf]; omega⟩
              · have hkm2 : k = hi2 - lo := by omega
                subst hkm2
                have hd3 : decide (((hi2 - lo : Nat) : Int) < ((hi2 - lo : Nat) : Int)) = false := by simp
                have HS9 := Lib.hid (show Spoil wr (some ⟨go, 0, none⟩) 256 co go (go + 1) ((runS sg (regsIn offs mx j fs (i + 1)) O1).map (Value.int .i64)) by rw [HNX.out, ← HRN.out]; exact hS.out)
                have HBN := Lib.hid (show topP mx fs (i + 1) = Bo from HBO.out)
                clear hS hW hkm
                go_wp2_with fail
                exact ⟨⟨i + 1, by go_num, by omega, by rw [HBN.out], HS9, hG⟩, by simp [intOf]; omega⟩
          · have hPL : P = L.reverse := HLP.out.symm
            have HPL := Lib.hid (show P.length = hi2 - lo by rw [hPL, List.length_reverse]; exact HLl.out)
            have HPB := Lib.hid (show ∀ k, -268435455 ≤ P.getD k 0 ∧ P.getD k 0 ≤ 268435455 by
              intro k
              by_cases hk : k < L.length
              · rw [hPL, getD_reverse _ hk]; exact HLB.out _
              · rw [hPL, List.getD_eq_getElem?_getD, List.getElem?_eq_none (by rw [List.length_reverse]; omega)]; simp)
            have HT1 := Lib.hid (ref_turned L qp cp (by rw [HLl.out]; omega) wx HPI.out.ints)
            rw [HLl.out, ← hPL] at HT1
            clear hPL
            have b0 := X21.out.cell 0
            have b1 := X21.out.cell 1
            have b2 := X21.out.cell 2
            have b3 := X21.out.cell 3
            have b4 := X21.out.cell 4
            simp only [List.getElem?_toArray, List.getElem?_cons_succ, List.getElem?_cons_zero] at b0 b1 b2 b3 b4
            go_wp2_with fail
            refine HT1.out.mono ?_
            rintro e wt ⟨qt, dt, rfl, hTI, hBt⟩
            have X21 := Lib.hid (X21.out.keep hBt X21.out.lt)
            have HSx := Lib.hid (HSx.out.keep hBt HSx.out.2.1)
            have HGx := Lib.hid (HGx.out.trans (StillG.of hBt |>.mono (by omega)))
            have hszt := hBt.size
            have HPI := Lib.hid hTI
            clear hTI hBt HT1 b0 b1 b2 b3 b4
            have b0 := X21.out.cell 0
            have b1 := X21.out.cell 1
            have b2 := X21.out.cell 2
            have b3 := X21.out.cell 3
            have b4 := X21.out.cell 4
            simp only [List.getElem?_toArray, List.getElem?_cons_succ, List.getElem?_cons_zero] at b0 b1 b2 b3 b4
            go_wp2_with fail
            refine (HC.out _ HGx.out).mono ?_
            rintro e wy ⟨qa, da, rfl, hAI, hBy⟩
            have HFF := Lib.hid (HF.out A P qa qt da dt (by rw [HPL.out]; omega) HPB.out (by rw [HAL.out]; exact HST.out) (by rw [HAL.out]; exact HA12.out) wy hAI.ints (HPI.out.keep hBy HPI.out.1).ints)
            rw [HPL.out, HAL.out] at HFF
            have HBy := Lib.hid hBy
            have hszy := hBy.size
            clear hAI hBy
            go_wp2_with fail
            refine HFF.out.mono ?_
            unfold RFilt
            rw [HPL.out]
            rintro e wz ⟨qz, dz, rfl, hZI, hBz⟩
            have hBxz := HBy.out.trans (hBz.mono hszy)
            have X21 := Lib.hid (X21.out.keep hBxz X21.out.lt)
            have HSx := Lib.hid (HSx.out.keep hBxz HSx.out.2.1)
            have HGx := Lib.hid (HGx.out.trans (StillG.of hBxz |>.mono (by omega)))
            have hszz := hBxz.size
            have HZI := Lib.hid hZI
            clear hZI hBz hBxz HFF HBy b0 b1 b2 b3 b4
            have b0 := X21.out.cell 0
            have b1 := X21.out.cell 1
            have b2 := X21.out.cell 2
            have b3 := X21.out.cell 3
            have b4 := X21.out.cell 4
            simp only [List.getElem?_toArray, List.getElem?_cons_succ, List.getElem?_cons_zero] at b0 b1 b2 b3 b4
            have hFl : (filtP sg A P (hi2 - lo)).length = hi2 - lo := filtP_len _ _ _ _
            have HT2 := Lib.hid (ref_turned (filtP sg A P (hi2 - lo)) qz dz (by rw [hFl]; omega) wz HZI.out.ints)
            rw [hFl] at HT2
            have HWL := Lib.hid (show (filtP sg A P (hi2 - lo)).reverse.length = hi2 - lo by rw [List.length_reverse]; exact hFl)
            have HRN := Lib.hid (show putL O2 lo (filtP sg A P (hi2 - lo)).reverse (hi2 - lo) = _ from HRUN.out)
            obtain ⟨Wl, hWE⟩ : ∃ l, (filtP sg A P (hi2 - lo)).reverse = l := ⟨_, rfl⟩
            rw [hWE] at HWL HRN HT2
            clear hFl
            go_wp2_with fail
            refine HT2.out.mono ?_
            rintro e wu ⟨qu, du, rfl, hUI, hBu⟩
            have HSx := Lib.hid (HSx.out.keep hBu HSx.out.2.1)
            have HGx := Lib.hid (HGx.out.trans (StillG.of hBu |>.mono (by omega)))
            have hszu := hBu.size
            have HWI := Lib.hid hUI
            clear hUI hBu HT2 b0 b1 b2 b3 b4 X21 HZI
            go_wp2_with fail
            have HWE := Lib.hid (hWE)
            have S0 := Lib.hid (show Spoil wu (some ⟨go, 0, none⟩) 256 co go (go + 1) ((putL O2 lo Wl 0).map (Value.int .i64)) by rw [put_zero HO2.out.2]; exact HSx.out)
            have G0 := HGx.out
            have Q0 := HWI
            have hWl := HWL.out
            go_loopw [21] (fun K wr' => ∃ k : Nat, K = .int .i64 k ∧ k ≤ hi2 - lo ∧ Hid (Spoil wr' (some ⟨go, 0, none⟩) 256 co go (go + 1) ((putL O2 lo Wl k).map (Value.int .i64))) ∧ Hid (IntsB wr' qu Wl wz.heap.size wu.heap.size) ∧ StillG go w3.heap.size w3 wr') (fun K _ => hi2 - lo - (intOf K).toNat)
            case atStart => exact ⟨0, rfl, Nat.zero_le _, S0, Q0, G0⟩
            case round =>
              obtain ⟨k, rfl, hk, hS, hW, hG⟩ := hrel
              clear S0 G0 Q0
              by_cases hkm : k < hi2 - lo
              · have hd3 : decide ((k : Int) < ((hi2 - lo : Nat) : Int)) = true := decide_eq_true (by omega)
                obtain ⟨g, hgp, _, _, hc, hf, hnext⟩ := hS.out.at (k := lo + k) (by omega)
                obtain rfl : go = g := by injection hgp with h1; injection h1
                rw [row_get _ _ (Nat.zero_le _) (by rw [put_len]; omega)] at hc
                obtain ⟨bw, ow, rfl, hcw⟩ := hW.out.at (j := k) (by rw [hWl]; exact hkm)
                have c1 := hcw
                have hps := put_succ O2 lo Wl k (by omega)
                obtain ⟨v, hv⟩ : ∃ v, Wl.getD k 0 = v := ⟨_, rfl⟩
                rw [hv] at c1 hps
                obtain ⟨u, hu⟩ : ∃ v, (putL O2 lo Wl k).getD (lo + k) 0 = v := ⟨_, rfl⟩
                rw [hu] at hc
                have HNX2 := Lib.hid (show Spoil _ (some ⟨go, 0, none⟩) 256 co go (go + 1) ((putL O2 lo Wl (k + 1)).map (Value.int .i64)) by
                  have h := hnext (.int .i64 v)
                  rw [← List.map_set, hps] at h
                  exact h)
                have HWN := Lib.hid (hW.out.setCell ⟨go, lo + k, none⟩ (.int .i64 v) (.inl (by show go < _; omega)))
                have HGN := hG.set (lo + k) (.int .i64 v)
                have t1 : IntKind.i64.wrap ((lo : Int) + (k : Int)) = ((lo + k : Nat) : Int) := by rw [IntWalk.i64_in _ (by omega)]; omega
                have t2 : ((lo : Int) + (k : Int)).toNat = lo + k := by omega
                have t3 : (0 : Int) ≤ (lo : Int) + (k : Int) := by omega
                have t4 : (lo : Int) + (k : Int) < 256 := by omega
                have t5 : (k : Int) < ((hi2 - lo : Nat) : Int) := by omega
                clear hgp hnext hcw hv hu hps hS hW hG
                go_wp2_with fail
                exact ⟨⟨k + 1, by go_num, by omega, HNX2, HWN, HGN⟩, by simp [intOf]; omega⟩
              · have hkm2 : k = hi2 - lo := by omega
                subst hkm2
                have hd3 : decide (((hi2 - lo : Nat) : Int) < ((hi2 - lo : Nat) : Int)) = false := by simp
                have HS9 := Lib.hid (show Spoil wr (some ⟨go, 0, none⟩) 256 co go (go + 1) ((runS sg (regsIn offs mx j fs (i + 1)) O1).map (Value.int .i64)) by rw [HNX.out, ← HRN.out]; exact hS.out)
                have HBN := Lib.hid (show topP mx fs (i + 1) = Bo from HBO.out)
                clear hS hW hkm
                go_wp2_with fail
                exact ⟨⟨i + 1, by go_num, by omega, by rw [HBN.out], HS9, hG⟩, by simp [intOf]; omega⟩
        · have hkM : i = fs.length := by omega
          subst hkM
          have hd2 : decide ((fs.length : Int) < (fs.length : Int)) = false := by simp
          clear hli
          go_wp2_with fail
          exact ⟨⟨j + 1, by go_num, by omega, Lib.hid (by rw [runS_to_succ, HRV.out, HO1.out]; exact hS.out), hG⟩, by simp [intOf]; omega⟩
    · have hkM : j = B.length := by omega
      subst hkM
      have hd : decide ((B.length : Int) < (B.length : Int)) = false := by simp
      have hle : (runS sg (regsTo offs mx B B.length) x).length = 256 := runS_len sg _ x HXL.out
      have HBL := Lib.hid (hG.below hb3 (Nat.le_of_lt hw3) (Nat.le_of_lt hgo1))
      have HSI := Lib.hid hS.out.ints.ints
      clear hle hS hG hlt
      go_wp2
      go_ret
      exact ⟨_, _, rfl, HSI.out, HBL.out⟩
end Go.Proofs.Yteijlbblmdclaaa
