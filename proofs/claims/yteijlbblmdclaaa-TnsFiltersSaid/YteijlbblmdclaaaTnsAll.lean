/- tns.all: what a call does. -/
import Derived.Test.YteijlbblmdclaaaTnsBank
import Derived.Deep.CutRange
import Derived.Deep.RegionHeld3
import Derived.Laws.EntriesVeiled
set_option linter.unusedVariables false
set_option linter.unusedSimpArgs false
namespace Go.Proofs.Yteijlbblmdclaaa
open Go.ChangeShapes Go.WideShapes Go.ChangeAt Go.RowKit

abbrev infC (seq shape max : Int) (pg : Option Addr) (ng cg : Nat) : Array Value := #[.int .u8 seq, .int .u8 shape, .int .i64 max, .slice pg ng cg]
/-- A list in a block of the call's own, and an error. -/
def RAll (r : List Int × Int) (w : World) (e : Ending) (w' : World) : Prop :=
  ∃ p d a b, e = .returned (.tuple #[.slice p r.1.length d, .int .i64 r.2]) ∧ Spoil w' p r.1.length d a b (r.1.map (Value.int .i64)) ∧ w.heap.size ≤ a ∧ Below w.heap.size w w'
theorem spoil_at {w : World} {base g n c : Nat} {l : List Int} (h : w.ownsRow base 3 1 (.slice (some ⟨g, 0, none⟩) l.length c) l.length (l.map (Value.int .i64))) (hl : l.length = n) : Spoil w (some ⟨g, 0, none⟩) n c g (g + 1) (l.map (Value.int .i64)) := by
  subst hl
  refine ⟨by simp, (h.lt g rfl).2, fun _ => ⟨g, rfl, Nat.le_refl _, Nat.lt_succ_self _, h.1, ?_⟩⟩
  rcases h.2 with ⟨h', _⟩ | ⟨g', cap', cur, e', h1, rest⟩
  · simp at h'
  · have e3 : g = g' ∧ c = cap' := by simpa using e'
    exact .inr ⟨g', cap', cur, e', by omega, rest⟩
theorem StillG.ints {g M : Nat} {w w' : World} {b off : Nat} {l : List Int} (h : StillG g M w w') (hI : IsInts w (some ⟨b, off, none⟩) l) (hb : b < M) (hne : b ≠ g) : IsInts w' (some ⟨b, off, none⟩) l := by
  rcases hI with e | ⟨b', off', hp, hlt, hc⟩
  · exact .inl e
  · obtain ⟨rfl, rfl⟩ : b = b' ∧ off = off' := by simpa using hp
    exact .inr ⟨b, off, rfl, Nat.lt_of_lt_of_le hlt h.size, fun j hj => (h.cell (a := ⟨b, off + j, none⟩) hb hne).trans (hc j hj)⟩
theorem filt_len {len order : Int} {fine : Bool} {cs : List Int} (h : filtE len order fine cs = 0) : 0 ≤ len ∧ len ≤ 63 := by
  unfold filtE at h
  split at h
  · simp at h
  · split at h
    · simp at h
    · rename_i h1 h2
      constructor
      · exact Int.not_lt.1 (fun hh => h2 (.inl hh))
      · exact Int.not_lt.1 (fun hh => h2 (.inr (.inl hh)))
theorem bx0 (w : World) : Below w.heap.size w w.drew := below_drewN (Below.refl _ w) 1
theorem bx1 (w : World) (o : Obj) : Below w.heap.size w (w.alloc o).drew := below_drewN ((Below.refl _ w).alloc (Nat.le_refl _) o) 1
theorem bx2 (w : World) (o : Obj) (k : Nat) (v : Value) : Below w.heap.size w ((w.alloc o).drew.setCell ⟨w.heap.size, k, none⟩ v) := (bx1 w o).setCell (p := ⟨w.heap.size, k, none⟩) (Nat.le_refl _) v
theorem cellNew (w : World) (v : Value) (t : TypeId) : (w.alloc (.cells #[v] t)).drew.cell? ⟨w.heap.size, 0, none⟩ = some v := by
  simp
theorem bxA {w w' : World} (h : Below w.drew.heap.size w.drew w') : Below w.heap.size w w' := (bx0 w).trans h
theorem sgA {g : Nat} {w w' : World} (h : Below w.drew.heap.size w.drew w') : StillG g w.heap.size w w' := StillG.of (bxA h)
theorem sgB {g : Nat} {w w' w2 : World} (h : Below w.drew.heap.size w.drew w') (k : StillG g w'.heap.size w' w2) : StillG g w.heap.size w w2 := (StillG.of (bxA h)).trans (k.mono h.size)
theorem app_cell {W : World} {ga : Nat} {t : TypeId} {a l : List Int} (hA : CellsAt W ga t (valsL (a ++ l))) {k : Nat} (hk : k < a.length) : W.cell? ⟨ga, k, none⟩ = some (.int .i64 (a.getD k 0)) := by
  rw [hA.int (by rw [List.length_append]; omega), List.getD_eq_getElem?_getD, List.getD_eq_getElem?_getD, List.getElem?_append_left hk]
theorem drle {w : World} {g : Nat} (h : w.drew.heap.size ≤ g) : w.heap.size ≤ g := h
theorem StillG.below {g M n : Nat} {w0 w w' : World} (h : StillG g M w w') (hb : Below n w0 w) (h1 : n ≤ M) (h2 : n ≤ g) : Below n w0 w' := hb.trans ⟨h.os, h.tape, h.output, h.size, fun k hk => h.block k (by omega) (by omega)⟩
theorem cellsW {W : World} {g : Nat} {t : TypeId} {cs : Array Value} (h : CellsAt W g t cs) {M g' : Nat} {W' : World} (hS : StillG g' M W W') (h1 : g < M) (h2 : g ≠ g') : CellsAt W' g t cs := (hS.block g h1 h2).trans h
set_option maxRecDepth 100000 in
set_option maxHeartbeats 8000000 in
theorem tns_all_ok (sg : Int) (hsg : sg = 1 ∨ sg = -1) (rate seq shape max : Int) (h0 : 0 ≤ rate) (h1 : rate ≤ 11) (pg q px : Option Addr) (ng cg cB cx lines mx : Nat) (B : List BV) (x : List Int) (w : World)
    (HRY : Hid (∀ W, Below w.heap.size w W → Calls Try.prog 34 #[.int .i64 rate, .agg (infC seq shape max pg ng cg), .slice q B.length cB, .slice px x.length cx] W (fun e w' => e = .returned (.int .i64 0) ∧ Below W.heap.size W w')))
    (hB : IsBank w q B) (hBl : B.length ≤ 8) (hX : IsInts w px x) (hx : x.length = 256) (bx : ∀ j, -268435455 ≤ x.getD j 0 ∧ x.getD j 0 ≤ 268435455) (hmx : max = (mx : Int))
    (hoff : OffsOk (bandL rate (seq == 2)) mx lines) (hol : (bandL rate (seq == 2)).length ≤ 41) (hw : ∀ j, j < B.length → 32 * j + lines ≤ 256)
    (hfs : ∀ j, j < B.length → (B.getD j default).fs.length ≤ 3 ∧ ∀ i, i < (B.getD j default).fs.length → filtE ((B.getD j default).fs.getD i default).len ((B.getD j default).fs.getD i default).order ((B.getD j default).fs.getD i default).fine ((B.getD j default).fs.getD i default).cs = 0) :
    Calls Try.prog 25 #[.int .i64 rate, .agg (infC seq shape max pg ng cg), .slice q B.length cB, .slice px x.length cx, .int .i64 sg] w (RAll (allL sg (bandL rate (seq == 2)) mx B x, 0) w) := by
  subst hmx
  obtain ⟨bp, op, rfl, _, _⟩ := hX.at (j := 0) (by omega)
  have HBK := Lib.hid hB
  have HXI := Lib.hid hX
  have HXL := Lib.hid hx
  have HBX := Lib.hid bx
  have HOF := Lib.hid hoff
  have HW := Lib.hid hw
  have HFS := Lib.hid hfs
  have Hsg := Lib.hid hsg
  have hb0 : Below w.heap.size w (w.alloc (.cells (infC seq shape mx pg ng cg) 33)) := (Below.refl _ w).alloc (Nat.le_refl _) _
  have X0 := Lib.hid (CellsAt.new w 33 (infC seq shape mx pg ng cg) rfl)
  have HOFF := Lib.hid (fun W => offsets_row rate (seq == 2) h0 h1 W)
  have HCL := Lib.hid (fun W (h : Below w.heap.size w W) => clone_row x (by omega) (by omega) bp op cx W (hX.keep h))
  have HSG2 := Lib.hid (show -1 ≤ sg ∧ sg ≤ 1 by omega)
  obtain ⟨offs, hofs⟩ : ∃ l, bandL rate (seq == 2) = l := ⟨_, rfl⟩
  rw [hofs] at HOFF HOF hol ⊢
  unfold RAll allL
  clear hB hX hx bx hoff hw hfs hsg hofs
  go_enter Try.func25, Try.ntmps25
  go_wp2_with fail
  refine (HRY.out _ hb0).mono ?_
  rintro e w1 ⟨rfl, hB1⟩
  have hb1 := hb0.trans (hB1.mono hb0.size)
  have X1 := Lib.hid (X0.out.keep hB1 X0.out.lt)
  clear hB1 hb0 X0 HRY
  go_wp2_with fail
  refine (HCL.out _ hb1).mono ?_
  rintro e w2 ⟨go, co, rfl, hgo, hO2, hB2⟩
  have hb2 := hb1.trans (hB2.mono hb1.size)
  have X2 := Lib.hid (X1.out.keep hB2 X1.out.lt)
  have hco : 256 ≤ co := by
    rcases hO2.2 with ⟨h', _⟩ | ⟨g', cap, cur, e', _, _, h2, _⟩
    · simp at h'
    · have e3 : go = g' ∧ co = cap := by simpa using e'
      have := HXL.out
      omega
  have hgo1 : w.heap.size < go := Nat.lt_of_lt_of_le X1.out.lt hgo
  have S2 := Lib.hid (show Spoil w2 (some ⟨go, 0, none⟩) 256 co go (go + 1) (x.map (Value.int .i64)) from spoil_at hO2 HXL.out)
  rw [HXL.out]
  have kx0 := X2.out.cell 0
  simp only [List.getElem?_toArray, List.getElem?_cons_zero] at kx0
  clear hB2 hb1 X1 HCL hO2 hgo
  go_wp2_with fail
  refine (HOFF.out _).mono ?_
  rintro e w3 ⟨gf, cf, rfl, hIf, hB3, hgf⟩
  have hb3 := hb2.trans (hB3.mono hb2.size)
  have X3 := Lib.hid (X2.out.keep hB3 X2.out.lt)
  have hgo2 := S2.out.2.1
  have S3 := Lib.hid (S2.out.keep hB3 hgo2)
  have HIF := Lib.hid hIf
  have hz3 := hB3.size
  have hgfo : gf ≠ go := by omega
  have hgf3 : gf < w3.heap.size ∨ offs.length = 0 := by
    rcases hIf with h | ⟨b, off, hp, hlt, _⟩
    · exact .inr (by rw [h]; rfl)
    · obtain ⟨rfl, rfl⟩ : gf = b ∧ 0 = off := by simpa using hp
      exact .inl hlt
  have HGF3 := Lib.hid hgf3
  have hg3 : go < w3.heap.size := by omega
  have hw3 : w.heap.size < w3.heap.size := by omega
  clear hB3 hb2 X2 S2 hIf kx0 HOFF hgf hgf3
  go_wp2_with fail
  go_loopw [44] (fun I wr => ∃ j : Nat, I = .int .i64 j ∧ j ≤ B.length ∧ Hid (Spoil wr (some ⟨go, 0, none⟩) 256 co go (go + 1) ((runS sg (regsTo offs mx B j) x).map (Value.int .i64))) ∧ StillG go w3.heap.size w3 wr) (fun I _ => B.length - (intOf I).toNat)
  case atStart => exact ⟨0, rfl, Nat.zero_le _, S3, StillG.refl _ _ _⟩
  case round =>
    obtain ⟨j, rfl, hj, hS, hG⟩ := hrel
    clear S3
    have HW3 := Lib.hid (fun a (h1 : a.block < w.heap.size) => (hG.cell (a := a) (by omega) (by omega)).trans (hb3.cell h1))
    have X4 := Lib.hid (cellsW X3.out hG hw3 (by omega))
    by_cases hlt : j < B.length
    · have hd : decide ((j : Int) < (B.length : Int)) = true := decide_eq_true (by omega)
      obtain ⟨bq, oq, rfl, hbq, hcell⟩ := HBK.out.at hlt
      have r1 := (HW3.out ⟨bq, oq + j, none⟩ hbq).trans (hcell j hlt)
      obtain ⟨hFl, hFs⟩ := HFS.out j hlt
      obtain ⟨hI1, hI2⟩ := HBK.out.2 j hlt
      have hwj := HW.out j hlt
      obtain ⟨rv, hrv⟩ : ∃ r, B.getD j default = r := ⟨_, rfl⟩
      have HRV := Lib.hid hrv
      rw [hrv] at r1 hFl hFs hI1 hI2
      obtain ⟨qf, cf2, fs⟩ := rv
      dsimp only at r1 hFl hFs hI1 hI2
      have HFs := Lib.hid hFs
      have HI1 := Lib.hid hI1
      have HI2 := Lib.hid hI2
      have kx2 := X4.out.cell 2
      simp only [List.getElem?_toArray, List.getElem?_cons_succ, List.getElem?_cons_zero] at kx2
      clear hcell hrv hFs hI1 hI2
      obtain ⟨O1, hO1⟩ : ∃ O, runS sg (regsTo offs mx B j) x = O := ⟨_, rfl⟩
      have HO1 := Lib.hid hO1
      have HO1B := Lib.hid (show ∀ k, -268435455 ≤ O1.getD k 0 ∧ O1.getD k 0 ≤ 268435455 from by rw [← hO1]; exact runS_fit sg _ x HBX.out)
      have HO1L := Lib.hid (show O1.length = 256 from by rw [← hO1]; exact runS_len sg _ x HXL.out)
      rw [hO1] at hS
      have hS0 := hS
      have hG0 := hG
      clear hO1 hS hG
      go_wp2_with fail
      go_loopw [18, 53] (fun TV K wr' => ∃ i : Nat, K = .int .i64 i ∧ i ≤ fs.length ∧ TV = .int .i64 (topP mx fs i : Nat) ∧ Hid (Spoil wr' (some ⟨go, 0, none⟩) 256 co go (go + 1) ((runS sg (regsIn offs mx j fs i) O1).map (Value.int .i64))) ∧ StillG go w3.heap.size w3 wr') (fun _ K _ => fs.length - (intOf K).toNat)
      case atStart => exact ⟨0, rfl, Nat.zero_le _, rfl, hS0, hG0⟩
      case round =>
        obtain ⟨i, rfl, hi, rfl, hS, hG⟩ := hrel
        clear hS0 hG0 X4 r1 kx2 HW3
        have HW3 := Lib.hid (fun a (h1 : a.block < w.heap.size) => (hG.cell (a := a) (by omega) (by omega)).trans (hb3.cell h1))
        by_cases hli : i < fs.length
        · have hd2 : decide ((i : Int) < (fs.length : Int)) = true := decide_eq_true (by omega)
          obtain ⟨bf, of_, rfl, hbf, hcell⟩ := HI1.out.at hli
          obtain ⟨z0, z1, z2, z3, z4⟩ := hcell i hli
          have hR := regP_fit HOF.out hwj (fun k hk => (filt_len (HFs.out k hk)).1) hli
          have HNX := Lib.hid (runS_in_succ sg offs mx j fs i O1)
          have hfl := HFs.out i hli
          obtain ⟨T, hT⟩ : ∃ t, topP mx fs i = t := ⟨_, rfl⟩
          obtain ⟨Bo, hBo⟩ : ∃ t, topP mx fs (i + 1) = t := ⟨_, rfl⟩
          have hBT : Bo = botN T (fs.getD i default) := by rw [← hBo, ← hT]; rfl
          have HBO := Lib.hid hBo
          unfold regP at hR HNX
          rw [hT, hBo] at hR HNX
          rw [hT]
          obtain ⟨fv, hfv⟩ : ∃ f, fs.getD i default = f := ⟨_, rfl⟩
          rw [hfv] at hR HNX hfl hBT z0 z1 z2 z3 z4
          obtain ⟨flen, ford, fdown, ffine, fcs, fp, fc⟩ := fv
          have hIf := (HI2.out i hli).1
          rw [hfv] at hIf
          dsimp only at hR HNX hfl hBT hIf z0 z1 z2 z3 z4
          unfold botN at hBT
          dsimp only at hBT
          obtain ⟨hr1, hr2, hr3, hr4, hr5, hr6⟩ := hR
          obtain ⟨hf0, hf63⟩ := filt_len hfl
          have hTm : T ≤ mx := by rw [← hT]; exact topP_le mx fs (fun k hk => (filt_len (HFs.out k hk)).1) i (by omega)
          obtain ⟨vb, hvb⟩ : ∃ v, offs.getD Bo 0 = v := ⟨_, rfl⟩
          obtain ⟨vt, hvt⟩ : ∃ v, offs.getD T 0 = v := ⟨_, rfl⟩
          obtain ⟨bo, oo, hpo, hbo, hoc⟩ := HIF.out.at hr3
          obtain ⟨rfl, rfl⟩ : gf = bo ∧ 0 = oo := by simpa using hpo
          have y1 := (hG.cell (a := ⟨gf, 0 + Bo, none⟩) hbo hgfo).trans (hoc Bo hr3)
          have y2 := (hG.cell (a := ⟨gf, 0 + T, none⟩) hbo hgfo).trans (hoc T hr4)
          rw [Nat.zero_add] at y1 y2
          rw [hvb] at y1 hr1 hr5 HNX
          rw [hvt] at y2 hr1 hr2 hr6 HNX
          have z0 := (HW3.out ⟨bf, _, none⟩ hbf).trans z0
          have z1 := (HW3.out ⟨bf, _, none⟩ hbf).trans z1
          have z2 := (HW3.out ⟨bf, _, none⟩ hbf).trans z2
          have z3 := (HW3.out ⟨bf, _, none⟩ hbf).trans z3
          have z4 := (HW3.out ⟨bf, _, none⟩ hbf).trans z4
          have hHF := Lib.hid (hfl)
          have hIF' := Lib.hid hIf
          have v0 : IntKind.i64.wrap ((T : Int) - flen) = (T : Int) - flen := IntWalk.i64_in _ (by omega)
          clear hcell hfl hIf hfv hT hBo hpo hoc hvb hvt
          go_upto_region 13 with fail
          go_cut [21] from 57 to 61 (fun s21 wx => s21 = .int .i64 (Bo : Nat) ∧ wx = wr.alloc (.cells #[.int .i64 flen, .int .i64 ford, .bool fdown, .bool ffine, .slice fp fcs.length fc] 24))
          case first =>
            go_wp2_with fail
            all_goals
              go_meet
              exact ⟨by congr 1; omega, rfl⟩
          case rest =>
          obtain ⟨rfl, rfl⟩ := hcut
          obtain ⟨O2, hO2⟩ : ∃ O, runS sg (regsIn offs mx j fs i) O1 = O := ⟨_, rfl⟩
          have hO2B : ∀ k, -268435455 ≤ O2.getD k 0 ∧ O2.getD k 0 ≤ 268435455 := by rw [← hO2]; exact runS_fit sg _ O1 HO1B.out
          have hO2L : O2.length = 256 := by rw [← hO2]; exact runS_len sg _ O1 HO1L.out
          rw [hO2] at HNX hS
          have HO2 := Lib.hid (And.intro hO2B hO2L)
          obtain ⟨lo, hlo⟩ : ∃ n, 32 * j + vb.toNat = n := ⟨_, rfl⟩
          obtain ⟨hi2, hhi⟩ : ∃ n, 32 * j + vt.toNat = n := ⟨_, rfl⟩
          rw [hlo, hhi] at hr1 HNX
          rw [hhi] at hr2
          have q0 : IntKind.i64.wrap (32 * (j : Int)) = 32 * (j : Int) := IntWalk.i64_in _ (by omega)
          have q1 : IntKind.i64.wrap (32 * (j : Int) + vb) = (lo : Int) := by rw [IntWalk.i64_in _ (by omega)]; omega
          have q2 : IntKind.i64.wrap (32 * (j : Int) + vt) = (hi2 : Int) := by rw [IntWalk.i64_in _ (by omega)]; omega
          have q3 : (Bo : Int) < (offs.length : Int) := by omega
          have q4 : (T : Int) < (offs.length : Int) := by omega
          have q5 : (lo : Int) ≤ (hi2 : Int) := by omega
          have q6 : (hi2 : Int) ≤ (co : Int) := by omega
          have hb20 := (Below.refl wr.heap.size wr).alloc (Nat.le_refl _) (.cells #[.int .i64 flen, .int .i64 ford, .bool fdown, .bool ffine, .slice fp fcs.length fc] 24)
          have hsz := hG.size
          have y1 := (hb20.cell (p := ⟨gf, Bo, none⟩) (Nat.lt_of_lt_of_le hbo hsz)).trans y1
          have y2 := (hb20.cell (p := ⟨gf, T, none⟩) (Nat.lt_of_lt_of_le hbo hsz)).trans y2
          have X20 := Lib.hid (CellsAt.new wr 24 #[.int .i64 flen, .int .i64 ford, .bool fdown, .bool ffine, .slice fp fcs.length fc] rfl)
          obtain ⟨wa, hwa⟩ : ∃ w, wr.alloc (.cells #[.int .i64 flen, .int .i64 ford, .bool fdown, .bool ffine, .slice fp fcs.length fc] 24) = w := ⟨_, rfl⟩
          rw [hwa] at X20 hb20 y1 y2 ⊢
          have HB20 := Lib.hid hb20
          have HS := Lib.hid hS
          have HG := Lib.hid hG
          have hwz : wr.heap.size < wa.heap.size := X20.out.lt
          have hgf4 : gf < wr.heap.size := Nat.lt_of_lt_of_le hbo hsz
          have h0 := Lib.hid (show Below wa.heap.size wa wa.drew ∧ wa.drew.cell? ⟨gf, Bo, none⟩ = some (.int .i64 vb) ∧ wa.drew.cell? ⟨gf, T, none⟩ = some (.int .i64 vt) from ⟨below_drewN (Below.refl _ _) 1, y1, y2⟩)
          have HYS := Lib.hid (fun (W : World) (h : Below wa.heap.size wa W) => show Below wa.heap.size wa W ∧ W.cell? ⟨gf, Bo, none⟩ = some (.int .i64 vb) ∧ W.cell? ⟨gf, T, none⟩ = some (.int .i64 vt) from ⟨h, (h.cell (p := ⟨gf, Bo, none⟩) (by show gf < _; omega)).trans y1, (h.cell (p := ⟨gf, T, none⟩) (by show gf < _; omega)).trans y2⟩)
          clear hO2B hO2L hO2 hlo hhi hwa hb20 hS hG z0 z1 z2 z3 z4 hr5 hr6 hBT hf0 hf63 v0
          go_upto_region 14 with fail
          go_cut [22] from 62 to 77 (fun s22 wx => ∃ g22, s22 = .pointer (some ⟨g22, 0, none⟩) ∧ wa.heap.size ≤ g22 ∧ wx.cell? ⟨g22, 0, none⟩ = some (.slice (some ⟨go, if co = lo then 0 else lo, none⟩) (hi2 - lo) (co - lo)) ∧ Below wa.heap.size wa wx)
          case first =>
            by_cases hcl : co = lo
            · subst hcl
              go_region_held3 (fun W => Below wa.heap.size wa W ∧ W.cell? ⟨gf, Bo, none⟩ = some (.int .i64 vb) ∧ W.cell? ⟨gf, T, none⟩ = some (.int .i64 vt)) (first | assumption | exact h0.out | exact HYS.out _ (bx1 wa _) | exact HYS.out _ (bx2 wa _ _ _)) (fail)
              all_goals
                go_wp2_with fail
                go_meet
                exact ⟨_, rfl, Nat.le_refl _, by rw [if_pos trivial, Nat.sub_self]; exact cellNew wa _ _, bx1 wa _⟩
            · have hcl' : (co = lo) = False := eq_false hcl
              clear hcl
              go_region_held3 (fun W => Below wa.heap.size wa W ∧ W.cell? ⟨gf, Bo, none⟩ = some (.int .i64 vb) ∧ W.cell? ⟨gf, T, none⟩ = some (.int .i64 vt)) (first | assumption | exact h0.out | exact HYS.out _ (bx1 wa _) | exact HYS.out _ (bx2 wa _ _ _)) (fail)
              all_goals
                go_wp2_with fail
                go_meet
                exact ⟨_, rfl, Nat.le_refl _, by rw [show (if co = lo then 0 else lo) = lo from if_neg (by simp [hcl'])]; exact cellNew wa _ _, bx1 wa _⟩
          case rest =>
          obtain ⟨g22, rfl, hg22, h22, hb22⟩ := hcut
          have hz22 := hb22.size
          have h22l := block_lt h22
          have hp1 := hIF'.out
          have hb22' := HB20.out.trans (hb22.mono (Nat.le_of_lt hwz))
          have X21 := Lib.hid (X20.out.keep hb22 X20.out.lt)
          have hG22 := HG.out.trans (StillG.of hb22' |>.mono hsz)
          clear hb22 X20 HB20 h0 HYS y1 y2 q0 q1 q2 q3 q4 q5 q6
          go_upto_region 16 with fail
          have hgo4 : go < wr.heap.size := by omega
          have hgo22 : g22 ≠ go := by omega
          have hb0w := HG.out.below hb3 (Nat.le_of_lt hw3) (by omega)
          obtain ⟨wz, hwz2⟩ : ∃ w, wc.alloc (.cells #[atF wr.heap.size g22] 57) = w := ⟨_, rfl⟩
          have hbz : Below wc.heap.size wc wz := by rw [← hwz2]; exact (Below.refl _ wc).alloc (Nat.le_refl _) _
          have X23 := Lib.hid (show CellsAt wz wc.heap.size 57 #[atF wr.heap.size g22] from by rw [← hwz2]; exact CellsAt.new wc _ _ rfl)
          have X20 := Lib.hid (X21.out.keep hbz X21.out.lt)
          have h22z := (hbz.cell (p := ⟨g22, 0, none⟩) h22l).trans h22
          have hrz : Below wr.heap.size wr wz := hb22'.trans (hbz.mono hb22'.size)
          have hSz := Lib.hid (HS.out.keep hrz (by omega))
          have h0z := Lib.hid (hb0w.trans (hrz.mono hb0w.size))
          have hszz := hrz.size
          have hg22l : g22 < wz.heap.size := Nat.lt_of_lt_of_le h22l hbz.size
          have hg20l := X20.out.lt
          have hg23l := X23.out.lt
          obtain ⟨hcl1, hcl2, hcl3⟩ := filt_ok hHF.out
          have C1 := Lib.hid (fun (W : World) (h : Below wz.heap.size wz W) => tns_predict flen ford fdown ffine fcs fp fc hcl1.symm hcl2 hcl3 W (hp1.keep (h0z.out.trans (h.mono h0z.out.size))))
          have C2 := Lib.hid (fun (W : World) (h : Below wz.heap.size wz W) (ga : Nat) (l : List Int) (hga : wz.heap.size ≤ ga) (hA : CellsAt W ga 52 (valsL (coefP ffine fcs fcs.length ++ l))) =>
            tns_filter sg Hsg.out ⟨lo, hi2, fdown, coefP ffine fcs fcs.length⟩ O2 HO2.out.2 HO2.out.1 hr1 hr2 (by rw [coefP_len]; exact hcl2) (by rw [coefP_len]; exact coef_steady ffine fcs hcl2) ga 12 go co wr.heap.size g22 wc.heap.size (co - lo) (if co = lo then 0 else lo) (by rw [coefP_len]; exact hcl2) W
              (fun k hk => app_cell hA hk) (hSz.out.keep h (by omega))
              (((X20.out.keep h hg20l).cell 2).trans rfl) ((h.cell (p := ⟨g22, 0, none⟩) hg22l).trans h22z) (((X23.out.keep h hg23l).cell 0).trans rfl)
              (fun hm => by have h2 : lo < hi2 := Nat.lt_of_sub_pos hm; exact if_neg (by omega)) (by omega) (by omega) hgo22 (by omega))
          unfold Reg.many at C2
          dsimp only at C2
          rw [coefP_len] at C2
          rw [hwz2]
          have HSS := Lib.hid (fun (W : World) (h : StillG go wz.heap.size wz W) => show W.cell? ⟨wr.heap.size, 0, none⟩ = some (.int .i64 flen) ∧ W.cell? ⟨wr.heap.size, 1, none⟩ = some (.int .i64 ford) ∧ W.cell? ⟨wr.heap.size, 2, none⟩ = some (.bool fdown) ∧ W.cell? ⟨wr.heap.size, 3, none⟩ = some (.bool ffine) ∧ W.cell? ⟨wr.heap.size, 4, none⟩ = some (.slice fp fcs.length fc) ∧ W.cell? ⟨g22, 0, none⟩ = some (.slice (some ⟨go, if co = lo then 0 else lo, none⟩) (hi2 - lo) (co - lo)) from
            have hc := fun k => (h.cell (a := ⟨wr.heap.size, k, none⟩) hg20l (by show wr.heap.size ≠ go; omega)).trans (X20.out.cell k)
            ⟨(hc 0).trans rfl, (hc 1).trans rfl, (hc 2).trans rfl, (hc 3).trans rfl, (hc 4).trans rfl, (h.cell (a := ⟨g22, 0, none⟩) hg22l hgo22).trans h22z⟩)
          have h0 := Lib.hid (HSS.out _ (StillG.of (bx0 wz)))
          obtain ⟨oo, hoo⟩ : ∃ n, (if co = lo then 0 else lo) = n := ⟨_, rfl⟩
          rw [hoo] at HSS h0
          clear hwz2 hbz X21 h22 h22z hb22' hG22 hoo
          go_cut [21] from 79 to 86 (fun s21 wx => s21 = .int .i64 (Bo : Nat) ∧ Spoil wx (some ⟨go, 0, none⟩) 256 co go (go + 1) ((runS sg (regsIn offs mx j fs (i + 1)) O1).map (Value.int .i64)) ∧ StillG go wz.heap.size wz wx)
          case first =>
            go_region_held3 (fun W => W.cell? ⟨wr.heap.size, 0, none⟩ = some (.int .i64 flen) ∧ W.cell? ⟨wr.heap.size, 1, none⟩ = some (.int .i64 ford) ∧ W.cell? ⟨wr.heap.size, 2, none⟩ = some (.bool fdown) ∧ W.cell? ⟨wr.heap.size, 3, none⟩ = some (.bool ffine) ∧ W.cell? ⟨wr.heap.size, 4, none⟩ = some (.slice fp fcs.length fc) ∧ W.cell? ⟨g22, 0, none⟩ = some (.slice (some ⟨go, oo, none⟩) (hi2 - lo) (co - lo)))
              (first | assumption | exact h0.out | exact HSS.out _ (sgA hBc) | exact HSS.out _ (sgB hBc hGc))
              (first
                | (go_at_call 22; ((with_reducible refine (C1.out _ (bx0 wz)).mono ?_); rintro e w' ⟨ga, lA, rfl, hga, hCA, hBc⟩))
                | (go_at_call 37; ((with_reducible refine (C2.out _ (bxA hBc) ga lA (drle hga) hCA).mono ?_); rintro e w2 ⟨rfl, hSp, hGc⟩)))
            all_goals
              go_wp2_with fail
              go_meet
              exact ⟨rfl, by rw [HNX.out]; exact hSp, sgB hBc hGc⟩
          case rest =>
          obtain ⟨rfl, hSp, hGz⟩ := hcut
          have hGN := HG.out.trans ((StillG.of hrz).mono hsz |>.trans (hGz.mono (Nat.le_trans hsz hszz)))
          have HBN := Lib.hid (show topP mx fs (i + 1) = Bo from HBO.out)
          clear HSS h0 C1 C2 hGz HG HS hSz h0z hp1 hIF' HNX
          go_wp2_with fail
          go_round
          case rel => exact ⟨i + 1, by go_num, by omega, by rw [HBN.out], Lib.hid hSp, hGN⟩
          case measure => simp [intOf]; omega
        · have hkM : i = fs.length := by omega
          subst hkM
          go_wp2_with fail
          go_round
          case rel => exact ⟨j + 1, by go_num, by omega, Lib.hid (by rw [runS_to_succ, HRV.out, HO1.out]; exact hS.out), hG⟩
          case measure => simp [intOf]; omega
    · have hkM : j = B.length := by omega
      subst hkM
      have hle : (runS sg (regsTo offs mx B B.length) x).length = 256 := runS_len sg _ x HXL.out
      have hbl := hG.below hb3 (Nat.le_of_lt hw3) (Nat.le_of_lt hgo1)
      have HLE := Lib.hid hle
      have HBL := Lib.hid hbl
      clear hle hbl
      go_wp2_with fail
      go_ret2
      rw [HLE.out]
      exact ⟨_, _, _, _, rfl, hS.out, Nat.le_of_lt hgo1, HBL.out⟩
end Go.Proofs.Yteijlbblmdclaaa
