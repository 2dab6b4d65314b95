/- QuantCoarser: the walk. -/
import Derived.Test.YtppfbfiigfjncaaQCoarseP
import Derived.Test.YtppfbfiigfjncaaRowGrow
import Derived.Test.YtppfbfiigfjncaaQAlive
import Derived.Test.YtppfbfiigfjncaaQGreat
import Derived.Test.YtppfbfiigfjncaaOpenRows
import Derived.Deep.CutRange
import Derived.Deep.QuietTactic
set_option linter.unusedVariables false
set_option linter.unusedSimpArgs false
namespace Go.Proofs.Ytppfbfiigfjncaa
open Go.ChangeShapes Go.WideShapes Go.ChangeAt Go.RowKit
theorem take_get (l : List Int) {i : Nat} (h : i < l.length) : l.take (i + 1) = l.take i ++ [l.getD i 0] := by
  rw [List.take_succ_eq_append_getElem h, List.getD_eq_getElem?_getD, List.getElem?_eq_getElem h]; rfl
theorem last_set {l : List Int} {i : Nat} (h : l.length = i) (u s : Int) : ((l ++ [u]).map (Value.int .i64)).set i (.int .i64 s) = (l ++ [s]).map (Value.int .i64) := by
  subst h; simp
set_option maxRecDepth 100000 in
set_option maxHeartbeats 8000000 in
theorem quant_coarser (rate seq shape max : Int) (G : List Int) (pg qb qs px : Option Addr) (cg cb cs cx : Nat) (Bk St : List RV) (x : List Int) (more : Int) (w : World) (H0 : QArg w G pg Bk qb St qs x px) (hby : 0 ≤ more ∧ more ≤ 255) :
    Calls Try.prog 6 #[.int .i64 rate, .agg (infoC seq shape max pg G.length cg), .slice qb Bk.length cb, .slice qs St.length cs, .slice px x.length cx, .int .u8 more] w fun e w' => e = .returned (.bool true) ∧ Below w.heap.size w w' := by
  obtain ⟨i0, hi, hz0, hz1, hz2⟩ := info_parts Try.infoInt
  have hb0 : Below w.heap.size w (w.alloc (.cells (infoC seq shape max pg G.length cg) 27)) := (Below.refl _ w).alloc (Nat.le_refl _) _
  have X0 := Lib.hid (CellsAt.new w 27 (infoC seq shape max pg G.length cg) rfl)
  have HH := Lib.hid H0
  have HB0 := Lib.hid hb0
  have HBY := Lib.hid hby
  clear hb0 H0 hby
  go_enter Try.func6, Try.ntmps6
  go_wp2_with fail
  refine (alive_ok _).mono ?_
  rintro e w1 ⟨rfl, hB⟩
  have HB1 := Lib.hid (HB0.out.trans (hB.mono HB0.out.size))
  have X1 := Lib.hid (X0.out.keep hB X0.out.lt)
  have k1_0 := X1.out.cell 0
  have k1_1 := X1.out.cell 1
  have k1_2 := X1.out.cell 2
  have k1_3 := X1.out.cell 3
  simp only [infoC, List.getElem?_toArray, List.getElem?_cons_zero, List.getElem?_cons_succ] at k1_0 k1_1 k1_2 k1_3
  clear hB HB0 X0
  go_wp2_with fail
  have HH1 := HH.out.keep HB1.out
  refine (q_great seq shape max G pg qb qs px cg cb cs cx Bk St x w1 HH1.b HH1.s HH1.lb HH1.ls).mono ?_
  rintro e w2 ⟨b, rfl, hgr, hB⟩
  have HB2 := Lib.hid (HB1.out.trans (hB.mono HB1.out.size))
  have X2 := Lib.hid (X1.out.keep hB X1.out.lt)
  have k2_0 := X2.out.cell 0
  have k2_1 := X2.out.cell 1
  have k2_2 := X2.out.cell 2
  have k2_3 := X2.out.cell 3
  simp only [infoC, List.getElem?_toArray, List.getElem?_cons_zero, List.getElem?_cons_succ] at k2_0 k2_1 k2_2 k2_3
  clear hB HB1 X1 HH1 k1_0 k1_1 k1_2 k1_3
  cases b
  · obtain ⟨lg, lbk, lst, lx⟩ := hgr rfl
    have HH2 := HH.out.keep HB2.out
    have HQX := Lib.hid (quan_any rate seq shape max G pg qb qs px cg cb cs cx Bk St x w2 HH2.g lg HH2.b lbk HH2.s lst HH2.x lx)
    have HLL := Lib.hid (fun (y : List Int) (py : Option Addr) (cy : Nat) (S2 : List RV) (q2 : Option Addr) (c2 : Nat) (W : World) (h : Below w2.heap.size w2 W) (hs : IsRows W q2 S2) (hsl : S2.length = St.length) (hy : IsInts W py y) (hl : y.length = 256) => lines_any rate seq shape max G pg qb q2 py cg cb c2 cy Bk S2 y W (HH2.keep h).g lg (HH2.keep h).b lbk hs (by omega) hy (by omega))
    have HQQ := Lib.hid (fun (y : List Int) (py : Option Addr) (cy : Nat) (S2 : List RV) (q2 : Option Addr) (c2 : Nat) (W : World) (h : Below w2.heap.size w2 W) (hs : IsRows W q2 S2) (hsl : S2.length = St.length) (hy : IsInts W py y) (hl : y.length = 256) => quan_any rate seq shape max G pg qb q2 py cg cb c2 cy Bk S2 y W (HH2.keep h).g lg (HH2.keep h).b lbk hs (by omega) hy (by omega))
    have HXI := Lib.hid HH2.x
    have HST := Lib.hid HH2.s
    clear hgr HH2 lg lbk
    by_cases hE : readyQ 268435455 rate seq shape max G Bk St x = 0
    · have hg := qgood (by decide) hE
      have HG := Lib.hid hg
      rw [quantR_good hg] at HQX
      obtain ⟨Q, hQ⟩ : ∃ l, rowQ quanF rate seq max G Bk St x = l := ⟨_, rfl⟩
      have hQl : Q.length = 256 := by rw [← hQ, rowQ_len]
      have HQE := Lib.hid hQ
      have hxl : x.length = 256 := hg.xl
      have HSR := Lib.hid (show ∀ g, g < St.length → (St.getD g default).l.length ≤ 60 by
        intro g hgs
        have h1 := hg.sr g (by have := hg.sl; omega)
        have h2 := hg.m1
        have h3 := (band_len rate (seq == 2) hg.r0 hg.r1).2.1
        have h4 := hg.m0
        split at h3 <;> omega)
      rw [hQ] at HQX
      rw [hxl] at HQX ⊢
      clear hg hQ hE
      go_wp2_with fail
      refine (HQX.out.mono (fun e w' h => h.row)).mono ?_
      rw [hQl]
      rintro e w3 ⟨pQ, cQ, rfl, hI3, hB3⟩
      have X3 := Lib.hid (X2.out.keep hB3 X2.out.lt)
      have HYQ := Lib.hid hI3
      have HB3 := Lib.hid hB3
      have HST3 := Lib.hid (HST.out.keep hB3)
      have vby : IntKind.i64.wrap more = more := IntWalk.i64_in _ (by have := HBY.out; omega)
      have R0 := Lib.hid (RowsG.nil w3 w3.heap.size)
      have Z0 := Lib.hid (Below.refl w3.heap.size w3)
      clear hI3 hB3 HQX X2 k2_0 k2_1 k2_2 k2_3 HST
      go_wp2_with fail
      go_loopw [16, 17, 18, 19] (fun V K _ _ wr => ∃ (k : Nat) (R : List RV), K = .int .i64 k ∧ k ≤ St.length ∧ R.length = k ∧ Hid (RowsG wr w3.heap.size V R) ∧ Hid (∀ j, j < k → (R.getD j default).l = coarL more (St.getD j default).l) ∧ Hid (Below w3.heap.size w3 wr)) (fun _ K _ _ _ => St.length - (intOf K).toNat)
      case atStart => exact ⟨0, [], rfl, Nat.zero_le _, rfl, R0, fun j hj => by omega, Z0⟩
      case round =>
        obtain ⟨k, R, rfl, hk, hRl, hRG, hRC, hbo⟩ := hrel
        clear R0 Z0
        obtain ⟨wo, hwo⟩ : ∃ z, z = wr := ⟨_, rfl⟩
        subst hwo
        by_cases hklt : k < St.length
        · have hd : decide ((k : Int) < (St.length : Int)) = true := decide_eq_true (by omega)
          have hself := Lib.hid (Below.refl wo.heap.size wo)
          have hlen := HSR.out k hklt
          go_wp2_with fail
          go_loopw [18, 19] (fun V I wr => ∃ i : Nat, I = .int .i64 i ∧ i ≤ (St.getD k default).l.length ∧ Hid (wr.ownsRow wo.heap.size 3 1 V ((coarL more (St.getD k default).l).take i).length (((coarL more (St.getD k default).l).take i).map (Value.int .i64))) ∧ Hid (Below wo.heap.size wo wr)) (fun _ I _ => (St.getD k default).l.length - (intOf I).toNat)
          case atStart => exact ⟨0, rfl, Nat.zero_le _, Lib.hid (World.ownsRow_nil _ _ _ _), hself⟩
          case round =>
            obtain ⟨i, rfl, hii, hown, hb⟩ := hrel
            obtain ⟨bs, os_, rfl, hbs, y1, hI1⟩ := (HST3.out.keep hbo.out).at hklt
            obtain ⟨rv, hrv⟩ : ∃ r, St.getD k default = r := ⟨_, rfl⟩
            rw [hrv] at y1 hI1 hii hlen hown ⊢
            have HRV := Lib.hid hrv
            obtain ⟨qr, cr, l⟩ := rv
            dsimp only at y1 hI1 hii hlen hown ⊢
            by_cases hli : i < l.length
            · have hd2 : decide ((i : Int) < (l.length : Int)) = true := decide_eq_true (by omega)
              obtain ⟨bl, ol, rfl, hbl, hcl⟩ := hI1.at hli
              have y2 := hcl i hli
              have hCi := coarL_get more l hli
              have hcn : (coarL more l).length = l.length := by unfold coarL; rw [List.length_map]
              have hT := take_get (coarL more l) (i := i) (by omega)
              have hTl : ((coarL more l).take i).length = i := by rw [List.length_take]; omega
              rw [hCi] at hT
              have HT := Lib.hid hT
              have HTl := Lib.hid hTl
              obtain ⟨s, hs⟩ : ∃ v, l.getD i 0 = v := ⟨_, rfl⟩
              rw [hs] at y2 HT
              obtain ⟨P, hP⟩ : ∃ P, (coarL more l).take i = P := ⟨_, rfl⟩
              rw [hP] at HT HTl hown
              have HCV := Lib.hid (show coarV more s = if 255 < s then s else min (IntKind.i64.wrap (s + more)) 255 from rfl)
              obtain ⟨z, hz⟩ : ∃ z, IntKind.i64.wrap (s + more) = z := ⟨_, rfl⟩
              rw [hz] at HCV
              have r1 := (hb.out.cell (p := ⟨bs, _, none⟩) hbs).trans y1
              have r2 := (hb.out.cell (p := ⟨bl, _, none⟩) hbl).trans y2
              clear hcl hCi hcn hT hTl hs hP hrv hI1
              rcases coar_ways s z with ⟨m1, m2, hv⟩ | ⟨m1, m2, hv⟩ | ⟨m1, m2, hv⟩ | ⟨m1, m2, hv⟩
              · rw [hv] at HCV
                rw [HCV.out] at HT
                have d1 : decide (s > 255) = false := decide_eq_false m1
                have hown1 := hown.out.alloc (.cells #[.int .i64 z] 3)
                have hb1 := hb.out.alloc hb.out.size (.cells #[.int .i64 z] 3)
                have hl0 := Lib.hid hown.out.lt
                have hsz := hb.out.size
                clear hv hown hb
                go_wp2_with (at_builtin; refine wpList_append_own _ rfl _ _ 22 rfl wo.heap.size 3 i0 (.int .i64 0) 1 8 Try.underlying22 hi hz0 hz1 hz2 rfl (by decide) _ _ _ rfl hown1 ⟨wr.heap.size, 0, none⟩ 1 1 [.int .i64 z] rfl rfl (cell_one_new _ _ _) (one_int _) ?c3 ?c4 ?c5 ?_)
                case c3 => rw [HTl.out]; unfold maxLen; omega
                case c4 => rw [HTl.out]; omega
                case c5 => first | (simp; omega) | omega
                intro v' wA hown' hg _
                have hb2 : Below wo.heap.size wo wA := hb1.grown hg (by simp; omega) (fun j hj => (hl0.out j hj).1)
                have r1 := (hb2.cell (p := ⟨bs, _, none⟩) hbs).trans y1
                have r2 := (hb2.cell (p := ⟨bl, _, none⟩) hbl).trans y2
                have hownU : wA.ownsRow wo.heap.size 3 1 v' (P ++ [z]).length ((P ++ [z]).map (Value.int .i64)) := by
                  rw [List.map_append, List.length_append]
                  simpa using hown'
                have hPU : (P ++ [z]).length = i + 1 := by rw [List.length_append, HTl.out]; rfl
                clear hown' hg hb1 hown1
                have HOU := Lib.hid hownU
                rw [← HT.out] at HOU
                have HB2 := Lib.hid hb2
                clear hownU hb2 hPU
                go_wp2
                exact ⟨⟨i + 1, by go_num, by omega, HOU, HB2⟩, by simp [intOf]; omega⟩
              · rw [hv] at HCV
                rw [HCV.out] at HT
                have d1 : decide (s > 255) = false := decide_eq_false m1
                have hown1 := hown.out.alloc (.cells #[.int .i64 255] 3)
                have hb1 := hb.out.alloc hb.out.size (.cells #[.int .i64 255] 3)
                have hl0 := Lib.hid hown.out.lt
                have hsz := hb.out.size
                clear hv hown hb
                go_wp2_with (at_builtin; refine wpList_append_own _ rfl _ _ 22 rfl wo.heap.size 3 i0 (.int .i64 0) 1 8 Try.underlying22 hi hz0 hz1 hz2 rfl (by decide) _ _ _ rfl hown1 ⟨wr.heap.size, 0, none⟩ 1 1 [.int .i64 255] rfl rfl (cell_one_new _ _ _) (one_int _) ?c3 ?c4 ?c5 ?_)
                case c3 => rw [HTl.out]; unfold maxLen; omega
                case c4 => rw [HTl.out]; omega
                case c5 => first | (simp; omega) | omega
                intro v' wA hown' hg _
                have hb2 : Below wo.heap.size wo wA := hb1.grown hg (by simp; omega) (fun j hj => (hl0.out j hj).1)
                have r1 := (hb2.cell (p := ⟨bs, _, none⟩) hbs).trans y1
                have r2 := (hb2.cell (p := ⟨bl, _, none⟩) hbl).trans y2
                have hownU : wA.ownsRow wo.heap.size 3 1 v' (P ++ [255]).length ((P ++ [255]).map (Value.int .i64)) := by
                  rw [List.map_append, List.length_append]
                  simpa using hown'
                have hPU : (P ++ [255]).length = i + 1 := by rw [List.length_append, HTl.out]; rfl
                clear hown' hg hb1 hown1
                have HOU := Lib.hid hownU
                rw [← HT.out] at HOU
                have HB2 := Lib.hid hb2
                clear hownU hb2 hPU
                go_wp2
                exact ⟨⟨i + 1, by go_num, by omega, HOU, HB2⟩, by simp [intOf]; omega⟩
              · rw [hv] at HCV
                rw [HCV.out] at HT
                have d1 : decide (s > 255) = true := decide_eq_true m1
                have hown1 := hown.out.alloc (.cells #[.int .i64 z] 3)
                have hb1 := hb.out.alloc hb.out.size (.cells #[.int .i64 z] 3)
                have hl0 := Lib.hid hown.out.lt
                have hsz := hb.out.size
                clear hv hown hb
                go_wp2_with (at_builtin; refine wpList_append_own _ rfl _ _ 22 rfl wo.heap.size 3 i0 (.int .i64 0) 1 8 Try.underlying22 hi hz0 hz1 hz2 rfl (by decide) _ _ _ rfl hown1 ⟨wr.heap.size, 0, none⟩ 1 1 [.int .i64 z] rfl rfl (cell_one_new _ _ _) (one_int _) ?c3 ?c4 ?c5 ?_)
                case c3 => rw [HTl.out]; unfold maxLen; omega
                case c4 => rw [HTl.out]; omega
                case c5 => first | (simp; omega) | omega
                intro v' wA hown' hg _
                have hb2 : Below wo.heap.size wo wA := hb1.grown hg (by simp; omega) (fun j hj => (hl0.out j hj).1)
                have r1 := (hb2.cell (p := ⟨bs, _, none⟩) hbs).trans y1
                have r2 := (hb2.cell (p := ⟨bl, _, none⟩) hbl).trans y2
                have hownU : wA.ownsRow wo.heap.size 3 1 v' (P ++ [z]).length ((P ++ [z]).map (Value.int .i64)) := by
                  rw [List.map_append, List.length_append]
                  simpa using hown'
                have hPU : (P ++ [z]).length = i + 1 := by rw [List.length_append, HTl.out]; rfl
                clear hown' hg hb1 hown1
                obtain ⟨g, cap, rfl, hg1, hg2⟩ := owns_shape hownU (by rw [hPU]; omega)
                have q1 := hownU.cellAt i (by rw [hPU]; omega)
                have q2 := hownU.frozenAt i
                rw [row_get _ i (Nat.zero_le _) (by rw [hPU]; omega)] at q1
                have hst := (hownU.stored i (.int .i64 s)).1
                rw [last_set HTl.out] at hst
                have HST9 := Lib.hid (show (wA.setCell ⟨g, i, none⟩ (.int .i64 s)).ownsRow wo.heap.size 3 1 (.slice (some ⟨g, 0, none⟩) (i + 1) cap) ((coarL more l).take (i + 1)).length (((coarL more l).take (i + 1)).map (Value.int .i64)) by
                  rw [HT.out, show (P ++ [s]).length = i + 1 by rw [← hPU]; simp]
                  rw [hPU] at hst
                  exact hst)
                have HB2 := Lib.hid (hb2.setCell (p := ⟨g, i, none⟩) hg1 (.int .i64 s))
                obtain ⟨u, hu⟩ : ∃ u, (P ++ [z]).getD i 0 = u := ⟨_, rfl⟩
                rw [hu] at q1
                rw [hPU]
                clear hownU hb2 hPU hst hu
                go_wp2
                exact ⟨⟨i + 1, by go_num, by omega, HST9, HB2⟩, by simp [intOf]; omega⟩
              · rw [hv] at HCV
                rw [HCV.out] at HT
                have d1 : decide (s > 255) = true := decide_eq_true m1
                have hown1 := hown.out.alloc (.cells #[.int .i64 255] 3)
                have hb1 := hb.out.alloc hb.out.size (.cells #[.int .i64 255] 3)
                have hl0 := Lib.hid hown.out.lt
                have hsz := hb.out.size
                clear hv hown hb
                go_wp2_with (at_builtin; refine wpList_append_own _ rfl _ _ 22 rfl wo.heap.size 3 i0 (.int .i64 0) 1 8 Try.underlying22 hi hz0 hz1 hz2 rfl (by decide) _ _ _ rfl hown1 ⟨wr.heap.size, 0, none⟩ 1 1 [.int .i64 255] rfl rfl (cell_one_new _ _ _) (one_int _) ?c3 ?c4 ?c5 ?_)
                case c3 => rw [HTl.out]; unfold maxLen; omega
                case c4 => rw [HTl.out]; omega
                case c5 => first | (simp; omega) | omega
                intro v' wA hown' hg _
                have hb2 : Below wo.heap.size wo wA := hb1.grown hg (by simp; omega) (fun j hj => (hl0.out j hj).1)
                have r1 := (hb2.cell (p := ⟨bs, _, none⟩) hbs).trans y1
                have r2 := (hb2.cell (p := ⟨bl, _, none⟩) hbl).trans y2
                have hownU : wA.ownsRow wo.heap.size 3 1 v' (P ++ [255]).length ((P ++ [255]).map (Value.int .i64)) := by
                  rw [List.map_append, List.length_append]
                  simpa using hown'
                have hPU : (P ++ [255]).length = i + 1 := by rw [List.length_append, HTl.out]; rfl
                clear hown' hg hb1 hown1
                obtain ⟨g, cap, rfl, hg1, hg2⟩ := owns_shape hownU (by rw [hPU]; omega)
                have q1 := hownU.cellAt i (by rw [hPU]; omega)
                have q2 := hownU.frozenAt i
                rw [row_get _ i (Nat.zero_le _) (by rw [hPU]; omega)] at q1
                have hst := (hownU.stored i (.int .i64 s)).1
                rw [last_set HTl.out] at hst
                have HST9 := Lib.hid (show (wA.setCell ⟨g, i, none⟩ (.int .i64 s)).ownsRow wo.heap.size 3 1 (.slice (some ⟨g, 0, none⟩) (i + 1) cap) ((coarL more l).take (i + 1)).length (((coarL more l).take (i + 1)).map (Value.int .i64)) by
                  rw [HT.out, show (P ++ [s]).length = i + 1 by rw [← hPU]; simp]
                  rw [hPU] at hst
                  exact hst)
                have HB2 := Lib.hid (hb2.setCell (p := ⟨g, i, none⟩) hg1 (.int .i64 s))
                obtain ⟨u, hu⟩ : ∃ u, (P ++ [255]).getD i 0 = u := ⟨_, rfl⟩
                rw [hu] at q1
                rw [hPU]
                clear hownU hb2 hPU hst hu
                go_wp2
                exact ⟨⟨i + 1, by go_num, by omega, HST9, HB2⟩, by simp [intOf]; omega⟩
            · have hil : i = l.length := by omega
              subst hil
              have hd2 : decide ((l.length : Int) < (l.length : Int)) = false := by simp
              have hcn : (coarL more l).length = l.length := by unfold coarL; rw [List.length_map]
              have hown2 := hown.out
              rw [List.take_of_length_le (by omega)] at hown2
              obtain ⟨qn, cn, rfl, hIB⟩ := owns_any hown2
              obtain ⟨M, hM⟩ : ∃ M, coarL more l = M := ⟨_, rfl⟩
              rw [hM] at hIB
              have hfar := RowFar.of (r := ⟨qn, cn, M⟩) (fun g hg => (hRG.out.own.lt g hg).2) hIB
              have ha := (Below.refl wr.heap.size wr).alloc (Nat.le_refl _) (.cells #[.slice qn M.length cn] 22)
              have HRG3 := Lib.hid ((hRG.out.keep hb.out).keep ha)
              have HFAR := Lib.hid (hfar.keep ha)
              have hsz0 := hbo.out.size
              have hsz1 := hb.out.size
              have hba := Lib.hid ((hbo.out.trans (hb.out.mono hsz0)).trans (ha.mono (by omega)))
              have r1 := (hb.out.cell (p := ⟨bs, _, none⟩) hbs).trans y1
              have HCM := Lib.hid hM
              have HCE := Lib.hid (show (wr.alloc (.cells #[.slice qn M.length cn] 22)).cell? ⟨wr.heap.size, 0, none⟩ = some (RV.val ⟨qn, cn, M⟩) from (CellsAt.new wr 22 #[.slice qn M.length cn] rfl).cell 0)
              rw [hM]
              clear hown hown2 hIB hfar ha hRG hcn hM y1 hI1 hrv hli hii
              go_wp2_with (at_builtin; go_loud (refine append_row rfl _ _ rfl w3.heap.size _ R rfl HRG3.out ⟨qn, cn, M⟩ HFAR.out wr.heap.size rfl HCE.out ?c3 ?c4 ?_))
              case c3 => omega
              case c4 => first | (simp; omega) | omega
              intro V' wB hRN hBN
              have HRN := Lib.hid hRN
              have HBN := Lib.hid (hba.out.trans hBN)
              have HRC2 := Lib.hid (show ∀ j, j < k + 1 → ((R ++ [(⟨qn, cn, M⟩ : RV)]).getD j default).l = coarL more (St.getD j default).l by
                intro j hj
                by_cases e : j < R.length
                · rw [show (R ++ [(⟨qn, cn, M⟩ : RV)]).getD j default = R.getD j default by rw [List.getD_eq_getElem?_getD, List.getElem?_append_left e, ← List.getD_eq_getElem?_getD]]
                  exact hRC.out j (by omega)
                · obtain rfl : j = R.length := by omega
                  rw [show (R ++ [(⟨qn, cn, M⟩ : RV)]).getD R.length default = (⟨qn, cn, M⟩ : RV) by rw [List.getD_eq_getElem?_getD, List.getElem?_append_right (Nat.le_refl _)]; simp]
                  rw [hRl, HRV.out]
                  exact HCM.out.symm)
              have hRl2 : (R ++ [(⟨qn, cn, M⟩ : RV)]).length = k + 1 := by rw [List.length_append, hRl]; rfl
              clear hRN hBN hba HRG3 HFAR hRC
              go_wp2
              exact ⟨⟨k + 1, R ++ [(⟨qn, cn, M⟩ : RV)], by go_num, by omega, hRl2, HRN, HRC2, HBN⟩, by simp [intOf]; omega⟩
        · have hkS : k = St.length := by omega
          subst hkS
          have hd : decide ((St.length : Int) < (St.length : Int)) = false := by simp
          obtain ⟨qG, cG, rfl, hIR⟩ := hRG.out.isRows
          have hcoar : IsCoar more St R := ⟨hRl, fun g hg => hRC.out g hg⟩
          have hg := HG.out
          have hg2 := coar_good hg HBY.out hcoar
          have hgQ : QGood 8191 rate seq shape max G Bk St Q := by rw [← HQE.out]; exact quan_good hg hg
          have hgQ2 := coar_good hgQ HBY.out hcoar
          have hgN := neg_good hg hg
          obtain ⟨RQ, hRQ⟩ : ∃ l, rowQ quanF rate seq max G Bk R x = l := ⟨_, rfl⟩
          obtain ⟨NQ, hNQ⟩ : ∃ l, rowQ quanF rate seq max G Bk St (negL x) = l := ⟨_, rfl⟩
          obtain ⟨A1, hA1⟩ : ∃ l, rowQ lineF rate seq max G Bk St Q = l := ⟨_, rfl⟩
          obtain ⟨A2, hA2⟩ : ∃ l, rowQ lineF rate seq max G Bk R Q = l := ⟨_, rfl⟩
          have hRQl : RQ.length = 256 := by rw [← hRQ, rowQ_len]
          have hNQl : NQ.length = 256 := by rw [← hNQ, rowQ_len]
          have hA1l : A1.length = 256 := by rw [← hA1, rowQ_len]
          have hA2l : A2.length = 256 := by rw [← hA2, rowQ_len]
          have D1 := Lib.hid (show quantR quanF 268435455 rate seq shape max G Bk R x = (RQ, 0) by rw [quantR_good hg2, hRQ])
          have D2 := Lib.hid (show quantR quanF 268435455 rate seq shape max G Bk St (negL x) = (NQ, 0) by rw [quantR_good hgN, hNQ])
          have D3 := Lib.hid (show quantR lineF 8191 rate seq shape max G Bk St Q = (A1, 0) by rw [quantR_good hgQ, hA1])
          have D4 := Lib.hid (show quantR lineF 8191 rate seq shape max G Bk R Q = (A2, 0) by rw [quantR_good hgQ2, hA2])
          have HSA := Lib.hid (show ∀ j, j < 256 → farI (RQ.getD j 0) 0 ≤ farI (Q.getD j 0) 0 by
            intro j hj
            rw [← hRQ, ← HQE.out]; exact coar_quant hg HBY.out hcoar hg j hj)
          have HSB := Lib.hid (show ∀ j, j < 256 → farI (A1.getD j 0) 0 ≤ farI (A2.getD j 0) 0 by
            intro j hj
            rw [← hA1, ← hA2]; exact coar_line hg HBY.out hcoar hgQ j hj)
          have HSC := Lib.hid (show ∀ j, j < 256 → NQ.getD j 0 = -Q.getD j 0 by
            intro j hj
            rw [← hNQ, ← HQE.out]; exact neg_quant hg hg j hj)
          have HBR := Lib.hid (show ∀ j, -8191 ≤ RQ.getD j 0 ∧ RQ.getD j 0 ≤ 8191 by rw [← hRQ]; exact (quan_good hg2 hg2).xb)
          have HBQ := Lib.hid hgQ.xb
          have HB1' := Lib.hid (show ∀ j, -268435455 ≤ A1.getD j 0 ∧ A1.getD j 0 ≤ 268435455 by rw [← hA1]; exact (lines_good hg hgQ).xb)
          have HB2' := Lib.hid (show ∀ j, -268435455 ≤ A2.getD j 0 ∧ A2.getD j 0 ≤ 268435455 by rw [← hA2]; exact (lines_good hg2 hgQ2).xb)
          have HXB := Lib.hid hg.xb
          have HIR := Lib.hid hIR
          have HRL := Lib.hid hRl
          clear hRl
          clear hg hg2 hgQ hgQ2 hgN hRQ hNQ hA1 hA2 hIR hRG hRC hcoar HSR hklt
          go_wp2_with (at_make; refine make_row rfl _ _ rfl 256 (by omega) rfl rfl ?_; intro w7 hlt7 hO7 hB7)
          obtain ⟨g0, hg0⟩ : ∃ n, wo.heap.size = n := ⟨_, rfl⟩
          rw [hg0] at hlt7 hO7 hB7 ⊢
          have HG0 := Lib.hid hg0
          have S7 := Lib.hid (show Spoil w7 (some ⟨g0, 0, none⟩) 256 256 g0 (g0 + 1) (List.replicate 256 (.int .i64 0)) from ⟨by simp, hlt7, fun _ => ⟨g0, rfl, Nat.le_refl _, Nat.lt_succ_self _, hO7⟩⟩)
          have Z7 := Lib.hid (show ∀ j, 0 ≤ j → j < 256 → (List.replicate 256 (Value.int .i64 0))[j]? = some (.int .i64 ((List.replicate 256 (0 : Int)).getD j 0)) by intro j _ hj; rw [zero_row]; exact row_get _ j (Nat.zero_le _) (by simpa using hj))
          have HB7 := Lib.hid hB7
          have HXO := Lib.hid (HXI.out.keep (HB3.out.trans (hbo.out.mono HB3.out.size)))
          clear hO7 hB7 hlt7 hg0
          skip
          go_loopw [21] (fun I wr => ∃ (k : Nat) (xs : List Value), I = .int .i64 k ∧ k ≤ 256 ∧ Hid (Spoil wr (some ⟨g0, 0, none⟩) 256 256 g0 (g0 + 1) xs) ∧ Hid (∀ j, k ≤ j → j < 256 → xs[j]? = some (.int .i64 ((List.replicate 256 (0 : Int)).getD j 0))) ∧ Hid (∀ j, j < k → xs[j]? = some (.int .i64 (-x.getD j 0))) ∧ Hid (Below g0 wo wr)) (fun I _ => 256 - (intOf I).toNat)
          case atStart => exact ⟨0, _, rfl, Nat.zero_le _, S7, Z7, fun j hj => by omega, HB7⟩
          case round =>
            obtain ⟨k, xs, rfl, hk, hS, hxs, hys, hbw⟩ := hrel
            clear S7 Z7 HB7
            by_cases hklt : k < 256
            · have hd : decide ((k : Int) < 256) = true := decide_eq_true (by omega)
              obtain ⟨g, hgp, hg1, hg2, hc, hf, hnext⟩ := hS.out.at hklt
              obtain rfl : g0 = g := by injection hgp with h1; injection h1
              rw [hxs.out k (Nat.le_refl _) hklt] at hc
              obtain ⟨z, hz⟩ : ∃ z, (List.replicate 256 (0 : Int)).getD k 0 = z := ⟨_, rfl⟩
              rw [hz] at hc
              have hbw6 : Below wo.heap.size wo wr := by rw [HG0.out]; exact hbw.out
              obtain ⟨bq, oq, rfl, _, hq⟩ := (HXO.out.keep hbw6).at (j := k) (by omega)
              have r1 := hq k (by omega)
              have hxb := HXB.out k
              have HNX := Lib.hid (hnext (.int .i64 (-x.getD k 0)))
              have HXN := Lib.hid (row_set hxs.out (.int .i64 (-x.getD k 0)))
              have HYN := Lib.hid (fill_step (f := fun j => -x.getD j 0) hS.out.1 hklt hys.out (v := -x.getD k 0) rfl)
              have HBN := Lib.hid (hbw.out.setCell (p := ⟨g0, k, none⟩) (Nat.le_refl _) (.int .i64 (-x.getD k 0)))
              obtain ⟨y, hy⟩ : ∃ y, x.getD k 0 = y := ⟨_, rfl⟩
              rw [hy] at r1 hxb HNX HXN HBN
              have HYY := Lib.hid hy
              have v1 : IntKind.i64.wrap (-y) = -y := IntWalk.i64_in _ (by omega)
              have hself := HG0.out
              clear hgp hq hz hy hbw6 hnext hS hxs hys hbw
              go_wp2
              exact ⟨⟨k + 1, _, by go_num, by omega, HNX, HXN, Lib.hid (by have := HYN.out; rw [HYY.out] at this; exact this), HBN⟩, by simp [intOf]; omega⟩
            · have hk256 : k = 256 := by omega
              subst hk256
              have hbw6 : Below wo.heap.size wo wr := by rw [HG0.out]; exact hbw.out
              have hfill := fill_eq (f := fun j => -x.getD j 0) hS.out.1 hys.out
              have hS2 := hS.out
              rw [hfill] at hS2
              have hO : IsInts wr (some ⟨g0, 0, none⟩) (negL x) := hS2.ints.ints
              have hb3r := hbo.out.trans (hbw6.mono hbo.out.size)
              have XB := Lib.hid (X3.out.keep hb3r X3.out.lt)
              have k0 := XB.out.cell 0
              have k1 := XB.out.cell 1
              have k2 := XB.out.cell 2
              have k3 := XB.out.cell 3
              simp only [infoC, List.getElem?_toArray, List.getElem?_cons_zero, List.getElem?_cons_succ] at k0 k1 k2 k3
              have YQ := Lib.hid (HYQ.out.keep hb3r)
              have YR := Lib.hid (HIR.out.keep hbw6)
              have YS := Lib.hid (HST3.out.keep hb3r)
              have YX := Lib.hid (HXO.out.keep hbw6)
              have YO := Lib.hid hO
              have HBB := Lib.hid (HB3.out.trans (hb3r.mono HB3.out.size))
              clear hS hxs hys hbw hbw6 hfill hS2 hO hb3r X3 HB3 HYQ HIR HST3 HXO HXI hbo hklt
              have HC1 := Lib.hid (HQQ.out x px cx R qG cG _ HBB.out YR.out HRL.out YX.out hxl)
              rw [D1.out, hxl] at HC1
              go_wp2_with fail
              refine (HC1.out.mono (fun e w' h => h.row)).mono ?_
              rw [hRQl]
              rintro e wa ⟨pR, cR, rfl, hI1, hB1⟩
              have YRQ := Lib.hid hI1
              have HBB := Lib.hid (HBB.out.trans (hB1.mono HBB.out.size))
              have YQ := Lib.hid (YQ.out.keep hB1)
              have YR := Lib.hid (YR.out.keep hB1)
              have YS := Lib.hid (YS.out.keep hB1)
              have YO := Lib.hid (YO.out.keep hB1)
              have XB := Lib.hid (XB.out.keep hB1 XB.out.lt)
              have k0 := XB.out.cell 0
              have k1 := XB.out.cell 1
              have k2 := XB.out.cell 2
              have k3 := XB.out.cell 3
              simp only [infoC, List.getElem?_toArray, List.getElem?_cons_zero, List.getElem?_cons_succ] at k0 k1 k2 k3
              clear hI1 hB1 HC1
              have HC2 := Lib.hid (HQQ.out (negL x) (some ⟨g0, 0, none⟩) 256 St qs cs _ HBB.out YS.out rfl YO.out (neg_len x))
              rw [D2.out, neg_len] at HC2
              go_wp2_with fail
              refine (HC2.out.mono (fun e w' h => h.row)).mono ?_
              rw [hNQl]
              rintro e wb ⟨pN, cN, rfl, hI2, hB2⟩
              have YNQ := Lib.hid hI2
              have HBB := Lib.hid (HBB.out.trans (hB2.mono HBB.out.size))
              have YQ := Lib.hid (YQ.out.keep hB2)
              have YR := Lib.hid (YR.out.keep hB2)
              have YS := Lib.hid (YS.out.keep hB2)
              have YRQ := Lib.hid (YRQ.out.keep hB2)
              have XB := Lib.hid (XB.out.keep hB2 XB.out.lt)
              have k0 := XB.out.cell 0
              have k1 := XB.out.cell 1
              have k2 := XB.out.cell 2
              have k3 := XB.out.cell 3
              simp only [infoC, List.getElem?_toArray, List.getElem?_cons_zero, List.getElem?_cons_succ] at k0 k1 k2 k3
              clear hI2 hB2 HC2
              have HC3 := Lib.hid (HLL.out Q pQ cQ St qs cs _ HBB.out YS.out rfl YQ.out hQl)
              rw [D3.out, hQl] at HC3
              go_wp2_with fail
              refine (HC3.out.mono (fun e w' h => h.row)).mono ?_
              rw [hA1l]
              rintro e wc ⟨p1, c1, rfl, hI3, hB3⟩
              have YA1 := Lib.hid hI3
              have HBB := Lib.hid (HBB.out.trans (hB3.mono HBB.out.size))
              have YQ := Lib.hid (YQ.out.keep hB3)
              have YR := Lib.hid (YR.out.keep hB3)
              have YRQ := Lib.hid (YRQ.out.keep hB3)
              have YNQ := Lib.hid (YNQ.out.keep hB3)
              have XB := Lib.hid (XB.out.keep hB3 XB.out.lt)
              have k0 := XB.out.cell 0
              have k1 := XB.out.cell 1
              have k2 := XB.out.cell 2
              have k3 := XB.out.cell 3
              simp only [infoC, List.getElem?_toArray, List.getElem?_cons_zero, List.getElem?_cons_succ] at k0 k1 k2 k3
              clear hI3 hB3 HC3
              have HC4 := Lib.hid (HLL.out Q pQ cQ R qG cG _ HBB.out YR.out HRL.out YQ.out hQl)
              rw [D4.out, hQl] at HC4
              go_wp2_with fail
              refine (HC4.out.mono (fun e w' h => h.row)).mono ?_
              rw [hA2l]
              rintro e wd ⟨p2, c2, rfl, hI4, hB4⟩
              have YA2 := Lib.hid hI4
              have HBB := Lib.hid (HBB.out.trans (hB4.mono HBB.out.size))
              have YQ := Lib.hid (YQ.out.keep hB4)
              have YRQ := Lib.hid (YRQ.out.keep hB4)
              have YNQ := Lib.hid (YNQ.out.keep hB4)
              have YA1 := Lib.hid (YA1.out.keep hB4)
              have XB := Lib.hid (XB.out.keep hB4 XB.out.lt)
              have k0 := XB.out.cell 0
              have k1 := XB.out.cell 1
              have k2 := XB.out.cell 2
              have k3 := XB.out.cell 3
              simp only [infoC, List.getElem?_toArray, List.getElem?_cons_zero, List.getElem?_cons_succ] at k0 k1 k2 k3
              clear hI4 hB4 HC4
              have HE := Lib.hid (HB2.out.trans (HBB.out.mono HB2.out.size))
              clear HBB XB k0 k1 k2 k3 YR HQQ HLL
              go_wp2_with fail
              go_loopw [30] (fun I wq => ∃ k m : Nat, I = .int .i64 k ∧ k ≤ 256 ∧ wq = wd.drewN m) (fun I _ => 256 - (intOf I).toNat)
              case atStart => exact ⟨0, 0, rfl, Nat.zero_le _, rfl⟩
              case round =>
                obtain ⟨k, m, rfl, hk, rfl⟩ := hrel
                by_cases hklt : k < 256
                · have hd : decide ((k : Int) < 256) = true := decide_eq_true (by omega)
                  have zRQ := YRQ.out.drewN m
                  have zQ := YQ.out.drewN m
                  have zNQ := YNQ.out.drewN m
                  have zA1 := YA1.out.drewN m
                  have zA2 := YA2.out.drewN m
                  obtain ⟨wo2, hwo2⟩ : ∃ z, wd.drewN m = z := ⟨_, rfl⟩
                  rw [hwo2] at zRQ zQ zNQ zA1 zA2 ⊢
                  have HWO := Lib.hid hwo2
                  obtain ⟨b0, o0, rfl, _, h0⟩ := zRQ.at (j := k) (by omega)
                  have r1 := h0 k (by omega)
                  obtain ⟨b1, o1, rfl, _, h1⟩ := zQ.at (j := k) (by omega)
                  have r2 := h1 k (by omega)
                  obtain ⟨b2, o2, rfl, _, h2⟩ := zNQ.at (j := k) (by omega)
                  have r3 := h2 k (by omega)
                  obtain ⟨b3, o3, rfl, _, h3⟩ := zA1.at (j := k) (by omega)
                  have r4 := h3 k (by omega)
                  obtain ⟨b4, o4, rfl, _, h4⟩ := zA2.at (j := k) (by omega)
                  have r5 := h4 k (by omega)
                  have hsa := HSA.out k hklt
                  have hsb := HSB.out k hklt
                  have hsc := HSC.out k hklt
                  have hq8 := HBQ.out k
                  have F1 := Lib.hid (fun W => far_same (RQ.getD k 0) 0 (by have := HBR.out k; omega) (by decide) W)
                  have F2 := Lib.hid (fun W => far_same (Q.getD k 0) 0 (by have := HBQ.out k; omega) (by decide) W)
                  have F3 := Lib.hid (fun W => far_same (A2.getD k 0) 0 (HB2'.out k) (by decide) W)
                  have F4 := Lib.hid (fun W => far_same (A1.getD k 0) 0 (HB1'.out k) (by decide) W)
                  rw [hsc] at r3
                  obtain ⟨vr, h⟩ : ∃ v, RQ.getD k 0 = v := ⟨_, rfl⟩
                  rw [h] at r1 F1 hsa
                  clear h
                  obtain ⟨vq, h⟩ : ∃ v, Q.getD k 0 = v := ⟨_, rfl⟩
                  rw [h] at r2 F2 hsa r3 hq8
                  clear h
                  obtain ⟨vb, h⟩ : ∃ v, A2.getD k 0 = v := ⟨_, rfl⟩
                  rw [h] at r5 F3 hsb
                  clear h
                  obtain ⟨va, h⟩ : ∃ v, A1.getD k 0 = v := ⟨_, rfl⟩
                  rw [h] at r4 F4 hsb
                  clear h
                  obtain ⟨fr, h⟩ : ∃ v, farI vr 0 = v := ⟨_, rfl⟩
                  rw [h] at F1 hsa
                  clear h
                  obtain ⟨fq, h⟩ : ∃ v, farI vq 0 = v := ⟨_, rfl⟩
                  rw [h] at F2 hsa
                  clear h
                  obtain ⟨fb, h⟩ : ∃ v, farI vb 0 = v := ⟨_, rfl⟩
                  rw [h] at F3 hsb
                  clear h
                  obtain ⟨fa, h⟩ : ∃ v, farI va 0 = v := ⟨_, rfl⟩
                  rw [h] at F4 hsb
                  clear h
                  have e1 : decide (fq < fr) = false := decide_eq_false (by omega)
                  have e2 : decide (fb < fa) = false := decide_eq_false (by omega)
                  have e3 : ¬ fq < fr := by omega
                  have e4 : ¬ fb < fa := by omega
                  have v1 : IntKind.i64.wrap (-vq) = -vq := IntWalk.i64_in _ (by omega)
                  clear h0 h1 h2 h3 h4 zRQ zQ zNQ zA1 zA2 hsc hwo2
                  go_wp2_with fail
                  have hkI : (k : Int) < 256 := by omega
                  go_quiet ((go_at_call 18; first | (with_reducible exact Calls.quiet_of_same (F1.out _)) | (with_reducible exact Calls.quiet_of_same (F2.out _)) | (with_reducible exact Calls.quiet_of_same (F3.out _)) | (with_reducible exact Calls.quiet_of_same (F4.out _))))
                  go_wp2_with fail
                  exact ⟨⟨k + 1, m + nq, by go_num, by omega, by rw [← HWO.out, World.drewN_drewN]⟩, by simp [intOf]; omega⟩
                · have hd : decide ((k : Int) < 256) = false := decide_eq_false (by omega)
                  go_wp2
                  go_ret
                  exact ⟨rfl, below_drewN HE.out _⟩
    · rw [quantR_bad hE] at HQX
      obtain ⟨E, hEE⟩ : ∃ e, readyQ 268435455 rate seq shape max G Bk St x = e := ⟨_, rfl⟩
      rw [hEE] at hE HQX
      have f1 : (E != 0) = true := by simp [hE]
      clear hE hEE
      go_wp2_with fail
      refine (HQX.out.mono (fun e w' h => h.row)).mono ?_
      rintro e w3 ⟨p3, d3, rfl, hI3, hB3⟩
      have HB3 := Lib.hid (HB2.out.trans (hB3.mono HB2.out.size))
      clear hI3 hB3 HQX X2
      go_wp2
      go_ret
      exact ⟨rfl, HB3.out⟩
  · clear hgr
    go_wp2
    go_ret
    exact ⟨rfl, HB2.out⟩
end Go.Proofs.Ytppfbfiigfjncaa
