/- predict: the program's. -/
import Derived.Test.YteijlbblmdclaaaGP
import Derived.Test.YteijlbblmdclaaaArgs
import Derived.StillTailTactics
import Derived.Deep.RegionWith
set_option linter.unusedVariables false
set_option linter.unusedSimpArgs false
namespace Go.Proofs.Yteijlbblmdclaaa
open Go.ChangeShapes Go.WideShapes Go.ChangeAt Go.RowKit

theorem coef_step {fine : Bool} {cs L LA : List Int} {m : Nat} {K : Int} (hm : m < 12) (hL : coefP fine cs m ++ List.replicate (12 - m) 0 = L) (hS : coefP fine cs (m + 1) = nextL K (coefP fine cs m)) (hl : LA.length = 12)
    (h : ∀ j, j < 12 → LA.getD j 0 = if j < m then (nextL K (coefP fine cs m)).getD j 0 else L.getD j 0) : LA.set m K = coefP fine cs (m + 1) ++ List.replicate (12 - (m + 1)) 0 := by
  have hl1 := coefP_len fine cs (m + 1)
  have hl0 := coefP_len fine cs m
  apply List.ext_getElem (by rw [List.length_set, List.length_append, hl1, List.length_replicate, hl]; omega)
  intro j h1 h2
  have hj : j < 12 := by rw [List.length_set, hl] at h1; exact h1
  have e1 : (LA.set m K)[j] = (LA.set m K).getD j 0 := by rw [List.getD_eq_getElem?_getD, List.getElem?_eq_getElem h1]; rfl
  have e2 : (coefP fine cs (m + 1) ++ List.replicate (12 - (m + 1)) 0)[j] = (coefP fine cs (m + 1) ++ List.replicate (12 - (m + 1)) (0 : Int)).getD j 0 := by rw [List.getD_eq_getElem?_getD, List.getElem?_eq_getElem h2]; rfl
  rw [e1, e2]
  by_cases hjm : j = m
  · subst hjm
    rw [List.getD_eq_getElem?_getD, List.getElem?_set_self (by omega), List.getD_eq_getElem?_getD, List.getElem?_append_left (by omega), ← List.getD_eq_getElem?_getD, hS]
    have := nextL_last K (coefP fine cs j)
    rw [hl0] at this
    rw [this]; rfl
  · rw [List.getD_eq_getElem?_getD, List.getElem?_set_ne (fun e => hjm e.symm), ← List.getD_eq_getElem?_getD, h j hj]
    by_cases hlt : j < m
    · rw [if_pos hlt, ← hS, List.getD_eq_getElem?_getD, List.getD_eq_getElem?_getD, List.getElem?_append_left (by omega)]
    · rw [if_neg hlt, ← hL, List.getD_eq_getElem?_getD, List.getD_eq_getElem?_getD, List.getElem?_append_right (by omega), List.getElem?_append_right (by omega), hl0, hl1, List.getElem?_replicate_of_lt (by omega), List.getElem?_replicate_of_lt (by omega)]
theorem pad_get {fine : Bool} {cs L : List Int} {m : Nat} (hL : coefP fine cs m ++ List.replicate (12 - m) 0 = L) {j : Nat} (hj : j < m) : L.getD j 0 = (coefP fine cs m).getD j 0 := by
  rw [← hL, List.getD_eq_getElem?_getD, List.getElem?_append_left (by rw [coefP_len]; exact hj), List.getD_eq_getElem?_getD]

set_option maxRecDepth 100000 in
set_option maxHeartbeats 4000000 in
theorem tns_predict (len order : Int) (down fine : Bool) (cs : List Int) (p : Option Addr) (c : Nat) (ho : order = cs.length) (hl : cs.length ≤ 12) (hc : ∀ j, j < cs.length → -8 ≤ cs.getD j 0 ∧ cs.getD j 0 ≤ 7) (w : World) (hI : IsInts w p cs) :
    Calls Try.prog 22 #[.agg #[.int .i64 len, .int .i64 order, .bool down, .bool fine, .slice p cs.length c]] w fun e w' => ∃ g l, e = .returned (.slice (some ⟨g, 0, none⟩) cs.length 12) ∧ w.heap.size ≤ g ∧ CellsAt w' g 52 (valsL (coefP fine cs cs.length ++ l)) ∧ Below w.heap.size w w' := by
  have HI := Lib.hid hI
  have HC := Lib.hid hc
  have HMI := Lib.hid (fun m (h : m < cs.length) W => tns_mirror (cs.getD m 0) fine (hc m h).1 (hc m h).2 W)
  have HS := Lib.hid (fun m => show coefP fine cs (m + 1) = nextL (mirL (cs.getD m 0) fine) (coefP fine cs m) from rfl)
  have HK := Lib.hid (fun m => mirL_range (cs.getD m 0) fine)
  have HL := Lib.hid (coefP_len fine cs)
  have HF := Lib.hid (fun m h j => coefP_fit12 fine cs (m := m) h j)
  have hsz12 : (Try.prog.info? 52).map (·.size) = some 12 := by kernel_rfl
  have HSZ := Lib.hid hsz12
  have HAR : Hid ((Try.prog.underlying 52) = some (.array 12 3)) := Lib.hid (by kernel_rfl)
  clear hI hc hsz12
  subst ho
  go_enter Try.func22, Try.ntmps22
  go_wp2_with fail
  go_loopw [5, 6, 7, 8, 12] (fun _ _ _ _ I wr => ∃ (m : Nat) (LB : List Int), I = .int .i64 m ∧ m ≤ cs.length ∧ Hid (CellsAt wr w.heap.size 24 #[.int .i64 len, .int .i64 cs.length, .bool down, .bool fine, .slice p cs.length c]) ∧ Hid (CellsAt wr (w.heap.size + 1) 52 (valsL (coefP fine cs m ++ List.replicate (12 - m) 0))) ∧ Hid (CellsAt wr (w.heap.size + 1 + 1) 52 (valsL LB) ∧ LB.length = 12) ∧ Below w.heap.size w wr) (fun _ _ _ _ I _ => cs.length - (intOf I).toNat)
  case atStart =>
    refine ⟨0, List.replicate 12 0, rfl, Nat.zero_le _, Lib.hid (((CellsAt.new _ _ _ rfl).alloc _).alloc _), Lib.hid ((CellsAt.new _ _ _ (by simp)).alloc _), Lib.hid ⟨CellsAt.new _ _ _ (by simp), rfl⟩, (((Below.refl _ _).alloc (Nat.le_refl _) _).alloc (by simp) _).alloc (by simp; omega) _⟩
  case round =>
    obtain ⟨m, LB, rfl, hm, hG, hA, hB, hb⟩ := hrel
    have k3 := hG.out.cell 3
    have k4 := hG.out.cell 4
    have k1 := hG.out.cell 1
    simp only [List.getElem?_toArray, List.getElem?_cons_succ, List.getElem?_cons_zero] at k3 k4 k1
    by_cases hlt : m < cs.length
    · have hd : decide ((m : Int) < (cs.length : Int)) = true := decide_eq_true (by omega)
      obtain ⟨bp, op, rfl, _, qp⟩ := (HI.out.keep hb).at hlt
      have rp := qp m hlt
      have HM2 := Lib.hid (HMI.out m hlt)
      have HS2 := Lib.hid (HS.out m)
      have HK2 := HK.out m
      obtain ⟨x, hx⟩ : ∃ x, cs.getD m 0 = x := ⟨_, rfl⟩
      rw [hx] at rp HM2 HS2 HK2
      obtain ⟨K, hK⟩ : ∃ K, mirL x fine = K := ⟨_, rfl⟩
      unfold RInt at HM2
      rw [hK] at HM2 HS2 HK2
      clear qp hx hK
      go_wp2_with fail
      refine (HM2.out _).mono ?_
      rintro e w1 ⟨rfl, hB1⟩
      have hb1 := hb.trans (hB1.mono hb.size)
      have G1 := Lib.hid (hG.out.keep hB1 hG.out.lt)
      have A1 := Lib.hid (hA.out.keep hB1 hA.out.lt)
      have B1 := Lib.hid (show CellsAt w1 _ _ _ ∧ _ from ⟨hB.out.1.keep hB1 hB.out.1.lt, hB.out.2⟩)
      obtain ⟨L, hL⟩ : ∃ L, coefP fine cs m ++ List.replicate (12 - m) 0 = L := ⟨_, rfl⟩
      have hL12 : L.length = 12 := by rw [← hL, List.length_append, HL.out, List.length_replicate]; omega
      have HLe := Lib.hid hL
      have HL12 := Lib.hid hL12
      rw [hL] at A1
      obtain ⟨x0, x1, x2, x3, x4, x5, x6, x7, x8, x9, x10, x11, hLx⟩ := twelve hL12
      have HLx := Lib.hid hLx
      have A0 := A1.out
      rw [hLx] at A0
      have ca0 := A0.int (j := 0) (by simp)
      have ca1 := A0.int (j := 1) (by simp)
      have ca2 := A0.int (j := 2) (by simp)
      have ca3 := A0.int (j := 3) (by simp)
      have ca4 := A0.int (j := 4) (by simp)
      have ca5 := A0.int (j := 5) (by simp)
      have ca6 := A0.int (j := 6) (by simp)
      have ca7 := A0.int (j := 7) (by simp)
      have ca8 := A0.int (j := 8) (by simp)
      have ca9 := A0.int (j := 9) (by simp)
      have ca10 := A0.int (j := 10) (by simp)
      have ca11 := A0.int (j := 11) (by simp)
      simp only [List.getD_cons_zero, List.getD_cons_succ] at ca0 ca1 ca2 ca3 ca4 ca5 ca6 ca7 ca8 ca9 ca10 ca11
      have cb0 := B1.out.1.int (j := 0) (by rw [B1.out.2]; simp)
      have cb1 := B1.out.1.int (j := 1) (by rw [B1.out.2]; simp)
      have cb2 := B1.out.1.int (j := 2) (by rw [B1.out.2]; simp)
      have cb3 := B1.out.1.int (j := 3) (by rw [B1.out.2]; simp)
      have cb4 := B1.out.1.int (j := 4) (by rw [B1.out.2]; simp)
      have cb5 := B1.out.1.int (j := 5) (by rw [B1.out.2]; simp)
      have cb6 := B1.out.1.int (j := 6) (by rw [B1.out.2]; simp)
      have cb7 := B1.out.1.int (j := 7) (by rw [B1.out.2]; simp)
      have cb8 := B1.out.1.int (j := 8) (by rw [B1.out.2]; simp)
      have cb9 := B1.out.1.int (j := 9) (by rw [B1.out.2]; simp)
      have cb10 := B1.out.1.int (j := 10) (by rw [B1.out.2]; simp)
      have cb11 := B1.out.1.int (j := 11) (by rw [B1.out.2]; simp)
      have fb0 := B1.out.1.frozen 0
      have fb1 := B1.out.1.frozen 1
      have fb2 := B1.out.1.frozen 2
      have fb3 := B1.out.1.frozen 3
      have fb4 := B1.out.1.frozen 4
      have fb5 := B1.out.1.frozen 5
      have fb6 := B1.out.1.frozen 6
      have fb7 := B1.out.1.frozen 7
      have fb8 := B1.out.1.frozen 8
      have fb9 := B1.out.1.frozen 9
      have fb10 := B1.out.1.frozen 10
      have fb11 := B1.out.1.frozen 11
      have hb2 := Lib.hid (below_setAll (g := w.heap.size + 1 + 1) (by omega) (L.map (Value.int .i64)) 0 hb1)
      have G2 := Lib.hid (G1.out.otherAll (k := w.heap.size + 1 + 1) (by omega) (L.map (Value.int .i64)) 0)
      have A2 := Lib.hid (A1.out.otherAll (k := w.heap.size + 1 + 1) (by omega) (L.map (Value.int .i64)) 0)
      have B2 := Lib.hid (B1.out.1.setAll (L.map (Value.int .i64)) 0)
      rw [setVals_whole _ _ (by rw [valsL_size, B1.out.2, hL12])] at B2
      clear hG hA hB hb hB1 k3 k4 k1 HM2 hL hL12 A0 A1 B1 G1 hb1
      go_wp2_with fail
      clear ca0 ca1 ca2 ca3 ca4 ca5 ca6 ca7 ca8 ca9 ca10 ca11 fb0 fb1 fb2 fb3 fb4 fb5 fb6 fb7 fb8 fb9 fb10 fb11 cb0 cb1 cb2 cb3 cb4 cb5 cb6 cb7 cb8 cb9 cb10 cb11
      have hm12 : m < 12 := by omega
      go_loopw [8, 23] (fun _ I wr => ∃ (i : Nat) (LA : List Int), I = .int .i64 i ∧ i ≤ m ∧ Hid (CellsAt wr w.heap.size 24 #[.int .i64 len, .int .i64 cs.length, .bool down, .bool fine, .slice (some ⟨bp, op, none⟩) cs.length c]) ∧ Hid (CellsAt wr (w.heap.size + 1) 52 (valsL LA)) ∧ Hid (LA.length = 12 ∧ ∀ j, j < 12 → LA.getD j 0 = if j < i then (nextL K (coefP fine cs m)).getD j 0 else L.getD j 0) ∧ Hid (CellsAt wr (w.heap.size + 1 + 1) 52 (valsL L)) ∧ Hid (Below w.heap.size w wr)) (fun _ I _ => m - (intOf I).toNat)
      case atStart =>
        refine ⟨0, L, rfl, Nat.zero_le _, Lib.hid ?_, Lib.hid ?_, Lib.hid ⟨HL12.out, fun j hj => by rw [if_neg (by omega)]⟩, Lib.hid ?_, Lib.hid ?_⟩
        · have h := G2.out; rw [HLx.out] at h; exact h
        · have h := A2.out; rw [HLx.out] at h ⊢; exact h
        · have h := B2.out; rw [HLx.out] at h ⊢; exact h
        · have h := hb2.out; rw [HLx.out] at h; exact h
      case round =>
        obtain ⟨i, LA, rfl, hi, hG, hA, hLA, hB, hbq⟩ := hrel
        clear G2 A2 B2 hb2
        by_cases hli : i < m
        · have hd2 : decide ((i : Int) < (m : Int)) = true := decide_eq_true (by omega)
          have hc1 := hB.out.int (j := i) (by rw [HL12.out]; omega)
          have hc2 := hB.out.int (j := m - 1 - i) (by rw [HL12.out]; omega)
          have hcA := hA.out.int (j := i) (by rw [hLA.out.1]; omega)
          have hfA := hA.out.frozen i
          rw [pad_get HLe.out hli] at hc1
          rw [pad_get HLe.out (by omega)] at hc2
          have b1 := HF.out m (by omega) i
          have b2 := HF.out m (by omega) (m - 1 - i)
          have HN := Lib.hid (nextL_get K (coefP fine cs m) (i := i) (by rw [HL.out]; exact hli))
          rw [HL.out] at HN
          obtain ⟨u, hu⟩ : ∃ u, (coefP fine cs m).getD i 0 = u := ⟨_, rfl⟩
          obtain ⟨v, hv⟩ : ∃ v, (coefP fine cs m).getD (m - 1 - i) 0 = v := ⟨_, rfl⟩
          rw [hu] at hc1 b1 HN
          rw [hv] at hc2 b2 HN
          have hp := rnd_prod HK2.1 HK2.2 b2.1 b2.2
          have HR := Lib.hid (fun W => tns_rounded (K * v) 20 20 rfl (by omega) (by omega) (by decide) W)
          obtain ⟨R, hR⟩ : ∃ R, rnd (K * v) 20 = R := ⟨_, rfl⟩
          rw [hR] at hp HR HN
          have t1 : IntKind.i64.wrap (K * v) = K * v := IntWalk.i64_in _ (by omega)
          have t2 : IntKind.i64.wrap (u + R) = u + R := IntWalk.i64_in _ (by omega)
          have t3 : IntKind.i64.wrap ((m : Int) - 1) = (m : Int) - 1 := IntWalk.i64_in _ (by omega)
          have t4 : IntKind.i64.wrap ((m : Int) - 1 - (i : Int)) = (m : Int) - 1 - (i : Int) := IntWalk.i64_in _ (by omega)
          have t5 : ((m : Int) - 1 - (i : Int)).toNat = m - 1 - i := by omega
          have t6 : (0 : Int) ≤ (m : Int) - 1 - (i : Int) := by omega
          have t7 : (m : Int) - 1 - (i : Int) < 12 := by omega
          have t8 : (i : Int) < 12 := by omega
          have hLA2 := Lib.hid (show (LA.set i (u + R)).length = 12 ∧ ∀ j, j < 12 → (LA.set i (u + R)).getD j 0 = if j < i + 1 then (nextL K (coefP fine cs m)).getD j 0 else L.getD j 0 from ⟨by rw [List.length_set]; exact hLA.out.1, fun j hj => by
            by_cases e : j = i
            · subst e; rw [List.getD_eq_getElem?_getD, List.getElem?_set_self (by rw [hLA.out.1]; omega), if_pos (by omega), HN.out]; rfl
            · rw [List.getD_eq_getElem?_getD, List.getElem?_set_ne (fun e' => e e'.symm), ← List.getD_eq_getElem?_getD, hLA.out.2 j hj]
              by_cases e2 : j < i
              · rw [if_pos e2, if_pos (by omega)]
              · rw [if_neg e2, if_neg (by omega)]⟩)
          have HA2 := Lib.hid (fun k => ((hA.out.drewN k).set i (.int .i64 (u + R))))
          simp only [valsL_set] at HA2
          have hG2 := Lib.hid (fun k => ((hG.out.drewN k).other ⟨w.heap.size + 1, i, none⟩ (show w.heap.size ≠ w.heap.size + 1 by omega) (.int .i64 (u + R))))
          have hB2 := Lib.hid (fun k => ((hB.out.drewN k).other ⟨w.heap.size + 1, i, none⟩ (show w.heap.size + 1 + 1 ≠ w.heap.size + 1 by omega) (.int .i64 (u + R))))
          have hbq2 := Lib.hid (fun k => (below_drewN hbq.out k).setCell (p := ⟨w.heap.size + 1, i, none⟩) (show w.heap.size ≤ w.heap.size + 1 by omega) (.int .i64 (u + R)))
          obtain ⟨a0, ha0⟩ : ∃ a0, LA.getD i 0 = a0 := ⟨_, rfl⟩
          rw [ha0] at hcA
          clear hLA hA hG hB hbq hu hv HN hp hR ha0
          go_wp2_with fail
          go_region_with (go_at_call 31; refine (HR.out _).mono ?_; rintro e w3 ⟨rfl, kk, rfl⟩)
          all_goals
            go_wp2
            exact ⟨⟨i + 1, _, by go_num, by omega, Lib.hid (hG2.out _), Lib.hid (HA2.out _), hLA2, Lib.hid (hB2.out _), Lib.hid (hbq2.out _)⟩, by simp [intOf]; omega⟩
        · have him : i = m := by omega
          subst him
          have hd2 : decide ((i : Int) < (i : Int)) = false := by simp
          have t8 : (i : Int) < 12 := by omega
          have hcA := hA.out.int (j := i) (by rw [hLA.out.1]; omega)
          have hfA := hA.out.frozen i
          have HA2 := hA.out.set i (.int .i64 K)
          rw [valsL_set, coef_step hm12 HLe.out HS2.out hLA.out.1 hLA.out.2] at HA2
          have HA3 := Lib.hid HA2
          have hG2 := Lib.hid (hG.out.other ⟨w.heap.size + 1, i, none⟩ (show w.heap.size ≠ w.heap.size + 1 by omega) (.int .i64 K))
          have hB2 := Lib.hid (hB.out.other ⟨w.heap.size + 1, i, none⟩ (show w.heap.size + 1 + 1 ≠ w.heap.size + 1 by omega) (.int .i64 K))
          have hbq2 := Lib.hid (hbq.out.setCell (p := ⟨w.heap.size + 1, i, none⟩) (show w.heap.size ≤ w.heap.size + 1 by omega) (.int .i64 K))
          obtain ⟨a0, ha0⟩ : ∃ a0, LA.getD i 0 = a0 := ⟨_, rfl⟩
          rw [ha0] at hcA
          clear hLA hA hG hB hbq ha0 HA2
          go_wp2
          exact ⟨⟨i + 1, L, by go_num, by omega, hG2, HA3, Lib.hid ⟨hB2.out, HL12.out⟩, hbq2.out⟩, by simp [intOf]; omega⟩
    · have hmn : m = cs.length := by omega
      subst hmn
      have hd : decide ((cs.length : Int) < (cs.length : Int)) = false := by simp
      have t8 : (cs.length : Int) ≤ 12 := by omega
      have HA2 := hA
      have hzl : wr.heap.size = wr.heap.size := rfl
      clear hlt hzl
      go_wp2
      go_ret
      exact ⟨_, _, rfl, Nat.le_succ _, hA.out, hb⟩
end Go.Proofs.Yteijlbblmdclaaa
