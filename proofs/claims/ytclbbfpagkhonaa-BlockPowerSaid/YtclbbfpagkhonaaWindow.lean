/- block.Window: what each call answers. -/
import Derived.Test.YtclbbfpagkhonaaPieces
set_option linter.unusedVariables false
namespace Go.Proofs.Ytclbbfpagkhonaa
open Go.ChangeShapes Go.WideShapes Go.ChangeAt Go.RowKit

def noughtL : List Int := List.replicate 112 0
theorem noughtL_len : noughtL.length = 112 := by simp [noughtL]
def pieceL (was shape p : Int) : List Int :=
  if p = 0 then hvL was false else if p = 1 then hvL was true else if p = 2 then repL 4194304 else if p = 3 then (hvL shape true).reverse else if p = 4 then (hvL shape false).reverse else noughtL
theorem pieceL_len (was shape p : Int) : 1 ≤ (pieceL was shape p).length ∧ (pieceL was shape p).length ≤ 256 := by
  have := hv_pos was false; have := hv_pos was true; have := hv_pos shape false; have := hv_pos shape true
  unfold pieceL
  split
  · omega
  split
  · omega
  split
  · rw [repL_len]; omega
  split
  · rw [List.length_reverse]; omega
  split
  · rw [List.length_reverse]; omega
  · rw [noughtL_len]; omega
def winK (l : List Int) (was shape : Int) : Nat → List Int
  | 0 => []
  | k + 1 => winK l was shape k ++ pieceL was shape (l.getD k 0)
theorem winK_len (l : List Int) (was shape : Int) : ∀ k, (winK l was shape k).length ≤ 256 * k
  | 0 => by simp [winK]
  | k + 1 => by
    have := winK_len l was shape k
    have := (pieceL_len was shape (l.getD k 0)).2
    simp only [winK, List.length_append]
    omega
def winL (seq was shape : Int) : List Int := winK (piecesL seq) was shape (piecesL seq).length
/-- A row of the call's own is put behind another. -/
theorem append_row {w : World} {ops : Array Oper} {rest : List Oper} {o : Oper} {a : Act} {Q : Exit → Act → World → Prop} (hgd : o.guard = none) (s x : Operand)
    (ho : o.op = .call { callee := .builtin .append, args := #[s, x], argTypes := #[23, 23] }) (base : Nat)
    (v : Value) (L0 : List Int) (hs : a.eval s = v) (hown : w.ownsRow base 3 1 v L0.length (L0.map (Value.int .i64)))
    (g m : Nat) (l : List Int) (hx : a.eval x = .slice (some ⟨g, 0, none⟩) m m) (base2 : Nat) (hI : w.ownsRow base2 3 1 (.slice (some ⟨g, 0, none⟩) m m) m (l.map (Value.int .i64))) (hm : l.length = m) (hL0 : L0.length ≤ 4096) (hl : l.length ≤ 4096) (hbase : base ≤ w.heap.size) (w0 : World) (hb : Below base w0 w)
    (h : ∀ v' w', w'.ownsRow base 3 1 v' (L0 ++ l).length ((L0 ++ l).map (Value.int .i64)) → Below base w0 w' → wpList Try.prog ops Q rest (a.put o.dst v') w') : wpList Try.prog ops Q (o :: rest) a w := by
  obtain ⟨i0, hi, hz0, hz1, hz2⟩ := info_parts Try.infoInt
  have hl0 := hown.lt
  refine wpList_append_own w hgd s x _ ho base 3 i0 (.int .i64 0) 1 8 Try.underlying23 hi hz0 hz1 hz2 rfl (by decide) v L0.length (L0.map (Value.int .i64)) hs hown ⟨g, 0, none⟩ m m (l.map (Value.int .i64)) hx (by simp [hm]) ?_ (by simp [Value.oneCell']) (by unfold maxLen; omega) (by omega) hbase (fun v' w' h1 h2 _ => h v' w' (by simpa [hm] using h1) (hb.grown h2 hbase (fun j hj => (hl0 j hj).1)))
  intro j u hu
  have hj : j < l.length := by
    rcases Nat.lt_or_ge j l.length with h | h
    · exact h
    · rw [List.getElem?_eq_none (by simp; omega)] at hu; cases hu
  rw [Addr.add_lit, Nat.zero_add]
  exact (hI.cellAt j (by omega)).trans hu
set_option maxRecDepth 100000 in
set_option maxHeartbeats 4000000 in
theorem win_ok (seq was shape : Int) (hs : seq = 0 ∨ seq = 1 ∨ seq = 3) (h0 : was = 0 ∨ was = 1) (h1 : shape = 0 ∨ shape = 1) (w : World) : Calls Try.prog 9 #[.int .u8 seq, .int .u8 was, .int .u8 shape] w (RRowE (winL seq was shape, 0) w) := by
  obtain ⟨i0, hi, hz0, hz1, hz2⟩ := info_parts Try.infoInt
  have HPC := Lib.hid (fun W => show Calls Try.prog 18 #[.int .u8 seq] W (RPieces (piecesL seq) W) by
    rcases hs with rfl | rfl | rfl
    · exact pieces0_ok W
    · exact pieces1_ok W
    · exact pieces3_ok W)
  have HP := Lib.hid (show ∀ j, j < (piecesL seq).length → (piecesL seq).getD j 0 = 0 ∨ (piecesL seq).getD j 0 = 1 ∨ (piecesL seq).getD j 0 = 2 ∨ (piecesL seq).getD j 0 = 3 ∨ (piecesL seq).getD j 0 = 4 ∨ (piecesL seq).getD j 0 = 5 by
    rcases hs with rfl | rfl | rfl <;> decide)
  have hn4 : (piecesL seq).length ≤ 4 := by rcases hs with rfl | rfl | rfl <;> decide
  have HSH := Lib.hid (fun W => shaped_ok was shape W)
  have hsh : (decide (was ≤ 1) && decide (shape ≤ 1)) = true := by rcases h0 with rfl | rfl <;> rcases h1 with rfl | rfl <;> decide
  rw [hsh] at HSH
  have HH0 := Lib.hid (fun W => bhalf_ok was false h0 W)
  have HH1 := Lib.hid (fun W => bhalf_ok was true h0 W)
  have HF3 := Lib.hid (fun W => bfall_ok shape true h1 W)
  have HF4 := Lib.hid (fun W => bfall_ok shape false h1 W)
  have E0 := Lib.hid (show pieceL was shape 0 = hvL was false by simp [pieceL])
  have E1 := Lib.hid (show pieceL was shape 1 = hvL was true by simp [pieceL])
  have E2 := Lib.hid (show pieceL was shape 2 = repL 4194304 by simp [pieceL])
  have E3 := Lib.hid (show pieceL was shape 3 = (hvL shape true).reverse by simp [pieceL])
  have E4 := Lib.hid (show pieceL was shape 4 = (hvL shape false).reverse by simp [pieceL])
  have E5 := Lib.hid (show pieceL was shape 5 = noughtL by simp [pieceL])
  generalize hvL was false = A0 at *
  generalize hvL was true = A1 at *
  generalize (hvL shape true).reverse = A3 at *
  generalize (hvL shape false).reverse = A4 at *
  have d1 : decide (3 < seq) = false := by rcases hs with rfl | rfl | rfl <;> decide
  have d2 : (seq == 2) = false := by rcases hs with rfl | rfl | rfl <;> decide
  unfold winL
  generalize hPL : piecesL seq = l at *
  clear hPL hs h0 h1 hsh
  unfold RRowE
  dsimp only
  go_enter Try.func9, Try.ntmps9
  go_wp2_with fail
  refine (HSH.out _).mono ?_
  rintro e w1 ⟨rfl, hw⟩
  rw [← hw]
  clear hw w1
  go_wp2_with fail
  refine (HPC.out _).mono ?_
  rintro e w1 ⟨gp, rfl, hgp1, hgp2, hcell, hbP⟩
  have HC := Lib.hid hcell
  have HBP := Lib.hid hbP
  clear hcell hbP HPC HSH
  have hgp1' : w.heap.size ≤ w1.heap.size := by omega
  go_wp2
  have hown0 : w1.ownsRow w1.heap.size 3 1 (.slice none 0 0) (winK l was shape 0).length ((winK l was shape 0).map (Value.int .i64)) := World.ownsRow_nil _ _ _ _
  have HO0 := Lib.hid hown0
  clear hown0
  go_loopw [27, 8] (fun I V wr => ∃ (k : Nat) (v : Value), I = .int .i64 k ∧ v = V ∧ k ≤ l.length ∧ Hid (wr.ownsRow w1.heap.size 3 1 v (winK l was shape k).length ((winK l was shape k).map (Value.int .i64))) ∧ Hid (Below w1.heap.size w1 wr)) (fun I _ _ => l.length - (intOf I).toNat)
  case atStart => exact ⟨0, _, rfl, rfl, Nat.zero_le _, HO0, Lib.hid (Below.refl _ _)⟩
  case round =>
    obtain ⟨k, v, rfl, rfl, hk, HOw, HB⟩ := hrel
    clear HO0
    by_cases hlt : k < l.length
    · have hd : decide ((k : Int) < (l.length : Int)) = true := decide_eq_true (by omega)
      have hc := (HB.out.cell (p := ⟨gp, k, none⟩) hgp2).trans (HC.out k hlt)
      obtain ⟨z, hz⟩ : ∃ z, l.getD k 0 = z := ⟨_, rfl⟩
      have hp := HP.out k hlt
      rw [hz] at hc hp
      have HZ := Lib.hid (show winK l was shape (k + 1) = winK l was shape k ++ pieceL was shape z by rw [winK, hz])
      have hwk := Lib.hid (winK_len l was shape k)
      clear hz
      rcases hp with rfl | rfl | rfl | rfl | rfl | rfl
      · have HPZ := E0
        clear E0 E1 E2 E3 E4 E5
        go_wp2_with fail
        refine (HH0.out _).mono ?_
        rintro e w2 ⟨g, rfl, hO, hg1, hg2, hb2⟩
        have HR := Lib.hid hO
        have HOw2 := Lib.hid (owns_keepB HOw.out hb2 (fun g' e => (HOw.out.lt g' e).2))
        have HB2 := Lib.hid (HB.out.trans (hb2.mono HB.out.size))
        clear hO hb2 HOw HB
        go_wp2_with (at_builtin; refine append_row rfl (.tmp 53) (.tmp 54) rfl w1.heap.size _ (winK l was shape k) rfl HOw2.out g _ A0 rfl _ HR.out ?l1 ?l2 ?l3 ?l4 w1 HB2.out ?_)
        case l1 => first | exact repL_len _ | exact noughtL_len | with_reducible rfl
        case l2 => have := hwk.out; omega
        case l3 => rw [← HPZ.out]; have := (pieceL_len was shape 0).2; omega
        case l4 => exact HB2.out.size
        intro v' w3 hO3 hB3
        have HO3 := Lib.hid (show w3.ownsRow w1.heap.size 3 1 v' (winK l was shape (k + 1)).length ((winK l was shape (k + 1)).map (Value.int .i64)) by
          rw [HZ.out, HPZ.out]
          first | exact hO3 | simpa using hO3 | (rw [HPZ.out] at hO3; simpa using hO3))
        have HB3 := Lib.hid hB3
        clear hO3 hB3 HOw2 HB2 HR
        go_wp2
        exact ⟨⟨k + 1, _, by go_num, rfl, by omega, HO3, HB3⟩, by simp [intOf]; omega⟩
      · have HPZ := E1
        clear E0 E1 E2 E3 E4 E5
        go_wp2_with fail
        refine (HH1.out _).mono ?_
        rintro e w2 ⟨g, rfl, hO, hg1, hg2, hb2⟩
        have HR := Lib.hid hO
        have HOw2 := Lib.hid (owns_keepB HOw.out hb2 (fun g' e => (HOw.out.lt g' e).2))
        have HB2 := Lib.hid (HB.out.trans (hb2.mono HB.out.size))
        clear hO hb2 HOw HB
        go_wp2_with (at_builtin; refine append_row rfl (.tmp 53) (.tmp 54) rfl w1.heap.size _ (winK l was shape k) rfl HOw2.out g _ A1 rfl _ HR.out ?l1 ?l2 ?l3 ?l4 w1 HB2.out ?_)
        case l1 => first | exact repL_len _ | exact noughtL_len | with_reducible rfl
        case l2 => have := hwk.out; omega
        case l3 => rw [← HPZ.out]; have := (pieceL_len was shape 1).2; omega
        case l4 => exact HB2.out.size
        intro v' w3 hO3 hB3
        have HO3 := Lib.hid (show w3.ownsRow w1.heap.size 3 1 v' (winK l was shape (k + 1)).length ((winK l was shape (k + 1)).map (Value.int .i64)) by
          rw [HZ.out, HPZ.out]
          first | exact hO3 | simpa using hO3 | (rw [HPZ.out] at hO3; simpa using hO3))
        have HB3 := Lib.hid hB3
        clear hO3 hB3 HOw2 HB2 HR
        go_wp2
        exact ⟨⟨k + 1, _, by go_num, rfl, by omega, HO3, HB3⟩, by simp [intOf]; omega⟩
      · have HPZ := E2
        clear E0 E1 E2 E3 E4 E5
        have hba := (Below.refl wr.heap.size wr).alloc (Nat.le_refl _) (.cells #[.int .i64 4194304] 3)
        have HREP := Lib.hid (repeat_ok 4194304 wr.heap.size 0 1 (wr.alloc (.cells #[.int .i64 4194304] 3)) (by simp) (cell_one_new _ _ _ 0 _ rfl))
        go_wp2_with fail
        refine HREP.out.mono ?_
        rintro e w2 ⟨g, rfl, hO, hg1, hg2, hb2⟩
        rw [repL_len] at hO
        have HR := Lib.hid hO
        have hb3 := hba.trans (hb2.mono (by simp))
        have HOw2 := Lib.hid (owns_keepB HOw.out hb3 (fun g' e => (HOw.out.lt g' e).2))
        have HB2 := Lib.hid (HB.out.trans (hb3.mono HB.out.size))
        clear hO hb2 HOw HB hba HREP hb3
        rw [repL_len]
        go_wp2_with (at_builtin; refine append_row rfl (.tmp 53) (.tmp 54) rfl w1.heap.size _ (winK l was shape k) rfl HOw2.out g _ (repL 4194304) rfl _ HR.out ?l1 ?l2 ?l3 ?l4 w1 HB2.out ?_)
        case l1 => first | exact repL_len _ | exact noughtL_len | with_reducible rfl
        case l2 => have := hwk.out; omega
        case l3 => rw [← HPZ.out]; have := (pieceL_len was shape 2).2; omega
        case l4 => exact HB2.out.size
        intro v' w3 hO3 hB3
        have HO3 := Lib.hid (show w3.ownsRow w1.heap.size 3 1 v' (winK l was shape (k + 1)).length ((winK l was shape (k + 1)).map (Value.int .i64)) by
          rw [HZ.out, HPZ.out]
          first | exact hO3 | simpa using hO3 | (rw [HPZ.out] at hO3; simpa using hO3))
        have HB3 := Lib.hid hB3
        clear hO3 hB3 HOw2 HB2 HR
        go_wp2
        exact ⟨⟨k + 1, _, by go_num, rfl, by omega, HO3, HB3⟩, by simp [intOf]; omega⟩
      · have HPZ := E3
        clear E0 E1 E2 E3 E4 E5
        go_wp2_with fail
        refine (HF3.out _).mono ?_
        rintro e w2 ⟨g, rfl, hO, hg1, hg2, hb2⟩
        have HR := Lib.hid hO
        have HOw2 := Lib.hid (owns_keepB HOw.out hb2 (fun g' e => (HOw.out.lt g' e).2))
        have HB2 := Lib.hid (HB.out.trans (hb2.mono HB.out.size))
        clear hO hb2 HOw HB
        go_wp2_with (at_builtin; refine append_row rfl (.tmp 53) (.tmp 54) rfl w1.heap.size _ (winK l was shape k) rfl HOw2.out g _ A3 rfl _ HR.out ?l1 ?l2 ?l3 ?l4 w1 HB2.out ?_)
        case l1 => first | exact repL_len _ | exact noughtL_len | with_reducible rfl
        case l2 => have := hwk.out; omega
        case l3 => rw [← HPZ.out]; have := (pieceL_len was shape 3).2; omega
        case l4 => exact HB2.out.size
        intro v' w3 hO3 hB3
        have HO3 := Lib.hid (show w3.ownsRow w1.heap.size 3 1 v' (winK l was shape (k + 1)).length ((winK l was shape (k + 1)).map (Value.int .i64)) by
          rw [HZ.out, HPZ.out]
          first | exact hO3 | simpa using hO3 | (rw [HPZ.out] at hO3; simpa using hO3))
        have HB3 := Lib.hid hB3
        clear hO3 hB3 HOw2 HB2 HR
        go_wp2
        exact ⟨⟨k + 1, _, by go_num, rfl, by omega, HO3, HB3⟩, by simp [intOf]; omega⟩
      · have HPZ := E4
        clear E0 E1 E2 E3 E4 E5
        go_wp2_with fail
        refine (HF4.out _).mono ?_
        rintro e w2 ⟨g, rfl, hO, hg1, hg2, hb2⟩
        have HR := Lib.hid hO
        have HOw2 := Lib.hid (owns_keepB HOw.out hb2 (fun g' e => (HOw.out.lt g' e).2))
        have HB2 := Lib.hid (HB.out.trans (hb2.mono HB.out.size))
        clear hO hb2 HOw HB
        go_wp2_with (at_builtin; refine append_row rfl (.tmp 53) (.tmp 54) rfl w1.heap.size _ (winK l was shape k) rfl HOw2.out g _ A4 rfl _ HR.out ?l1 ?l2 ?l3 ?l4 w1 HB2.out ?_)
        case l1 => first | exact repL_len _ | exact noughtL_len | with_reducible rfl
        case l2 => have := hwk.out; omega
        case l3 => rw [← HPZ.out]; have := (pieceL_len was shape 4).2; omega
        case l4 => exact HB2.out.size
        intro v' w3 hO3 hB3
        have HO3 := Lib.hid (show w3.ownsRow w1.heap.size 3 1 v' (winK l was shape (k + 1)).length ((winK l was shape (k + 1)).map (Value.int .i64)) by
          rw [HZ.out, HPZ.out]
          first | exact hO3 | simpa using hO3 | (rw [HPZ.out] at hO3; simpa using hO3))
        have HB3 := Lib.hid hB3
        clear hO3 hB3 HOw2 HB2 HR
        go_wp2
        exact ⟨⟨k + 1, _, by go_num, rfl, by omega, HO3, HB3⟩, by simp [intOf]; omega⟩
      · have HPZ := E5
        clear E0 E1 E2 E3 E4 E5
        go_wp2_with (at_make; refine wpList_make_full _ rfl _ _ 23 rfl wr.heap.size 3 i0 (.int .i64 0) 1 Try.underlying23 hi hz0 hz1 .i64 .i64 _ _ 112 rfl rfl ?hL ?hC ?b2 ?b3 ?b4 ?_)
        case hL => rfl
        case hC => rfl
        case b2 => rw [hz2]; decide
        case b3 => decide
        case b4 => exact Nat.le_refl _
        intro w2 hown hgrow
        obtain ⟨g, hg⟩ : ∃ g, wr.heap.size = g := ⟨_, rfl⟩
        have hb2 : Below wr.heap.size wr w2 := (Below.refl _ _).grown hgrow (by simp) (by simp)
        have hO : w2.ownsRow wr.heap.size 3 1 (.slice (some ⟨wr.heap.size, 0, none⟩) 112 112) 112 (noughtL.map (Value.int .i64)) := by
          have e := toList_madeCells_one (.int .i64 0) 112
          rw [show noughtL.map (Value.int .i64) = List.replicate 112 (.int .i64 0) by simp [noughtL], ← e]; exact hown
        have HR := Lib.hid hO
        have HOw2 := Lib.hid (owns_keepB HOw.out hb2 (fun g' e => (HOw.out.lt g' e).2))
        have HB2 := Lib.hid (HB.out.trans (hb2.mono HB.out.size))
        clear hO hb2 HOw HB hown hgrow hg g
        go_wp2_with (at_builtin; refine append_row rfl (.tmp 53) (.tmp 54) rfl w1.heap.size _ (winK l was shape k) rfl HOw2.out wr.heap.size _ (noughtL) rfl _ HR.out ?l1 ?l2 ?l3 ?l4 w1 HB2.out ?_)
        case l1 => first | exact repL_len _ | exact noughtL_len | with_reducible rfl
        case l2 => have := hwk.out; omega
        case l3 => rw [← HPZ.out]; have := (pieceL_len was shape 5).2; omega
        case l4 => exact HB2.out.size
        intro v' w3 hO3 hB3
        have HO3 := Lib.hid (show w3.ownsRow w1.heap.size 3 1 v' (winK l was shape (k + 1)).length ((winK l was shape (k + 1)).map (Value.int .i64)) by
          rw [HZ.out, HPZ.out]
          first | exact hO3 | simpa using hO3 | (rw [HPZ.out] at hO3; simpa using hO3))
        have HB3 := Lib.hid hB3
        clear hO3 hB3 HOw2 HB2 HR
        go_wp2
        exact ⟨⟨k + 1, _, by go_num, rfl, by omega, HO3, HB3⟩, by simp [intOf]; omega⟩
    · have hd : decide ((k : Int) < (l.length : Int)) = false := decide_eq_false (by omega)
      have hkl := Lib.hid (show k = l.length by omega)
      go_wp2
      go_ret2
      have h := HOw.out
      rw [hkl.out] at h
      exact ⟨_, rfl, owns_lower h hgp1', HBP.out.trans (HB.out.mono hgp1')⟩
end Go.Proofs.Ytclbbfpagkhonaa
