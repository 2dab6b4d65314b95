/- block.windows: the iterator's contract. -/
import Derived.Test.YtclbbfpagkhonaaWindows
set_option linter.unusedVariables false
namespace Go.Proofs.Ytclbbfpagkhonaa
open Go.ChangeShapes Go.WideShapes Go.ChangeAt Go.RowKit
attribute [local go_sem] Oper.semAt_some

def KW (b : Nat) (A B : World) : Prop := ∀ k, b ≤ k → k < b + 3 → B.heap[k]? = A.heap[k]?
theorem full_ints {w : World} {base g n : Nat} {l : List Int} (h : w.ownsRow base 3 1 (.slice (some ⟨g, 0, none⟩) n n) n (l.map (Value.int .i64))) (hn : l.length = n) (hlt : g < w.heap.size) : IsInts w (some ⟨g, 0, none⟩) l := by
  refine isInts_of hlt (fun j hj => ?_)
  rw [h.cellAt j (by omega), row_get l j (Nat.zero_le _) hj]
set_option maxRecDepth 100000 in
set_option maxHeartbeats 4000000 in
theorem windows_all1 (seq was shape : Int) (hs : seq = 0 ∨ seq = 1 ∨ seq = 3) (h0 : was = 0 ∨ was = 1) (h1 : shape = 0 ∨ shape = 1) (w : World) (b : Nat) (hb : b + 3 ≤ w.heap.size)
    (c0 : w.cell? ⟨b, 0, none⟩ = some (.int .u8 seq)) (c1 : w.cell? ⟨b + 1, 0, none⟩ = some (.int .u8 was)) (c2 : w.cell? ⟨b + 2, 0, none⟩ = some (.int .u8 shape)) :
    SeqAll Try.prog 36 #[.pointer (some ⟨b, 0, none⟩), .pointer (some ⟨b + 1, 0, none⟩), .pointer (some ⟨b + 2, 0, none⟩)] encW (PxW seq was shape w.heap.size) (SW seq was shape) (KW b) w := by
  intro l J W hW hsz hJ hY hJ0
  have HJ := Lib.hid hJ
  have HY := Lib.hid hY
  have HW := Lib.hid (fun W => win_ok seq was shape hs h0 h1 W)
  have d1 : (seq == 2) = false := by rcases hs with rfl | rfl | rfl <;> decide
  have d1' : (seq != 2) = true := by rcases hs with rfl | rfl | rfl <;> decide
  have e0 := (hW.cell (p := ⟨b, 0, none⟩) (by show b < _; omega)).trans c0
  have e1 := (hW.cell (p := ⟨b + 1, 0, none⟩) (by show b + 1 < _; omega)).trans c1
  have e2 := (hW.cell (p := ⟨b + 2, 0, none⟩) (by show b + 2 < _; omega)).trans c2
  have HE := Lib.hid (show winsL seq was shape = [(0, winL seq was shape)] by unfold winsL; rw [if_neg (by omega)])
  have hL0 : 0 < (winL seq was shape).length := by
    have hp : 0 < (piecesL seq).length := by rcases hs with rfl | rfl | rfl <;> decide
    unfold winL
    obtain ⟨n, hn⟩ : ∃ n, (piecesL seq).length = n + 1 := ⟨(piecesL seq).length - 1, by omega⟩
    rw [hn, winK, List.length_append]
    have := (pieceL_len was shape ((piecesL seq).getD n 0)).1
    omega
  unfold SW PxW at *
  generalize winsL seq was shape = ws at *
  generalize winL seq was shape = L at *
  unfold RRowE at HW
  dsimp only at HW
  clear hJ hY c0 c1 c2 hs h0 h1
  refine callsIn_of_wp Try.func36 rfl trivial ?_ rfl
  simp only [Try.ntmps36, List.size_toArray, List.length_cons, List.length_nil, Nat.reduceAdd, Nat.reduceSub, Array.replicate_succ, Array.replicate_zero, List.push_toArray, List.append_toArray, List.nil_append, List.cons_append]
  gi_wp2_with fail
  refine ⟨trivial, ?_⟩
  refine (callsIn_wide.2 (HW.out _)).mono ?_
  rintro e W1 ⟨v, rfl, hO, hB⟩
  obtain ⟨g, cap, rfl, hg, hlt, hc⟩ := owns_at hO (by intro e; rw [e] at hL0; simp at hL0)
  have hz := hB.size
  obtain ⟨fn, tmps, assign, body, hy, hR⟩ := HY.out [] ⟨0, L, g, cap⟩ W1 (HJ.out _ _ _ hJ0 hB) (by omega) ⟨by rw [HE.out]; rfl, by show _ ≤ g; omega, hlt, isInts_of hlt hc⟩
  dsimp only [encW] at hy
  clear hO HW HY hJ0
  gi_wp2
  refine hR.mono ?_
  rintro e W2 ⟨rfl, hJ2, _, _⟩
  gi_wp2
  refine bodyPost_ret (results_none rfl _ _ _) rfl ?_
  exact ⟨⟨_, rfl⟩, _, by rw [HE.out]; rfl, hJ2⟩
set_option maxRecDepth 100000 in
set_option maxHeartbeats 4000000 in
theorem windows_all2 (was shape : Int) (h0 : was = 0 ∨ was = 1) (h1 : shape = 0 ∨ shape = 1) (w : World) (b : Nat) (hb : b + 3 ≤ w.heap.size)
    (c0 : w.cell? ⟨b, 0, none⟩ = some (.int .u8 2)) (c1 : w.cell? ⟨b + 1, 0, none⟩ = some (.int .u8 was)) (c2 : w.cell? ⟨b + 2, 0, none⟩ = some (.int .u8 shape)) :
    SeqAll Try.prog 36 #[.pointer (some ⟨b, 0, none⟩), .pointer (some ⟨b + 1, 0, none⟩), .pointer (some ⟨b + 2, 0, none⟩)] encW (PxW 2 was shape w.heap.size) (SW 2 was shape) (KW b) w := by
  intro l J W hW hsz hJ hY hJ0
  have HJ := Lib.hid hJ
  have HY := Lib.hid hY
  have HH0 := Lib.hid (fun W => bhalf_ok was true h0 W)
  have HH1 := Lib.hid (fun W => bhalf_ok shape true h1 W)
  have HF := Lib.hid (fun W => bfall_ok shape true h1 W)
  have e0 := (hW.cell (p := ⟨b, 0, none⟩) (by show b < _; omega)).trans c0
  have e1 := (hW.cell (p := ⟨b + 1, 0, none⟩) (by show b + 1 < _; omega)).trans c1
  have e2 := (hW.cell (p := ⟨b + 2, 0, none⟩) (by show b + 2 < _; omega)).trans c2
  have hbW : b + 3 ≤ W.heap.size := by omega
  have HWS := Lib.hid (show ∀ k : Nat, k < 8 → (winsL 2 was shape)[k]? = some (112 + 32 * (k : Int), (if k = 0 then hvL was true else hvL shape true) ++ (hvL shape true).reverse) by
    intro k hk
    unfold winsL
    rw [if_pos rfl, List.getElem?_map, List.getElem?_range hk]
    simp only [Option.map_some, littleL]
    split <;> rfl)
  have HW8 := Lib.hid (show (winsL 2 was shape).length = 8 by unfold winsL; rw [if_pos rfl]; simp)
  have hA0 : (hvL was true).length = 32 := half_length was true
  have hA1 : (hvL shape true).length = 32 := half_length shape true
  have hA2 : (hvL shape true).reverse.length = 32 := by rw [List.length_reverse]; exact hA1
  unfold SW PxW at *
  generalize winsL 2 was shape = ws at *
  generalize (hvL shape true).reverse = A2 at *
  generalize hvL shape true = A1 at *
  generalize hvL was true = A0 at *
  unfold RRowF at HH0 HH1 HF
  rw [hA0] at HH0
  rw [hA1] at HH1
  rw [hA2] at HF
  have HA0 := Lib.hid hA0
  have HA1 := Lib.hid hA1
  have HA2 := Lib.hid hA2
  clear hJ hY c0 c1 c2 h0 h1 hA0 hA1 hA2
  refine callsIn_of_wp Try.func36 rfl trivial ?_ rfl
  simp only [Try.ntmps36, List.size_toArray, List.length_cons, List.length_nil, Nat.reduceAdd, Nat.reduceSub, Array.replicate_succ, Array.replicate_zero, List.push_toArray, List.append_toArray, List.nil_append, List.cons_append]
  gi_wp2_with fail
  refine ⟨trivial, ?_⟩
  refine (callsIn_wide.2 (HH0.out _)).mono ?_
  rintro e W1 ⟨g, rfl, hO, hg, hlt, hB⟩
  have HI0 := Lib.hid (full_ints hO HA0.out hlt)
  have HJ1 := Lib.hid (HJ.out _ _ _ hJ0 hB)
  have hz := hB.size
  have f1 := Lib.hid ((hB.cell (p := ⟨b + 1, 0, none⟩) (by show b + 1 < _; omega)).trans e1)
  have f2 := Lib.hid ((hB.cell (p := ⟨b + 2, 0, none⟩) (by show b + 2 < _; omega)).trans e2)
  clear hO HH0 hJ0 e0 e1 e2 hB
  gi_wp2
  gi_loopw [23, 7] (fun I V wr => ∃ (k g : Nat) (pre : List WinX), I = .int .i64 k ∧ V = .slice (some ⟨g, 0, none⟩) 32 32 ∧ k ≤ 8 ∧ Hid (IsInts wr (some ⟨g, 0, none⟩) (if k = 0 then A0 else A1)) ∧ Hid (pre.map (fun x => (x.pos, x.l)) = ws.take k) ∧ Hid (pre.length = k) ∧ Hid (J pre wr) ∧ W1.heap.size ≤ wr.heap.size ∧ Hid (wr.cell? ⟨b + 1, 0, none⟩ = some (.int .u8 was)) ∧ Hid (wr.cell? ⟨b + 2, 0, none⟩ = some (.int .u8 shape))) (fun I _ _ => 8 - (intOf I).toNat)
  case atStart => exact ⟨0, g, [], rfl, rfl, by omega, HI0, Lib.hid (by simp), Lib.hid rfl, HJ1, Nat.le_refl _, f1, f2⟩
  case round =>
    obtain ⟨k, g, pre, rfl, rfl, hk, HI, HP, HPL, HJ2, hsz2, F1, F2⟩ := hrel
    clear HI0 HJ1 f1 f2
    by_cases hlt : k < 8
    · have hd : decide ((k : Int) < 8) = true := decide_eq_true (by omega)
      have hw1 : IntKind.i64.wrap (32 * (k : Int)) = 32 * k := by rw [IntKind.wrap_i64]; omega
      have hw2 : IntKind.i64.wrap (112 + 32 * (k : Int)) = 112 + 32 * k := by rw [IntKind.wrap_i64]; omega
      have p1 := F1.out
      have p2 := F2.out
      have HFL := Lib.hid (show (if k = 0 then A0 else A1).length = 32 by split; exact HA0.out; exact HA1.out)
      have HWK := Lib.hid (HWS.out k hlt)
      obtain ⟨A, hA⟩ : ∃ A, (if k = 0 then A0 else A1) = A := ⟨_, rfl⟩
      rw [hA] at HI HFL HWK
      clear hA
      gi_wp2_with fail
      refine ⟨trivial, ?_⟩
      refine (callsIn_wide.2 (HF.out _)).mono ?_
      rintro e W2 ⟨g2, rfl, hO, hg2, hlt2, hB⟩
      have HI2 := Lib.hid (full_ints hO HA2.out hlt2)
      have HJ3 := Lib.hid (HJ.out _ _ _ HJ2.out hB)
      have HI1 := Lib.hid (HI.out.keep hB)
      have hz2 := hB.size
      have q1 := Lib.hid ((hB.cell (p := ⟨b + 1, 0, none⟩) (by show b + 1 < _; omega)).trans p1)
      have q2 := Lib.hid ((hB.cell (p := ⟨b + 2, 0, none⟩) (by show b + 2 < _; omega)).trans p2)
      clear hO hB HI HJ2 F1 F2 p1 p2
      gi_wp2_with (gi_at_builtin; refine appendIn_full rfl (.tmp 30) (.tmp 32) rfl g 32 A rfl HFL.out HI1.out g2 32 A2 rfl HA2.out HI2.out (by rw [HA2.out]; omega) (by rw [HFL.out]; omega) (by rw [HA2.out]; omega) 64 (by rw [HFL.out, HA2.out]) ?_; intro g3 c3 W3 hlt3 hg3 hI3 hB3; have hz3 := hB3.size; obtain ⟨fn, tmps, assign, body, hy, hR⟩ := HY.out pre ⟨112 + 32 * (k : Int), A ++ A2, g3, c3⟩ W3 (HJ.out _ _ _ HJ3.out hB3) (by omega) ⟨by rw [HPL.out]; exact HWK.out, by show _ ≤ g3; omega, hlt3, hI3⟩; dsimp only [encW] at hy; rw [List.length_append, HFL.out, HA2.out] at hy)
      refine hR.mono ?_
      rintro e W4 ⟨rfl, hJ4, hz4, hK4⟩
      have r1 := Lib.hid ((World.cell?_of_block (a := ⟨b + 1, 0, none⟩) (hK4 (b + 1) (by omega) (by omega))).trans ((hB3.cell (p := ⟨b + 1, 0, none⟩) (by show b + 1 < _; omega)).trans q1.out))
      have r2 := Lib.hid ((World.cell?_of_block (a := ⟨b + 2, 0, none⟩) (hK4 (b + 2) (by omega) (by omega))).trans ((hB3.cell (p := ⟨b + 2, 0, none⟩) (by show b + 2 < _; omega)).trans q2.out))
      have HJ4 := Lib.hid hJ4
      have p2 := r2.out
      clear hI3 hJ4 hK4 q1 q2 hy hR
      gi_wp2_with fail
      refine ⟨trivial, ?_⟩
      refine (callsIn_wide.2 (HH1.out _)).mono ?_
      rintro e W5 ⟨g5, rfl, hO, hg5, hlt5, hB5⟩
      have HI5 := Lib.hid (full_ints hO HA1.out hlt5)
      have HJ5 := Lib.hid (HJ.out _ _ _ HJ4.out hB5)
      have hz5 := hB5.size
      have s1 := Lib.hid ((hB5.cell (p := ⟨b + 1, 0, none⟩) (by show b + 1 < _; omega)).trans r1.out)
      have s2 := Lib.hid ((hB5.cell (p := ⟨b + 2, 0, none⟩) (by show b + 2 < _; omega)).trans r2.out)
      clear hO p2
      gi_wp2
      go_roundw
      case rel => exact ⟨k + 1, g5, pre ++ [⟨112 + 32 * (k : Int), A ++ A2, g3, c3⟩], by go_num, rfl, by omega, by rw [if_neg (by omega)]; exact HI5, Lib.hid (by rw [List.map_append, HP.out, List.take_add_one, HWK.out]; rfl), Lib.hid (by rw [List.length_append, HPL.out]; rfl), HJ5, by omega, s1, s2⟩
      case measure => simp [intOf]; omega
    · have hd : decide ((k : Int) < 8) = false := decide_eq_false (by omega)
      gi_wp2
      go_end0
      exact ⟨⟨_, rfl⟩, pre, by rw [HP.out, List.take_of_length_le (by rw [HW8.out]; omega)], HJ2.out⟩
end Go.Proofs.Ytclbbfpagkhonaa
