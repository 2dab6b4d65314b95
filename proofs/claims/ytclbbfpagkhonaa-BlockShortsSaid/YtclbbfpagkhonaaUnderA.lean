/- BlockUnder: every input. -/
import Derived.Test.YtclbbfpagkhonaaUnderW
set_option linter.unusedVariables false
namespace Go.Proofs.Ytclbbfpagkhonaa
open Go.ChangeShapes Go.WideShapes Go.ChangeAt Go.RowKit

theorem set_get {l : List Int} {k : Nat} {x : Int} (h : k < l.length) : (l.set k x).getD k 0 = x := by
  rw [List.getD_eq_getElem?_getD, List.getElem?_set_self h]; rfl
set_option maxRecDepth 100000 in
theorem blk_under (seq was shape at_ x : Int) (pcm : List Int) (p : Option Addr) (c : Nat) (w : World) (A0 : IsArg w p c pcm) (hc : pcm.length ≤ c) (hs : 0 ≤ seq) (h0 : 0 ≤ was) (h1 : 0 ≤ shape) (hx : -32768 ≤ x ∧ x ≤ 32767) :
    Calls Try.prog 6 #[.int .u8 seq, .int .u8 was, .int .u8 shape, .slice p pcm.length c, .int .i64 at_, .int .i16 x] w fun e w' => e = .returned (.bool true) ∧ Below w.heap.size w w' := by
  have m1 := A0.2.2.1
  unfold maxLen at m1
  by_cases d1 : 1000 < pcm.length
  · exact under_long seq was shape x at_ p _ c w (decide_eq_true (by omega))
  have D1 : decide ((1000 : Int) < (pcm.length : Int)) = false := decide_eq_false (by omega)
  have HA := Lib.hid (fun (W : World) (hW : Below w.heap.size w W) => (ana_any seq was shape hs h0 h1 pcm (by omega) p c hc W (A0.1.keep hW)).mono (fun e w' h => list_g h))
  by_cases hE : anaE seq was shape pcm = 0
  case neg =>
    have e : anaN seq was shape pcm = ([], anaE seq was shape pcm) := by unfold anaN; rw [if_neg hE]
    rw [e] at HA
    exact under_bad1 seq was shape x at_ p _ c w D1 [] _ rfl (beq_eq_false_iff_ne.2 hE) (by simp [bne, beq_eq_false_iff_ne.2 hE]) HA
  have e : anaN seq was shape pcm = (anaL (winsL seq was shape) pcm, 0) := by unfold anaN; rw [if_pos hE]
  rw [e] at HA
  by_cases d2 : at_ < 0
  · exact under_bad2a seq was shape x at_ p _ c w D1 _ 0 rfl (decide_eq_true d2) HA
  by_cases d3 : 511 < at_
  · exact under_bad2b seq was shape x at_ p _ c w D1 _ 0 rfl (decide_eq_false d2) (decide_eq_true d3) HA
  obtain ⟨k, hk⟩ : ∃ k : Nat, at_ = (k : Int) := ⟨at_.toNat, by omega⟩
  subst hk
  obtain ⟨q1, q2, q3, q4, q5⟩ := (askedE_zero (by omega)).1 hE
  have hs' : seq = 0 ∨ seq = 1 ∨ seq = 2 ∨ seq = 3 := by omega
  have h0' : was = 0 ∨ was = 1 := by omega
  have h1' : shape = 0 ∨ shape = 1 := by omega
  have hpm : ∀ j, -32768 ≤ pcm.getD j 0 ∧ pcm.getD j 0 ≤ 32767 := fun j => getD_range q5 (by omega) (by omega) j
  have hsl : (pcm.set k x).length = 512 := by rw [List.length_set]; exact q4
  have hsm : ∀ y ∈ pcm.set k x, -32768 ≤ y ∧ y ≤ 32767 := by
    intro y hy
    rcases List.mem_or_eq_of_mem_set hy with h | h
    · exact q5 y h
    · rw [h]; exact hx
  have hE2 : anaE seq was shape (pcm.set k x) = 0 := (askedE_zero (by omega)).2 ⟨q1, q2, q3, hsl, hsm⟩
  have hE3 : synE seq was shape (anaL (winsL seq was shape) pcm) = 0 := (syn_of_ana seq was shape hs' h0' h1' pcm q4 hpm seq shape q1 q2).2 q3
  have HB := Lib.hid (fun (W : World) (q : Option Addr) (d : Nat) (hd : 512 ≤ d) (hI : IsInts W q (pcm.set k x)) => show Calls Try.prog 11 #[.int .u8 seq, .int .u8 was, .int .u8 shape, .slice q 512 d] W (RListG (anaL (winsL seq was shape) (pcm.set k x)) 0 W) by
    have h := ana_any seq was shape hs h0 h1 (pcm.set k x) (by omega) q d (by omega) W hI
    have e2 : anaN seq was shape (pcm.set k x) = (anaL (winsL seq was shape) (pcm.set k x), 0) := by unfold anaN; rw [if_pos hE2]
    rw [e2, hsl] at h
    exact h.mono (fun e w' h => list_g h))
  have hAl := ana_length seq was shape hs' h0' h1' pcm q4
  have HY := Lib.hid (fun (W : World) (q : Option Addr) (d : Nat) (hd : 256 ≤ d) (hI : IsInts W q (anaL (winsL seq was shape) pcm)) => show Calls Try.prog 10 #[.int .u8 seq, .int .u8 was, .int .u8 shape, .slice q 256 d] W (RListG (synL (winsL seq was shape) (anaL (winsL seq was shape) pcm)) 0 W) by
    have h := syn_any seq was shape hs h0 h1 (anaL (winsL seq was shape) pcm) (by omega) q d (by omega) W hI
    have e2 : synN seq was shape (anaL (winsL seq was shape) pcm) = (synL (winsL seq was shape) (anaL (winsL seq was shape) pcm), 0) := by unfold synN; rw [if_pos hE3]
    rw [e2, hAl] at h
    exact h.mono (fun e w' h => list_g h))
  have hBl := ana_length seq was shape hs' h0' h1' (pcm.set k x) hsl
  have hYl := synL_len (winsL seq was shape) (anaL (winsL seq was shape) pcm)
  rw [q4] at HA ⊢
  have hsame : bareB seq k → anaL (winsL seq was shape) pcm = anaL (winsL seq was shape) (pcm.set k x) := fun hb => ana_under seq was shape hs' h0' h1' k hb pcm q4 x
  have hzero : bareB seq k → (synL (winsL seq was shape) (anaL (winsL seq was shape) pcm)).getD k 0 = 0 := fun hb => syn_bare seq was shape k hb (by omega) _
  have hkk : k < 512 := by omega
  generalize anaL (winsL seq was shape) (pcm.set k x) = B at *
  generalize synL (winsL seq was shape) (anaL (winsL seq was shape) pcm) = Y at *
  generalize anaL (winsL seq was shape) pcm = A at *
  rcases hs' with rfl | rfl | rfl | rfl
  · exact under_ok_z was shape x hx p c w k hkk pcm A B Y 0 rfl q4 hAl hBl hYl A0 HA HB HY
  · by_cases e2 : (400 : Int) ≤ (k : Int)
    · exact under_ok_ta was shape x hx p c w k hkk pcm A B Y 0 rfl q4 hAl hBl hYl A0 HA HB HY (decide_eq_true e2) (hsame (.inr (.inl ⟨rfl, by omega⟩))) (hzero (.inr (.inl ⟨rfl, by omega⟩)))
    · exact under_ok_tb was shape x hx p c w k hkk pcm A B Y 0 rfl q4 hAl hBl hYl A0 HA HB HY (decide_eq_false e2)
  · by_cases e1 : (k : Int) < 112
    · exact under_ok_sa was shape x hx p c w k hkk pcm A B Y 0 rfl q4 hAl hBl hYl A0 HA HB HY (decide_eq_true e1) (hsame (.inl ⟨rfl, by omega⟩)) (hzero (.inl ⟨rfl, by omega⟩))
    · by_cases e2 : (400 : Int) ≤ (k : Int)
      · exact under_ok_sb was shape x hx p c w k hkk pcm A B Y 0 rfl q4 hAl hBl hYl A0 HA HB HY (decide_eq_false e1) (decide_eq_true e2) (hsame (.inl ⟨rfl, by omega⟩)) (hzero (.inl ⟨rfl, by omega⟩))
      · exact under_ok_sc was shape x hx p c w k hkk pcm A B Y 0 rfl q4 hAl hBl hYl A0 HA HB HY (decide_eq_false e1) (decide_eq_false e2)
  · by_cases e1 : (k : Int) < 112
    · exact under_ok_pa was shape x hx p c w k hkk pcm A B Y 0 rfl q4 hAl hBl hYl A0 HA HB HY (decide_eq_true e1) (hsame (.inr (.inr ⟨rfl, by omega⟩))) (hzero (.inr (.inr ⟨rfl, by omega⟩)))
    · exact under_ok_pb was shape x hx p c w k hkk pcm A B Y 0 rfl q4 hAl hBl hYl A0 HA HB HY (decide_eq_false e1)
theorem i16_range {a : Int} (h : (Lit.int .i16 a).wf = true) : -32768 ≤ a ∧ a ≤ 32767 := bounds_i16 h
end Go.Proofs.Ytclbbfpagkhonaa
