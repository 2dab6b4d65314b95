/- reedpiperef10: In, Group: what each call answers, of a window that there is. -/
import Derived.Test.YtppfbfiigfjncaaGP
import Derived.Test.YtppfbfiigfjncaaRefSome
import Derived.Lib.SliceRun
set_option linter.unusedVariables false
set_option linter.unusedSimpArgs false
namespace Go.Proofs.Ytppfbfiigfjncaa
open Go.ChangeShapes Go.WideShapes Go.ChangeAt Go.RowKit
/-- Each window's group. -/
def inFrom : List Int → Int → List Int
  | [], _ => []
  | x :: l, g => List.replicate x.toNat g ++ inFrom l (g + 1)
theorem inFrom_snoc : ∀ (a : List Int) (x g : Int), inFrom (a ++ [x]) g = inFrom a g ++ List.replicate x.toNat (g + a.length)
  | [], x, g => by simp [inFrom]
  | y :: a, x, g => by
    rw [List.cons_append, inFrom, inFrom_snoc a x (g + 1), inFrom, List.append_assoc, List.length_cons]
    congr 3
    omega
theorem inFrom_len : ∀ (a : List Int) (g : Int), (∀ j, j < a.length → 0 ≤ a.getD j 0) → ((inFrom a g).length : Int) = sumG a a.length
  | a, g, h => by
    have key : ∀ k, k ≤ a.length → ((inFrom (a.take k) g).length : Int) = sumG a k := by
      intro k
      induction k with
      | zero => intro _; simp [inFrom, sumG]
      | succ k ih =>
        intro hk
        have := h k (by omega)
        have e : a.take (k + 1) = a.take k ++ [a.getD k 0] := by
          rw [List.take_succ_eq_append_getElem (by omega), List.getD_eq_getElem?_getD, List.getElem?_eq_getElem (by omega)]; rfl
        rw [e, inFrom_snoc, List.length_append, List.length_replicate]
        have ih' := ih (by omega)
        show _ = sumG a k + a.getD k 0
        omega
    have := key a.length (Nat.le_refl _)
    rwa [List.take_length] at this
theorem inFrom_get : ∀ (a : List Int) (g : Int), (∀ j, j < a.length → 0 ≤ a.getD j 0) → ∀ w : Nat, w < (inFrom a g).length → (inFrom a g).getD w 0 = g + (grpOf a w : Nat)
  | [], g, _, w, hw => by simp [inFrom] at hw
  | x :: a, g, h, w, hw => by
    have hx : 0 ≤ x := h 0 (by simp)
    rw [inFrom] at hw ⊢
    unfold grpOf
    by_cases c : (w : Int) < x
    · rw [if_pos c, List.getD_eq_getElem?_getD, List.getElem?_append_left (by simp; omega), List.getElem?_replicate, if_pos (by omega)]
      simp
    · rw [if_neg c]
      have ih := inFrom_get a (g + 1) (fun j hj => by have := h (j + 1) (by simp; omega); simpa using this) (w - x.toNat) (by simp at hw; omega)
      rw [List.getD_eq_getElem?_getD, List.getElem?_append_right (by simp; omega), List.length_replicate, ← List.getD_eq_getElem?_getD, ih]
      rw [show ((w - x.toNat : Nat) : Int) = (w : Int) - x by omega]
      omega
theorem inFrom_take (a : List Int) (g : Int) (h : ∀ j, j < a.length → 0 ≤ a.getD j 0) : ∀ k, k ≤ a.length → ((inFrom (a.take k) g).length : Int) = sumG a k := by
  intro k
  induction k with
  | zero => intro _; simp [inFrom, sumG]
  | succ k ih =>
    intro hk
    have := h k (by omega)
    have e : a.take (k + 1) = a.take k ++ [a.getD k 0] := by
      rw [List.take_succ_eq_append_getElem (by omega), List.getD_eq_getElem?_getD, List.getElem?_eq_getElem (by omega)]; rfl
    rw [e, inFrom_snoc, List.length_append, List.length_replicate]
    have ih' := ih (by omega)
    show _ = sumG a k + a.getD k 0
    omega
/-- A group's windows, as many as are told. -/
def inPart (G : List Int) (g k : Nat) : List Int := inFrom (G.take g) 0 ++ List.replicate k (g : Int)
theorem inPart_zero (G : List Int) (g : Nat) : inPart G g 0 = inFrom (G.take g) 0 := by simp [inPart]
theorem inPart_succ (G : List Int) (g k : Nat) : inPart G g (k + 1) = inPart G g k ++ [(g : Int)] := by unfold inPart; rw [List.replicate_succ', List.append_assoc]
theorem inPart_all (G : List Int) {g : Nat} (hg : g < G.length) : inPart G g (G.getD g 0).toNat = inFrom (G.take (g + 1)) 0 := by
  have e : G.take (g + 1) = G.take g ++ [G.getD g 0] := by
    rw [List.take_succ_eq_append_getElem hg, List.getD_eq_getElem?_getD, List.getElem?_eq_getElem hg]; rfl
  rw [e, inFrom_snoc]
  unfold inPart
  rw [List.length_take, Nat.min_eq_left (by omega), Int.zero_add]
theorem inPart_len {seq shape max : Int} {G : List Int} (hm : mayB 11 seq shape max G = true) {g k : Nat} (hg : g ≤ G.length) (hk : k ≤ 8) : (inPart G g k).length ≤ 16 := by
  obtain ⟨h1, h2, h3⟩ := may_groups hm
  have a := inFrom_take G 0 (fun j hj => by have := h1 j hj; omega) g hg
  have b := sumG_le (fun j hj => (h1 j hj).1) hg (Nat.le_refl _)
  have c : winN seq ≤ 8 := by unfold winN; split <;> omega
  unfold inPart
  rw [List.length_append, List.length_replicate]
  omega
def RIn (G : List Int) (w : World) (e : Ending) (w' : World) : Prop := ∃ q d, e = .returned (.slice q (inFrom G 0).length d) ∧ IsInts w' q (inFrom G 0) ∧ Below w.heap.size w w'
set_option maxRecDepth 100000 in
set_option maxHeartbeats 4000000 in
theorem ref_in (seq shape max : Int) (G : List Int) (pg : Option Addr) (cg : Nat) (w : World) (hG : IsInts w pg G) (hm : mayB 11 seq shape max G = true) :
    Calls Try.prog 66 #[.agg (infoC seq shape max pg G.length cg)] w (RIn G w) := by
  obtain ⟨i0, hi, hz0, hz1, hz2⟩ := info_parts Try.infoInt
  obtain ⟨W0, hW0⟩ : ∃ W0, w.alloc (.cells (infoC seq shape max pg G.length cg) 27) = W0 := ⟨_, rfl⟩
  have hb0 : Below w.heap.size w W0 := by rw [← hW0]; exact (Below.refl _ w).alloc (Nat.le_refl _) _
  have X0 := Lib.hid (show CellsAt W0 w.heap.size 27 (infoC seq shape max pg G.length cg) by rw [← hW0]; exact CellsAt.new w _ _ rfl)
  obtain ⟨h1, h2, h3⟩ := may_groups hm
  have HG := Lib.hid (hG.keep hb0)
  have HB0 := Lib.hid hb0
  have HG8 := Lib.hid h1
  have HLN := Lib.hid (fun g k hg hk => inPart_len (g := g) (k := k) hm hg hk)
  have HS := Lib.hid (inPart_succ G)
  have HW0 := Lib.hid hW0
  have HZ := Lib.hid (Below.refl W0.heap.size W0)
  clear hG hb0 h1 h2 hm hW0
  go_enter Try.func66, Try.ntmps66
  go_wp2_with fail
  rw [HW0.out]
  go_loopw [3, 4, 5] (fun V K _ wr => ∃ g : Nat, K = .int .i64 g ∧ g ≤ G.length ∧ Hid (wr.ownsRow W0.heap.size 3 1 V (inFrom (G.take g) 0).length ((inFrom (G.take g) 0).map (Value.int .i64))) ∧ Hid (Below W0.heap.size W0 wr)) (fun _ K _ _ => G.length - (intOf K).toNat)
  case atStart => exact ⟨0, rfl, Nat.zero_le _, Lib.hid (World.ownsRow_nil _ _ _ _), HZ⟩
  case round =>
    obtain ⟨g, rfl, hg, hown, hb⟩ := hrel
    clear HZ
    have X1 := Lib.hid (X0.out.keep hb.out X0.out.lt)
    have k3 := X1.out.cell 3
    simp only [infoC, List.getElem?_toArray, List.getElem?_cons_zero, List.getElem?_cons_succ] at k3
    by_cases hlt : g < G.length
    · have hd : decide ((g : Int) < (G.length : Int)) = true := decide_eq_true (by omega)
      have hx := HG8.out g hlt
      have HAL := Lib.hid (inPart_all G hlt)
      have HWN := Lib.hid (show _ from hown.out)
      rw [← inPart_zero] at hown
      go_wp2_with fail
      go_loopw [3, 5] (fun V K wr => ∃ k : Nat, K = .int .i64 k ∧ k ≤ (G.getD g 0).toNat ∧ Hid (wr.ownsRow W0.heap.size 3 1 V (inPart G g k).length ((inPart G g k).map (Value.int .i64))) ∧ Hid (Below W0.heap.size W0 wr)) (fun _ K _ => (G.getD g 0).toNat - (intOf K).toNat)
      case atStart => exact ⟨0, rfl, Nat.zero_le _, hown, hb⟩
      case round =>
        obtain ⟨k, rfl, hk, hwn, hbk⟩ := hrel
        have X2 := Lib.hid (X0.out.keep hbk.out X0.out.lt)
        have k3 := X2.out.cell 3
        simp only [infoC, List.getElem?_toArray, List.getElem?_cons_zero, List.getElem?_cons_succ] at k3
        obtain ⟨bg, og, rfl, _, hc⟩ := (HG.out.keep hbk.out).at hlt
        have r1 := hc g hlt
        have HSK := Lib.hid (HS.out g k)
        have hl16 := HLN.out g k hg (by omega)
        obtain ⟨n, hn⟩ : ∃ n, G.getD g 0 = n := ⟨_, rfl⟩
        rw [hn] at r1 hx hk HAL ⊢
        clear hc hn hown hb
        by_cases hkn : (k : Int) < n
        · have hd2 : decide ((k : Int) < n) = true := decide_eq_true hkn
          have HL16 := Lib.hid hl16
          have hown1 := hwn.out.alloc (.cells #[.int .i64 g] 3)
          have hb1 := hbk.out.alloc hbk.out.size (.cells #[.int .i64 g] 3)
          have hl0 := Lib.hid hwn.out.lt
          have hsz := hbk.out.size
          obtain ⟨P, hP⟩ : ∃ P, inPart G g k = P := ⟨_, rfl⟩
          rw [hP] at hown1 HSK HL16
          clear hwn hbk hl16 hP
          go_wp2_with (at_builtin; refine wpList_append_own _ rfl _ _ 22 rfl W0.heap.size 3 i0 (.int .i64 0) 1 8 Try.underlying22 hi hz0 hz1 hz2 rfl (by decide) _ _ _ rfl hown1 ⟨wr.heap.size, 0, none⟩ 1 1 [.int .i64 g] rfl rfl (cell_one_new _ _ _) (one_int _) ?c3 ?c4 ?c5 ?_)
          case c3 => have := HL16.out; unfold maxLen; omega
          case c4 => have := HL16.out; omega
          case c5 => first | (simp; omega) | omega
          intro v' wA hown' hgr _
          have hb2 : Below W0.heap.size W0 wA := hb1.grown hgr (by simp; omega) (fun j hj => (hl0.out j hj).1)
          have HO2 := Lib.hid (show wA.ownsRow W0.heap.size 3 1 v' (inPart G g (k + 1)).length ((inPart G g (k + 1)).map (Value.int .i64)) by
            rw [HSK.out, List.map_append, List.length_append]
            simpa using hown')
          have HB2 := Lib.hid hb2
          clear hown' hgr hb1 hown1 hb2
          go_wp2
          exact ⟨⟨k + 1, by go_num, by omega, HO2, HB2⟩, by simp [intOf]; omega⟩
        · have hkn2 : k = n.toNat := by omega
          have hd2 : decide ((k : Int) < n) = false := decide_eq_false hkn
          have HO2 := Lib.hid (show wr.ownsRow W0.heap.size 3 1 _ (inFrom (G.take (g + 1)) 0).length ((inFrom (G.take (g + 1)) 0).map (Value.int .i64)) by rw [← HAL.out, ← hkn2]; exact hwn.out)
          clear hwn
          go_wp2_with fail
          exact ⟨⟨g + 1, by go_num, by omega, HO2, hbk⟩, by simp [intOf]; omega⟩
    · have hgl : g = G.length := by omega
      subst hgl
      have hd : decide ((G.length : Int) < (G.length : Int)) = false := by simp
      have hw2 := hown.out
      rw [List.take_length] at hw2
      obtain ⟨q2, d2, rfl, I2⟩ := owns_any hw2
      have HQ := Lib.hid I2.ints
      have HE := Lib.hid (HB0.out.trans (hb.out.mono HB0.out.size))
      clear hw2 I2 hown hlt
      go_wp2
      go_ret
      exact ⟨q2, d2, by simp, HQ.out, HE.out⟩
end Go.Proofs.Ytppfbfiigfjncaa
