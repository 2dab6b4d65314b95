/- info.grouped: what a call answers. -/
import Derived.Test.YteijlbblmdclaaaSlEq
import Derived.Test.YteijlbblmdclaaaBandMany
import Derived.Test.YteijlbblmdclaaaGP
set_option linter.unusedVariables false
set_option linter.unusedSimpArgs false
namespace Go.Proofs.Yteijlbblmdclaaa
open Go.ChangeShapes Go.WideShapes Go.ChangeAt Go.RowKit

abbrev infoC (seq shape max : Int) (pg : Option Addr) (ng cg : Nat) : Array Value := #[.int .u8 seq, .int .u8 shape, .int .i64 max, .slice pg ng cg]
/-- The sum of the first so many. -/
def sumG (G : List Int) : Nat → Int
  | 0 => 0
  | n + 1 => sumG G n + G.getD n 0
def okG (x : Int) : Bool := decide (1 ≤ x) && decide (x ≤ 8)
def grpB (seq : Int) (G : List Int) : Bool := if seq = 2 then G.all okG && (decide (sumG G G.length = 8) && decide (G.length ≤ 8)) else decide (G = [1])
theorem sumG_fit (G : List Int) : ∀ n, n ≤ G.length → (∀ j, j < n → okG (G.getD j 0) = true) → 0 ≤ sumG G n ∧ sumG G n ≤ 8 * n
  | 0, _, _ => by simp [sumG]
  | n + 1, hn, h => by
    have ih := sumG_fit G n (by omega) (fun j hj => h j (by omega))
    have h1 := h n (by omega)
    rw [sumG]
    generalize G.getD n 0 = x at *
    unfold okG at h1
    simp at h1
    omega
def RGrp (b : Bool) (w : World) (e : Ending) (w' : World) : Prop := e = .returned (.bool b) ∧ Below w.heap.size w w'
theorem all_step {G : List Int} (h : ∀ j, j < G.length → okG (G.getD j 0) = true) : G.all okG = true := by
  rw [List.all_eq_true]
  intro x hx
  obtain ⟨i, hi, rfl⟩ := List.getElem_of_mem hx
  have := h i hi
  simpa [List.getD_eq_getElem?_getD, hi] using this
theorem all_not {G : List Int} {k : Nat} (hk : k < G.length) (h : okG (G.getD k 0) = false) : G.all okG = false := by
  rw [List.all_eq_false]
  exact ⟨G[k], List.getElem_mem hk, by simpa [List.getD_eq_getElem?_getD, hk] using h⟩
set_option maxRecDepth 100000 in
set_option maxHeartbeats 4000000 in
theorem grouped_ok (seq shape max : Int) (G : List Int) (pg : Option Addr) (cg : Nat) (w : World) (hG : IsInts w pg G) (hl : G.length ≤ 100) :
    Calls Try.prog 65 #[.agg (infoC seq shape max pg G.length cg)] w (RGrp (grpB seq G) w) := by
  have hb0 : Below w.heap.size w (w.alloc (.cells (infoC seq shape max pg G.length cg) 33)) := (Below.refl _ w).alloc (Nat.le_refl _) _
  have X0 := Lib.hid (CellsAt.new w 33 (infoC seq shape max pg G.length cg) rfl)
  have HG := Lib.hid (hG.keep hb0)
  by_cases hs : seq = 2
  · subst hs
    obtain ⟨bb, hbb⟩ : ∃ b, grpB 2 G = b := ⟨_, rfl⟩
    have HB := Lib.hid hbb
    rw [hbb]
    clear hG hbb
    unfold RGrp
    go_enter Try.func65, Try.ntmps65
    go_wp2_with fail
    go_loop [3, 16] (fun S K => ∃ k : Nat, K = .int .i64 k ∧ k ≤ G.length ∧ S = .int .i64 (sumG G k) ∧ Hid (∀ j, j < k → okG (G.getD j 0) = true)) (fun _ K => G.length - (intOf K).toNat)
    case atStart => exact ⟨0, rfl, Nat.zero_le _, rfl, fun j hj => by omega⟩
    case round =>
      obtain ⟨k, rfl, hk, rfl, hall⟩ := hrel
      have hfit := sumG_fit G k hk hall.out
      by_cases hlt : k < G.length
      · obtain ⟨b, off, rfl, _, hc⟩ := HG.out.at hlt
        have h1 := hc k hlt
        have hsucc : sumG G (k + 1) = sumG G k + G.getD k 0 := rfl
        have HSU := Lib.hid hsucc
        cases hok : okG (G.getD k 0)
        · have HN := Lib.hid (all_not hlt hok)
          clear hc hsucc HSU
          generalize G.getD k 0 = x at h1 hok
          have hx : x < 1 ∨ 8 < x := by
            unfold okG at hok; simp at hok; omega
          clear hok
          have HX := Lib.hid hx
          by_cases c1 : x < 1
          · have e1 : decide (x < 1) = true := decide_eq_true c1
            clear hx
            go_wp2
            go_ret
            exact ⟨ret_bool (by rw [← HB.out]; unfold grpB; rw [HN.out]; simp), hb0⟩
          · have e1 : decide (x < 1) = false := decide_eq_false c1
            have e2 : decide (x > 8) = true := decide_eq_true (by omega)
            clear hx
            go_wp2
            go_ret
            exact ⟨ret_bool (by rw [← HB.out]; unfold grpB; rw [HN.out]; simp), hb0⟩
        · have hok2 := Lib.hid hok
          clear hc hsucc
          obtain ⟨x, hxe⟩ : ∃ x, G.getD k 0 = x := ⟨_, rfl⟩
          rw [hxe] at h1 HSU hok
          have hx : 1 ≤ x ∧ x ≤ 8 := by
            unfold okG at hok; simp at hok; omega
          clear hok
          have HXE := Lib.hid hxe
          have e1 : decide (x < 1) = false := decide_eq_false (by omega)
          have e2 : decide (x > 8) = false := decide_eq_false (by omega)
          have e3 : IntKind.i64.wrap (sumG G k + x) = sumG G k + x := IntWalk.i64_in _ (by omega)
          clear hxe
          go_wp2
          go_round
          case rel => exact ⟨k + 1, by go_num, hlt, by rw [HSU.out], fun j hj => by
            by_cases e : j = k
            · rw [e]; exact hok2.out
            · exact hall.out j (by omega)⟩
          case measure => simp [intOf]; omega
      · have hkM : k = G.length := by omega
        subst hkM
        have HA := Lib.hid (all_step hall.out)
        clear hall
        have HSF := Lib.hid hfit
        clear hfit
        obtain ⟨S, hS⟩ : ∃ s, sumG G G.length = s := ⟨_, rfl⟩
        have HSE := Lib.hid hS
        rw [hS]
        clear hS
        by_cases c1 : S = 8
        · have e1 : (S == 8) = true := by simpa using c1
          have C1 := Lib.hid c1
          clear c1
          by_cases c2 : G.length ≤ 8
          · have e2 : decide ((G.length : Int) ≤ 8) = true := decide_eq_true (by omega)
            go_wp2
            go_ret
            exact ⟨ret_bool (by rw [← HB.out]; unfold grpB; rw [if_pos rfl, HA.out, HSE.out, decide_eq_true C1.out, decide_eq_true c2]; rfl), hb0⟩
          · have e2 : decide ((G.length : Int) ≤ 8) = false := decide_eq_false (by omega)
            go_wp2
            go_ret
            exact ⟨ret_bool (by rw [← HB.out]; unfold grpB; rw [if_pos rfl, HA.out, HSE.out, decide_eq_true C1.out, decide_eq_false c2]; rfl), hb0⟩
        · have e1 : (S == 8) = false := by simpa using c1
          have C1 := Lib.hid c1
          clear c1
          go_wp2
          go_ret
          exact ⟨ret_bool (by rw [← HB.out]; unfold grpB; rw [if_pos rfl, HA.out, HSE.out, decide_eq_false C1.out]; rfl), hb0⟩
  · obtain ⟨bb, hbb⟩ : ∃ b, grpB seq G = b := ⟨_, rfl⟩
    have HB := Lib.hid hbb
    rw [hbb]
    have hs2 : (seq != 2) = true := by simpa using hs
    have HS := Lib.hid hs
    clear hG hbb hs
    unfold RGrp
    go_enter Try.func65, Try.ntmps65
    go_wp2_with fail
    have hb1 := hb0.alloc hb0.size (.cells #[.int .i64 1] 3)
    have hI1 : IsInts ((w.alloc (.cells (infoC seq shape max pg G.length cg) 33)).alloc (.cells #[.int .i64 1] 3)) (some ⟨w.heap.size + 1, 0, none⟩) [1] := (CellsAt.new (w.alloc (.cells (infoC seq shape max pg G.length cg) 33)) 3 (valsL [1]) (by simp)).ints
    refine (eq_any pg (some ⟨w.heap.size + 1, 0, none⟩) G [1] cg 1 _ (HG.out.keep ((Below.refl _ _).alloc (Nat.le_refl _) _)) hI1 (by unfold maxLen; omega) (by unfold maxLen; decide)).mono ?_
    rintro e w1 ⟨rfl, n, rfl⟩
    have hb2 := below_drewN hb1 n
    clear hI1 hb1 hb0 X0 HG
    go_wp2
    go_ret
    exact ⟨ret_bool (by rw [← HB.out]; unfold grpB; rw [if_neg HS.out]), hb2⟩
end Go.Proofs.Yteijlbblmdclaaa
