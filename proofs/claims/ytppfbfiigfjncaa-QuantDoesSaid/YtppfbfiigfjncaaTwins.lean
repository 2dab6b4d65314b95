/- The statements' helpers: rows in new memory, and rows compared. -/
import Derived.Test.YtppfbfiigfjncaaRowGrow
import Derived.Test.YtppfbfiigfjncaaSameR
import Derived.Test.YtppfbfiigfjncaaArgs
import Derived.Test.YtppfbfiigfjncaaGP
import Derived.Deep.QuietTactic
import Derived.Lib.SliceRun
set_option linter.unusedVariables false
set_option linter.unusedSimpArgs false
namespace Go.Proofs.Ytppfbfiigfjncaa
open Go.ChangeShapes Go.WideShapes Go.ChangeAt Go.RowKit
def RTwins (B : List RV) (w : World) (e : Ending) (w' : World) : Prop :=
  ∃ q c R, e = .returned (.slice q R.length c) ∧ IsRows w' q R ∧ R.length = B.length ∧ (∀ j, j < B.length → (R.getD j default).l = (B.getD j default).l) ∧ Below w.heap.size w w'
set_option maxRecDepth 100000 in
set_option maxHeartbeats 2000000 in
theorem twins_ok (B : List RV) (q : Option Addr) (c : Nat) (w : World) (hB : IsRows w q B) (hA : ∀ j, j < B.length → IsArg w (B.getD j default).q (B.getD j default).c (B.getD j default).l) (h8 : ∀ j, j < B.length → (B.getD j default).l.length * 8 ≤ 140737488355328) (hl : B.length ≤ 100) :
    Calls Try.prog 12 #[.slice q B.length c] w (RTwins B w) := by
  have HB := Lib.hid hB
  have HA := Lib.hid hA
  have H8 := Lib.hid h8
  have R0 := Lib.hid (RowsG.nil w w.heap.size)
  have Z0 := Lib.hid (Below.refl w.heap.size w)
  clear hB hA h8
  go_enter Try.func12, Try.ntmps12
  go_wp2_with fail
  go_loopw [3, 4] (fun V K wr => ∃ (k : Nat) (R : List RV), K = .int .i64 k ∧ k ≤ B.length ∧ R.length = k ∧ Hid (RowsG wr w.heap.size V R) ∧ Hid (∀ j, j < k → (R.getD j default).l = (B.getD j default).l) ∧ Hid (Below w.heap.size w wr)) (fun _ K _ => B.length - (intOf K).toNat)
  case atStart => exact ⟨0, [], rfl, Nat.zero_le _, rfl, R0, fun j hj => by omega, Z0⟩
  case round =>
    obtain ⟨k, R, rfl, hk, hRl, hRG, hRC, hb⟩ := hrel
    clear R0 Z0
    by_cases hklt : k < B.length
    · have hd : decide ((k : Int) < (B.length : Int)) = true := decide_eq_true (by omega)
      obtain ⟨bq, oq, rfl, _, r1, _⟩ := (HB.out.keep hb.out).at hklt
      have hA1 := (HA.out k hklt).keep hb.out
      have h81 := H8.out k hklt
      obtain ⟨rv, hrv⟩ : ∃ r, B.getD k default = r := ⟨_, rfl⟩
      rw [hrv] at r1 hA1 h81
      have HRV := Lib.hid hrv
      obtain ⟨qr, cr, l⟩ := rv
      dsimp only at r1 hA1 h81
      have HA1 := Lib.hid hA1
      have hm : maxLen = 9223372036854775807 := rfl
      clear hrv hA1
      go_wp2_with (at_builtin; refine append_ints rfl _ _ rfl wr.heap.size _ 0 [] rfl (World.ownsRow_nil _ _ _ _) qr cr l rfl HA1.out ?b1 ?b2 ?b3 ?_)
      case b1 => omega
      case b2 => omega
      case b3 => exact Nat.le_refl _
      intro v1 w1 hown1 hg1
      have hb1 : Below wr.heap.size wr w1 := (Below.refl _ wr).grown hg1 (Nat.le_refl _) (fun k hk => by simp [Value.ownBlock] at hk)
      have hown2 : w1.ownsRow wr.heap.size 3 1 v1 l.length (l.map (Value.int .i64)) := by simpa using hown1
      obtain ⟨qn, cn, rfl, hIB⟩ := owns_any hown2
      have hfar := RowFar.of (r := ⟨qn, cn, l⟩) (fun g hg => (hRG.out.own.lt g hg).2) hIB
      have ha := (Below.refl w1.heap.size w1).alloc (Nat.le_refl _) (.cells #[.slice qn l.length cn] 22)
      have HRG3 := Lib.hid ((hRG.out.keep hb1).keep ha)
      have HFAR := Lib.hid (hfar.keep ha)
      have hsz0 := hb.out.size
      have hsz1 := hb1.size
      have HBA := Lib.hid ((hb.out.trans (hb1.mono hsz0)).trans (ha.mono (by omega)))
      have HCE := Lib.hid (show (w1.alloc (.cells #[.slice qn l.length cn] 22)).cell? ⟨w1.heap.size, 0, none⟩ = some (RV.val ⟨qn, cn, l⟩) from (CellsAt.new w1 22 #[.slice qn l.length cn] rfl).cell 0)
      clear hown1 hown2 hg1 hIB hfar ha hRG hb hb1 r1
      go_wp2_with (at_builtin; refine append_row rfl _ _ rfl w.heap.size _ R rfl HRG3.out ⟨qn, cn, l⟩ HFAR.out w1.heap.size rfl HCE.out ?c3 ?c4 ?_)
      case c3 => omega
      case c4 => first | (simp; omega) | omega
      intro V' wB hRN hBN
      have HRN := Lib.hid hRN
      have HBN := Lib.hid (HBA.out.trans hBN)
      have HRC2 := Lib.hid (show ∀ j, j < k + 1 → ((R ++ [(⟨qn, cn, l⟩ : RV)]).getD j default).l = (B.getD j default).l by
        intro j hj
        by_cases e : j < R.length
        · rw [show (R ++ [(⟨qn, cn, l⟩ : RV)]).getD j default = R.getD j default by rw [List.getD_eq_getElem?_getD, List.getElem?_append_left e, ← List.getD_eq_getElem?_getD]]
          exact hRC.out j (by omega)
        · obtain rfl : j = R.length := by omega
          rw [show (R ++ [(⟨qn, cn, l⟩ : RV)]).getD R.length default = (⟨qn, cn, l⟩ : RV) by rw [List.getD_eq_getElem?_getD, List.getElem?_append_right (Nat.le_refl _)]; simp]
          rw [hRl, HRV.out])
      have hRl2 : (R ++ [(⟨qn, cn, l⟩ : RV)]).length = k + 1 := by rw [List.length_append, hRl]; rfl
      clear hRN hBN HBA HRG3 HFAR hRC
      go_wp2
      exact ⟨⟨k + 1, R ++ [(⟨qn, cn, l⟩ : RV)], by go_num, by omega, hRl2, HRN, HRC2, HBN⟩, by simp [intOf]; omega⟩
    · have hkB : k = B.length := by omega
      subst hkB
      have hd : decide ((B.length : Int) < (B.length : Int)) = false := by simp
      obtain ⟨qR, cR, rfl, hIR⟩ := hRG.out.isRows
      have HIR := Lib.hid hIR
      have HRL := Lib.hid hRl
      clear hIR hRG hRl hklt
      go_wp2
      go_ret
      exact ⟨qR, cR, R, rfl, HIR.out, HRL.out, hRC.out, hb.out⟩
set_option maxRecDepth 100000 in
set_option maxHeartbeats 2000000 in
theorem same_ok (X B : List RV) (pa pb : Option Addr) (ca cb : Nat) (w : World) (hA : IsRows w pa X) (hB : IsRows w pb B) (hl : X.length = B.length) (he : ∀ j, j < B.length → (X.getD j default).l = (B.getD j default).l) (hm : ∀ j, j < B.length → (B.getD j default).l.length ≤ maxLen) (h100 : B.length ≤ 100) :
    Calls Try.prog 17 #[.slice pa X.length ca, .slice pb B.length cb] w fun e w' => e = .returned (.bool true) ∧ ∃ n, w' = w.drewN n := by
  rw [hl]
  have HA := Lib.hid hA
  have HB := Lib.hid hB
  have HE := Lib.hid he
  have HM := Lib.hid hm
  have HL := Lib.hid hl
  clear hA hB he hm hl
  go_enter Try.func17, Try.ntmps17
  go_wp2_with fail
  go_loopw [5] (fun K wr => ∃ k m : Nat, K = .int .i64 k ∧ k ≤ B.length ∧ wr = w.drewN m) (fun K _ => B.length - (intOf K).toNat)
  case atStart => exact ⟨0, 0, rfl, Nat.zero_le _, rfl⟩
  case round =>
    obtain ⟨k, m, rfl, hk, rfl⟩ := hrel
    by_cases hklt : k < B.length
    · have hd : decide ((k : Int) < (B.length : Int)) = true := decide_eq_true (by omega)
      have hAm : IsRows (w.drewN m) pa X := HA.out.keep (below_drewN (Below.refl _ _) m)
      have hBm : IsRows (w.drewN m) pb B := HB.out.keep (below_drewN (Below.refl _ _) m)
      obtain ⟨wo, hwo⟩ : ∃ z, w.drewN m = z := ⟨_, rfl⟩
      rw [hwo] at hAm hBm ⊢
      have HWO := Lib.hid hwo
      obtain ⟨b1, o1, rfl, _, r1, i1⟩ := hAm.at (j := k) (by rw [HL.out]; exact hklt)
      obtain ⟨b2, o2, rfl, _, r2, i2⟩ := hBm.at hklt
      have he := HE.out k hklt
      have hml := HM.out k hklt
      obtain ⟨r, hr⟩ : ∃ r, X.getD k default = r := ⟨_, rfl⟩
      obtain ⟨t, ht⟩ : ∃ r, B.getD k default = r := ⟨_, rfl⟩
      rw [hr] at r1 i1 he
      rw [ht] at r2 i2 he hml
      obtain ⟨qr, cr, l⟩ := r
      obtain ⟨qt, ct, l2⟩ := t
      dsimp only at r1 i1 r2 i2 he hml
      subst he
      have I1 := Lib.hid i1
      have I2 := Lib.hid i2
      have HS := Lib.hid (fun n => Calls.quiet_of (n := n) (sameI_same qr qt l cr ct (wo.drewN n) (i1.drewN n) (i2.drewN n) hml))
      have hkI : (k : Int) < (B.length : Int) := by omega
      clear hr ht i1 i2 hAm hBm hwo
      go_wp2_with fail
      have hkI : (k : Int) < (B.length : Int) := by omega
      go_quiet ((go_at_call 16; exact HS.out _))
      go_wp2_with fail
      exact ⟨⟨k + 1, m + nq, by go_num, by omega, by rw [← HWO.out, World.drewN_drewN]⟩, by simp [intOf]; omega⟩
    · have hkB : k = B.length := by omega
      subst hkB
      have hd : decide ((B.length : Int) < (B.length : Int)) = false := by simp
      go_wp2
      go_ret
      exact ⟨rfl, _, rfl⟩
end Go.Proofs.Ytppfbfiigfjncaa
