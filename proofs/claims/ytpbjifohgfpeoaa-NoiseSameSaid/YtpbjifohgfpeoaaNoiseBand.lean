/- noise.Band: the walk. -/
import Derived.Test.YtpbjifohgfpeoaaNoisePlain
import Derived.Outline
set_option linter.unusedVariables false
namespace Go.Proofs.Ytpbjifohgfpeoaa
open Go.ChangeShapes Go.WideShapes Go.ChangeAt Go.RowKit

def RBand (s step : Int) (n : Nat) (w : World) (e : Ending) (w' : World) : Prop :=
  ∃ g : Nat, e = .returned (.tuple #[.slice (some ⟨g, 0, none⟩) n n, .int .i64 0]) ∧ w'.ownsRow w.heap.size 3 1 (.slice (some ⟨g, 0, none⟩) n n) n ((noiseL s step n).map (Value.int .i64)) ∧ w.heap.size ≤ g ∧ g < w'.heap.size ∧ Below w.heap.size w w'
theorem draw_get (s : Int) (n k : Nat) (h : k < n) : ((drawL s n).map (Value.int .i64))[k]? = some (.int .i64 (drawV (seedAt s k))) := by
  simp [drawL, h]
theorem owns_base {w : World} {base base' g : Nat} {e : TypeId} {size n c : Nat} {xs : List Value} (h : w.ownsRow base e size (.slice (some ⟨g, 0, none⟩) n c) n xs) (hle : base' ≤ base) : w.ownsRow base' e size (.slice (some ⟨g, 0, none⟩) n c) n xs := by
  refine ⟨h.1, ?_⟩
  rcases h.2 with h' | ⟨g', cap, cur, h', hg, rest⟩
  · exact .inl h'
  · exact .inr ⟨g', cap, cur, h', Nat.le_trans hle hg, rest⟩
theorem root_call (s : Int) (n : Nat) (hn : n ≤ 256) (w : World) :
    Calls Try.prog 17 #[.int .i64 (sumT s n * 65536)] w fun e w' => e = .returned (.tuple #[.int .i64 (rootV s n), .int .i64 0]) ∧ Below w.heap.size w w' := by
  obtain ⟨t0, t1⟩ := sumT_range s n
  have h := sqrt_ok (sumT s n * 65536).toNat (by omega) w
  rw [Int.toNat_of_nonneg (by omega)] at h
  exact h
theorem line_one (m step : Int) (h : m = min step 255) (h0 : 0 ≤ step) : lineV 1 m = (oneV step, 0) := by
  rw [lineV, if_neg (by unfold BadQ; omega), oneV, h]
set_option maxRecDepth 100000 in
set_option maxHeartbeats 2000000 in
theorem nband_ok (s step : Int) (n : Nat) (s0 : 0 ≤ s) (s1 : s < 4294967296) (p0 : 0 ≤ step) (p1 : step ≤ 511) (hn : n ≤ 256) (w : World) :
    Calls Try.prog 9 #[.int .u32 s, .int .i64 step, .int .i64 n] w (RBand s step n w) := by
  have d1 : decide (step < 0) = false := by simp; omega
  have d2 : decide (511 < step) = false := by simp; omega
  have d3 : decide ((n : Int) < 0) = false := by simp
  have d4 : decide (256 < (n : Int)) = false := by simp; omega
  have hmf : ∀ (fn : Fn) (first cap : Array Value) (w : World), (Instr.makeFunc fn first cap).run Try.prog w = .ok (.func fn first cap) w := fun _ _ _ _ => rfl
  have h0 : OneS w.heap.size s (w.alloc (.cells #[.int .u32 s] 41)) := by
    show ((w.heap.push _))[w.heap.size]? = _
    simp
  have H0 := Lib.hid h0
  clear h0
  go_enter Try.func9, Try.ntmps9
  go_wp2_with fail
  refine (filled_ok w.heap.size s n s0 s1 hn _ H0.out).mono ?_
  rintro e w3 ⟨g, rfl, hO, hg, hlt, hb⟩
  have hgn : w.heap.size < g := by have := hg; simp at this; omega
  have hbw : Below w.heap.size w w3 := ((Below.refl _ _).alloc (Nat.le_refl _) _).trans hb
  have hO1 : w3.ownsRow w.heap.size 3 1 (.slice (some ⟨g, 0, none⟩) n n) n ((drawL s n).map (Value.int .i64)) := owns_base hO (by simp)
  have HO := Lib.hid hO1
  clear hO hO1 hb hg H0
  go_wp2
  go_loop [10, 37] (fun S I => ∃ k : Nat, S = .int .i64 (sumT s k) ∧ I = .int .i64 k ∧ k ≤ n) (fun _ I => n - (intOf I).toNat)
  case atStart => exact ⟨0, rfl, rfl, Nat.zero_le _⟩
  case round =>
    obtain ⟨k, rfl, rfl, hk⟩ := hrel
    by_cases hlt2 : k < n
    · have hc := HO.out.cellAt k (by omega)
      rw [draw_get s n k hlt2] at hc
      obtain ⟨q0, q1⟩ := draw_sq (seedAt s k)
      obtain ⟨t0, t1⟩ := sumT_range s k
      have hst : Hid (sumT s (k + 1) = sumT s k + drawV (seedAt s k) * drawV (seedAt s k)) := rfl
      go_wp2
      go_round
      case rel => exact ⟨k + 1, congrArg (Value.int .i64) hst.out.symm, by go_num, by omega⟩
      case measure => simp [intOf]; omega
    · have hkn : k = n := by omega
      subst hkn
      obtain ⟨t0, t1⟩ := sumT_range s k
      go_wp2_with fail
      refine (root_call s k hn _).mono ?_
      rintro e w4 ⟨rfl, hb4⟩
      have HO4 := Lib.hid (owns_keep HO.out hb4)
      have hb14 : Below w.heap.size w w4 := hbw.trans (hb4.mono hbw.size)
      have hlt4 : g < w4.heap.size := Nat.lt_of_lt_of_le hlt hb4.size
      clear HO hb4 hbw hlt
      obtain ⟨D, hD⟩ : ∃ D, rootV s k = D := ⟨_, rfl⟩
      obtain ⟨r0, r1⟩ := root_range s k hn
      rw [hD] at r0 r1 ⊢
      have HD := Lib.hid hD
      clear hD
      go_wp2_with fail
      all_goals
        refine (Line_any 1 _ _).mono ?_
        rw [line_one _ step (by omega) p0]
        rintro e w5 ⟨rfl, hb5⟩
        have HO5 := Lib.hid (owns_keep HO4.out hb5)
        have hb15 : Below w.heap.size w w5 := hb14.trans (hb5.mono hb14.size)
        have hlt5 : g < w5.heap.size := Nat.lt_of_lt_of_le hlt4 hb5.size
        obtain ⟨o0, o1⟩ := one_range step
        have AR := Lib.hid (fun j => arg_range (seedAt s j) step)
        obtain ⟨A, hA⟩ : ∃ A, oneV step = A := ⟨_, rfl⟩
        rw [hA] at o0 o1 AR ⊢
        have HA := Lib.hid hA
        clear HO4 hb14 hb5 hlt4 hA
        go_wp2
        go_loopw [61] (fun I wr => ∃ (q : Nat) (xs : List Value), I = .int .i64 q ∧ q ≤ k ∧ Hid (wr.ownsRow w.heap.size 3 1 (.slice (some ⟨g, 0, none⟩) k k) k xs) ∧ xs.length = k ∧ Below w.heap.size w wr ∧ g < wr.heap.size ∧ Hid (∀ j, j < q → xs[j]? = some (.int .i64 (noiseV s step k j))) ∧ Hid (∀ j, q ≤ j → j < k → xs[j]? = some (.int .i64 (drawV (seedAt s j))))) (fun I _ => k - (intOf I).toNat)
        case atStart => exact ⟨0, _, rfl, Nat.zero_le _, HO5, by simp [drawL], hb15, hlt5, Lib.hid (fun _ h => absurd h (Nat.not_lt_zero _)), Lib.hid (fun j _ hj => draw_get s k j hj)⟩
        case round =>
          obtain ⟨q, xs, rfl, hq, hO, hlenO, hbq, hgq, hxs, hys⟩ := hrel
          clear HO5 hb15 hlt5
          by_cases hlt6 : q < k
          · have hc := hO.out.cellAt q (by omega)
            rw [hys.out q (Nat.le_refl _) hlt6] at hc
            have hf := hO.out.frozenAt q
            obtain ⟨a0, a1⟩ := AR.out q
            obtain ⟨v0, v1⟩ := draw_range (seedAt s q)
            have hv : noiseV s step k q = if 0 < D then perV (drawV (seedAt s q) * A * 256) D else 0 := by rw [noiseV, HD.out, HA.out]
            have HO1 := Lib.hid (hO.out.stored q (.int .i64 0)).1
            generalize drawV (seedAt s q) = v at hc a0 a1 v0 v1 hv
            by_cases hd0 : 0 < D
            · rw [if_pos hd0] at hv
              have HV := Lib.hid hv
              have HP := Lib.hid (fun W => per_ok (v * A * 256) D (by omega) (by omega) hd0 (by omega) W)
              clear hv
              have hsz1 : g < (wr.setCell ⟨g, q, none⟩ (.int .i64 0)).heap.size := by simpa [World.setCell] using hgq
              have hb5 : Below w.heap.size w (wr.setCell ⟨g, q, none⟩ (.int .i64 0)) := hbq.setCell (p := ⟨g, q, none⟩) (Nat.le_of_lt hgn) _
              go_wp2_with fail
              refine (HP.out _).mono ?_
              rintro e w7 ⟨rfl, hw7⟩
              obtain ⟨x, hx⟩ : ∃ x, perV (v * A * 256) D = x := ⟨_, rfl⟩
              rw [hw7] at HO1 hsz1 hb5
              have HO2 := Lib.hid (HO1.out.stored q (.int .i64 x)).1
              have hc1 := HO1.out.cellAt q (by omega)
              have hf1 := HO1.out.frozenAt q
              rw [List.getElem?_set_self (by omega)] at hc1
              have hb6 : Below w.heap.size w (w7.setCell ⟨g, q, none⟩ (.int .i64 x)) := hb5.setCell (p := ⟨g, q, none⟩) (Nat.le_of_lt hgn) _
              rw [hx] at HV ⊢
              have hxs2 : Hid (∀ j, j < q + 1 → ((xs.set q (.int .i64 0)).set q (.int .i64 x))[j]? = some (.int .i64 (noiseV s step k j))) := by
                intro j hj
                by_cases e : j = q
                · rw [e, List.getElem?_set_self (by simp; omega), HV.out]
                · rw [List.getElem?_set_ne (by omega), List.getElem?_set_ne (by omega)]; exact hxs.out j (by omega)
              have hys2 : Hid (∀ j, q + 1 ≤ j → j < k → ((xs.set q (.int .i64 0)).set q (.int .i64 x))[j]? = some (.int .i64 (drawV (seedAt s j)))) := by
                intro j hj hj2
                rw [List.getElem?_set_ne (by omega), List.getElem?_set_ne (by omega)]; exact hys.out j (by omega) hj2
              clear hxs hys HO1 hO hw7 hbq hb5 HP hx
              go_wp2
              exact ⟨⟨q + 1, _, by go_num, by omega, HO2, by simp [hlenO], hb6, by simpa [World.setCell] using hsz1, hxs2, hys2⟩, by simp [intOf]; omega⟩
            · rw [if_neg hd0] at hv
              have HV := Lib.hid hv
              clear hv
              have hsz1 : g < (wr.setCell ⟨g, q, none⟩ (.int .i64 0)).heap.size := by simpa [World.setCell] using hgq
              have hb5 : Below w.heap.size w (wr.setCell ⟨g, q, none⟩ (.int .i64 0)) := hbq.setCell (p := ⟨g, q, none⟩) (Nat.le_of_lt hgn) _
              have hxs2 : Hid (∀ j, j < q + 1 → (xs.set q (.int .i64 0))[j]? = some (.int .i64 (noiseV s step k j))) := by
                intro j hj
                by_cases e : j = q
                · rw [e, List.getElem?_set_self (by omega), HV.out]
                · rw [List.getElem?_set_ne (by omega)]; exact hxs.out j (by omega)
              have hys2 : Hid (∀ j, q + 1 ≤ j → j < k → (xs.set q (.int .i64 0))[j]? = some (.int .i64 (drawV (seedAt s j)))) := by
                intro j hj hj2
                rw [List.getElem?_set_ne (by omega)]; exact hys.out j (by omega) hj2
              clear hxs hys hO hbq
              go_wp2
              exact ⟨⟨q + 1, _, by go_num, by omega, HO1, by simp [hlenO], hb5, hsz1, hxs2, hys2⟩, by simp [intOf]; omega⟩
          · have hqk : q = k := by omega
            subst hqk
            have HE := Lib.hid (row_eq hlenO hxs.out)
            clear hxs hys
            go_wp2
            go_ret2
            refine ⟨g, rfl, ?_, Nat.le_of_lt hgn, hgq, hbq⟩
            have : (noiseL s step q).map (Value.int .i64) = xs := HE.out.symm
            rw [this]
            exact hO.out
end Go.Proofs.Ytpbjifohgfpeoaa
