/- reedpiperef11, reedpiperef04.Table: what each call answers. -/
import Derived.Test.YtcmbbmilldhnnaaG3
import Derived.Test.YtcmbbmilldhnnaaRefCos
import Derived.Test.YtcmbbmilldhnnaaDown
set_option linter.unusedVariables false
namespace Go.Proofs.Ytcmbbmilldhnnaa
open Go.ChangeShapes Go.WideShapes Go.ChangeAt Go.RowKit

def cirL (k : Nat) : List Int := (List.range k).map (fun n : Nat => cosL n)
theorem cir_len (k : Nat) : (cirL k).length = k := by simp [cirL]
theorem cir_succ (k : Nat) : cirL (k + 1) = cirL k ++ [cosL k] := by rw [cirL, List.range_succ, List.map_append]; rfl
theorem cir_at (k j : Nat) (h : j < k) : (cirL k).getD j 0 = cosL j := by simp [cirL, List.getD_eq_getElem?_getD, h]
def RTable (w : World) (e : Ending) (w' : World) : Prop := ∃ g cap : Nat, e = .returned (.slice (some ⟨g, 0, none⟩) 2048 cap) ∧ CirAt w' g ∧ w.heap.size ≤ g ∧ Below w.heap.size w w'
set_option maxRecDepth 100000 in
set_option maxHeartbeats 2000000 in
theorem table_ok (w : World) : Calls Try.prog 66 #[] w (RTable w) := by
  obtain ⟨i0, hi, hz0, hz1, hz2⟩ := info_parts Try.infoInt
  go_enter Try.func66, Try.ntmps66
  go_wp2
  go_loopw [1, 2] (fun V I wr => ∃ (k : Nat), wr.ownsRow w.heap.size 3 1 V (cirL k).length ((cirL k).map (Value.int .i64)) ∧ I = .int .i64 k ∧ k ≤ 2048 ∧ Below w.heap.size w wr) (fun _ I _ => 2048 - (intOf I).toNat)
  case atStart => exact ⟨0, World.ownsRow_nil _ _ _ _, rfl, by decide, Below.refl _ _⟩
  case round =>
    obtain ⟨k, hown, rfl, hk, hb⟩ := hrel
    by_cases hlt : k < 2048
    · have HC := Lib.hid (fun W => refcos_ok k W)
      have hl2 := Lib.hid (cir_len k)
      have HV := Lib.hid (cir_succ k)
      generalize cosL (k : Int) = v at HC HV
      go_wp2_with fail
      refine (HC.out _).mono ?_
      rintro e w3 ⟨rfl, hw3⟩
      obtain rfl := hw3
      clear HC
      have hown1 := hown.alloc (.cells #[.int .i64 (v)] 3)
      have hb1 := hb.alloc hb.size (.cells #[.int .i64 (v)] 3)
      have hl0 := Lib.hid hown.lt
      have hsz := hb.size
      clear hown hb
      go_wp2_with (at_builtin; refine wpList_append_own _ rfl _ _ 22 rfl w.heap.size 3 i0 (.int .i64 0) 1 8 Try.underlying22 hi hz0 hz1 hz2 rfl (by decide) _ _ _ rfl hown1 ⟨wr.heap.size, 0, none⟩ 1 1 [.int .i64 (v)] rfl rfl (cell_one_new _ _ _) (one_int _) ?c3 ?c4 ?c5 ?_)
      case c3 => first | (rw [hl2.out]; unfold maxLen; omega) | (unfold maxLen; omega)
      case c4 => first | (rw [hl2.out]; omega) | omega
      case c5 => first | (simp; omega) | omega
      intro v' wA hown' hg _
      have hb2 : Below w.heap.size w wA := hb1.grown hg (by simp; omega) (fun j hj => (hl0.out j hj).1)
      have hown2 : wA.ownsRow w.heap.size 3 1 v' (cirL (k + 1)).length ((cirL (k + 1)).map (Value.int .i64)) := by
        rw [HV.out, List.map_append, List.length_append]
        simpa using hown'
      clear hown' hg hb1 hown1
      go_wp2
      exact ⟨⟨k + 1, hown2, by go_num, by omega, hb2⟩, by simp [intOf]; omega⟩
    · have hkM : k = 2048 := by omega
      subst hkM
      have hne : cirL 2048 ≠ [] := by intro h; have := cir_len 2048; rw [h] at this; simp at this
      obtain ⟨g, cap, rfl, hg, hlt2, hc⟩ := owns_at hown hne
      have HC : Hid (CirAt wr g) := by
        refine ⟨hlt2, fun j hj => ?_⟩
        rw [hc j (by rw [cir_len]; exact hj), cir_at 2048 j hj]
      have hl2 := cir_len 2048
      clear hown hc hne
      rw [hl2]
      clear hl2
      go_wp2
      go_ret
      exact ⟨g, cap, rfl, HC.out, hg, hb⟩
/-- A callee that leaves the world, behind some draws. -/
theorem still_draws {f : FuncId} {args : Array Value} {W : World} {a n : Nat} {v : Value}
    (h : Calls Try.prog f args (W.drewN (a + n)) fun e w' => e = .returned v ∧ W.drewN (a + n) = w') :
    Calls Try.prog f args (W.drewN (a + n)) fun e w' => e = .returned v ∧ ∃ m, w' = W.drewN (a + m) :=
  h.mono fun _ _ ⟨he, hw⟩ => ⟨he, n, hw.symm⟩
/-- The document's arc. -/
def arcR (M n k : Nat) : Int := (2 * (n : Int) + 1 + M) * (2 * (k : Int) + 1) * scM M
theorem arc_256 (n k : Nat) (hn : n < 512) (hk : k < 512) (w : World) :
    Calls Try.prog 67 #[.int .i64 n, .int .i64 k, .int .i64 256] w fun e w' => e = .returned (.int .i64 (arcR 256 n k % 2048)) ∧ w = w' := by
  obtain ⟨p0, p1⟩ := mul_range 1279 1023 (show 0 ≤ 2 * (n : Int) + 1 + 256 by omega) (by omega) (show 0 ≤ 2 * (k : Int) + 1 by omega) (by omega)
  have p2 : (2 * (n : Int) + 1 + 256) * (2 * (k : Int) + 1) ≤ 100000000 := by omega
  have hs : Hid (arcR 256 n k % 2048 = (2 * (n : Int) + 1 + 256) * (2 * (k : Int) + 1) % 2048) := by show _ = _; rw [arcR, show scM 256 = 1 from rfl, Int.mul_one]; rfl
  go_enter Try.func67, Try.ntmps67
  go_wp2
  go_ret
  exact ⟨ret_int hs.out.symm, rfl⟩
theorem arc_32 (n k : Nat) (hn : n < 512) (hk : k < 512) (w : World) :
    Calls Try.prog 67 #[.int .i64 n, .int .i64 k, .int .i64 32] w fun e w' => e = .returned (.int .i64 (arcR 32 n k % 2048)) ∧ w = w' := by
  obtain ⟨p0, p1⟩ := mul_range 1279 1023 (show 0 ≤ 2 * (n : Int) + 1 + 32 by omega) (by omega) (show 0 ≤ 2 * (k : Int) + 1 by omega) (by omega)
  have p2 : (2 * (n : Int) + 1 + 32) * (2 * (k : Int) + 1) ≤ 100000000 := by omega
  have hs : Hid (arcR 32 n k % 2048 = (2 * (n : Int) + 1 + 32) * (2 * (k : Int) + 1) * 8 % 2048) := by show _ = _; rw [arcR, show scM 32 = 8 from rfl]; rfl
  go_enter Try.func67, Try.ntmps67
  go_wp2
  go_ret
  exact ⟨ret_int hs.out.symm, rfl⟩
def RRow (l : List Int) (w : World) (e : Ending) (w' : World) : Prop := ∃ v, e = .returned v ∧ w'.ownsRow w.heap.size 3 1 v l.length (l.map (Value.int .i64)) ∧ Below w.heap.size w w'
/-- The document's arc is the program's. -/
theorem arc_cosF (M k j : Nat) : cosL (arcR M j k % 2048) = cosL (ffA M k + ffB M k * j) := by
  rw [cos_mod]
  congr 1
  unfold arcR ffA ffB
  grind
theorem arc_cosI (M n j : Nat) : cosL (arcR M n j % 2048) = cosL (fiA M n + fiB M n * j) := by
  rw [cos_mod]
  congr 1
  unfold arcR fiA fiB
  grind
theorem bigbound (B n : Int) (k : Nat) (h : B * n ≤ 68719476736) (hB : 0 ≤ B) (hk : (k : Int) ≤ n) : B * 67108864 * (k : Int) ≤ 4611686018427387904 := by
  have h1 := Int.mul_le_mul_of_nonneg_left hk hB
  have e : B * 67108864 * (k : Int) = B * k * 67108864 := by grind
  rw [e]; omega

set_option maxRecDepth 100000 in
set_option maxHeartbeats 4000000 in
theorem refback_256 (z : List Int) (p : Option Addr) (c : Nat) (h : z.length = 256) (hz : ∀ j, j < z.length → -268435455 ≤ z.getD j 0 ∧ z.getD j 0 ≤ 268435455) (w : World) (hI : IsInts w p z) :
    Calls Try.prog 59 #[.slice p 256 c] w (RRow ((List.range 512).map (lineI 256 z)) w) := by
  obtain ⟨i0, hi, hz0, hz1, hz2⟩ := info_parts Try.infoInt
  have HZ := Lib.hid hz
  have SR : Hid (∀ i k, k ≤ 256 → -4611686018427387904 ≤ sumX z (fiA 256 i) (fiB 256 i) k ∧ sumX z (fiA 256 i) (fiB 256 i) k ≤ 4611686018427387904) := by
    intro i k hk
    have h1 := sumX_range z (fiA 256 i) (fiB 256 i) 268435455 hz k (by omega)
    have h2 := bigbound 268435455 256 k (by decide) (by decide) (by omega)
    omega
  have HH := Lib.hid h
  have HI := Lib.hid hI
  have HRES : Hid ((List.range 512).map (lineI 256 z) = (List.range 512).map (lineI 256 z)) := rfl
  generalize hres : (List.range 512).map (lineI 256 z) = res
  have HRS := Lib.hid hres
  clear hI hz h HRES hres
  go_enter Try.func59, Try.ntmps59
  go_wp2_with fail
  refine (table_ok _).mono ?_
  rintro e w1 ⟨gc, cc, rfl, hcir, hgc, hb1⟩
  have HC1 := Lib.hid hcir
  have HI1 := Lib.hid (HI.out.inB.keep hb1 (Nat.le_refl _))
  have hsz1 := hb1.size
  have hgc1 := hcir.1
  clear hcir HI
  go_wp2
  go_loopw [6, 7] (fun V I wr => ∃ (k : Nat), wr.ownsRow w1.heap.size 3 1 V ((List.range k).map (lineI 256 z)).length (((List.range k).map (lineI 256 z)).map (Value.int .i64)) ∧ I = .int .i64 k ∧ k ≤ 512 ∧ Below w1.heap.size w1 wr) (fun _ I _ => 512 - (intOf I).toNat)
  case atStart => exact ⟨0, World.ownsRow_nil _ _ _ _, rfl, by decide, Below.refl _ _⟩
  case round =>
    obtain ⟨k, hown, rfl, hk, hb⟩ := hrel
    by_cases hlt : k < 512
    · have HCr := Lib.hid (HC1.out.keep hb hgc1)
      have HIr := Lib.hid (HI1.out.keep hb hsz1)
      have HO := Lib.hid hown
      have hl1 : ((List.range k).map (lineI 256 z)).length = k := by simp
      have hl2 := Lib.hid hl1
      clear hown hl1
      go_wp2
      go_loopw [8, 9] (fun S J wi => ∃ (j m : Nat), S = .int .i64 (sumX z (fiA 256 k) (fiB 256 k) j) ∧ J = .int .i64 j ∧ j ≤ 256 ∧ wi = wr.drewN m) (fun _ J _ => 256 - (intOf J).toNat)
      case atStart => exact ⟨0, 0, rfl, rfl, by decide, rfl⟩
      case round =>
        obtain ⟨j, m, rfl, rfl, hj, rfl⟩ := hrel
        by_cases hjl : j < 256
        · obtain ⟨b, off, rfl, h1⟩ := HIr.out.at (j := j) (by rw [HH.out]; exact hjl)
          have HA := Lib.hid (fun W => arc_256 k j (by omega) (by omega) W)
          have hcos := arc_cosI 256 k j
          obtain ⟨r0, r1⟩ : 0 ≤ arcR 256 k j % 2048 ∧ arcR 256 k j % 2048 < 2048 := ⟨Int.emod_nonneg _ (by decide), Int.emod_lt_of_pos _ (by decide)⟩
          have h2 := HCr.out.2 (arcR 256 k j % 2048).toNat (by omega)
          rw [Int.toNat_of_nonneg r0, hcos] at h2
          generalize arcR 256 k j % 2048 = t at HA r0 r1 h2
          obtain ⟨s0, s1⟩ := SR.out k j (by omega)
          obtain ⟨s2, s3⟩ := SR.out k (j + 1) (by omega)
          have hst := sumX_succ z (fiA 256 k) (fiB 256 k) j
          rw [hst] at s2 s3
          have HS := Lib.hid hst
          obtain ⟨l0, l1⟩ := HZ.out j (by rw [HH.out]; exact hjl)
          obtain ⟨c0, c1⟩ := cos_range (fiA 256 k + fiB 256 k * j)
          obtain ⟨p0, p1⟩ := mul_abs l0 l1 c0 c1
          clear hcos hst
          generalize z.getD j 0 = x at h1 l0 l1 p0 p1 s2 s3 HS
          generalize cosL (fiA 256 k + fiB 256 k * j) = y at h2 c0 c1 p0 p1 s2 s3 HS
          generalize sumX z (fiA 256 k) (fiB 256 k) j = S at s0 s1 s2 s3 HS ⊢
          have e1 : IntKind.i64.wrap (x * y) = x * y := IntWalk.i64_in _ (by omega)
          have e2 : IntKind.i64.wrap (S + x * y) = S + x * y := IntWalk.i64_in _ (by omega)
          clear p0 p1 s2 s3
          go_wp2
          go_quiet ((go_at_call 67; exact still_draws (HA.out _)))
          go_wp2
          exact ⟨⟨j + 1, m + nq, congrArg (Value.int .i64) HS.out.symm, by go_num, by omega, rfl⟩, by simp [intOf]; omega⟩
        · have hjn : j = 256 := by omega
          subst hjn
          obtain ⟨s0, s1⟩ := SR.out k 256 (Nat.le_refl _)
          have HR := Lib.hid (fun W => down_lit (sumX z (fiA 256 k) (fiB 256 k) 256) 26 26 rfl s0 s1 (by decide) W)
          obtain ⟨v, hv⟩ : ∃ v, rnd (sumX z (fiA 256 k) (fiB 256 k) 256) 26 = v := ⟨_, rfl⟩
          rw [hv] at HR
          have HV : Hid (lineI 256 z k = v) := by show _ = _; unfold lineI; rw [HH.out]; exact hv
          have hb' : Below w1.heap.size w1 (wr.drewN m) := below_drewN hb m
          have hO' : (wr.drewN m).ownsRow w1.heap.size 3 1 _ _ _ := HO.out
          clear hv hb HO HIr HCr
          go_wp2_with fail
          refine (HR.out _).mono ?_
          rintro e w3 ⟨rfl, hw3⟩
          have hown : w3.ownsRow w1.heap.size 3 1 _ _ _ := hw3 ▸ hO'
          have hb : Below w1.heap.size w1 w3 := hw3 ▸ hb'
          clear hO' hb' HR hw3
          have hown1 := hown.alloc (.cells #[.int .i64 (v)] 3)
          have hb1 := hb.alloc hb.size (.cells #[.int .i64 (v)] 3)
          have hl0 := Lib.hid hown.lt
          have hsz := hb.size
          clear hown hb
          go_wp2_with (at_builtin; refine wpList_append_own _ rfl _ _ 22 rfl w1.heap.size 3 i0 (.int .i64 0) 1 8 Try.underlying22 hi hz0 hz1 hz2 rfl (by decide) _ _ _ rfl hown1 ⟨w3.heap.size, 0, none⟩ 1 1 [.int .i64 (v)] rfl rfl (cell_one_new _ _ _) (one_int _) ?c3 ?c4 ?c5 ?_)
          case c3 => first | (rw [hl2.out]; unfold maxLen; omega) | (unfold maxLen; omega)
          case c4 => first | (rw [hl2.out]; omega) | omega
          case c5 => first | (simp; omega) | omega
          intro v' wA hown' hg _
          have hb2 : Below w1.heap.size w1 wA := hb1.grown hg (by simp; omega) (fun j hj => (hl0.out j hj).1)
          have hown2 : wA.ownsRow w1.heap.size 3 1 v' ((List.range (k + 1)).map (lineI 256 z)).length (((List.range (k + 1)).map (lineI 256 z)).map (Value.int .i64)) := by
            rw [List.range_succ, List.map_append, List.map_append, List.length_append]
            simpa [HV.out] using hown'
          clear hown' hg hb1 hown1
          go_wp2
          exact ⟨⟨k + 1, hown2, by go_num, by omega, hb2⟩, by simp [intOf]; omega⟩
    · have hkM : k = 512 := by omega
      subst hkM
      rw [HRS.out] at hown
      have HO := Lib.hid hown
      clear hown
      go_wp2
      go_ret
      exact ⟨_, rfl, owns_lower HO.out hsz1, hb1.trans (hb.mono hsz1)⟩

set_option maxRecDepth 100000 in
set_option maxHeartbeats 4000000 in
theorem refback_32 (z : List Int) (p : Option Addr) (c : Nat) (h : z.length = 32) (hz : ∀ j, j < z.length → -268435455 ≤ z.getD j 0 ∧ z.getD j 0 ≤ 268435455) (w : World) (hI : IsInts w p z) :
    Calls Try.prog 59 #[.slice p 32 c] w (RRow ((List.range 64).map (lineI 32 z)) w) := by
  obtain ⟨i0, hi, hz0, hz1, hz2⟩ := info_parts Try.infoInt
  have HZ := Lib.hid hz
  have SR : Hid (∀ i k, k ≤ 32 → -4611686018427387904 ≤ sumX z (fiA 32 i) (fiB 32 i) k ∧ sumX z (fiA 32 i) (fiB 32 i) k ≤ 4611686018427387904) := by
    intro i k hk
    have h1 := sumX_range z (fiA 32 i) (fiB 32 i) 268435455 hz k (by omega)
    have h2 := bigbound 268435455 32 k (by decide) (by decide) (by omega)
    omega
  have HH := Lib.hid h
  have HI := Lib.hid hI
  have HRES : Hid ((List.range 64).map (lineI 32 z) = (List.range 64).map (lineI 32 z)) := rfl
  generalize hres : (List.range 64).map (lineI 32 z) = res
  have HRS := Lib.hid hres
  clear hI hz h HRES hres
  go_enter Try.func59, Try.ntmps59
  go_wp2_with fail
  refine (table_ok _).mono ?_
  rintro e w1 ⟨gc, cc, rfl, hcir, hgc, hb1⟩
  have HC1 := Lib.hid hcir
  have HI1 := Lib.hid (HI.out.inB.keep hb1 (Nat.le_refl _))
  have hsz1 := hb1.size
  have hgc1 := hcir.1
  clear hcir HI
  go_wp2
  go_loopw [6, 7] (fun V I wr => ∃ (k : Nat), wr.ownsRow w1.heap.size 3 1 V ((List.range k).map (lineI 32 z)).length (((List.range k).map (lineI 32 z)).map (Value.int .i64)) ∧ I = .int .i64 k ∧ k ≤ 64 ∧ Below w1.heap.size w1 wr) (fun _ I _ => 64 - (intOf I).toNat)
  case atStart => exact ⟨0, World.ownsRow_nil _ _ _ _, rfl, by decide, Below.refl _ _⟩
  case round =>
    obtain ⟨k, hown, rfl, hk, hb⟩ := hrel
    by_cases hlt : k < 64
    · have HCr := Lib.hid (HC1.out.keep hb hgc1)
      have HIr := Lib.hid (HI1.out.keep hb hsz1)
      have HO := Lib.hid hown
      have hl1 : ((List.range k).map (lineI 32 z)).length = k := by simp
      have hl2 := Lib.hid hl1
      clear hown hl1
      go_wp2
      go_loopw [8, 9] (fun S J wi => ∃ (j m : Nat), S = .int .i64 (sumX z (fiA 32 k) (fiB 32 k) j) ∧ J = .int .i64 j ∧ j ≤ 32 ∧ wi = wr.drewN m) (fun _ J _ => 32 - (intOf J).toNat)
      case atStart => exact ⟨0, 0, rfl, rfl, by decide, rfl⟩
      case round =>
        obtain ⟨j, m, rfl, rfl, hj, rfl⟩ := hrel
        by_cases hjl : j < 32
        · obtain ⟨b, off, rfl, h1⟩ := HIr.out.at (j := j) (by rw [HH.out]; exact hjl)
          have HA := Lib.hid (fun W => arc_32 k j (by omega) (by omega) W)
          have hcos := arc_cosI 32 k j
          obtain ⟨r0, r1⟩ : 0 ≤ arcR 32 k j % 2048 ∧ arcR 32 k j % 2048 < 2048 := ⟨Int.emod_nonneg _ (by decide), Int.emod_lt_of_pos _ (by decide)⟩
          have h2 := HCr.out.2 (arcR 32 k j % 2048).toNat (by omega)
          rw [Int.toNat_of_nonneg r0, hcos] at h2
          generalize arcR 32 k j % 2048 = t at HA r0 r1 h2
          obtain ⟨s0, s1⟩ := SR.out k j (by omega)
          obtain ⟨s2, s3⟩ := SR.out k (j + 1) (by omega)
          have hst := sumX_succ z (fiA 32 k) (fiB 32 k) j
          rw [hst] at s2 s3
          have HS := Lib.hid hst
          obtain ⟨l0, l1⟩ := HZ.out j (by rw [HH.out]; exact hjl)
          obtain ⟨c0, c1⟩ := cos_range (fiA 32 k + fiB 32 k * j)
          obtain ⟨p0, p1⟩ := mul_abs l0 l1 c0 c1
          clear hcos hst
          generalize z.getD j 0 = x at h1 l0 l1 p0 p1 s2 s3 HS
          generalize cosL (fiA 32 k + fiB 32 k * j) = y at h2 c0 c1 p0 p1 s2 s3 HS
          generalize sumX z (fiA 32 k) (fiB 32 k) j = S at s0 s1 s2 s3 HS ⊢
          have e1 : IntKind.i64.wrap (x * y) = x * y := IntWalk.i64_in _ (by omega)
          have e2 : IntKind.i64.wrap (S + x * y) = S + x * y := IntWalk.i64_in _ (by omega)
          clear p0 p1 s2 s3
          go_wp2
          go_quiet ((go_at_call 67; exact still_draws (HA.out _)))
          go_wp2
          exact ⟨⟨j + 1, m + nq, congrArg (Value.int .i64) HS.out.symm, by go_num, by omega, rfl⟩, by simp [intOf]; omega⟩
        · have hjn : j = 32 := by omega
          subst hjn
          obtain ⟨s0, s1⟩ := SR.out k 32 (Nat.le_refl _)
          have HR := Lib.hid (fun W => down_lit (sumX z (fiA 32 k) (fiB 32 k) 32) 23 23 rfl s0 s1 (by decide) W)
          obtain ⟨v, hv⟩ : ∃ v, rnd (sumX z (fiA 32 k) (fiB 32 k) 32) 23 = v := ⟨_, rfl⟩
          rw [hv] at HR
          have HV : Hid (lineI 32 z k = v) := by show _ = _; unfold lineI; rw [HH.out]; exact hv
          have hb' : Below w1.heap.size w1 (wr.drewN m) := below_drewN hb m
          have hO' : (wr.drewN m).ownsRow w1.heap.size 3 1 _ _ _ := HO.out
          clear hv hb HO HIr HCr
          go_wp2_with fail
          refine (HR.out _).mono ?_
          rintro e w3 ⟨rfl, hw3⟩
          have hown : w3.ownsRow w1.heap.size 3 1 _ _ _ := hw3 ▸ hO'
          have hb : Below w1.heap.size w1 w3 := hw3 ▸ hb'
          clear hO' hb' HR hw3
          have hown1 := hown.alloc (.cells #[.int .i64 (v)] 3)
          have hb1 := hb.alloc hb.size (.cells #[.int .i64 (v)] 3)
          have hl0 := Lib.hid hown.lt
          have hsz := hb.size
          clear hown hb
          go_wp2_with (at_builtin; refine wpList_append_own _ rfl _ _ 22 rfl w1.heap.size 3 i0 (.int .i64 0) 1 8 Try.underlying22 hi hz0 hz1 hz2 rfl (by decide) _ _ _ rfl hown1 ⟨w3.heap.size, 0, none⟩ 1 1 [.int .i64 (v)] rfl rfl (cell_one_new _ _ _) (one_int _) ?c3 ?c4 ?c5 ?_)
          case c3 => first | (rw [hl2.out]; unfold maxLen; omega) | (unfold maxLen; omega)
          case c4 => first | (rw [hl2.out]; omega) | omega
          case c5 => first | (simp; omega) | omega
          intro v' wA hown' hg _
          have hb2 : Below w1.heap.size w1 wA := hb1.grown hg (by simp; omega) (fun j hj => (hl0.out j hj).1)
          have hown2 : wA.ownsRow w1.heap.size 3 1 v' ((List.range (k + 1)).map (lineI 32 z)).length (((List.range (k + 1)).map (lineI 32 z)).map (Value.int .i64)) := by
            rw [List.range_succ, List.map_append, List.map_append, List.length_append]
            simpa [HV.out] using hown'
          clear hown' hg hb1 hown1
          go_wp2
          exact ⟨⟨k + 1, hown2, by go_num, by omega, hb2⟩, by simp [intOf]; omega⟩
    · have hkM : k = 64 := by omega
      subst hkM
      rw [HRS.out] at hown
      have HO := Lib.hid hown
      clear hown
      go_wp2
      go_ret
      exact ⟨_, rfl, owns_lower HO.out hsz1, hb1.trans (hb.mono hsz1)⟩
end Go.Proofs.Ytcmbbmilldhnnaa
