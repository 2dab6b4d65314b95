/- reedpiperef10.Group; reedpiperef14: Place, Sent: what each call answers. -/
import Derived.Test.YtppfbfiigfjncaaRefIn
import Derived.Test.YtppfbfiigfjncaaGP
set_option linter.unusedVariables false
set_option linter.unusedSimpArgs false
namespace Go.Proofs.Ytppfbfiigfjncaa
open Go.ChangeShapes Go.WideShapes Go.ChangeAt Go.RowKit
set_option maxRecDepth 100000 in
set_option maxHeartbeats 1000000 in
theorem ref_group (seq shape max : Int) (G : List Int) (pg : Option Addr) (cg : Nat) (k : Nat) (w : World) (hG : IsInts w pg G) (hl : G.length ≤ 100) (hm : mayB 11 seq shape max G = true) (hk : k < winN seq) :
    Calls Try.prog 47 #[.agg (infoC seq shape max pg G.length cg), .int .i64 k] w fun e w' => e = .returned (.tuple #[.int .i64 (grpOf G (k : Int) : Nat), .int .i64 0]) ∧ Below w.heap.size w w' := by
  have hb0 : Below w.heap.size w (w.alloc (.cells (infoC seq shape max pg G.length cg) 27)) := (Below.refl _ w).alloc (Nat.le_refl _) _
  have X0 := Lib.hid (CellsAt.new w 27 (infoC seq shape max pg G.length cg) rfl)
  have HC := Lib.hid (fun (W : World) (h : Below w.heap.size w W) => ref_some seq shape max G pg cg W (hG.keep h) hl)
  rw [hm] at HC
  have HN := Lib.hid (fun W => ref_wmany seq shape max pg G.length cg W)
  have HI := Lib.hid (fun (W : World) (h : Below w.heap.size w W) => ref_in seq shape max G pg cg W (hG.keep h) hm)
  obtain ⟨h1, h2, h3⟩ := may_groups hm
  have hlen := inFrom_len G 0 (fun j hj => by have := h1 j hj; omega)
  have hkl : k < (inFrom G 0).length := by omega
  have hget := inFrom_get G 0 (fun j hj => by have := h1 j hj; omega) k hkl
  rw [Int.zero_add] at hget
  have HGT := Lib.hid hget
  have hw8 : winN seq ≤ 8 := by unfold winN; split <;> omega
  unfold RGrp at HC
  unfold RE at HN
  unfold RIn at HI
  obtain ⟨gr, hgr⟩ : ∃ g, grpOf G (k : Int) = g := ⟨_, rfl⟩
  rw [hgr] at HGT ⊢
  obtain ⟨L, hL⟩ : ∃ l, inFrom G 0 = l := ⟨_, rfl⟩
  rw [hL] at HGT HI hkl hlen
  obtain ⟨many, hmany⟩ : ∃ m, winN seq = m := ⟨_, rfl⟩
  rw [hmany] at HN hk hw8 h2
  have d0 : decide ((k : Int) < 0) = false := decide_eq_false (by omega)
  have d1 : decide ((k : Int) ≥ (many : Int)) = false := decide_eq_false (by omega)
  have hlm : L.length = many := by omega
  have HLM := Lib.hid hlm
  clear hG hm h1 h2 hlen hget hgr hL hmany hlm hkl
  go_enter Try.func47, Try.ntmps47
  go_wp2_with fail
  refine (HC.out _ hb0).mono ?_
  rintro e w1 ⟨rfl, hB⟩
  have hb1 := hb0.trans (hB.mono hb0.size)
  have X1 := Lib.hid (X0.out.keep hB X0.out.lt)
  have kx0 := X1.out.cell 0
  have kx1 := X1.out.cell 1
  have kx2 := X1.out.cell 2
  have kx3 := X1.out.cell 3
  simp only [infoC, List.getElem?_toArray, List.getElem?_cons_zero, List.getElem?_cons_succ] at kx0 kx1 kx2 kx3
  clear hB hb0 HC X0
  go_wp2_with fail
  refine (HN.out _).mono ?_
  rintro e w2 ⟨rfl, hB⟩
  have hb2 := hb1.trans (hB.mono hb1.size)
  have X2 := Lib.hid (X1.out.keep hB X1.out.lt)
  have ky0 := X2.out.cell 0
  have ky1 := X2.out.cell 1
  have ky2 := X2.out.cell 2
  have ky3 := X2.out.cell 3
  simp only [infoC, List.getElem?_toArray, List.getElem?_cons_zero, List.getElem?_cons_succ] at ky0 ky1 ky2 ky3
  clear hB hb1 HN X1 kx0 kx1 kx2 kx3
  go_wp2_with fail
  refine (HI.out _ hb2).mono ?_
  rintro e w3 ⟨q, d, rfl, hI, hB⟩
  have hb3 := hb2.trans (hB.mono hb2.size)
  obtain ⟨bq, oq, rfl, _, hc⟩ := hI.at (j := k) (by rw [HLM.out]; exact hk)
  have r1 := hc k (by rw [HLM.out]; exact hk)
  rw [HGT.out] at r1
  rw [HLM.out]
  clear hB hb2 hI hc HI X2 ky0 ky1 ky2 ky3
  go_wp2
  go_ret2
  exact ⟨rfl, hb3⟩
def RPlace (rate seq : Int) (G : List Int) (n : Nat) (w : World) (e : Ending) (w' : World) : Prop :=
  ∃ W N b : Nat, (W < winN seq ∧ N < 256 / winN seq ∧ n = 32 * W + N ∧ InBand rate (seq == 2) N b) ∧ e = .returned (.tuple #[.int .i64 (grpOf G (W : Int) : Nat), .int .i64 b]) ∧ Below w.heap.size w w'
set_option maxRecDepth 100000 in
set_option maxHeartbeats 2000000 in
theorem ref_place (rate seq shape max : Int) (r0 : 0 ≤ rate) (r1 : rate ≤ 11) (G : List Int) (pg : Option Addr) (cg : Nat) (n : Nat) (w : World) (hG : IsInts w pg G) (hl : G.length ≤ 100) (hm : mayB 11 seq shape max G = true) (hn : n < 256) :
    Calls Try.prog 27 #[.int .i64 rate, .agg (infoC seq shape max pg G.length cg), .int .i64 n] w (RPlace rate seq G n w) := by
  have hb0 : Below w.heap.size w (w.alloc (.cells (infoC seq shape max pg G.length cg) 27)) := (Below.refl _ w).alloc (Nat.le_refl _) _
  have X0 := Lib.hid (CellsAt.new w 27 (infoC seq shape max pg G.length cg) rfl)
  obtain ⟨W, N, hW, hN, hnn, hq, hr, hNl⟩ : ∃ W N : Nat, W < winN seq ∧ N < 256 / winN seq ∧ n = 32 * W + N ∧ (seq = 2 → (n : Int) / 32 = W) ∧ (seq = 2 → (n : Int) % 32 = N) ∧ (N : Int) < linesOf (seq == 2) := by
    by_cases hs : seq = 2
    · refine ⟨n / 32, n % 32, by unfold winN; rw [if_pos hs]; omega, by unfold winN; rw [if_pos hs]; omega, by omega, fun _ => by omega, fun _ => by omega, ?_⟩
      unfold linesOf; simp [hs]; omega
    · refine ⟨0, n, by unfold winN; rw [if_neg hs]; omega, by unfold winN; rw [if_neg hs]; omega, by omega, fun h => absurd h hs, fun h => absurd h hs, ?_⟩
      unfold linesOf; simp [hs]; omega
  have hW0 : ¬ seq = 2 → W = 0 := fun hs => by unfold winN at hW; rw [if_neg hs] at hW; omega
  have HOF := Lib.hid (fun W' => refoff_row rate (seq == 2) r0 r1 W')
  have HGR := Lib.hid (fun (W' : World) (h : Below w.heap.size w W') => ref_group seq shape max G pg cg W W' (hG.keep h) hl hm hW)
  obtain ⟨k1, k2, k3, k4, _⟩ := band_len rate (seq == 2) r0 r1
  have k4' : (bandL rate (seq == 2)).getD ((bandL rate (seq == 2)).length - 1) 0 = linesOf (seq == 2) := k4
  have k2' : (bandL rate (seq == 2)).length ≤ 41 := Nat.le_trans k2 (by split <;> omega)
  have HPR := Lib.hid (fun b (h : InBand rate (seq == 2) N b) => show W < winN seq ∧ N < 256 / winN seq ∧ n = 32 * W + N ∧ InBand rate (seq == 2) N b from ⟨hW, hN, hnn, h⟩)
  have HK3 := Lib.hid k3
  have HK4 := Lib.hid k4'
  have HNL := Lib.hid hNl
  have HB0 := Lib.hid hb0
  unfold InBand at HPR
  unfold RPlace InBand
  obtain ⟨gr, hgr⟩ : ∃ g, grpOf G (W : Int) = g := ⟨_, rfl⟩
  rw [hgr] at HGR
  have HGE := Lib.hid hgr
  obtain ⟨L, hL⟩ : ∃ l, bandL rate (seq == 2) = l := ⟨_, rfl⟩
  rw [hL] at HOF HK3 HK4 k1 k2' HPR ⊢
  clear hG hm k2 k3 k4 k4' hL hgr hb0 hW hN hNl
  by_cases hs : seq = 2
  all_goals
    first
      | (have hs2 : (seq == 2) = true := by simp [hs]
         have hqq := hq hs
         have hrr := hr hs
         have hW9 : W ≤ 8 := by omega
         clear hW0)
      | (have hs2 : (seq == 2) = false := by simp [hs]
         obtain rfl := hW0 hs
         obtain rfl : N = n := by omega)
    clear hs hq hr hnn
    rw [hs2] at HOF
    go_enter Try.func27, Try.ntmps27
    go_wp2_with fail
    refine (HOF.out _).mono ?_
    rintro e w1 ⟨gf, cf, rfl, hIf, hB1, hgf⟩
    have HB1 := Lib.hid (HB0.out.trans (hB1.mono HB0.out.size))
    have X1 := Lib.hid (X0.out.keep hB1 X0.out.lt)
    have HIF := Lib.hid hIf
    clear hB1 hIf X0 HB0 HOF
    go_wp2_with fail
    have X1' := X1
    go_loop [12] (fun K => ∃ b : Nat, K = .int .i64 b ∧ b + 1 < L.length ∧ Hid (L.getD b 0 ≤ (N : Int))) (fun K => L.length - (intOf K).toNat)
    case atStart => exact ⟨0, rfl, by omega, Lib.hid (by rw [HK3.out]; omega)⟩
    case round =>
      obtain ⟨b, rfl, hb, hlo⟩ := hrel
      obtain ⟨g', o', hp, _, hc⟩ := HIF.out.at (j := b + 1) hb
      obtain ⟨rfl, rfl⟩ : gf = g' ∧ 0 = o' := by simpa using hp
      have q1 := hc (b + 1) hb
      rw [Nat.zero_add] at q1
      have d1 : decide ((b : Int) + 1 < (L.length : Int)) = true := decide_eq_true (by omega)
      have HIN := Lib.hid (fun h => HPR.out b ⟨hb, hlo.out, h⟩)
      have HNX := Lib.hid (fun (h : L.getD (b + 1) 0 ≤ (N : Int)) => show b + 1 + 1 < L.length by
        rcases Nat.lt_or_ge (b + 1 + 1) L.length with h' | h'
        · exact h'
        · have e : b + 1 = L.length - 1 := by omega
          rw [e, HK4.out] at h
          have := HNL.out
          omega)
      obtain ⟨v, hv⟩ : ∃ v, L.getD (b + 1) 0 = v := ⟨_, rfl⟩
      rw [hv] at q1 HIN HNX
      have HV := Lib.hid hv
      clear hc hp hv
      by_cases hle : v ≤ (N : Int)
      · have d2 : decide (v ≤ (N : Int)) = true := decide_eq_true hle
        have hb2 := HNX.out hle
        have HLO := Lib.hid (show L.getD (b + 1) 0 ≤ (N : Int) by rw [HV.out]; exact hle)
        clear HIN HNX hle
        go_wp2
        go_round
        case rel => exact ⟨b + 1, by go_num, hb2, HLO⟩
        case measure => simp [intOf]; omega
      · have d2 : decide (v ≤ (N : Int)) = false := decide_eq_false hle
        have HIN2 := Lib.hid (HIN.out (by omega))
        have kx0 := X1.out.cell 0
        have kx1 := X1.out.cell 1
        have kx2 := X1.out.cell 2
        have kx3 := X1.out.cell 3
        simp only [infoC, List.getElem?_toArray, List.getElem?_cons_zero, List.getElem?_cons_succ] at kx0 kx1 kx2 kx3
        clear HIN HNX hle
        go_wp2_with fail
        refine (HGR.out _ HB1.out).mono ?_
        rintro e w2 ⟨rfl, hB2⟩
        have hb2 := HB1.out.trans (hB2.mono HB1.out.size)
        clear hB2 HGR
        go_wp2
        go_ret2
        exact ⟨_, N, b, by rw [HV.out]; exact HIN2.out, by rw [HGE.out]; rfl, hb2⟩
end Go.Proofs.Ytppfbfiigfjncaa
