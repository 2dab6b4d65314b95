/- LapBack in plain numbers: two windows over one place, analysed and synthesised, come to the sample. -/
import Derived.Test.YtcmbbmilldhnnaaMdctFacts13
import Derived.Test.YtcmbbmilldhnnaaShortsPlain
import Derived.Test.YtcmbbmilldhnnaaPowPlain
import Derived.Test.YtcmbbmilldhnnaaLapPlain
set_option linter.unusedVariables false
namespace Go.Proofs.Ytcmbbmilldhnnaa

def NearLo (C s s' h h' : Int) : Prop := -(549755813888 + 5259264 * h) ≤ 1099511627776 * C - h * (s * h - s' * h') ∧ 1099511627776 * C - h * (s * h - s' * h') ≤ 549755813888 + 5259264 * h
def NearHi (C s s' h h' : Int) : Prop := -(549755813888 + 5259264 * h) ≤ 1099511627776 * C - h * (s * h + s' * h') ∧ 1099511627776 * C - h * (s * h + s' * h') ≤ 549755813888 + 5259264 * h
theorem near_arith {I F v C : Int} (h1 : -5259264 ≤ 16384 * I - F) (h2 : 16384 * I - F ≤ 5259264) (hv : 0 ≤ v) (h3 : -33554432 ≤ 67108864 * C - I * v) (h4 : 67108864 * C - I * v ≤ 33554432) :
    -(549755813888 + 5259264 * v) ≤ 1099511627776 * C - v * F ∧ 1099511627776 * C - v * F ≤ 549755813888 + 5259264 * v := by
  have e : 1099511627776 * C - v * F = 16384 * (67108864 * C - I * v) + v * (16384 * I - F) := by grind
  have a := Int.mul_le_mul_of_nonneg_left h2 hv
  have b := Int.mul_le_mul_of_nonneg_left h1 hv
  rw [e]
  generalize 67108864 * C - I * v = X at *
  generalize 16384 * I - F = D at *
  generalize v * D = V at *
  omega
theorem pair_near {Ca Cb s s' h h' : Int} (hp : PowIs h h') (hs : -32768 ≤ s ∧ s ≤ 32768) (ha : NearHi Ca s s' h' h) (hb : NearLo Cb s s' h h') : -32 ≤ Ca + Cb - 16 * s ∧ Ca + Cb - 16 * s ≤ 32 := by
  obtain ⟨⟨a0, a1⟩, ⟨b0, b1⟩, p0, p1⟩ := hp
  obtain ⟨x0, x1⟩ := ha
  obtain ⟨y0, y1⟩ := hb
  have e : h' * (s * h' + s' * h) + h * (s * h - s' * h') = s * (h * h + h' * h' - 17592186044416) + 17592186044416 * s := by grind
  have q : h + h' ≤ 6291456 := by
    rcases Int.lt_or_le 6291456 (h + h') with hh | hh
    · exfalso
      have k1 := Int.mul_le_mul (Int.le_of_lt hh) (Int.le_of_lt hh) (by omega) (by omega)
      have k2 : (h + h') * (h + h') = 2 * (h * h + h' * h' - 17592186044416) + 35184372088832 - (h - h') * (h - h') := by grind
      have k3 := sq_nonneg' (h - h')
      generalize (h + h') * (h + h') = X at *
      generalize (h - h') * (h - h') = Y at *
      generalize h * h + h' * h' - 17592186044416 = Z at *
      omega
    · exact hh
  have m := mul_abs hs.1 hs.2 p0 p1
  generalize h' * (s * h' + s' * h) = U at *
  generalize h * (s * h - s' * h') = V at *
  generalize s * (h * h + h' * h' - 17592186044416) = W at *
  omega
theorem pair_out {T s : Int} (h : -32 ≤ T - 16 * s ∧ T - 16 * s ≤ 32) (hs : -32768 ≤ s ∧ s ≤ 32767) : -2 ≤ outP T - s ∧ outP T - s ≤ 2 := by
  have e : outP T = max (min ((T + 8) / 16) 32767) (-32768) := by
    unfold outP clp rnd
    rw [if_neg (by decide)]
    have e1 : (2 : Int) ^ (16 - 1) = 32768 := by decide
    have e2 : (2 : Int) ^ (4 - 1) = 8 := by decide
    have e3 : (2 : Int) ^ 4 = 16 := by decide
    rw [e1, e2, e3]
    omega
  rw [e]; omega
theorem near_lo0 (s s' h' : Int) : NearLo 0 s s' 0 h' := by unfold NearLo; simp
theorem near_hi0 (s s' h' : Int) : NearHi 0 s s' 0 h' := by unfold NearHi; simp
theorem pow_one : PowIs 0 4194304 := ⟨by omega, by omega, by omega, by omega⟩

/-- What a window gives back at its place i. -/
def backW (pcm : List Int) (p : Int × List Int) (i : Nat) : Int := (partS p (linesF (underL pcm p))).getD i 0
theorem part_get {p : Int × List Int} {y : List Int} {M : Nat} (hy : y.length = M) {i : Nat} (hi : i < 2 * M) : (partS p y).getD i 0 = rnd (lineI M y i * p.2.getD i 0) 26 := by
  unfold partS timesL
  rw [List.getD_eq_getElem?_getD, List.getElem?_map, linesI_lenM M y hy, List.getElem?_range hi]
  show timeV (linesI y) p.2 26 i = _
  unfold timeV
  rw [linesI_at M y hy i hi]
theorem under_get {pcm : List Int} {p : Int × List Int} {k : Nat} (hf : WinFit k p) (hl : pcm.length = 512) {j : Nat} (hj : j < p.2.length) : (underL pcm p).getD j 0 = rnd (pcm.getD (p.1.toNat + j) 0 * p.2.getD j 0) 14 := by
  unfold underL timesL
  rw [List.getD_eq_getElem?_getD, List.getElem?_map, cutF_len hf hl, List.getElem?_range hj]
  show timeV (cutF pcm p) p.2 14 j = _
  unfold timeV
  rw [cutF_get hj]
theorem rnd14_near (n : Int) : -8192 ≤ 16384 * rnd n 14 - n ∧ 16384 * rnd n 14 - n ≤ 8192 := by
  obtain ⟨a, b⟩ := rnd_spec n 14 (by decide)
  simp at a b
  omega
theorem rnd26_near (n : Int) : -33554432 ≤ 67108864 * rnd n 26 - n ∧ 67108864 * rnd n 26 - n ≤ 33554432 := by
  obtain ⟨a, b⟩ := rnd_spec n 26 (by decide)
  simp at a b
  omega
theorem back_fold {pcm : List Int} {p : Int × List Int} {k M : Nat} (hf : WinFit k p) (hM : M = 256 ∨ M = 32) (hp : p.2.length = 2 * M) (hl : pcm.length = 512) (hm : ∀ j, -32768 ≤ pcm.getD j 0 ∧ pcm.getD j 0 ≤ 32768) {i : Nat} (hi : i < 2 * M) : ∃ I, backW pcm p i = rnd (I * p.2.getD i 0) 26 ∧ -320 ≤ I - foldT M (fun j => (underL pcm p).getD j 0) i ∧ I - foldT M (fun j => (underL pcm p).getD j 0) i ≤ 320 := by
  have hu : (underL pcm p).length = 2 * M := by rw [under_len hf hl, hp]
  exact ⟨_, part_get (linesF_len M _ hu) hi, back_512 M hM _ hu (fun j _ => under_any hf hm j) i hi⟩
section
variable {pcm : List Int} {p : Int × List Int} {k M t : Nat} (hf : WinFit k p) (hM : M = 256 ∨ M = 32) (hp : p.2.length = 2 * M) (ht : p.1.toNat = t) (hl : pcm.length = 512) (hm : ∀ j, -32768 ≤ pcm.getD j 0 ∧ pcm.getD j 0 ≤ 32768)
include hf hM hp ht hl hm
theorem back_lo {i : Nat} (hi : i < M) : NearLo (backW pcm p i) (pcm.getD (t + i) 0) (pcm.getD (t + (M - 1 - i)) 0) (p.2.getD i 0) (p.2.getD (M - 1 - i) 0) := by
  obtain ⟨I, e, h1, h2⟩ := back_fold hf hM hp hl hm (i := i) (by omega)
  have hv := getD_range hf.2 (by omega) (by omega) i
  unfold foldT at h1 h2
  rw [if_pos hi] at h1 h2
  simp only at h1 h2
  rw [under_get hf hl (by omega), under_get hf hl (by omega), ht] at h1 h2
  have z1 := rnd14_near (pcm.getD (t + i) 0 * p.2.getD i 0)
  have z2 := rnd14_near (pcm.getD (t + (M - 1 - i)) 0 * p.2.getD (M - 1 - i) 0)
  have z3 := rnd26_near (I * p.2.getD i 0)
  rw [← e] at z3
  exact near_arith (by omega) (by omega) hv.1 z3.1 z3.2
theorem back_hi {i : Nat} (h0 : M ≤ i) (hi : i < 2 * M) : NearHi (backW pcm p i) (pcm.getD (t + i) 0) (pcm.getD (t + (3 * M - 1 - i)) 0) (p.2.getD i 0) (p.2.getD (3 * M - 1 - i) 0) := by
  obtain ⟨I, e, h1, h2⟩ := back_fold hf hM hp hl hm (i := i) (by omega)
  have hv := getD_range hf.2 (by omega) (by omega) i
  unfold foldT at h1 h2
  rw [if_neg (by omega)] at h1 h2
  simp only at h1 h2
  rw [under_get hf hl (by omega), under_get hf hl (by omega), ht] at h1 h2
  have z1 := rnd14_near (pcm.getD (t + i) 0 * p.2.getD i 0)
  have z2 := rnd14_near (pcm.getD (t + (3 * M - 1 - i)) 0 * p.2.getD (3 * M - 1 - i) 0)
  have z3 := rnd26_near (I * p.2.getD i 0)
  rw [← e] at z3
  exact near_arith (by omega) (by omega) hv.1 z3.1 z3.2
end
/-- A frame, analysed and synthesised. -/
def backY (seq was shape : Int) (pcm : List Int) (n : Nat) : Int := (synL (winsL seq was shape) (anaL (winsL seq was shape) pcm)).getD n 0
theorem fit_range {pcm : List Int} (hm : ∀ j, -32768 ≤ pcm.getD j 0 ∧ pcm.getD j 0 ≤ 32767) : ∀ j, -32768 ≤ pcm.getD j 0 ∧ pcm.getD j 0 ≤ 32768 := fun j => ⟨(hm j).1, by have := (hm j).2; omega⟩
theorem long_wins (seq was shape : Int) (hs : seq = 0 ∨ seq = 1 ∨ seq = 3) : winsL seq was shape = [(0, winL seq was shape)] := by
  unfold winsL
  rw [if_neg (by omega)]
theorem long_y {seq was shape : Int} (hs : seq = 0 ∨ seq = 1 ∨ seq = 3) (h0 : was = 0 ∨ was = 1) (h1 : shape = 0 ∨ shape = 1) {pcm : List Int} (hl : pcm.length = 512) {n : Nat} (hn : n < 512) : backY seq was shape pcm n = backW pcm (0, winL seq was shape) n := by
  have hw := long_wins seq was shape hs
  have hf : WinFit 0 (0, winL seq was shape) := wins_fit seq was shape (by omega) h0 h1 0 _ (by rw [hw]; rfl)
  have hlen := winL_len seq was shape hs
  have hu : (underL pcm (0, winL seq was shape)).length = 2 * 256 := by rw [under_len hf hl]; exact hlen
  unfold backY
  rw [hw, synL_get _ _ hn]
  have ea : anaL [(0, winL seq was shape)] pcm = linesF (underL pcm (0, winL seq was shape)) := by simp [anaL]
  rw [ea]
  have hL := linesF_len 256 _ hu
  unfold backW
  generalize linesF (underL pcm (0, winL seq was shape)) = L at *
  show 0 + addS (0, winL seq was shape) (L.take ((winL seq was shape).length / 2)) n = _
  rw [hlen, List.take_of_length_le (by omega)]
  unfold addS
  rw [if_pos ⟨Nat.zero_le _, by show n < 0 + (winL seq was shape).length; rw [hlen]; omega⟩]
  rw [Int.zero_add]
  rfl
section
variable {seq was shape : Int} (hs : seq = 0 ∨ seq = 1 ∨ seq = 3) (h0 : was = 0 ∨ was = 1) (h1 : shape = 0 ∨ shape = 1) {pcm : List Int} (hl : pcm.length = 512) (hm : ∀ j, -32768 ≤ pcm.getD j 0 ∧ pcm.getD j 0 ≤ 32767)
include hs h0 h1 hl hm
theorem long_lo {n : Nat} (hn : n < 256) : NearLo (backY seq was shape pcm n) (pcm.getD n 0) (pcm.getD (255 - n) 0) ((winL seq was shape).getD n 0) ((winL seq was shape).getD (255 - n) 0) := by
  have hf : WinFit 0 (0, winL seq was shape) := wins_fit seq was shape (by omega) h0 h1 0 _ (by rw [long_wins seq was shape hs]; rfl)
  rw [long_y hs h0 h1 hl (by omega)]
  have := back_lo (t := 0) hf (.inl rfl) (winL_len seq was shape hs) rfl hl (fit_range hm) hn
  rw [Nat.zero_add, Nat.zero_add] at this
  exact this
theorem long_hi {n : Nat} (hn : n < 256) : NearHi (backY seq was shape pcm (256 + n)) (pcm.getD (256 + n) 0) (pcm.getD (256 + (255 - n)) 0) ((winL seq was shape).getD (256 + n) 0) ((winL seq was shape).getD (256 + (255 - n)) 0) := by
  have hf : WinFit 0 (0, winL seq was shape) := wins_fit seq was shape (by omega) h0 h1 0 _ (by rw [long_wins seq was shape hs]; rfl)
  rw [long_y hs h0 h1 hl (by omega)]
  have := back_hi (t := 0) hf (.inl rfl) (winL_len seq was shape hs) rfl hl (fit_range hm) (i := 256 + n) (by omega) (by omega)
  rw [Nat.zero_add, Nat.zero_add, show 3 * 256 - 1 - (256 + n) = 256 + (255 - n) by omega] at this
  exact this
end
def shortP (was shape : Int) (k : Nat) : Int × List Int := (112 + 32 * (k : Int), littleL k was shape)
theorem sumF_pair (f : Nat → Int) {k n : Nat} (hk : k + 1 < n) (h : ∀ j, j < n → j ≠ k → j ≠ k + 1 → f j = 0) : sumF f n = f k + f (k + 1) := by
  rw [sumF_congr (g := fun j => (if j = k then f j else 0) + (if j = k + 1 then f j else 0)) n (fun j hj => by
    by_cases e1 : j = k
    · rw [if_pos e1, if_neg (by omega), Int.add_zero]
    · rw [if_neg e1]
      by_cases e2 : j = k + 1
      · rw [if_pos e2, Int.zero_add]
      · rw [if_neg e2, h j hj e1 e2]; rfl), sumF_add, sumF_pick, sumF_pick, if_pos (by omega), if_pos hk]
theorem sumF_lone (f : Nat → Int) {k n : Nat} (hk : k < n) (h : ∀ j, j < n → j ≠ k → f j = 0) : sumF f n = f k := by
  rw [sumF_congr (g := fun j => if j = k then f j else 0) n (fun j hj => by
    by_cases e1 : j = k
    · rw [if_pos e1]
    · rw [if_neg e1, h j hj e1]), sumF_pick, if_pos hk]
section
variable {was shape : Int} (h0 : was = 0 ∨ was = 1) (h1 : shape = 0 ∨ shape = 1) {pcm : List Int} (hl : pcm.length = 512)
include h0 h1 hl
theorem short_chunk {k : Nat} (hk : k < 8) : ((anaL (winsL 2 was shape) pcm).drop (32 * k)).take 32 = linesF (underL pcm (shortP was shape k)) := by
  have hf := fun k p h => wins_fit 2 was shape (.inr (.inr (.inl rfl))) h0 h1 k p h
  have hw := shorts_at was shape hk
  have hlen : ∀ p ∈ winsL 2 was shape, (linesF (underL pcm p)).length = 32 := by
    intro p hp
    obtain ⟨j, hj⟩ := List.mem_iff_getElem?.1 hp
    have hj8 : j < 8 := by
      have h1 := (List.getElem?_eq_some_iff.1 hj).1
      rw [wins_count, if_pos rfl] at h1
      exact h1
    have e := shorts_at was shape hj8
    rw [hj] at e
    obtain rfl : p = (112 + 32 * (j : Int), littleL j was shape) := by simpa using e
    rw [linesF_length, under_len (hf j _ hj) hl]
    show (littleL j was shape).length / 2 = 32
    rw [little_len]
  have hall := ana_length 2 was shape (.inr (.inr (.inl rfl))) h0 h1 pcm hl
  have la : (((anaL (winsL 2 was shape) pcm).drop (32 * k)).take 32).length = 32 := by rw [List.length_take, List.length_drop]; omega
  have lb : (linesF (underL pcm (shortP was shape k))).length = 32 := hlen _ (List.mem_iff_getElem?.2 ⟨k, hw⟩)
  apply List.ext_getElem (by rw [la, lb])
  intro i g1 g2
  have key := chunk_get (anaL (winsL 2 was shape) pcm) k i (by omega)
  have k2 := flat_get (f := fun p => linesF (underL pcm p)) (winsL 2 was shape) hlen k i _ hw (by omega)
  have k3 : (anaL (winsL 2 was shape) pcm).getD (32 * k + i) 0 = (linesF (underL pcm (shortP was shape k))).getD i 0 := k2
  rw [k3, List.getD_eq_getElem?_getD, List.getD_eq_getElem?_getD, List.getElem?_eq_getElem g1, List.getElem?_eq_getElem g2] at key
  simpa using key
theorem short_add {k : Nat} (hk : k < 8) {i : Nat} (hi : i < 64) : addW was shape (anaL (winsL 2 was shape) pcm) (112 + 32 * k + i) k = backW pcm (shortP was shape k) i := by
  unfold addW
  rw [short_chunk h0 h1 hl hk]
  unfold addS
  have e : (112 + 32 * (k : Int)).toNat = 112 + 32 * k := by omega
  rw [if_pos (by show (112 + 32 * (k : Int)).toNat ≤ _ ∧ _ < (112 + 32 * (k : Int)).toNat + (littleL k was shape).length; rw [e, little_len]; omega)]
  show (partS _ _).getD (112 + 32 * k + i - (112 + 32 * (k : Int)).toNat) 0 = _
  rw [e, show 112 + 32 * k + i - (112 + 32 * k) = i by omega]
  rfl
theorem short_first {i : Nat} (hi : i < 32) : backY 2 was shape pcm (112 + i) = backW pcm (shortP was shape 0) i := by
  unfold backY
  rw [syn_all was shape _ (by omega), sumF_lone _ (k := 0) (by omega) (fun j hj hne => addW_out was shape _ (.inl (by omega)))]
  have := short_add h0 h1 hl (k := 0) (by omega) (i := i) (by omega)
  exact this
theorem short_mid {k i : Nat} (hk : k < 7) (hi : i < 32) : backY 2 was shape pcm (144 + 32 * k + i) = backW pcm (shortP was shape k) (32 + i) + backW pcm (shortP was shape (k + 1)) i := by
  unfold backY
  rw [syn_all was shape _ (by omega), sumF_pair _ (k := k) (by omega) (fun j hj h1 h2 => addW_out was shape _ (by omega))]
  have a := short_add h0 h1 hl (k := k) (by omega) (i := 32 + i) (by omega)
  have b := short_add h0 h1 hl (k := k + 1) (by omega) (i := i) (by omega)
  rw [show 112 + 32 * k + (32 + i) = 144 + 32 * k + i by omega] at a
  rw [show 112 + 32 * (k + 1) + i = 144 + 32 * k + i by omega] at b
  rw [a, b]
theorem short_last {i : Nat} (hi : i < 32) : backY 2 was shape pcm (368 + i) = backW pcm (shortP was shape 7) (32 + i) := by
  unfold backY
  rw [syn_all was shape _ (by omega), sumF_lone _ (k := 7) (by omega) (fun j hj hne => addW_out was shape _ (.inr (by omega)))]
  have := short_add h0 h1 hl (k := 7) (by omega) (i := 32 + i) (by omega)
  rw [show 112 + 32 * 7 + (32 + i) = 368 + i by omega] at this
  exact this
variable (hm : ∀ j, -32768 ≤ pcm.getD j 0 ∧ pcm.getD j 0 ≤ 32767)
include hm
theorem short_lo {k i : Nat} (hk : k < 8) (hi : i < 32) : NearLo (backW pcm (shortP was shape k) i) (pcm.getD (112 + 32 * k + i) 0) (pcm.getD (112 + 32 * k + (31 - i)) 0) ((hvL (if k = 0 then was else shape) true).getD i 0) ((hvL (if k = 0 then was else shape) true).getD (31 - i) 0) := by
  have hf : WinFit k (shortP was shape k) := wins_fit 2 was shape (.inr (.inr (.inl rfl))) h0 h1 k _ (shorts_at was shape hk)
  have hv := hv_len32 (if k = 0 then was else shape)
  have := back_lo (t := 112 + 32 * k) hf (.inr rfl) (little_len k was shape) (show (112 + 32 * (k : Int)).toNat = 112 + 32 * k by omega) hl (fit_range hm) hi
  have e : ∀ j, j < 32 → (shortP was shape k).2.getD j 0 = (hvL (if k = 0 then was else shape) true).getD j 0 := fun j hj => by
    show (littleL k was shape).getD j 0 = _
    unfold littleL
    rw [getD_left (by omega)]
  rw [e i hi, e (32 - 1 - i) (by omega)] at this
  exact this
theorem short_hi {k i : Nat} (hk : k < 8) (hi : i < 32) : NearHi (backW pcm (shortP was shape k) (32 + i)) (pcm.getD (144 + 32 * k + i) 0) (pcm.getD (144 + 32 * k + (31 - i)) 0) ((hvL shape true).getD (31 - i) 0) ((hvL shape true).getD i 0) := by
  have hf : WinFit k (shortP was shape k) := wins_fit 2 was shape (.inr (.inr (.inl rfl))) h0 h1 k _ (shorts_at was shape hk)
  have hv := hv_len32 (if k = 0 then was else shape)
  have := back_hi (t := 112 + 32 * k) hf (.inr rfl) (little_len k was shape) (show (112 + 32 * (k : Int)).toNat = 112 + 32 * k by omega) hl (fit_range hm) (i := 32 + i) (by omega) (by omega)
  have e : ∀ j, j < 32 → (shortP was shape k).2.getD (32 + j) 0 = (hvL shape true).getD (31 - j) 0 := fun j hj => by
    show (littleL k was shape).getD (32 + j) 0 = _
    unfold littleL
    rw [getD_right hv (by omega), show 32 + j - 32 = j by omega, getD_rev (hv_len32 shape) hj]
  rw [show 3 * 32 - 1 - (32 + i) = 32 + (31 - i) by omega, e i hi, e (31 - i) (by omega), show 31 - (31 - i) = i by omega, show 112 + 32 * k + (32 + i) = 144 + 32 * k + i by omega, show 112 + 32 * k + (32 + (31 - i)) = 144 + 32 * k + (31 - i) by omega] at this
  exact this
/-- Within a frame of Shorts. -/
theorem short_in {k i : Nat} (hk : k < 7) (hi : i < 32) : -32 ≤ backY 2 was shape pcm (144 + 32 * k + i) - 16 * pcm.getD (144 + 32 * k + i) 0 ∧ backY 2 was shape pcm (144 + 32 * k + i) - 16 * pcm.getD (144 + 32 * k + i) 0 ≤ 32 := by
  rw [short_mid h0 h1 hl hk hi]
  have a := short_hi h0 h1 hl hm (k := k) (by omega) hi
  have b := short_lo h0 h1 hl hm (k := k + 1) (by omega) hi
  rw [if_neg (by omega), show 112 + 32 * (k + 1) + i = 144 + 32 * k + i by omega, show 112 + 32 * (k + 1) + (31 - i) = 144 + 32 * k + (31 - i) by omega] at b
  have hp := pow_hv shape h1 true 32 i rfl hi
  exact pair_near hp (fit_range hm _) a b
end
theorem start_wins (was shape : Int) {n : Nat} (hn : n < 256) : (n < 112 → (winL 1 was shape).getD (256 + n) 0 = 4194304) ∧ (112 ≤ n → n < 144 → (winL 1 was shape).getD (256 + n) 0 = (hvL shape true).getD (143 - n) 0) ∧ (144 ≤ n → (winL 1 was shape).getD (256 + n) 0 = 0) := by
  rw [win1, getD_right (hv_len256 was) (by omega), show 256 + n - 256 = n by omega]
  refine ⟨fun h => ?_, fun h h' => ?_, fun h => ?_⟩
  · rw [getD_left (by rw [repL_len]; omega), rep_get h]
  · rw [getD_right (repL_len _) (by omega), getD_left (by rw [List.length_reverse, hv_len32]; omega), getD_rev (hv_len32 shape) (by omega), show 32 - 1 - (n - 112) = 143 - n by omega]
  · rw [getD_right (repL_len _) (by omega), getD_right (n := 32) (by rw [List.length_reverse, hv_len32]) (by omega), nought_get]
theorem stop_wins (was shape : Int) {n : Nat} (hn : n < 256) : (n < 112 → (winL 3 was shape).getD n 0 = 0) ∧ (112 ≤ n → n < 144 → (winL 3 was shape).getD n 0 = (hvL was true).getD (n - 112) 0) ∧ (144 ≤ n → (winL 3 was shape).getD n 0 = 4194304) := by
  rw [win3]
  refine ⟨fun h => ?_, fun h h' => ?_, fun h => ?_⟩
  · rw [getD_left (by rw [noughtL_len]; omega), nought_get]
  · rw [getD_right noughtL_len (by omega), getD_left (by rw [hv_len32]; omega)]
  · rw [getD_right noughtL_len (by omega), getD_right (hv_len32 was) (by omega), getD_left (by rw [repL_len]; omega), rep_get (by omega)]
/-- The two halves of long windows that meet are each other's mirrors. -/
theorem meet_wins (one two was mid shape : Int) (h1 : one = 0 ∨ one = 1 ∨ one = 3) (h2 : two = 0 ∨ two = 1 ∨ two = 3) (ha : one = 1 ↔ two = 3) {n : Nat} (hn : n < 256) : (winL one was mid).getD (256 + n) 0 = (winL two mid shape).getD (255 - n) 0 := by
  by_cases h : one = 1
  · obtain rfl := ha.1 h
    subst h
    have a := start_wins was mid hn
    have b := stop_wins mid shape (n := 255 - n) (by omega)
    by_cases c1 : n < 112
    · rw [a.1 c1, b.2.2 (by omega)]
    by_cases c2 : n < 144
    · rw [a.2.1 (by omega) c2, b.2.1 (by omega) (by omega), show 255 - n - 112 = 143 - n by omega]
    · rw [a.2.2 (by omega), b.1 (by omega)]
  · have h3 : two ≠ 3 := fun e => h (ha.2 e)
    rw [fall_long one was mid (by omega) hn, rise_long two mid shape (by omega) (by omega)]
/-- May a sequence follow another one. -/
def FollowP (a b : Int) : Prop := (a = 0 ∨ a = 3) ∧ (b = 0 ∨ b = 1) ∨ (a = 1 ∨ a = 2) ∧ (b = 2 ∨ b = 3)
theorem lap_back {a b was mid shape : Int} (hab : FollowP a b) (h0 : was = 0 ∨ was = 1) (hmid : mid = 0 ∨ mid = 1) (h1 : shape = 0 ∨ shape = 1) {pa pb : List Int} (la : pa.length = 512) (lb : pb.length = 512)
    (ma : ∀ j, -32768 ≤ pa.getD j 0 ∧ pa.getD j 0 ≤ 32767) (mb : ∀ j, -32768 ≤ pb.getD j 0 ∧ pb.getD j 0 ≤ 32767) (hs : ∀ n, n < 256 → pa.getD (256 + n) 0 = pb.getD n 0) {n : Nat} (hn : n < 256) :
    -32 ≤ backY a was mid pa (256 + n) + backY b mid shape pb n - 16 * pb.getD n 0 ∧ backY a was mid pa (256 + n) + backY b mid shape pb n - 16 * pb.getD n 0 ≤ 32 := by
  have f := fit_range mb n
  by_cases hlong : a ≠ 2 ∧ b ≠ 2
  · have a1 : a = 0 ∨ a = 1 ∨ a = 3 := by unfold FollowP at hab; omega
    have b1 : b = 0 ∨ b = 1 ∨ b = 3 := by unfold FollowP at hab; omega
    have hiff : a = 1 ↔ b = 3 := by unfold FollowP at hab; omega
    have x := long_hi a1 h0 hmid la ma hn
    have y := long_lo b1 hmid h1 lb mb hn
    have hp := power_at a b was mid shape a1 b1 hmid hiff n hn
    rw [meet_wins a b was mid shape a1 b1 hiff hn, meet_wins a b was mid shape a1 b1 hiff (show 255 - n < 256 by omega), hs n hn, hs _ (by omega), show 255 - (255 - n) = n by omega] at x
    rw [meet_wins a b was mid shape a1 b1 hiff hn] at hp
    exact pair_near hp.turn f x y
  by_cases hA : a = 2
  · subst hA
    have b23 : b = 2 ∨ b = 3 := by unfold FollowP at hab; omega
    by_cases c1 : n < 112
    · have e : backY b mid shape pb n = 0 := syn_bare b mid shape n (by unfold bareB; omega) (by omega) _
      rw [e, Int.add_zero]
      have := short_in h0 hmid la ma (k := (n + 112) / 32) (i := (n + 112) % 32) (by omega) (by omega)
      rw [show 144 + 32 * ((n + 112) / 32) + (n + 112) % 32 = 256 + n by omega, hs n hn] at this
      exact this
    by_cases c2 : n < 144
    · have x := short_hi h0 hmid la ma (k := 7) (i := n - 112) (by omega) (by omega)
      rw [← short_last h0 hmid la (by omega), show 368 + (n - 112) = 256 + n by omega, show 144 + 32 * 7 + (31 - (n - 112)) = 256 + (255 - n) by omega, hs n hn, hs _ (by omega), show 31 - (n - 112) = 143 - n by omega] at x
      have hp := pow_hv mid hmid true 32 (n - 112) rfl (by omega)
      rw [show 32 - 1 - (n - 112) = 143 - n by omega] at hp
      rcases b23 with rfl | rfl
      · have y := short_lo hmid h1 lb mb (k := 0) (i := n - 112) (by omega) (by omega)
        rw [← short_first hmid h1 lb (by omega), if_pos rfl, show 112 + (n - 112) = n by omega, show 112 + 32 * 0 + (31 - (n - 112)) = 255 - n by omega, show 31 - (n - 112) = 143 - n by omega] at y
        exact pair_near hp f x y
      · have y := long_lo (.inr (.inr rfl)) hmid h1 lb mb hn
        rw [(stop_wins mid shape hn).2.1 (by omega) c2, (stop_wins mid shape (n := 255 - n) (by omega)).2.1 (by omega) (by omega), show 255 - n - 112 = 143 - n by omega] at y
        exact pair_near hp f x y
    · have e : backY 2 was mid pa (256 + n) = 0 := syn_bare 2 was mid (256 + n) (by unfold bareB; omega) (by omega) _
      rw [e, Int.zero_add]
      rcases b23 with rfl | rfl
      · have := short_in hmid h1 lb mb (k := (n - 144) / 32) (i := (n - 144) % 32) (by omega) (by omega)
        rw [show 144 + 32 * ((n - 144) / 32) + (n - 144) % 32 = n by omega] at this
        exact this
      · have y := long_lo (.inr (.inr rfl)) hmid h1 lb mb hn
        rw [(stop_wins mid shape hn).2.2 (by omega), (stop_wins mid shape (n := 255 - n) (by omega)).1 (by omega)] at y
        have := pair_near pow_one.turn f (near_hi0 _ _ _) y
        rw [Int.zero_add] at this
        exact this
  · have hb2 : b = 2 := by omega
    have ha1 : a = 1 := by unfold FollowP at hab; omega
    subst hb2 ha1
    have x := long_hi (.inr (.inl rfl)) h0 hmid la ma hn
    rw [hs n hn, hs _ (by omega)] at x
    by_cases c1 : n < 112
    · have e : backY 2 mid shape pb n = 0 := syn_bare 2 mid shape n (by unfold bareB; omega) (by omega) _
      rw [(start_wins was mid hn).1 c1, (start_wins was mid (n := 255 - n) (by omega)).2.2 (by omega)] at x
      rw [e]
      exact pair_near pow_one f x (near_lo0 _ _ _)
    by_cases c2 : n < 144
    · rw [(start_wins was mid hn).2.1 (by omega) c2, (start_wins was mid (n := 255 - n) (by omega)).2.1 (by omega) (by omega), show 143 - (255 - n) = n - 112 by omega] at x
      have hp := pow_hv mid hmid true 32 (n - 112) rfl (by omega)
      rw [show 32 - 1 - (n - 112) = 143 - n by omega] at hp
      have y := short_lo hmid h1 lb mb (k := 0) (i := n - 112) (by omega) (by omega)
      rw [← short_first hmid h1 lb (by omega), if_pos rfl, show 112 + (n - 112) = n by omega, show 112 + 32 * 0 + (31 - (n - 112)) = 255 - n by omega, show 31 - (n - 112) = 143 - n by omega] at y
      exact pair_near hp f x y
    · have e : backY 1 was mid pa (256 + n) = 0 := syn_bare 1 was mid (256 + n) (by unfold bareB; omega) (by omega) _
      rw [e, Int.zero_add]
      have := short_in hmid h1 lb mb (k := (n - 144) / 32) (i := (n - 144) % 32) (by omega) (by omega)
      rw [show 144 + 32 * ((n - 144) / 32) + (n - 144) % 32 = n by omega] at this
      exact this
end Go.Proofs.Ytcmbbmilldhnnaa
