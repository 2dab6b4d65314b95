/- mdct.sums: what each call answers, by either arc. -/
import Derived.Test.YtclbbfpagkhonaaMade
import Derived.Test.YtclbbfpagkhonaaRound
import Derived.Test.YtclbbfpagkhonaaMdctPlain
set_option linter.unusedVariables false
namespace Go.Proofs.Ytclbbfpagkhonaa
open Go.ChangeShapes Go.WideShapes Go.ChangeAt Go.RowKit

/-- A sum of numbers times cosines, over an arc that goes on. -/
def sumX (l : List Int) (a b : Int) (k : Nat) : Int := sumF (fun j => l.getD j 0 * cosL (a + b * j)) k
theorem sumX_succ (l : List Int) (a b : Int) (k : Nat) : sumX l a b (k + 1) = sumX l a b k + l.getD k 0 * cosL (a + b * k) := rfl
theorem sumX_range (l : List Int) (a b B : Int) (hl : ∀ j, j < l.length → -B ≤ l.getD j 0 ∧ l.getD j 0 ≤ B) : ∀ k, k ≤ l.length → -(B * 67108864 * k) ≤ sumX l a b k ∧ sumX l a b k ≤ B * 67108864 * k
  | 0, _ => by simp [sumX, sumF]
  | k + 1, hk => by
    obtain ⟨p, q⟩ := sumX_range l a b B hl k (by omega)
    obtain ⟨r, s⟩ := hl k (by omega)
    obtain ⟨t, u⟩ := cos_range (a + b * k)
    have := mul_abs r s t u
    rw [sumX_succ]
    have e : B * 67108864 * ((k + 1 : Nat) : Int) = B * 67108864 * k + B * 67108864 := by rw [Int.natCast_add]; grind
    rw [e]
    omega
theorem row_eq {xs : List Value} {m : Nat} {f : Nat → Int} (hl : xs.length = m) (h : ∀ j, j < m → xs[j]? = some (.int .i64 (f j))) : xs = ((List.range m).map f).map (Value.int .i64) := by
  apply List.ext_getElem?
  intro j
  by_cases hj : j < m
  · rw [h j hj]; simp [hj]
  · rw [List.getElem?_eq_none (by omega), List.getElem?_eq_none (by simp; omega)]
def RFull (f : Nat → Int) (n : Nat) (w : World) (e : Ending) (w' : World) : Prop :=
  ∃ g : Nat, e = .returned (.slice (some ⟨g, 0, none⟩) n n) ∧ w'.ownsRow w.heap.size 3 1 (.slice (some ⟨g, 0, none⟩) n n) n (((List.range n).map f).map (Value.int .i64)) ∧ Below w.heap.size w w'
def RArc (a b : Int) (w : World) (e : Ending) (w' : World) : Prop := e = .returned (.tuple #[.int .i64 a, .int .i64 b]) ∧ ∃ n, w' = w.drewN n

set_option maxRecDepth 100000 in
set_option maxHeartbeats 4000000 in
theorem sums_fwd (l : List Int) (p : Option Addr) (cap many bits ga : Nat) (m B : Int) (fa fb : Nat → Int) (w : World) (hI : IsInts w p l) (hga : ga < w.heap.size) (hm : w.cell? ⟨ga, 0, none⟩ = some (.int .i64 m))
    (hcall : ∀ (i : Nat) W, i < many → W.cell? ⟨ga, 0, none⟩ = some (.int .i64 m) → Calls Try.prog 42 #[.int .i64 i, .pointer (some ⟨ga, 0, none⟩)] W (RArc (fa i) (fb i) W))
    (hl : l.length ≤ 512) (hmany : many ≤ 512) (hbits : bits ≤ 62) (hB0 : 0 ≤ B) (hBB : B ≤ 68719476736) (hB : B * l.length ≤ 68719476736) (hlB : ∀ j, j < l.length → -B ≤ l.getD j 0 ∧ l.getD j 0 ≤ B)
    (hfa : ∀ i, i < many → -10000000 ≤ fa i ∧ fa i ≤ 10000000) (hfb : ∀ i, i < many → -100000 ≤ fb i ∧ fb i ≤ 100000) :
    Calls Try.prog 38 #[.slice p l.length cap, .int .i64 many, .int .i64 bits, .func (.func 42) #[] #[.pointer (some ⟨ga, 0, none⟩)]] w (RFull (fun i => rnd (sumX l (fa i) (fb i) l.length) bits) many w) := by
  obtain ⟨i0, hi, hz0, hz1, hz2⟩ := info_parts Try.infoInt
  have HI := Lib.hid hI
  have HM := Lib.hid hm
  have HC := Lib.hid hcall
  have HLB := Lib.hid hlB
  have HFA := Lib.hid hfa
  have HFB := Lib.hid hfb
  have SR : Hid (∀ i k, k ≤ l.length → -4611686018427387904 ≤ sumX l (fa i) (fb i) k ∧ sumX l (fa i) (fb i) k ≤ 4611686018427387904) := by
    intro i k hk
    have h := sumX_range l (fa i) (fb i) B hlB k hk
    have : B * 67108864 * (k : Int) ≤ 4611686018427387904 := by
      have h1 := Int.mul_le_mul_of_nonneg_left (show (k : Int) ≤ l.length by omega) hB0
      have e : B * 67108864 * (k : Int) = B * k * 67108864 := by grind
      rw [e]; omega
    omega
  clear hI hm hcall hlB hfa hfb hB
  go_enter Try.func38, Try.ntmps38
  go_wp2_with fail
  refine (made_ok _).mono ?_
  rintro e w1 ⟨gc, rfl, hcir, hgc, hb1⟩
  have HC1 := Lib.hid hcir
  have HI1 := Lib.hid (HI.out.inB.keep hb1 (Nat.le_refl _))
  have HM1 := Lib.hid ((hb1.cell (p := ⟨ga, 0, none⟩) hga).trans HM.out)
  have hsz1 := hb1.size
  have hgc1 := hcir.1
  clear hcir HI HM
  go_wp2_with (at_make; refine wpList_make_full _ rfl _ _ 23 rfl w1.heap.size 3 i0 (.int .i64 0) 1 Try.underlying23 hi hz0 hz1 .i64 .i64 _ _ many rfl rfl ?hL ?hC ?b2 ?b3 ?b4 ?_)
  case hL => rfl
  case hC => rfl
  case b2 => rw [hz2]; omega
  case b3 => unfold maxLen; omega
  case b4 => exact Nat.le_refl _
  intro w2 hown hgrow
  have hb2 : Below w1.heap.size w1 w2 := (Below.refl _ _).grown hgrow (by simp) (by simp)
  have hg2 : w1.heap.size < w2.heap.size := (hown.lt _ rfl).2
  have hown1 : w2.ownsRow w1.heap.size 3 1 (.slice (some ⟨w1.heap.size, 0, none⟩) many many) many (List.replicate many (.int .i64 0)) := by
    have e := toList_madeCells_one (.int .i64 0) many
    rw [← e]; simpa using hown
  have HO := Lib.hid hown1
  clear hgrow hown hown1
  go_wp2
  go_loopw [22] (fun I wr => ∃ (k : Nat) (xs : List Value), I = .int .i64 k ∧ k ≤ many ∧ Hid (wr.ownsRow w1.heap.size 3 1 (.slice (some ⟨w1.heap.size, 0, none⟩) many many) many xs) ∧ xs.length = many ∧ Below w1.heap.size w1 wr ∧ w1.heap.size < wr.heap.size ∧ Hid (∀ j : Nat, j < k → xs[j]? = some (.int .i64 (rnd (sumX l (fa j) (fb j) l.length) bits)))) (fun I _ => many - (intOf I).toNat)
  case atStart => exact ⟨0, _, rfl, Nat.zero_le _, HO, by simp, hb2, hg2, Lib.hid (fun _ h => absurd h (Nat.not_lt_zero _))⟩
  case round =>
    obtain ⟨k, xs, rfl, hk, hO, hlenO, hbq, hgq, hxs⟩ := hrel
    clear HO hb2 hg2
    by_cases hlt : k < many
    · have HMr := (hbq.cell (p := ⟨ga, 0, none⟩) (show ga < w1.heap.size by omega)).trans HM1.out
      have HK := Lib.hid (HC.out k wr hlt HMr)
      have HCr := Lib.hid (HC1.out.keep hbq hgc1)
      have HIr := Lib.hid (HI1.out.keep hbq hsz1)
      obtain ⟨a0, a1⟩ := HFA.out k hlt
      obtain ⟨b0, b1⟩ := HFB.out k hlt
      have SRk := Lib.hid (SR.out k)
      have HV : Hid (rnd (sumX l (fa k) (fb k) l.length) bits = rnd (sumX l (fa k) (fb k) l.length) bits) := rfl
      generalize ha : fa k = A at HK a0 a1 SRk HV
      generalize hbb : fb k = D at HK b0 b1 SRk HV
      have HA := Lib.hid ha
      have HD := Lib.hid hbb
      clear HMr ha hbb
      go_wp2_with fail
      refine HK.out.mono ?_
      rintro e w3 ⟨rfl, n3, rfl⟩
      clear HK
      go_wp2
      go_loop [14, 12, 33] (fun S T J => ∃ (j : Nat) (t : Int), S = .int .i64 (sumX l A D j) ∧ T = .int .i64 t ∧ J = .int .i64 j ∧ j ≤ l.length ∧ Hid (t = A + D * j) ∧ -100000000 ≤ t ∧ t ≤ 100000000) (fun _ _ J => l.length - (intOf J).toNat)
      case atStart => exact ⟨0, A, rfl, rfl, rfl, Nat.zero_le _, Lib.hid (by simp), by omega, by omega⟩
      case round =>
        obtain ⟨j, t, rfl, rfl, rfl, hj, ht, t0, t1⟩ := hrel
        by_cases hjl : j < l.length
        · obtain ⟨b, off, rfl, h1⟩ := (HIr.out.drewN n3).at hjl
          have h2 := (HCr.out.drewN n3).2 (t % 2048).toNat (by omega)
          have hm := mask2047 t
          obtain ⟨r0, r1⟩ : 0 ≤ t % 2048 ∧ t % 2048 < 2048 := ⟨Int.emod_nonneg _ (by decide), Int.emod_lt_of_pos _ (by decide)⟩
          rw [Int.toNat_of_nonneg r0, cos_mod] at h2
          obtain ⟨s0, s1⟩ := SRk.out j (by omega)
          obtain ⟨s2, s3⟩ := SRk.out (j + 1) (by omega)
          have hst := sumX_succ l A D j
          rw [← ht.out] at hst
          rw [hst] at s2 s3
          have HS := Lib.hid hst
          obtain ⟨l0, l1⟩ := HLB.out j hjl
          obtain ⟨c0, c1⟩ := cos_range t
          have hp := mul_abs l0 l1 c0 c1
          obtain ⟨p0, p1⟩ := hp
          have ht2 : Hid (t + D = A + D * ((j + 1 : Nat) : Int)) := by
            have := ht.out
            show _ = _
            rw [this, Int.natCast_add]; grind
          have hn2 : -100000000 ≤ t + D ∧ t + D ≤ 100000000 := by
            have e := ht2.out
            have m1 := mul_abs b0 b1 (show -(512 : Int) ≤ ((j + 1 : Nat) : Int) by omega) (show ((j + 1 : Nat) : Int) ≤ 512 by omega)
            omega
          obtain ⟨q0, q1⟩ := hn2
          generalize l.getD j 0 = x at h1 l0 l1 p0 p1 s2 s3 HS
          generalize cosL t = y at h2 c0 c1 p0 p1 s2 s3 HS
          generalize sumX l A D j = S at s0 s1 s2 s3 HS ⊢
          have p2 : -(68719476736 * 67108864) ≤ x * y := by omega
          have p3 : x * y ≤ 68719476736 * 67108864 := by omega
          clear hst p0 p1
          go_wp2
          go_round
          case rel => exact ⟨j + 1, t + D, congrArg (Value.int .i64) HS.out.symm, rfl, by go_num, by omega, ht2, q0, q1⟩
          case measure => simp [intOf]; omega
        · have hjn : j = l.length := by omega
          subst hjn
          obtain ⟨s0, s1⟩ := SRk.out l.length (Nat.le_refl _)
          have HR := Lib.hid (fun W => round_ok (sumX l A D l.length) bits s0 s1 hbits W)
          obtain ⟨v, hv⟩ : ∃ v, rnd (sumX l A D l.length) bits = v := ⟨_, rfl⟩
          have HVv := Lib.hid hv
          have hbq3 : Below w1.heap.size w1 (wr.drewN n3) := below_drewN hbq n3
          clear hv
          go_wp2_with fail
          refine (HR.out _).mono ?_
          rintro e w4 ⟨rfl, n4, hw4⟩
          rw [HVv.out]
          have hO2 : w4.ownsRow w1.heap.size 3 1 (.slice (some ⟨w1.heap.size, 0, none⟩) many many) many xs := hw4 ▸ hO.out
          have hbq4 : Below w1.heap.size w1 w4 := hw4 ▸ below_drewN hbq3 n4
          have hsz4 : w1.heap.size < w4.heap.size := hw4 ▸ hgq
          have hc := hO2.cellAt k (by omega)
          rw [List.getElem?_eq_getElem (by omega)] at hc
          have hf := hO2.frozenAt k
          have hO3 := Lib.hid (hO2.stored k (.int .i64 v)).1
          have hb6 : Below w1.heap.size w1 (w4.setCell ⟨w1.heap.size, k, none⟩ (.int .i64 v)) := hbq4.setCell (p := ⟨w1.heap.size, k, none⟩) (Nat.le_refl _) _
          have hxs2 : Hid (∀ j : Nat, j < k + 1 → (xs.set k (.int .i64 v))[j]? = some (.int .i64 (rnd (sumX l (fa j) (fb j) l.length) bits))) := by
            intro j hj
            by_cases e : j = k
            · rw [e, List.getElem?_set_self (by omega), HA.out, HD.out, HVv.out]
            · rw [List.getElem?_set_ne (by omega)]; exact hxs.out j (by omega)
          clear hxs hO hO2 hw4 hbq hbq3 hbq4 HR HIr HCr
          go_wp2
          exact ⟨⟨k + 1, _, by go_num, by omega, hO3, by simp [hlenO], hb6, by simpa [World.setCell] using hsz4, hxs2⟩, by simp [intOf]; omega⟩
    · have hkM : k = many := by omega
      subst hkM
      have HE := Lib.hid (row_eq hlenO hxs.out)
      clear hxs
      go_wp2
      go_ret
      refine ⟨w1.heap.size, rfl, ?_, ?_⟩
      · have := HE.out
        rw [this] at hO
        exact owns_lower hO.out hsz1
      · exact hb1.trans (hbq.mono hsz1)

set_option maxRecDepth 100000 in
set_option maxHeartbeats 4000000 in
theorem sums_inv (l : List Int) (p : Option Addr) (cap many bits ga : Nat) (m B : Int) (fa fb : Nat → Int) (w : World) (hI : IsInts w p l) (hga : ga < w.heap.size) (hm : w.cell? ⟨ga, 0, none⟩ = some (.int .i64 m))
    (hcall : ∀ (i : Nat) W, i < many → W.cell? ⟨ga, 0, none⟩ = some (.int .i64 m) → Calls Try.prog 39 #[.int .i64 i, .pointer (some ⟨ga, 0, none⟩)] W (RArc (fa i) (fb i) W))
    (hl : l.length ≤ 512) (hmany : many ≤ 512) (hbits : bits ≤ 62) (hB0 : 0 ≤ B) (hBB : B ≤ 68719476736) (hB : B * l.length ≤ 68719476736) (hlB : ∀ j, j < l.length → -B ≤ l.getD j 0 ∧ l.getD j 0 ≤ B)
    (hfa : ∀ i, i < many → -10000000 ≤ fa i ∧ fa i ≤ 10000000) (hfb : ∀ i, i < many → -100000 ≤ fb i ∧ fb i ≤ 100000) :
    Calls Try.prog 38 #[.slice p l.length cap, .int .i64 many, .int .i64 bits, .func (.func 39) #[] #[.pointer (some ⟨ga, 0, none⟩)]] w (RFull (fun i => rnd (sumX l (fa i) (fb i) l.length) bits) many w) := by
  obtain ⟨i0, hi, hz0, hz1, hz2⟩ := info_parts Try.infoInt
  have HI := Lib.hid hI
  have HM := Lib.hid hm
  have HC := Lib.hid hcall
  have HLB := Lib.hid hlB
  have HFA := Lib.hid hfa
  have HFB := Lib.hid hfb
  have SR : Hid (∀ i k, k ≤ l.length → -4611686018427387904 ≤ sumX l (fa i) (fb i) k ∧ sumX l (fa i) (fb i) k ≤ 4611686018427387904) := by
    intro i k hk
    have h := sumX_range l (fa i) (fb i) B hlB k hk
    have : B * 67108864 * (k : Int) ≤ 4611686018427387904 := by
      have h1 := Int.mul_le_mul_of_nonneg_left (show (k : Int) ≤ l.length by omega) hB0
      have e : B * 67108864 * (k : Int) = B * k * 67108864 := by grind
      rw [e]; omega
    omega
  clear hI hm hcall hlB hfa hfb hB
  go_enter Try.func38, Try.ntmps38
  go_wp2_with fail
  refine (made_ok _).mono ?_
  rintro e w1 ⟨gc, rfl, hcir, hgc, hb1⟩
  have HC1 := Lib.hid hcir
  have HI1 := Lib.hid (HI.out.inB.keep hb1 (Nat.le_refl _))
  have HM1 := Lib.hid ((hb1.cell (p := ⟨ga, 0, none⟩) hga).trans HM.out)
  have hsz1 := hb1.size
  have hgc1 := hcir.1
  clear hcir HI HM
  go_wp2_with (at_make; refine wpList_make_full _ rfl _ _ 23 rfl w1.heap.size 3 i0 (.int .i64 0) 1 Try.underlying23 hi hz0 hz1 .i64 .i64 _ _ many rfl rfl ?hL ?hC ?b2 ?b3 ?b4 ?_)
  case hL => rfl
  case hC => rfl
  case b2 => rw [hz2]; omega
  case b3 => unfold maxLen; omega
  case b4 => exact Nat.le_refl _
  intro w2 hown hgrow
  have hb2 : Below w1.heap.size w1 w2 := (Below.refl _ _).grown hgrow (by simp) (by simp)
  have hg2 : w1.heap.size < w2.heap.size := (hown.lt _ rfl).2
  have hown1 : w2.ownsRow w1.heap.size 3 1 (.slice (some ⟨w1.heap.size, 0, none⟩) many many) many (List.replicate many (.int .i64 0)) := by
    have e := toList_madeCells_one (.int .i64 0) many
    rw [← e]; simpa using hown
  have HO := Lib.hid hown1
  clear hgrow hown hown1
  go_wp2
  go_loopw [22] (fun I wr => ∃ (k : Nat) (xs : List Value), I = .int .i64 k ∧ k ≤ many ∧ Hid (wr.ownsRow w1.heap.size 3 1 (.slice (some ⟨w1.heap.size, 0, none⟩) many many) many xs) ∧ xs.length = many ∧ Below w1.heap.size w1 wr ∧ w1.heap.size < wr.heap.size ∧ Hid (∀ j : Nat, j < k → xs[j]? = some (.int .i64 (rnd (sumX l (fa j) (fb j) l.length) bits)))) (fun I _ => many - (intOf I).toNat)
  case atStart => exact ⟨0, _, rfl, Nat.zero_le _, HO, by simp, hb2, hg2, Lib.hid (fun _ h => absurd h (Nat.not_lt_zero _))⟩
  case round =>
    obtain ⟨k, xs, rfl, hk, hO, hlenO, hbq, hgq, hxs⟩ := hrel
    clear HO hb2 hg2
    by_cases hlt : k < many
    · have HMr := (hbq.cell (p := ⟨ga, 0, none⟩) (show ga < w1.heap.size by omega)).trans HM1.out
      have HK := Lib.hid (HC.out k wr hlt HMr)
      have HCr := Lib.hid (HC1.out.keep hbq hgc1)
      have HIr := Lib.hid (HI1.out.keep hbq hsz1)
      obtain ⟨a0, a1⟩ := HFA.out k hlt
      obtain ⟨b0, b1⟩ := HFB.out k hlt
      have SRk := Lib.hid (SR.out k)
      have HV : Hid (rnd (sumX l (fa k) (fb k) l.length) bits = rnd (sumX l (fa k) (fb k) l.length) bits) := rfl
      generalize ha : fa k = A at HK a0 a1 SRk HV
      generalize hbb : fb k = D at HK b0 b1 SRk HV
      have HA := Lib.hid ha
      have HD := Lib.hid hbb
      clear HMr ha hbb
      go_wp2_with fail
      refine HK.out.mono ?_
      rintro e w3 ⟨rfl, n3, rfl⟩
      clear HK
      go_wp2
      go_loop [14, 12, 33] (fun S T J => ∃ (j : Nat) (t : Int), S = .int .i64 (sumX l A D j) ∧ T = .int .i64 t ∧ J = .int .i64 j ∧ j ≤ l.length ∧ Hid (t = A + D * j) ∧ -100000000 ≤ t ∧ t ≤ 100000000) (fun _ _ J => l.length - (intOf J).toNat)
      case atStart => exact ⟨0, A, rfl, rfl, rfl, Nat.zero_le _, Lib.hid (by simp), by omega, by omega⟩
      case round =>
        obtain ⟨j, t, rfl, rfl, rfl, hj, ht, t0, t1⟩ := hrel
        by_cases hjl : j < l.length
        · obtain ⟨b, off, rfl, h1⟩ := (HIr.out.drewN n3).at hjl
          have h2 := (HCr.out.drewN n3).2 (t % 2048).toNat (by omega)
          have hm := mask2047 t
          obtain ⟨r0, r1⟩ : 0 ≤ t % 2048 ∧ t % 2048 < 2048 := ⟨Int.emod_nonneg _ (by decide), Int.emod_lt_of_pos _ (by decide)⟩
          rw [Int.toNat_of_nonneg r0, cos_mod] at h2
          obtain ⟨s0, s1⟩ := SRk.out j (by omega)
          obtain ⟨s2, s3⟩ := SRk.out (j + 1) (by omega)
          have hst := sumX_succ l A D j
          rw [← ht.out] at hst
          rw [hst] at s2 s3
          have HS := Lib.hid hst
          obtain ⟨l0, l1⟩ := HLB.out j hjl
          obtain ⟨c0, c1⟩ := cos_range t
          have hp := mul_abs l0 l1 c0 c1
          obtain ⟨p0, p1⟩ := hp
          have ht2 : Hid (t + D = A + D * ((j + 1 : Nat) : Int)) := by
            have := ht.out
            show _ = _
            rw [this, Int.natCast_add]; grind
          have hn2 : -100000000 ≤ t + D ∧ t + D ≤ 100000000 := by
            have e := ht2.out
            have m1 := mul_abs b0 b1 (show -(512 : Int) ≤ ((j + 1 : Nat) : Int) by omega) (show ((j + 1 : Nat) : Int) ≤ 512 by omega)
            omega
          obtain ⟨q0, q1⟩ := hn2
          generalize l.getD j 0 = x at h1 l0 l1 p0 p1 s2 s3 HS
          generalize cosL t = y at h2 c0 c1 p0 p1 s2 s3 HS
          generalize sumX l A D j = S at s0 s1 s2 s3 HS ⊢
          have p2 : -(68719476736 * 67108864) ≤ x * y := by omega
          have p3 : x * y ≤ 68719476736 * 67108864 := by omega
          clear hst p0 p1
          go_wp2
          go_round
          case rel => exact ⟨j + 1, t + D, congrArg (Value.int .i64) HS.out.symm, rfl, by go_num, by omega, ht2, q0, q1⟩
          case measure => simp [intOf]; omega
        · have hjn : j = l.length := by omega
          subst hjn
          obtain ⟨s0, s1⟩ := SRk.out l.length (Nat.le_refl _)
          have HR := Lib.hid (fun W => round_ok (sumX l A D l.length) bits s0 s1 hbits W)
          obtain ⟨v, hv⟩ : ∃ v, rnd (sumX l A D l.length) bits = v := ⟨_, rfl⟩
          have HVv := Lib.hid hv
          have hbq3 : Below w1.heap.size w1 (wr.drewN n3) := below_drewN hbq n3
          clear hv
          go_wp2_with fail
          refine (HR.out _).mono ?_
          rintro e w4 ⟨rfl, n4, hw4⟩
          rw [HVv.out]
          have hO2 : w4.ownsRow w1.heap.size 3 1 (.slice (some ⟨w1.heap.size, 0, none⟩) many many) many xs := hw4 ▸ hO.out
          have hbq4 : Below w1.heap.size w1 w4 := hw4 ▸ below_drewN hbq3 n4
          have hsz4 : w1.heap.size < w4.heap.size := hw4 ▸ hgq
          have hc := hO2.cellAt k (by omega)
          rw [List.getElem?_eq_getElem (by omega)] at hc
          have hf := hO2.frozenAt k
          have hO3 := Lib.hid (hO2.stored k (.int .i64 v)).1
          have hb6 : Below w1.heap.size w1 (w4.setCell ⟨w1.heap.size, k, none⟩ (.int .i64 v)) := hbq4.setCell (p := ⟨w1.heap.size, k, none⟩) (Nat.le_refl _) _
          have hxs2 : Hid (∀ j : Nat, j < k + 1 → (xs.set k (.int .i64 v))[j]? = some (.int .i64 (rnd (sumX l (fa j) (fb j) l.length) bits))) := by
            intro j hj
            by_cases e : j = k
            · rw [e, List.getElem?_set_self (by omega), HA.out, HD.out, HVv.out]
            · rw [List.getElem?_set_ne (by omega)]; exact hxs.out j (by omega)
          clear hxs hO hO2 hw4 hbq hbq3 hbq4 HR HIr HCr
          go_wp2
          exact ⟨⟨k + 1, _, by go_num, by omega, hO3, by simp [hlenO], hb6, by simpa [World.setCell] using hsz4, hxs2⟩, by simp [intOf]; omega⟩
    · have hkM : k = many := by omega
      subst hkM
      have HE := Lib.hid (row_eq hlenO hxs.out)
      clear hxs
      go_wp2
      go_ret
      refine ⟨w1.heap.size, rfl, ?_, ?_⟩
      · have := HE.out
        rw [this] at hO
        exact owns_lower hO.out hsz1
      · exact hb1.trans (hbq.mono hsz1)
end Go.Proofs.Ytclbbfpagkhonaa
