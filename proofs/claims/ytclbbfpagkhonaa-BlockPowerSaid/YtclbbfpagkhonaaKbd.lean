/- window.kbd: what each call answers. -/
import Derived.Test.YtclbbfpagkhonaaOver
import Derived.Test.YtclbbfpagkhonaaKbdPlain
import Derived.Test.YtclbbfpagkhonaaOwn
import Derived.Test.YtclbbfpagkhonaaSqrt
import Derived.OwnWalk
import Derived.Laws.OwnMore
set_option linter.unusedVariables false
namespace Go.Proofs.Ytclbbfpagkhonaa
open Go.ChangeShapes Go.WideShapes Go.ChangeAt Go.RowKit

theorem owns_apart {w : World} {base g : Nat} {e : TypeId} {size n c : Nat} {xs : List Value} (h : w.ownsRow base e size (.slice (some ⟨g, 0, none⟩) n c) n xs) (a : Addr) (u : Value) (hne : g ≠ a.block) : (w.setCell a u).ownsRow base e size (.slice (some ⟨g, 0, none⟩) n c) n xs := by
  refine ⟨by simpa [World.setCell] using h.1, ?_⟩
  rcases h.2 with ⟨h', _⟩ | ⟨g', cap, cur, h', hg, hgg, rest⟩
  · simp at h'
  · obtain ⟨rfl, rfl⟩ : g = g' ∧ c = cap := by simpa using h'
    refine .inr ⟨g, c, cur, rfl, hg, ?_, rest⟩
    rw [Below.heap_setCell _ _ _ _ hne]
    exact hgg

def RKbdlong (w : World) (e : Ending) (w' : World) : Prop :=
  ∃ g : Nat, e = .returned (.slice (some ⟨g, 0, none⟩) 256 256) ∧ ∃ xs : List Value, w'.ownsRow w.heap.size 3 1 (.slice (some ⟨g, 0, none⟩) 256 256) 256 xs ∧ xs.length = 256 ∧ (∀ j, j < 256 → xs[j]? = some (.int .i64 (kbdV 256 4 j))) ∧ Below w.heap.size w w'
set_option maxRecDepth 100000 in
set_option maxHeartbeats 2000000 in
theorem kbd_long (w : World) :
    Calls Try.prog 52 #[.int .i64 256, .int .i64 4] w (RKbdlong w) := by
  obtain ⟨i0, hi, hz0, hz1, hz2⟩ := info_parts Try.infoInt
  have hfit := fun j (h : j ≤ 256) => (fit_long h).2
  have HP := Lib.hid (psum_fit hfit)
  have HL := Lib.hid (psum_le hfit)
  have HF := Lib.hid (fun j (h : j ≤ 256) => fit_long h)
  have HU := Lib.hid (fun j (h : j ≤ 256) => uL_long h)
  clear hfit
  go_enter Try.func52, Try.ntmps52
  go_wp2_with (at_make; refine wpList_make_full _ rfl _ _ 23 rfl w.heap.size 3 i0 (.int .i64 0) 1 Try.underlying23 hi hz0 hz1 .i64 .i64 _ _ 257 rfl rfl ?hL ?hC ?b2 ?b3 ?b4 ?_)
  case hL => rfl
  case hC => rfl
  case b2 => rw [hz2]; decide
  case b3 => decide
  case b4 => exact Nat.le_refl _
  intro w1 hown hgrow
  have hb1 : Below w.heap.size w w1 := (Below.refl _ _).grown hgrow (by simp) (by simp)
  have hg1 : w.heap.size < w1.heap.size := (hown.lt _ rfl).2
  have hown1 : w1.ownsRow w.heap.size 3 1 (.slice (some ⟨w.heap.size, 0, none⟩) 257 257) 257 (List.replicate 257 (.int .i64 0)) := by
    have e := toList_madeCells_one (.int .i64 0) 257
    rw [← e]; exact hown
  clear hgrow hown
  go_wp2
  go_loopw [6, 15] (fun S I wr => ∃ (k : Nat) (xs : List Value), S = .int .i64 (psum 256 4 k) ∧ I = .int .i64 k ∧ k ≤ 257 ∧ wr.ownsRow w.heap.size 3 1 (.slice (some ⟨w.heap.size, 0, none⟩) 257 257) 257 xs ∧ xs.length = 257 ∧ Below w.heap.size w wr ∧ w.heap.size < wr.heap.size ∧ Hid (∀ j, j < k → xs[j]? = some (.int .i64 (psum 256 4 (j + 1))))) (fun _ I _ => 257 - (intOf I).toNat)
  case atStart => exact ⟨0, _, rfl, rfl, by decide, hown1, by simp, hb1, hg1, Lib.hid (fun _ h => absurd h (Nat.not_lt_zero _))⟩
  case round =>
    obtain ⟨k, xs, rfl, rfl, hk, hrow, hlen, hbw, hgw, hxs⟩ := hrel
    by_cases hlt : k < 257
    · obtain ⟨u0, uok⟩ := HF.out k (by omega)
      rw [HU.out k (by omega)] at u0 uok
      have hbs := Lib.hid (bessel_ok _ u0 uok wr)
      obtain ⟨s0, s1⟩ := HP.out k (by omega)
      obtain ⟨s2, s3⟩ := HP.out (k + 1) (by omega)
      have hst : psum 256 4 (k + 1) = psum 256 4 k + bessL (678231308304 * (k : Int) * (256 - (k : Int)) / 4294967296) := by rw [psum, HU.out k (by omega)]
      have hkk : (0 : Int) ≤ 678231308304 * (k : Int) * (256 - (k : Int)) ∧ 678231308304 * (k : Int) * (256 - (k : Int)) ≤ 678231308304 * 256 * 256 :=
        ⟨Int.mul_nonneg (by omega) (by omega), Int.mul_le_mul (by omega) (by omega) (by omega) (by omega)⟩
      obtain ⟨p0, p1⟩ := hkk
      have hc := hrow.cellAt k (by omega)
      rw [List.getElem?_eq_getElem (by omega)] at hc
      have hf := hrow.frozenAt k
      obtain ⟨hrow2, hgr⟩ := hrow.stored k (.int .i64 (psum 256 4 (k + 1)))
      have hb2 : Below w.heap.size w (wr.setCell ⟨w.heap.size, k, none⟩ (.int .i64 (psum 256 4 (k + 1)))) := hbw.setCell (p := ⟨w.heap.size, k, none⟩) (Nat.le_refl _) _
      have hxs2 : Hid (∀ j, j < k + 1 → (xs.set k (.int .i64 (psum 256 4 (k + 1))))[j]? = some (.int .i64 (psum 256 4 (j + 1)))) := by
        intro j hj
        by_cases e : j = k
        · rw [e, List.getElem?_set_self (by omega)]
        · rw [List.getElem?_set_ne (by omega)]; exact hxs.out j (by omega)
      generalize hv : psum 256 4 (k + 1) = v at hrow2 hb2 hxs2 hst s2 s3
      have hv2 := Lib.hid hv
      clear u0 uok hv hxs hrow hgr
      go_wp2_with fail
      refine hbs.out.mono ?_
      rintro e w2 ⟨rfl, hwl⟩
      obtain rfl := hwl
      generalize hbl : bessL (678231308304 * (k : Int) * (256 - (k : Int)) / 4294967296) = bl at hst
      generalize hps : psum 256 4 k = ps at hst s0 s1
      subst hst
      clear hbl hps hbs p0 p1
      go_wp2
      exact ⟨⟨k + 1, _, by rw [hv2.out], by go_num, by omega, hrow2, by simp [hlen], hb2, by simpa [World.setCell] using hgw, hxs2⟩, by simp [intOf]; omega⟩
    · have hk1 : k = 257 := by omega
      subst hk1
      clear hlt
      go_wp2_with (at_make; refine wpList_make_full _ rfl _ _ 23 rfl w.heap.size 3 i0 (.int .i64 0) 1 Try.underlying23 hi hz0 hz1 .i64 .i64 _ _ 256 rfl rfl ?hL ?hC ?b2 ?b3 ?b4 ?_)
      case hL => rfl
      case hC => rfl
      case b2 => rw [hz2]; decide
      case b3 => decide
      case b4 => exact Nat.le_of_lt hgw
      intro w3 hown3 hgrow3
      have hgs : wr.heap.size < w3.heap.size := (hown3.lt _ rfl).2
      have hb3 : Below wr.heap.size wr w3 := (Below.refl _ _).grown hgrow3 (by simp) (by simp)
      have hbw3 : Below w.heap.size w w3 := hbw.trans (hb3.mono (Nat.le_of_lt hgw))
      have hrowS := owns_keep hrow hb3
      have hown4 : w3.ownsRow w.heap.size 3 1 (.slice (some ⟨wr.heap.size, 0, none⟩) 256 256) 256 (List.replicate 256 (.int .i64 0)) := by
        have e := toList_madeCells_one (.int .i64 0) 256
        rw [← e]; exact hown3
      generalize hG : wr.heap.size = G at hown4 hgs hb3 hgw
      clear hgrow3 hown3 hrow hb3 hbw
      obtain ⟨s2, s3⟩ := HP.out 257 (by omega)
      generalize hT : psum 256 4 257 = T at s2 s3
      have HT := Lib.hid hT
      clear hT
      go_wp2
      go_loopw [45] (fun I wq => ∃ (k : Nat) (ys : List Value), I = .int .i64 k ∧ k ≤ 256 ∧ wq.ownsRow w.heap.size 3 1 (.slice (some ⟨w.heap.size, 0, none⟩) 257 257) 257 xs ∧ wq.ownsRow w.heap.size 3 1 (.slice (some ⟨G, 0, none⟩) 256 256) 256 ys ∧ ys.length = 256 ∧ Below w.heap.size w wq ∧ G < wq.heap.size ∧ Hid (∀ j, j < k → ys[j]? = some (.int .i64 (kbdV 256 4 j)))) (fun I _ => 256 - (intOf I).toNat)
      case atStart => exact ⟨0, _, rfl, by decide, hrowS, hown4, by simp, hbw3, hgs, Lib.hid (fun _ h => absurd h (Nat.not_lt_zero _))⟩
      case round =>
        obtain ⟨k, ys, rfl, hk, hS, hO, hlenO, hbq, hgq, hys⟩ := hrel
        by_cases hlt : k < 256
        · have hle := HL.out (k + 1) (257 - (k + 1)) (by omega)
          rw [show k + 1 + (257 - (k + 1)) = 257 by omega, HT.out] at hle
          obtain ⟨a0, a1⟩ := HP.out (k + 1) (by omega)
          obtain ⟨v0, v1⟩ := over_nat T (psum 256 4 (k + 1))
          have hov := over_ok (psum 256 4 (k + 1)) T a0 hle (by omega) wr
          have hv : kbdV 256 4 k = sqN (overL T 44 (psum 256 4 (k + 1)) 0).toNat := by rw [kbdV, HT.out]
          unfold ROver at hov
          rw [← v0] at hov
          generalize (overL T 44 (psum 256 4 (k + 1)) 0).toNat = N at hov hv v1
          clear v0
          have hcS := hS.cellAt k (by omega)
          rw [hxs.out k (by omega)] at hcS
          generalize psum 256 4 (k + 1) = P at hov hcS hle a0 a1
          have OV := Lib.hid hov
          have HV := Lib.hid hv
          clear hov hv
          go_wp2_with fail
          refine OV.out.mono ?_
          rintro e w4 ⟨rfl, hb4⟩
          go_wp2_with fail
          refine (sqrt_ok N (by omega) _).mono ?_
          rintro e w5 ⟨rfl, hb5⟩
          have hb45 := hb4.trans (hb5.mono hb4.size)
          have hS2 := owns_keep hS hb45
          have hO2 := owns_keep hO hb45
          have hbq2 := hbq.trans (hb45.mono hbq.size)
          have hsz := hb45.size
          have hc := hO2.cellAt k (by omega)
          rw [List.getElem?_eq_getElem (by omega)] at hc
          have hf := hO2.frozenAt k
          obtain ⟨hO3, hgr⟩ := hO2.stored k (.int .i64 (sqN N))
          have hb6 : Below w.heap.size w (w5.setCell ⟨G, k, none⟩ (.int .i64 (sqN N))) := hbq2.setCell (p := ⟨G, k, none⟩) (Nat.le_of_lt hgw) _
          have hS3 := owns_apart hS2 ⟨G, k, none⟩ (.int .i64 (sqN N)) (Nat.ne_of_lt hgw)
          have hys2 : Hid (∀ j, j < k + 1 → (ys.set k (.int .i64 (sqN N)))[j]? = some (.int .i64 (kbdV 256 4 j))) := by
            intro j hj
            by_cases e : j = k
            · rw [e, List.getElem?_set_self (by omega), HV.out]
            · rw [List.getElem?_set_ne (by omega)]; exact hys.out j (by omega)
          clear hys OV hb4 hb5 hO hS hS2 hO2 hbq hgr hb45 hbq2
          go_wp2
          exact ⟨⟨k + 1, _, by go_num, by omega, hS3, hO3, by simp [hlenO], hb6, by simpa [World.setCell] using (show G < w5.heap.size by omega), hys2⟩, by simp [intOf]; omega⟩
        · have hkM : k = 256 := by omega
          subst hkM
          go_wp2
          go_ret
          exact ⟨G, rfl, ys, hO, hlenO, hys.out, hbq⟩

def RKbdshort (w : World) (e : Ending) (w' : World) : Prop :=
  ∃ g : Nat, e = .returned (.slice (some ⟨g, 0, none⟩) 32 32) ∧ ∃ xs : List Value, w'.ownsRow w.heap.size 3 1 (.slice (some ⟨g, 0, none⟩) 32 32) 32 xs ∧ xs.length = 32 ∧ (∀ j, j < 32 → xs[j]? = some (.int .i64 (kbdV 32 6 j))) ∧ Below w.heap.size w w'
set_option maxRecDepth 100000 in
set_option maxHeartbeats 2000000 in
theorem kbd_short (w : World) :
    Calls Try.prog 52 #[.int .i64 32, .int .i64 6] w (RKbdshort w) := by
  obtain ⟨i0, hi, hz0, hz1, hz2⟩ := info_parts Try.infoInt
  have hfit := fun j (h : j ≤ 32) => (fit_short h).2
  have HP := Lib.hid (psum_fit hfit)
  have HL := Lib.hid (psum_le hfit)
  have HF := Lib.hid (fun j (h : j ≤ 32) => fit_short h)
  have HU := Lib.hid (fun j (h : j ≤ 32) => uL_short h)
  clear hfit
  go_enter Try.func52, Try.ntmps52
  go_wp2_with (at_make; refine wpList_make_full _ rfl _ _ 23 rfl w.heap.size 3 i0 (.int .i64 0) 1 Try.underlying23 hi hz0 hz1 .i64 .i64 _ _ 33 rfl rfl ?hL ?hC ?b2 ?b3 ?b4 ?_)
  case hL => rfl
  case hC => rfl
  case b2 => rw [hz2]; decide
  case b3 => decide
  case b4 => exact Nat.le_refl _
  intro w1 hown hgrow
  have hb1 : Below w.heap.size w w1 := (Below.refl _ _).grown hgrow (by simp) (by simp)
  have hg1 : w.heap.size < w1.heap.size := (hown.lt _ rfl).2
  have hown1 : w1.ownsRow w.heap.size 3 1 (.slice (some ⟨w.heap.size, 0, none⟩) 33 33) 33 (List.replicate 33 (.int .i64 0)) := by
    have e := toList_madeCells_one (.int .i64 0) 33
    rw [← e]; exact hown
  clear hgrow hown
  go_wp2
  go_loopw [6, 15] (fun S I wr => ∃ (k : Nat) (xs : List Value), S = .int .i64 (psum 32 6 k) ∧ I = .int .i64 k ∧ k ≤ 33 ∧ wr.ownsRow w.heap.size 3 1 (.slice (some ⟨w.heap.size, 0, none⟩) 33 33) 33 xs ∧ xs.length = 33 ∧ Below w.heap.size w wr ∧ w.heap.size < wr.heap.size ∧ Hid (∀ j, j < k → xs[j]? = some (.int .i64 (psum 32 6 (j + 1))))) (fun _ I _ => 33 - (intOf I).toNat)
  case atStart => exact ⟨0, _, rfl, rfl, by decide, hown1, by simp, hb1, hg1, Lib.hid (fun _ h => absurd h (Nat.not_lt_zero _))⟩
  case round =>
    obtain ⟨k, xs, rfl, rfl, hk, hrow, hlen, hbw, hgw, hxs⟩ := hrel
    by_cases hlt : k < 33
    · obtain ⟨u0, uok⟩ := HF.out k (by omega)
      rw [HU.out k (by omega)] at u0 uok
      have hbs := Lib.hid (bessel_ok _ u0 uok wr)
      obtain ⟨s0, s1⟩ := HP.out k (by omega)
      obtain ⟨s2, s3⟩ := HP.out (k + 1) (by omega)
      have hst : psum 32 6 (k + 1) = psum 32 6 k + bessL (1526020443684 * (k : Int) * (32 - (k : Int)) / 67108864) := by rw [psum, HU.out k (by omega)]
      have hkk : (0 : Int) ≤ 1526020443684 * (k : Int) * (32 - (k : Int)) ∧ 1526020443684 * (k : Int) * (32 - (k : Int)) ≤ 1526020443684 * 32 * 32 :=
        ⟨Int.mul_nonneg (by omega) (by omega), Int.mul_le_mul (by omega) (by omega) (by omega) (by omega)⟩
      obtain ⟨p0, p1⟩ := hkk
      have hc := hrow.cellAt k (by omega)
      rw [List.getElem?_eq_getElem (by omega)] at hc
      have hf := hrow.frozenAt k
      obtain ⟨hrow2, hgr⟩ := hrow.stored k (.int .i64 (psum 32 6 (k + 1)))
      have hb2 : Below w.heap.size w (wr.setCell ⟨w.heap.size, k, none⟩ (.int .i64 (psum 32 6 (k + 1)))) := hbw.setCell (p := ⟨w.heap.size, k, none⟩) (Nat.le_refl _) _
      have hxs2 : Hid (∀ j, j < k + 1 → (xs.set k (.int .i64 (psum 32 6 (k + 1))))[j]? = some (.int .i64 (psum 32 6 (j + 1)))) := by
        intro j hj
        by_cases e : j = k
        · rw [e, List.getElem?_set_self (by omega)]
        · rw [List.getElem?_set_ne (by omega)]; exact hxs.out j (by omega)
      generalize hv : psum 32 6 (k + 1) = v at hrow2 hb2 hxs2 hst s2 s3
      have hv2 := Lib.hid hv
      clear u0 uok hv hxs hrow hgr
      go_wp2_with fail
      refine hbs.out.mono ?_
      rintro e w2 ⟨rfl, hwl⟩
      obtain rfl := hwl
      generalize hbl : bessL (1526020443684 * (k : Int) * (32 - (k : Int)) / 67108864) = bl at hst
      generalize hps : psum 32 6 k = ps at hst s0 s1
      subst hst
      clear hbl hps hbs p0 p1
      go_wp2
      exact ⟨⟨k + 1, _, by rw [hv2.out], by go_num, by omega, hrow2, by simp [hlen], hb2, by simpa [World.setCell] using hgw, hxs2⟩, by simp [intOf]; omega⟩
    · have hk1 : k = 33 := by omega
      subst hk1
      clear hlt
      go_wp2_with (at_make; refine wpList_make_full _ rfl _ _ 23 rfl w.heap.size 3 i0 (.int .i64 0) 1 Try.underlying23 hi hz0 hz1 .i64 .i64 _ _ 32 rfl rfl ?hL ?hC ?b2 ?b3 ?b4 ?_)
      case hL => rfl
      case hC => rfl
      case b2 => rw [hz2]; decide
      case b3 => decide
      case b4 => exact Nat.le_of_lt hgw
      intro w3 hown3 hgrow3
      have hgs : wr.heap.size < w3.heap.size := (hown3.lt _ rfl).2
      have hb3 : Below wr.heap.size wr w3 := (Below.refl _ _).grown hgrow3 (by simp) (by simp)
      have hbw3 : Below w.heap.size w w3 := hbw.trans (hb3.mono (Nat.le_of_lt hgw))
      have hrowS := owns_keep hrow hb3
      have hown4 : w3.ownsRow w.heap.size 3 1 (.slice (some ⟨wr.heap.size, 0, none⟩) 32 32) 32 (List.replicate 32 (.int .i64 0)) := by
        have e := toList_madeCells_one (.int .i64 0) 32
        rw [← e]; exact hown3
      generalize hG : wr.heap.size = G at hown4 hgs hb3 hgw
      clear hgrow3 hown3 hrow hb3 hbw
      obtain ⟨s2, s3⟩ := HP.out 33 (by omega)
      generalize hT : psum 32 6 33 = T at s2 s3
      have HT := Lib.hid hT
      clear hT
      go_wp2
      go_loopw [45] (fun I wq => ∃ (k : Nat) (ys : List Value), I = .int .i64 k ∧ k ≤ 32 ∧ wq.ownsRow w.heap.size 3 1 (.slice (some ⟨w.heap.size, 0, none⟩) 33 33) 33 xs ∧ wq.ownsRow w.heap.size 3 1 (.slice (some ⟨G, 0, none⟩) 32 32) 32 ys ∧ ys.length = 32 ∧ Below w.heap.size w wq ∧ G < wq.heap.size ∧ Hid (∀ j, j < k → ys[j]? = some (.int .i64 (kbdV 32 6 j)))) (fun I _ => 32 - (intOf I).toNat)
      case atStart => exact ⟨0, _, rfl, by decide, hrowS, hown4, by simp, hbw3, hgs, Lib.hid (fun _ h => absurd h (Nat.not_lt_zero _))⟩
      case round =>
        obtain ⟨k, ys, rfl, hk, hS, hO, hlenO, hbq, hgq, hys⟩ := hrel
        by_cases hlt : k < 32
        · have hle := HL.out (k + 1) (33 - (k + 1)) (by omega)
          rw [show k + 1 + (33 - (k + 1)) = 33 by omega, HT.out] at hle
          obtain ⟨a0, a1⟩ := HP.out (k + 1) (by omega)
          obtain ⟨v0, v1⟩ := over_nat T (psum 32 6 (k + 1))
          have hov := over_ok (psum 32 6 (k + 1)) T a0 hle (by omega) wr
          have hv : kbdV 32 6 k = sqN (overL T 44 (psum 32 6 (k + 1)) 0).toNat := by rw [kbdV, HT.out]
          unfold ROver at hov
          rw [← v0] at hov
          generalize (overL T 44 (psum 32 6 (k + 1)) 0).toNat = N at hov hv v1
          clear v0
          have hcS := hS.cellAt k (by omega)
          rw [hxs.out k (by omega)] at hcS
          generalize psum 32 6 (k + 1) = P at hov hcS hle a0 a1
          have OV := Lib.hid hov
          have HV := Lib.hid hv
          clear hov hv
          go_wp2_with fail
          refine OV.out.mono ?_
          rintro e w4 ⟨rfl, hb4⟩
          go_wp2_with fail
          refine (sqrt_ok N (by omega) _).mono ?_
          rintro e w5 ⟨rfl, hb5⟩
          have hb45 := hb4.trans (hb5.mono hb4.size)
          have hS2 := owns_keep hS hb45
          have hO2 := owns_keep hO hb45
          have hbq2 := hbq.trans (hb45.mono hbq.size)
          have hsz := hb45.size
          have hc := hO2.cellAt k (by omega)
          rw [List.getElem?_eq_getElem (by omega)] at hc
          have hf := hO2.frozenAt k
          obtain ⟨hO3, hgr⟩ := hO2.stored k (.int .i64 (sqN N))
          have hb6 : Below w.heap.size w (w5.setCell ⟨G, k, none⟩ (.int .i64 (sqN N))) := hbq2.setCell (p := ⟨G, k, none⟩) (Nat.le_of_lt hgw) _
          have hS3 := owns_apart hS2 ⟨G, k, none⟩ (.int .i64 (sqN N)) (Nat.ne_of_lt hgw)
          have hys2 : Hid (∀ j, j < k + 1 → (ys.set k (.int .i64 (sqN N)))[j]? = some (.int .i64 (kbdV 32 6 j))) := by
            intro j hj
            by_cases e : j = k
            · rw [e, List.getElem?_set_self (by omega), HV.out]
            · rw [List.getElem?_set_ne (by omega)]; exact hys.out j (by omega)
          clear hys OV hb4 hb5 hO hS hS2 hO2 hbq hgr hb45 hbq2
          go_wp2
          exact ⟨⟨k + 1, _, by go_num, by omega, hS3, hO3, by simp [hlenO], hb6, by simpa [World.setCell] using (show G < w5.heap.size by omega), hys2⟩, by simp [intOf]; omega⟩
        · have hkM : k = 32 := by omega
          subst hkM
          go_wp2
          go_ret
          exact ⟨G, rfl, ys, hO, hlenO, hys.out, hbq⟩
end Go.Proofs.Ytclbbfpagkhonaa
