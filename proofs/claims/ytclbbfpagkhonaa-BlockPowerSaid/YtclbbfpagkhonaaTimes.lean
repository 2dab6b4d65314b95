/- block.times: each number times a value, rounded off. -/
import Derived.Test.YtclbbfpagkhonaaHalves
import Derived.Test.YtclbbfpagkhonaaRound
set_option linter.unusedVariables false
namespace Go.Proofs.Ytclbbfpagkhonaa
open Go.ChangeShapes Go.WideShapes Go.ChangeAt Go.RowKit

def timeV (l v : List Int) (b : Nat) (j : Nat) : Int := rnd (l.getD j 0 * v.getD j 0) b
def timesL (l v : List Int) (b : Nat) : List Int := (List.range l.length).map (timeV l v b)
theorem timesL_len (l v : List Int) (b : Nat) : (timesL l v b).length = l.length := by simp [timesL]
set_option maxRecDepth 100000 in
set_option maxHeartbeats 1000000 in
theorem times_ok (l v : List Int) (b : Nat) (hb0 : b ≤ 62) (p q : Option Addr) (c d nv : Nat) (w : World) (hI : IsInts w p l) (hV : IsInts w q v) (hnv : v.length = nv) (hlen : l.length ≤ nv) (hn : l.length ≤ 4096)
    (hM : ∀ j, j < l.length → -4611686018427387904 ≤ l.getD j 0 * v.getD j 0 ∧ l.getD j 0 * v.getD j 0 ≤ 4611686018427387904) :
    Calls Try.prog 25 #[.slice p l.length c, .slice q nv d, .int .i64 b] w (RRowF (timesL l v b) w) := by
  obtain ⟨i0, hi, hz0, hz1, hz2⟩ := info_parts Try.infoInt
  have HI := Lib.hid hI.inB
  have HV := Lib.hid hV.inB
  have HM := Lib.hid hM
  have HNV := Lib.hid hnv
  unfold RRowF
  rw [timesL_len]
  obtain ⟨n, hnl⟩ : ∃ n, l.length = n := ⟨_, rfl⟩
  have HN := Lib.hid hnl
  rw [hnl] at hlen hn ⊢
  clear hI hV hM hnv hnl
  go_enter Try.func25, Try.ntmps25
  go_wp2_with (at_make; refine wpList_make_full _ rfl _ _ 23 rfl w.heap.size 3 i0 (.int .i64 0) 1 Try.underlying23 hi hz0 hz1 .i64 .i64 _ _ n rfl rfl ?hL ?hC ?b2 ?b3 ?b4 ?_)
  case hL => rfl
  case hC => rfl
  case b2 => rw [hz2]; omega
  case b3 => unfold maxLen; omega
  case b4 => exact Nat.le_refl _
  intro w1 hown hgrow
  have hb1 : Below w.heap.size w w1 := (Below.refl _ _).grown hgrow (by simp) (by simp)
  have hg1 : w.heap.size < w1.heap.size := (hown.lt _ rfl).2
  have hown1 : w1.ownsRow w.heap.size 3 1 (.slice (some ⟨w.heap.size, 0, none⟩) n n) n (List.replicate n (.int .i64 0)) := by
    have e := toList_madeCells_one (.int .i64 0) n
    rw [← e]; simpa using hown
  have HO1 := Lib.hid hown1
  have HB1 := Lib.hid hb1
  clear hgrow hown hown1 hb1
  go_wp2
  go_loopw [15] (fun I wr => ∃ (k : Nat) (xs : List Value), I = .int .i64 k ∧ k ≤ n ∧ Hid (wr.ownsRow w.heap.size 3 1 (.slice (some ⟨w.heap.size, 0, none⟩) n n) n xs) ∧ Hid (xs.length = n) ∧ Hid (Below w.heap.size w wr) ∧ w.heap.size < wr.heap.size ∧ Hid (∀ j, j < k → xs[j]? = some (.int .i64 (timeV l v b j)))) (fun I _ => n - (intOf I).toNat)
  case atStart => exact ⟨0, _, rfl, Nat.zero_le _, HO1, Lib.hid (by simp), HB1, hg1, Lib.hid (fun _ h => absurd h (Nat.not_lt_zero _))⟩
  case round =>
    obtain ⟨k, xs, rfl, hk, hO, hlx, hbq, hgq, hxs⟩ := hrel
    clear HO1 HB1
    by_cases hlt : k < n
    · have hd : decide ((k : Int) < (n : Int)) = true := decide_eq_true (by omega)
      obtain ⟨b1, o1, rfl, hc1⟩ := (HI.out.keep hbq.out (Nat.le_refl _)).at (j := k) (by rw [HN.out]; exact hlt)
      obtain ⟨b2, o2, rfl, hc2⟩ := (HV.out.keep hbq.out (Nat.le_refl _)).at (j := k) (by rw [HNV.out]; omega)
      obtain ⟨m0, m1⟩ := HM.out k (by rw [HN.out]; exact hlt)
      have hT := Lib.hid (show timeV l v b k = rnd (l.getD k 0 * v.getD k 0) b from rfl)
      obtain ⟨x, hx⟩ : ∃ x, l.getD k 0 = x := ⟨_, rfl⟩
      obtain ⟨y, hy⟩ : ∃ y, v.getD k 0 = y := ⟨_, rfl⟩
      rw [hx] at hc1 m0 m1 hT
      rw [hy] at hc2 m0 m1 hT
      obtain ⟨P, hP⟩ : ∃ P, x * y = P := ⟨_, rfl⟩
      have hwr : IntKind.i64.wrap (x * y) = P := by rw [hP, IntKind.wrap_i64]; omega
      rw [hP] at m0 m1 hT
      have HR := Lib.hid (fun W => round_ok P b m0 m1 hb0 W)
      unfold RRound at HR
      have hkn : k < n := hlt
      have hcO := hO.out.cellAt k (by omega)
      have hfO := hO.out.frozenAt k
      obtain ⟨Z, hZ⟩ : ∃ Z, rnd P b = Z := ⟨_, rfl⟩
      rw [hZ] at HR hT
      have hS := hO.out.stored k (.int .i64 Z)
      have hO2 := Lib.hid hS.1
      have hx2 := Lib.hid (fill_step hlx.out hlt hxs.out hT.out)
      have hl2 := Lib.hid (show (xs.set k (.int .i64 Z)).length = n by simp [hlx.out])
      obtain ⟨u0, hu0⟩ : ∃ u0, xs[k]? = some u0 := ⟨_, List.getElem?_eq_getElem (by rw [hlx.out]; exact hlt)⟩
      rw [hu0] at hcO
      clear hS hxs hO hx hy hP hZ hu0 hT hlx m0 m1 HI HV HM
      go_wp2_with fail
      refine (HR.out _).mono ?_
      rintro e w2 ⟨rfl, m, rfl⟩
      have hcO' : (wr.drewN m).cell? ⟨w.heap.size, k, none⟩ = some u0 := hcO
      have hfO' : (wr.drewN m).frozen? ⟨w.heap.size, k, none⟩ = false := hfO
      have hO2 := Lib.hid (show ((wr.drewN m).setCell ⟨w.heap.size, k, none⟩ (.int .i64 Z)).ownsRow w.heap.size 3 1 (.slice (some ⟨w.heap.size, 0, none⟩) n n) n (xs.set k (.int .i64 Z)) from hO2.out)
      have hb2 := Lib.hid (show Below w.heap.size w ((wr.drewN m).setCell ⟨w.heap.size, k, none⟩ (.int .i64 Z)) from ((below_drewN hbq.out m).setCell (p := ⟨w.heap.size, k, none⟩) (Nat.le_refl _) (.int .i64 Z)))
      clear HR hcO hfO hbq
      go_wp2
      exact ⟨⟨k + 1, _, by go_num, by omega, hO2, hl2, hb2, by simpa [World.setCell] using hgq, hx2⟩, by simp [intOf]; omega⟩
    · have hd : decide ((k : Int) < (n : Int)) = false := decide_eq_false (by omega)
      have hkn := Lib.hid (show k = n by omega)
      go_wp2
      go_ret
      have e := fill_eq hlx.out (by rw [← hkn.out]; exact hxs.out)
      have h := hO.out
      rw [e] at h
      exact ⟨_, rfl, by unfold timesL; rw [HN.out]; exact h, Nat.le_refl _, hgq, hbq.out⟩
end Go.Proofs.Ytclbbfpagkhonaa
