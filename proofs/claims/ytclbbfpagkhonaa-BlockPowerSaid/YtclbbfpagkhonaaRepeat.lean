/- slices.Repeat of one number, 112 times. -/
import Derived.Test.YtclbbfpagkhonaaHalves
import Derived.Test.YtclbbfpagkhonaaMul
import Derived.Laws.CopyOwn
import Derived.Deep.RegionLaw
import Derived.Tactics
import Derived.WalkKit
import Derived.OwnWalk
import Derived.Laws.OwnMore
import Derived.RegionTactic
import Derived.ChangeAlike
set_option linter.unusedVariables false
namespace Go.Proofs.Ytclbbfpagkhonaa
open Go.ChangeShapes Go.WideShapes Go.ChangeAt Go.RowKit

theorem owns_full {w : World} {base : Nat} {e : TypeId} {g n : Nat} {xs : List Value} (h : w.ownsRow base e 1 (.slice (some ⟨g, 0, none⟩) n n) n xs) : w.heap[g]? = some (.cells xs.toArray e (0, 0)) ∧ xs.length = n := by
  obtain ⟨hl, ⟨h', _⟩ | ⟨g', cap, cur, h', hg, hgg, hn, hm, hs, ht⟩⟩ := h
  · simp at h'
  · obtain ⟨rfl, rfl⟩ : g = g' ∧ n = cap := by simpa using h'
    refine ⟨?_, by omega⟩
    rw [hgg, ← ht, List.take_of_length_le (by simp; omega)]
theorem full_owns {w : World} {base : Nat} {e : TypeId} {g n : Nat} {xs : List Value} (h : w.heap[g]? = some (.cells xs.toArray e (0, 0))) (hl : xs.length = n) (hg : base ≤ g) (hm : n ≤ maxLen) : w.ownsRow base e 1 (.slice (some ⟨g, 0, none⟩) n n) n xs :=
  ⟨by omega, .inr ⟨g, n, xs.toArray, rfl, hg, h, Nat.le_refl _, hm, by simp; omega, by rw [Nat.mul_one]; exact List.take_of_length_le (by simp; omega)⟩⟩
def fillR (x : Int) (m n : Nat) : List Value := List.replicate n (.int .i64 x) ++ List.replicate (m - n) (.int .i64 0)
theorem fillR_len (x : Int) (m n : Nat) (h : n ≤ m) : (fillR x m n).length = m := by simp [fillR]; omega
theorem fillR_splice (x : Int) (m n k : Nat) (h : n + k ≤ m) : splice (fillR x m n) n (List.replicate k (.int .i64 x)) = fillR x m (n + k) := by
  unfold splice fillR
  rw [List.take_left' (by simp), List.length_replicate, List.drop_append, List.drop_of_length_le (by simp), List.nil_append, List.length_replicate, List.drop_replicate, ← List.append_assoc, List.replicate_append_replicate]
  congr 2
  omega
theorem fillR_none (x : Int) (m : Nat) : fillR x m 0 = List.replicate m (.int .i64 0) := by simp [fillR]
theorem fillR_get (x : Int) (m n j : Nat) (h : j < n) : (fillR x m n)[j]? = some (.int .i64 x) := by
  unfold fillR
  rw [List.getElem?_append_left (by simpa using h)]
  simp [h]
def repL (x : Int) : List Int := List.replicate 112 x
theorem repL_len (x : Int) : (repL x).length = 112 := by simp [repL]
theorem repL_fill (x : Int) : fillR x 112 112 = (repL x).map (Value.int .i64) := by simp [fillR, repL]

set_option maxRecDepth 100000 in
set_option maxHeartbeats 1000000 in
theorem repeat_ok (x : Int) (b off c : Nat) (w : World) (hlt : b < w.heap.size) (hx : w.cell? ⟨b, off, none⟩ = some (.int .i64 x)) :
    Calls Try.prog 21 #[.slice (some ⟨b, off, none⟩) 1 c, .int .i64 112] w (RRowF (repL x) w) := by
  obtain ⟨i0, hi, hz0, hz1, hz2⟩ := info_parts Try.infoInt
  have HM := Lib.hid (mul_ok w)
  have hsz : (Try.prog.info? 3).map (·.size) = some 1 := by rw [hi]; simp [hz1]
  have HSZ := Lib.hid hsz
  clear hsz
  unfold RRowF
  rw [repL_len]
  obtain ⟨X1, hX1⟩ : ∃ X1, X1 = List.replicate 1 (Value.int .i64 x) := ⟨_, rfl⟩
  have S1 := Lib.hid (show X1.length = Nat.min 1 112 by rw [hX1]; rfl)
  have S2 := Lib.hid (show ∀ v ∈ X1, v.oneCell' = true by rw [hX1]; intro v hv; rw [List.eq_of_mem_replicate hv]; rfl)
  have S0 := Lib.hid (show X1.length = 1 by rw [hX1]; rfl)
  have HX1 := Lib.hid hX1
  have HXC := Lib.hid (show ∀ W, Below w.heap.size w W → ∀ (j : Nat) (v : Value), X1[j]? = some v → W.cell? ((⟨b, off, none⟩ : Addr).add j) = some v by
    intro W hb j v hv
    rw [hX1] at hv
    obtain rfl : j = 0 := by
      rcases j with _ | j
      · rfl
      · simp at hv
    rw [show (⟨b, off, none⟩ : Addr).add 0 = ⟨b, off, none⟩ by simp [Addr.add]]
    rw [hb.cell (p := ⟨b, off, none⟩) hlt, hx]
    simpa using hv)
  clear hX1 hx
  go_enter Try.func21, Try.ntmps21
  go_wp2_with fail
  refine HM.out.mono ?_
  rintro e w1 ⟨rfl, hw⟩
  rw [hw]
  clear hw w1 HM
  go_wp2_with (at_make; refine wpList_make_full _ rfl _ _ 23 rfl w.heap.size 3 i0 (.int .i64 0) 1 Try.underlying23 hi hz0 hz1 .i64 .i64 _ _ 112 rfl rfl ?hL ?hC ?b2 ?b3 ?b4 ?_)
  case hL => rfl
  case hC => rfl
  case b2 => rw [hz2]; decide
  case b3 => decide
  case b4 => exact Nat.le_refl _
  intro w2 hown hgrow
  have hb1 : Below w.heap.size w w2 := (Below.refl _ _).grown hgrow (by simp) (by simp)
  have hg1 : w.heap.size < w2.heap.size := (hown.lt _ rfl).2
  have hown1 : w2.ownsRow w.heap.size 3 1 (.slice (some ⟨w.heap.size, 0, none⟩) 112 112) 112 (List.replicate 112 (.int .i64 0)) := by
    have e := toList_madeCells_one (.int .i64 0) 112
    rw [← e]; exact hown
  have HG := Lib.hid (show w2.heap[w.heap.size]? = some (.cells (fillR x 112 0).toArray 3 (0, 0)) by rw [fillR_none]; exact (owns_full hown1).1)
  clear hgrow hown hown1
  go_wp2_with (with_reducible refine wpList_copy_splice rfl (.tmp 31) (.tmp 32) 23 23 rfl 3 Try.underlying23 HSZ.out (some ⟨w.heap.size, 0, none⟩) (some ⟨b, off, none⟩) 112 112 1 c rfl rfl w.heap.size 0 (fillR x 112 0) 3 HG.out X1 S1.out (fun _ => ⟨rfl, _, rfl, HXC.out _ hb1⟩) ?k1 S2.out w.heap.size w hb1 (Nat.le_refl _) ?_)
  case k1 => rw [S0.out, fillR_len _ _ _ (by decide)]; decide
  intro w3 HG3 hb3
  rw [S0.out]
  have HG4 := Lib.hid (show w3.heap[w.heap.size]? = some (.cells (fillR x 112 1).toArray 3 (0, 0)) by rw [← fillR_splice x 112 0 1 (by decide), ← HX1.out]; exact HG3.out)
  clear HG3 HG hb1 HXC S1 S2 S0 HX1 hg1
  go_wp2
  go_loopw [8] (fun N wr => ∃ n : Nat, N = .int .i64 n ∧ 1 ≤ n ∧ n ≤ 112 ∧ Hid (wr.heap[w.heap.size]? = some (.cells (fillR x 112 n).toArray 3 (0, 0))) ∧ Below w.heap.size w wr) (fun N _ => 112 - (intOf N).toNat)
  case atStart => exact ⟨1, rfl, by decide, by decide, HG4, hb3⟩
  case round =>
    obtain ⟨n, rfl, h1, h2, HH, hb⟩ := hrel
    clear HG4 hb3
    by_cases hn : n < 112
    · have hd : decide ((n : Int) < 112) = true := decide_eq_true (by omega)
      obtain ⟨k, hk⟩ : ∃ k, k = Nat.min n (112 - n) := ⟨_, rfl⟩
      have hk1 : 1 ≤ k := by rw [hk]; simp only [Nat.min_def]; split <;> omega
      have hk2 : n + k ≤ 112 := by rw [hk]; simp only [Nat.min_def]; split <;> omega
      obtain ⟨X1, hX1⟩ : ∃ X1, X1 = List.replicate k (Value.int .i64 x) := ⟨_, rfl⟩
      have S0 := Lib.hid (show X1.length = k by rw [hX1]; simp)
      have S1 := Lib.hid (show X1.length = Nat.min n (112 - n) by rw [hX1, ← hk]; simp)
      have S2 := Lib.hid (show ∀ v ∈ X1, v.oneCell' = true by rw [hX1]; intro v hv; rw [List.eq_of_mem_replicate hv]; rfl)
      have HX1 := Lib.hid hX1
      have HXC := Lib.hid (show ∀ (j : Nat) (v : Value), X1[j]? = some v → wr.drew.cell? ((⟨w.heap.size, 0, none⟩ : Addr).add j) = some v by
        intro j v hv
        have hjk : j < k := by
          have : j < X1.length := by
            by_cases hj : j < X1.length
            · exact hj
            · rw [List.getElem?_eq_none (by omega)] at hv; simp at hv
          rw [S0.out] at this; exact this
        rw [hX1] at hv
        obtain rfl : Value.int .i64 x = v := by simpa [hjk] using hv
        have hkn : k ≤ n := by rw [hk]; exact Nat.min_le_left _ _
        have hO := full_owns (w := wr) (base := 0) (n := 112) HH.out (fillR_len x 112 n h2) (Nat.zero_le _) (by decide)
        have := hO.cellAt j (by omega)
        rw [show (⟨w.heap.size, 0, none⟩ : Addr).add j = ⟨w.heap.size, j, none⟩ by simp [Addr.add]; try omega]
        exact this.trans (fillR_get x 112 n j (by omega)))
      have K1 := Lib.hid (show n + X1.length ≤ (fillR x 112 n).length by rw [S0.out, fillR_len _ _ _ h2]; exact hk2)
      have hwr : IntKind.i64.wrap ((n : Int) + (k : Int)) = (n : Int) + (k : Int) := by rw [IntKind.wrap_i64]; omega
      have q0 : (0 : Int) ≤ (n : Int) := by omega
      have q1 : (n : Int) ≤ 112 := by omega
      clear hX1 hk
      have hbd := hb.drew
      have HHd := Lib.hid (show wr.drew.heap[w.heap.size]? = some (.cells (fillR x 112 n).toArray 3 (0, 0)) from HH.out)
      go_wp2_with fail
      go_region_law (refine step_copy_splice rfl (.tmp 41) (.tmp 44) 23 23 rfl 3 Try.underlying23 HSZ.out (some ⟨w.heap.size, n, none⟩) (some ⟨w.heap.size, 0, none⟩) (112 - n) (112 - n) n 112 (by simp [Act.eval, Act.put]; omega) (by simp [Act.eval, Act.put]) w.heap.size n (fillR x 112 n) 3 HHd.out X1 S1.out (fun _ => ⟨rfl, _, rfl, HXC.out⟩) K1.out S2.out w.heap.size w hbd (Nat.le_refl _) ?_; intro w4 hg4 hb4; rw [S0.out])
      have hH := Lib.hid (show w4.heap[w.heap.size]? = some (.cells (fillR x 112 (n + k)).toArray 3 (0, 0)) by rw [← fillR_splice x 112 n k hk2, ← HX1.out]; exact hg4.out)
      clear hg4 HHd HH HXC S1 S2 S0 HX1 K1 hbd hb
      go_wp2
      exact ⟨⟨n + k, by omega, by omega, hk2, hH⟩, by simp [intOf]; omega⟩
    · have hd : decide ((n : Int) < 112) = false := decide_eq_false (by omega)
      have hne := Lib.hid (show n = 112 by omega)
      go_wp2
      go_ret
      have h := HH.out
      rw [hne.out] at h
      rw [repL_fill] at h
      have hO := full_owns (base := w.heap.size) (n := 112) h (by simp [repL]) (Nat.le_refl _) (by decide)
      exact ⟨_, rfl, hO, Nat.le_refl _, (hO.lt _ rfl).2, hb⟩
end Go.Proofs.Ytclbbfpagkhonaa
