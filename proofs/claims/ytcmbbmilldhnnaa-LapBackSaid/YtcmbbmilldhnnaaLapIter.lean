/- lap.both: the iterator's contract. -/
import Derived.Test.YtcmbbmilldhnnaaLap1
import Derived.Test.YtcmbbmilldhnnaaG5
import Derived.Shelf.RegionOpen
set_option linter.unusedVariables false
namespace Go.Proofs.Ytcmbbmilldhnnaa
open Go.ChangeShapes Go.WideShapes Go.ChangeAt Go.RowKit
attribute [local go_sem] Oper.semAt_some

def bothV (b : Nat) : Value := .func (.func 34) #[] #[.pointer (some ⟨b, 0, none⟩), .pointer (some ⟨b + 1, 0, none⟩)]
set_option maxHeartbeats 1000000 in
theorem both_ok (p q : Option Addr) (n m c d : Nat) (w : World) : Calls Try.prog 20 #[.slice p n c, .slice q m d] w (fun e w' => e = .returned (bothV w.heap.size) ∧ w' = (w.alloc (.cells #[.slice p n c] 22)).alloc (.cells #[.slice q m d] 22)) := by
  go_enter Try.func20, Try.ntmps20
  go_wp2
  go_ret
  exact ⟨rfl, rfl⟩
def encI (x : Int) : Array Value := #[.int .i64 x]
/-- Sums of two lists, as far as the first goes. -/
def sumsL (a b : List Int) : List Int := (List.range a.length).map (fun j => a.getD j 0 + b.getD j 0)
def PxI (a b : List Int) (pre : List Int) (x : Int) (_ : World) : Prop := (sumsL a b)[pre.length]? = some x
/-- What the boxes, and the lists that they name, keep. -/
def KI (b pa pb : Nat) (A B : World) : Prop := B.heap[b]? = A.heap[b]? ∧ B.heap[b + 1]? = A.heap[b + 1]? ∧ B.heap[pa]? = A.heap[pa]? ∧ B.heap[pb]? = A.heap[pb]?
theorem ints_block {A B : World} {p off : Nat} {l : List Int} (h : IsInts A (some ⟨p, off, none⟩) l) (hs : A.heap.size ≤ B.heap.size) (hb : B.heap[p]? = A.heap[p]?) : IsInts B (some ⟨p, off, none⟩) l := by
  rcases h with h | ⟨p', off', e, hlt, hc⟩
  · exact .inl h
  · obtain ⟨rfl, rfl⟩ : p = p' ∧ off = off' := by simpa using e
    exact .inr ⟨p, off, rfl, by omega, fun j hj => (World.cell?_of_block (a := ⟨p, off + j, none⟩) hb).trans (hc j hj)⟩
set_option maxRecDepth 100000 in
set_option maxHeartbeats 4000000 in
theorem both_all (la lb : List Int) (pa oa pb ob : Nat) (n m ca cb : Nat) (hla : la.length = n) (hlb : lb.length = m) (hnm : n ≤ m) (hn : n ≤ 4096) (w : World) (b : Nat) (hb : b + 2 ≤ w.heap.size)
    (hm : ∀ j, -2305843009213693952 ≤ la.getD j 0 + lb.getD j 0 ∧ la.getD j 0 + lb.getD j 0 ≤ 2305843009213693952)
    (c0 : Boxed w b 22 (.slice (some ⟨pa, oa, none⟩) n ca)) (c1 : Boxed w (b + 1) 22 (.slice (some ⟨pb, ob, none⟩) m cb)) (hA : IsInts w (some ⟨pa, oa, none⟩) la) (hB : IsInts w (some ⟨pb, ob, none⟩) lb) :
    SeqAll Try.prog 34 #[.pointer (some ⟨b, 0, none⟩), .pointer (some ⟨b + 1, 0, none⟩)] encI (PxI la lb) (fun xs => xs = sumsL la lb) (KI b pa pb) w := by
  intro l J W hW hsz hJ hY hJ0
  have HJ := Lib.hid hJ
  have HY := Lib.hid hY
  have HA := Lib.hid (hA.keep hW)
  have HB := Lib.hid (hB.keep hW)
  have k0 := Lib.hid (show Boxed W b _ _ from (hW.block b (by omega)).trans c0)
  have k1 := Lib.hid (show Boxed W (b + 1) _ _ from (hW.block (b + 1) (by omega)).trans c1)
  have HS := Lib.hid (show ∀ k, k < n → (sumsL la lb)[k]? = some (la.getD k 0 + lb.getD k 0) from fun k hk => by unfold sumsL; rw [List.getElem?_map, List.getElem?_range (by omega)]; rfl)
  have HSL := Lib.hid (show (sumsL la lb).length = n by unfold sumsL; simp [hla])
  have HM := Lib.hid hm
  have HLA := Lib.hid hla
  have HLB := Lib.hid hlb
  unfold PxI at *
  generalize sumsL la lb = ss at *
  clear hJ hY c0 c1 hA hB hm hla hlb
  refine callsIn_of_wp Try.func34 rfl trivial ?_ rfl
  simp only [Try.ntmps34, List.size_toArray, List.length_cons, List.length_nil, Nat.reduceAdd, Nat.reduceSub, Array.replicate_succ, Array.replicate_zero, List.push_toArray, List.append_toArray, List.nil_append, List.cons_append]
  gi_wp2
  gi_loopw [4] (fun I wr => ∃ (k : Nat) (pre : List Int), I = .int .i64 k ∧ k ≤ n ∧ Hid (pre = ss.take k) ∧ Hid (pre.length = k) ∧ Hid (J pre wr) ∧ W.heap.size ≤ wr.heap.size ∧ Hid (KI b pa pb W wr)) (fun I _ => n - (intOf I).toNat)
  case atStart => exact ⟨0, [], rfl, Nat.zero_le _, Lib.hid (by simp), Lib.hid rfl, Lib.hid hJ0, Nat.le_refl _, Lib.hid ⟨rfl, rfl, rfl, rfl⟩⟩
  case round =>
    obtain ⟨k, pre, rfl, hk, HP, HPL, HJ2, hsz2, HK⟩ := hrel
    have b0 := (show Boxed wr b _ _ from HK.out.1.trans k0.out).cell
    have b1 := (show Boxed wr (b + 1) _ _ from HK.out.2.1.trans k1.out).cell
    have hmx : Try.prog.follows .mixedOrders = true := by kernel_rfl
    by_cases hlt : k < n
    · have hd : decide ((k : Int) < (n : Int)) = true := decide_eq_true (by omega)
      have hd2 : decide ((k : Int) < (m : Int)) = true := decide_eq_true (by omega)
      have hkm : k < m := by omega
      obtain ⟨_, _, e1, _, g1⟩ := (ints_block HA.out hsz2 HK.out.2.2.1).at (j := k) (by rw [HLA.out]; exact hlt)
      cases e1
      obtain ⟨_, _, e2, _, g2⟩ := (ints_block HB.out hsz2 HK.out.2.2.2).at (j := k) (by rw [HLB.out]; exact hkm)
      cases e2
      have hc1 := g1 k (by rw [HLA.out]; exact hlt)
      have hc2 := g2 k (by rw [HLB.out]; exact hkm)
      have hs := HS.out k hlt
      have hr := HM.out k
      generalize la.getD k 0 = x at *
      generalize lb.getD k 0 = y at *
      have hw1 : IntKind.i64.wrap (x + y) = x + y := by rw [IntKind.wrap_i64]; omega
      obtain ⟨fn, tmps, assign, body, hy, hR⟩ := HY.out pre (x + y) wr.drew (HJ.out _ _ _ HJ2.out ⟨rfl, rfl, rfl, Nat.le_refl _, fun _ _ => rfl⟩) (by show _ ≤ wr.heap.size; omega) (by rw [HPL.out]; exact hs)
      dsimp only [encI] at hy
      have HSK := Lib.hid hs
      clear g1 g2 hs hr
      gi_wp2
      gi_region_with_o (refine hR.mono ?_; rintro e W4 ⟨rfl, hJ4, hz4, hK4⟩)
      all_goals
        gi_wp2
        go_roundw
        case rel => exact ⟨k + 1, pre ++ [x + y], by go_num, by omega, Lib.hid (by rw [HP.out, List.take_add_one, HSK.out]; rfl), Lib.hid (by rw [List.length_append, HPL.out]; rfl), Lib.hid hJ4, (by have : wr.heap.size ≤ W4.heap.size := hz4; omega), Lib.hid ⟨hK4.1.trans HK.out.1, hK4.2.1.trans HK.out.2.1, hK4.2.2.1.trans HK.out.2.2.1, hK4.2.2.2.trans HK.out.2.2.2⟩⟩
        case measure => simp [intOf]; omega
    · have hd : decide ((k : Int) < (n : Int)) = false := decide_eq_false (by omega)
      gi_wp2
      refine wpIn_region_quiet_lit rfl (by kernel_rfl) (by kernel_rfl) ?_
      repeat (gi_big_quiet_step (fail))
      refine BigFrame.wpQuietIn_skip (fun _ _ _ _ => trivial) rfl ?_
      go_simp
      repeat (gi_big_quiet_step (fail))
      intro nq
      gi_wp2
      all_goals
        go_end0
        exact ⟨⟨_, rfl⟩, pre, by rw [HP.out, List.take_of_length_le (by rw [HSL.out]; omega)], HJ.out _ _ _ HJ2.out (below_drewN (Below.refl _ _) nq)⟩
end Go.Proofs.Ytcmbbmilldhnnaa
