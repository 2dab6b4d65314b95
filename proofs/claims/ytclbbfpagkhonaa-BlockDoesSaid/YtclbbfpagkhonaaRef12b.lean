/- reedpiperef12: Values, Little, under. -/
import Derived.Test.YtclbbfpagkhonaaRef12a
import Derived.Deep.AppendLies
import Derived.Deep.RegionLaw
set_option linter.unusedVariables false
set_option linter.unusedSimpArgs false
namespace Go.Proofs.Ytclbbfpagkhonaa
open Go.ChangeShapes Go.WideShapes Go.ChangeAt Go.RowKit

theorem half_rev (shape : Int) (short : Bool) (m : Nat) (hm : (hvL shape short).length = m) : Hid (∀ (W : World) (q : Option Addr) (d : Nat), IsInts W q (hvL shape short) → Calls Try.prog 45 #[.slice q m d] W (RRow (hvL shape short).reverse W)) := Lib.hid (fun W q d h => by
  subst hm
  refine ref_back _ ?_ q d W h
  rw [half_length]
  cases short <;> decide)
theorem ref_vals (seq was shape : Int) (hs : seq = 0 ∨ seq = 1 ∨ seq = 3) (h0 : was = 0 ∨ was = 1) (h1 : shape = 0 ∨ shape = 1) (w : World) : Calls Try.prog 27 #[.int .u8 seq, .int .u8 was, .int .u8 shape] w (RRow (winL seq was shape) w) := by
  have e1 : ∀ s, (hvL s false).length = 256 := fun s => half_length s false
  have e2 : ∀ s, (hvL s true).length = 32 := fun s => half_length s true
  have V := fun s (h : s = 0 ∨ s = 1) b => Lib.hid (fun W => refvalues_ok s b h W)
  rcases hs with rfl | rfl | rfl
  · rw [win0]
    exact refv_0 was shape _ _ (Lib.hid (e1 was)) (Lib.hid (e1 shape)) (V was h0 false) (V shape h1 false) (half_rev shape false 256 (e1 shape)) w
  · rw [win1, ← List.append_assoc, ← List.append_assoc]
    exact refv_1 was shape _ _ (Lib.hid (e1 was)) (Lib.hid (e2 shape)) (V was h0 false) (V shape h1 true) (half_rev shape true 32 (e2 shape)) w
  · rw [win3, ← List.append_assoc, ← List.append_assoc]
    exact refv_3 was shape _ _ (Lib.hid (e2 was)) (Lib.hid (e1 shape)) (V was h0 true) (V shape h1 false) (half_rev shape false 256 (e1 shape)) w
theorem ref_little (i : Nat) (was shape : Int) (h0 : was = 0 ∨ was = 1) (h1 : shape = 0 ∨ shape = 1) (w : World) : Calls Try.prog 48 #[.int .i64 i, .int .u8 was, .int .u8 shape] w (RRow (littleL i was shape) w) := by
  have e2 : ∀ s, (hvL s true).length = 32 := fun s => half_length s true
  have V := fun s (h : s = 0 ∨ s = 1) b => Lib.hid (fun W => refvalues_ok s b h W)
  unfold littleL
  cases i with
  | zero =>
    rw [if_pos rfl]
    exact refl_0 was shape _ _ (Lib.hid (e2 was)) (Lib.hid (e2 shape)) (V was h0 true) (V shape h1 true) (half_rev shape true 32 (e2 shape)) w
  | succ i =>
    rw [if_neg (by omega)]
    exact refl_n _ (beq_eq_false_iff_ne.2 (by omega)) was shape _ _ (Lib.hid (e2 shape)) (Lib.hid (e2 shape)) (V shape h1 true) (V shape h1 true) (half_rev shape true 32 (e2 shape)) w
/-- Samples under a window's values, as many as are done. -/
def unF (l v : List Int) (t i : Nat) : Int := rnd (l.getD (t + i) 0 * v.getD i 0) 14
def unP (l v : List Int) (t k : Nat) : List Int := (List.range k).map (unF l v t)
theorem unP_len (l v : List Int) (t k : Nat) : (unP l v t k).length = k := by simp [unP]
theorem unP_succ (l v : List Int) (t k : Nat) : unP l v t (k + 1) = unP l v t k ++ [rnd (l.getD (t + k) 0 * v.getD k 0) 14] := by
  unfold unP
  rw [List.range_succ, List.map_append]; rfl
theorem unP_all (l v : List Int) (t : Nat) (h : t + v.length ≤ l.length) : unP l v t v.length = underL l ((t : Int), v) := by
  unfold unP underL timesL cutF
  have e : ((l.drop ((t : Int), v).1.toNat).take ((t : Int), v).2.length).length = v.length := by
    rw [List.length_take, List.length_drop]
    show min v.length (l.length - ((t : Int)).toNat) = v.length
    omega
  rw [e]
  refine List.map_congr_left (fun j hj => ?_)
  have hj' : j < v.length := List.mem_range.1 hj
  unfold unF timeV
  show rnd (l.getD (t + j) 0 * v.getD j 0) 14 = rnd (((l.drop ((t : Int)).toNat).take v.length).getD j 0 * v.getD j 0) 14
  have e2 : ((l.drop ((t : Int)).toNat).take v.length).getD j 0 = l.getD (t + j) 0 := by
    rw [List.getD_eq_getElem?_getD, List.getElem?_take_of_lt hj', List.getElem?_drop, List.getD_eq_getElem?_getD]
    rfl
  rw [e2]
set_option maxRecDepth 100000 in
set_option maxHeartbeats 4000000 in
theorem ref_under (l v : List Int) (t : Nat) (h : t + v.length ≤ l.length) (hl : l.length ≤ 4096) (hm : ∀ j, -32768 ≤ l.getD j 0 ∧ l.getD j 0 ≤ 32767) (hv : ∀ j, 0 ≤ v.getD j 0 ∧ v.getD j 0 ≤ 4194304) (p q : Option Addr) (c d : Nat) (w : World) (hI : IsInts w p l) (hJ : IsInts w q v) :
    Calls Try.prog 47 #[.slice p l.length c, .int .i64 t, .slice q v.length d] w (RRow (underL l ((t : Int), v)) w) := by
  obtain ⟨i0, hi, hz0, hz1, hz2⟩ := info_parts Try.infoInt
  have HI := Lib.hid hI
  have HJ := Lib.hid hJ
  have HM := Lib.hid hm
  have HV0 := Lib.hid hv
  rw [← unP_all l v t h]
  clear hI hJ hm hv
  go_enter Try.func47, Try.ntmps47
  go_wp2
  go_loopw [7, 8] (fun V I wr => ∃ (k : Nat), wr.ownsRow w.heap.size 3 1 V (unP l v t k).length ((unP l v t k).map (Value.int .i64)) ∧ I = .int .i64 k ∧ k ≤ v.length ∧ Below w.heap.size w wr) (fun _ I _ => v.length - (intOf I).toNat)
  case atStart => exact ⟨0, World.ownsRow_nil _ _ _ _, rfl, Nat.zero_le _, Below.refl _ _⟩
  case round =>
    obtain ⟨k, hown, rfl, hk, hb⟩ := hrel
    by_cases hlt : k < v.length
    · have hd : decide ((k : Int) < (v.length : Int)) = true := decide_eq_true (by omega)
      obtain ⟨bp, op, hp, _, qp⟩ := (HI.out.keep hb).at (j := t + k) (by omega)
      have r1 := qp (t + k) (by omega)
      obtain ⟨bq, oq, hq, _, qq⟩ := (HJ.out.keep hb).at hlt
      have r2 := qq k hlt
      have b1 := HM.out (t + k)
      have b2 := HV0.out k
      have HV := Lib.hid (unP_succ l v t k)
      have hl2 := Lib.hid (unP_len l v t k)
      obtain ⟨x, hx⟩ : ∃ x, l.getD (t + k) 0 = x := ⟨_, rfl⟩
      obtain ⟨y, hy⟩ : ∃ y, v.getD k 0 = y := ⟨_, rfl⟩
      rw [hx] at r1 b1 HV
      rw [hy] at r2 b2 HV
      have hp1 := mul_abs (a := x) (b := y) (A := 32768) (B := 4194304) (by omega) (by omega) (by omega) (by omega)
      have HR := Lib.hid (fun W => (down_lit (x * y) 14 14 rfl (by omega) (by omega) (by decide) W))
      have t1 : IntKind.i64.wrap (x * y) = x * y := IntWalk.i64_in _ (by omega)
      have t3 : IntKind.i64.wrap ((t : Int) + (k : Int)) = (t : Int) + (k : Int) := IntWalk.i64_in _ (by omega)
      have t5 : ((t : Int) + (k : Int)).toNat = t + k := by omega
      have t6 : (0 : Int) ≤ (t : Int) + (k : Int) := by omega
      have t7 : (t : Int) + (k : Int) < (l.length : Int) := by omega
      have t8 : (k : Int) < (v.length : Int) := by omega
      obtain ⟨z, hz⟩ : ∃ z, rnd (x * y) 14 = z := ⟨_, rfl⟩
      rw [hz] at HR HV
      have hown1 := Lib.hid (show ((wr.drew).alloc (.cells #[.int .i64 z] 3)).ownsRow w.heap.size 3 1 _ _ _ from hown.alloc (.cells #[.int .i64 z] 3))
      have hb1 := Lib.hid (show Below w.heap.size w ((wr.drew).alloc (.cells #[.int .i64 z] 3)) from (below_drewN hb 1).alloc hb.size (.cells #[.int .i64 z] 3))
      have hl0 := Lib.hid hown.lt
      have hsz := hb.size
      subst hp hq
      clear qp qq hx hy hz hown hb
      go_wp2_with fail
      go_region_law (first
        | (refine step_append_lies _ rfl (.tmp 15) (.tmp 28) 23 rfl w.heap.size 3 i0 (.int .i64 0) 1 8 Try.underlying23 hi hz0 hz1 hz2 rfl (by decide) _ _ _ (by first | rfl | simp [Act.eval, Act.put]) hown1.out ⟨wr.heap.size, 0, none⟩ 1 1 [.int .i64 z] (by first | rfl | simp [Act.eval, Act.put]) rfl (cell_one_new _ _ _) (one_int _) (by decide) (by rw [hl2.out]; unfold maxLen; omega) (by rw [hl2.out]; omega) (by show _ ≤ (wr.alloc _).heap.size; simp; omega) _ rfl ?_; intro g' cap' wA hown' hg hat hltA)
        | (go_simp; go_at_call 59; refine (HR.out _).mono ?_; rintro e w' ⟨rfl, rfl⟩))
      all_goals
        have hb2 : Below w.heap.size w wA := hb1.out.grown hg (by show _ ≤ (wr.alloc _).heap.size; simp; omega) (fun j hj => (hl0.out j hj).1)
        have hown2 : wA.ownsRow w.heap.size 3 1 (.slice (some ⟨g', 0, none⟩) ((unP l v t k).length + 1) cap') (unP l v t (k + 1)).length ((unP l v t (k + 1)).map (Value.int .i64)) := by
          rw [HV.out, List.map_append, List.length_append]
          simpa using hown'
        clear hown' hg hb1 hown1
        go_wp2
        exact ⟨⟨k + 1, hown2, by go_num, by omega, hb2⟩, by simp [intOf]; omega⟩
    · have hkM : k = v.length := by omega
      subst hkM
      have hd : decide ((v.length : Int) < (v.length : Int)) = false := by simp
      have HO := Lib.hid hown
      clear hown hlt
      go_wp2
      go_ret
      exact ⟨_, rfl, HO.out, hb⟩
end Go.Proofs.Ytclbbfpagkhonaa
