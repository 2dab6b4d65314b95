/- LapQuiet: the walk. -/
import Derived.Test.YtcmbbmilldhnnaaLapAlive
import Derived.Test.YtcmbbmilldhnnaaG1
import Derived.Test.YtcmbbmilldhnnaaMakeRun
import Derived.Deep.CutRange
set_option linter.unusedVariables false
set_option linter.unusedSimpArgs false
namespace Go.Proofs.Ytcmbbmilldhnnaa
open Go.ChangeShapes Go.WideShapes Go.ChangeAt Go.RowKit

abbrev ZLap : Obj := .cells #[.slice none 0 0, .int .u8 0, .int .u8 0] 24
theorem outP_eq (z : Int) : outP z = max (min ((z + 8) / 16) 32767) (-32768) := by
  unfold outP clp rnd
  rw [if_neg (by decide)]
  have e1 : (2 : Int) ^ (16 - 1) = 32768 := by decide
  have e2 : (2 : Int) ^ (4 - 1) = 8 := by decide
  have e3 : (2 : Int) ^ 4 = 16 := by decide
  rw [e1, e2, e3]
  omega
theorem below_drew {B : Nat} {a w : World} (h : Below B a w) : Below B a w.drew := h.trans ⟨rfl, rfl, rfl, Nat.le_refl _, fun _ _ => rfl⟩
theorem below_a (W : World) (A : Obj) : Below W.heap.size W (W.alloc A).drew := below_drew ((Below.refl _ W).alloc (Nat.le_refl _) A)
theorem below_b (W : World) (A B : Obj) : Below W.heap.size W ((W.alloc A).alloc B).drew := below_drew (((Below.refl _ W).alloc (Nat.le_refl _) A).alloc (by simp) B)
theorem ints_3set {W : World} {p : Nat} {l : List Int} (h : IsInts W (some ⟨p, 0, none⟩) l) {g : Nat} (hg : p ≠ g) (a b c : Value) : IsInts (((W.setCell ⟨g, 0, none⟩ a).setCell ⟨g, 1, none⟩ b).setCell ⟨g, 2, none⟩ c) (some ⟨p, 0, none⟩) l := ((h.setCell _ _ hg).setCell _ _ hg).setCell _ _ hg
theorem below_3set {W W0 : World} {n g : Nat} (h : Below n W0 W) (hg : n ≤ g) (a b c : Value) : Below n W0 (((W.setCell ⟨g, 0, none⟩ a).setCell ⟨g, 1, none⟩ b).setCell ⟨g, 2, none⟩ c) := ((h.setCell (p := ⟨g, 0, none⟩) hg a).setCell (p := ⟨g, 1, none⟩) hg b).setCell (p := ⟨g, 2, none⟩) hg c
/-- The two answers of Next, told of the world ahead of its region. -/
def QOk (T P : List Int) (s sh : Int) (lo : Nat) (w1 : World) (X : World → Prop) (e : Ending) (w' : World) : Prop :=
  ∃ g1 c1 g2 c2, e = .returned (.tuple #[.agg #[.slice (some ⟨g1, 0, none⟩) 256 c1, .int .u8 s, .int .u8 sh], .slice (some ⟨g2, 0, none⟩) 256 c2, .int .i64 0]) ∧ lo ≤ g1 ∧ lo ≤ g2 ∧ IsInts w' (some ⟨g1, 0, none⟩) T ∧ IsInts w' (some ⟨g2, 0, none⟩) P ∧ 256 ≤ c1 ∧ Below w1.heap.size w1 w' ∧ X w'
def QBad (E : Int) (w1 : World) (X : World → Prop) (e : Ending) (w' : World) : Prop :=
  ∃ p c q d, e = .returned (.tuple #[.agg #[.slice p 0 c, .int .u8 0, .int .u8 0], .slice q 0 d, .int .i64 E]) ∧ Below w1.heap.size w1 w' ∧ X w'
theorem q_ok {T P : List Int} {s sh : Int} {w1 W : World} {X : World → Prop} {lo : Nat} {e : Ending} {w' : World} (hlo : lo ≤ W.heap.size) (hb : Below w1.heap.size w1 W) (hX : ∀ V, Below W.heap.size W V → X V) (h : RNextOk T P s sh W e w') : QOk T P s sh lo w1 X e w' := by
  obtain ⟨g1, c1, g2, c2, rfl, hc, ⟨a1, a2, a3⟩, ⟨b1, b2, b3⟩, hB⟩ := h
  exact ⟨g1, c1, g2, c2, rfl, by omega, by omega, a3, b3, hc, hb.trans (hB.mono hb.size), hX _ hB⟩
theorem q_bad {E : Int} {w1 W : World} {X : World → Prop} {e : Ending} {w' : World} (hb : Below w1.heap.size w1 W) (hX : ∀ V, Below W.heap.size W V → X V) (h : RNextBad E W e w') : QBad E w1 X e w' := by
  obtain ⟨p, c, q, d, rfl, hB⟩ := h
  exact ⟨p, c, q, d, rfl, hb.trans (hB.mono hb.size), hX _ hB⟩
theorem q_ok_a {T P : List Int} {s sh : Int} {w w1 : World} {zz : Array Value} {Z : List Int} {a1 a2 a3 : Value}
    (HN : ∀ (W : World) (q : Option Addr), Below w.heap.size w W → IsInts W q Z → Calls Try.prog 9 #[a1, a2, a3, .slice q 256 256] W (RNextOk T P s sh W)) (hb : Below w.heap.size w w1) (hzz : zz.toList = Z.map (Value.int .i64)) (hZ : Z.length = 256) :
    Calls Try.prog 9 #[a1, a2, a3, .slice (some ⟨w1.heap.size, 0, none⟩) 256 256] ((w1.alloc (.cells zz 3)).drew) (QOk T P s sh (w1.heap.size + 1) w1 (fun _ => True)) :=
  (HN ((w1.alloc (.cells zz 3)).drew) _ (hb.trans ((below_a w1 _ : Below _ _ ((w1.alloc (.cells zz 3)).drew)).mono hb.size)) (show IsInts _ _ _ from new_row hzz hZ)).mono (fun e w' h => q_ok (by show _ ≤ (w1.alloc (.cells zz 3)).heap.size; simp) (below_a w1 _) (fun _ _ => trivial) h)
theorem q_bad_a {E : Int} {w w1 : World} {zz : Array Value} {Z : List Int} {a1 a2 a3 : Value}
    (HN : ∀ (W : World) (q : Option Addr), Below w.heap.size w W → IsInts W q Z → Calls Try.prog 9 #[a1, a2, a3, .slice q 256 256] W (RNextBad E W)) (hb : Below w.heap.size w w1) (hzz : zz.toList = Z.map (Value.int .i64)) (hZ : Z.length = 256) :
    Calls Try.prog 9 #[a1, a2, a3, .slice (some ⟨w1.heap.size, 0, none⟩) 256 256] ((w1.alloc (.cells zz 3)).drew) (QBad E w1 (fun _ => True)) :=
  (HN ((w1.alloc (.cells zz 3)).drew) _ (hb.trans ((below_a w1 _ : Below _ _ ((w1.alloc (.cells zz 3)).drew)).mono hb.size)) (show IsInts _ _ _ from new_row hzz hZ)).mono (fun e w' h => q_bad (below_a w1 _) (fun _ _ => trivial) h)
theorem q_ok_b {T P : List Int} {s sh : Int} {w w1 : World} {zz : Array Value} {Z : List Int} {a1 a2 a3 : Value}
    (HN : ∀ (W : World) (q : Option Addr), Below w.heap.size w W → IsInts W q Z → Calls Try.prog 9 #[a1, a2, a3, .slice q 256 256] W (RNextOk T P s sh W)) (hb : Below w.heap.size w w1) (hzz : zz.toList = Z.map (Value.int .i64)) (hZ : Z.length = 256) :
    Calls Try.prog 9 #[a1, a2, a3, .slice (some ⟨w1.heap.size, 0, none⟩) 256 256] (((w1.alloc (.cells zz 3)).alloc ZLap).drew) (QOk T P s sh (w1.heap.size + 2) w1 (fun V => Box3 V (w1.heap.size + 1) 24 (.slice none 0 0) (.int .u8 0) (.int .u8 0))) :=
  (HN (((w1.alloc (.cells zz 3)).alloc ZLap).drew) _ (hb.trans ((below_b w1 _ _ : Below _ _ (((w1.alloc (.cells zz 3)).alloc ZLap).drew)).mono hb.size)) (show IsInts _ _ _ from (new_row hzz hZ).alloc ZLap)).mono (fun e w' h => q_ok (by show _ ≤ ((w1.alloc (.cells zz 3)).alloc ZLap).heap.size; simp) (below_b w1 _ _) (fun V hV => (show Box3 ((w1.alloc (.cells zz 3)).alloc ZLap).drew (w1.heap.size + 1) 24 (.slice none 0 0) (.int .u8 0) (.int .u8 0) from Box3.new _ _ _ _ _ (by simp)).keep hV (by show _ < ((w1.alloc (.cells zz 3)).alloc ZLap).heap.size; simp)) h)
theorem q_bad_b {E : Int} {w w1 : World} {zz : Array Value} {Z : List Int} {a1 a2 a3 : Value}
    (HN : ∀ (W : World) (q : Option Addr), Below w.heap.size w W → IsInts W q Z → Calls Try.prog 9 #[a1, a2, a3, .slice q 256 256] W (RNextBad E W)) (hb : Below w.heap.size w w1) (hzz : zz.toList = Z.map (Value.int .i64)) (hZ : Z.length = 256) :
    Calls Try.prog 9 #[a1, a2, a3, .slice (some ⟨w1.heap.size, 0, none⟩) 256 256] (((w1.alloc (.cells zz 3)).alloc ZLap).drew) (QBad E w1 (fun V => Box3 V (w1.heap.size + 1) 24 (.slice none 0 0) (.int .u8 0) (.int .u8 0))) :=
  (HN (((w1.alloc (.cells zz 3)).alloc ZLap).drew) _ (hb.trans ((below_b w1 _ _ : Below _ _ (((w1.alloc (.cells zz 3)).alloc ZLap).drew)).mono hb.size)) (show IsInts _ _ _ from (new_row hzz hZ).alloc ZLap)).mono (fun e w' h => q_bad (below_b w1 _ _) (fun V hV => (show Box3 ((w1.alloc (.cells zz 3)).alloc ZLap).drew (w1.heap.size + 1) 24 (.slice none 0 0) (.int .u8 0) (.int .u8 0) from Box3.new _ _ _ _ _ (by simp)).keep hV (by show _ < ((w1.alloc (.cells zz 3)).alloc ZLap).heap.size; simp)) h)
theorem q_ok_c {T P : List Int} {s sh : Int} {w w1 : World} {zz : Array Value} {Z : List Int} {a1 a2 a3 : Value}
    (HN : ∀ (W : World) (q : Option Addr), Below w.heap.size w W → IsInts W q Z → Calls Try.prog 9 #[a1, a2, a3, .slice q 256 256] W (RNextOk T P s sh W)) (hb : Below w.heap.size w w1) (hzz : zz.toList = Z.map (Value.int .i64)) (hZ : Z.length = 256) :
    Calls Try.prog 9 #[a1, a2, a3, .slice (some ⟨(w1.heap.size + 1), 0, none⟩) 256 256] (((w1.alloc ZLap).alloc (.cells zz 3)).drew) (QOk T P s sh (w1.heap.size + 2) w1 (fun V => Box3 V w1.heap.size 24 (.slice none 0 0) (.int .u8 0) (.int .u8 0))) :=
  (HN (((w1.alloc ZLap).alloc (.cells zz 3)).drew) _ (hb.trans ((below_b w1 _ _ : Below _ _ (((w1.alloc ZLap).alloc (.cells zz 3)).drew)).mono hb.size)) (show IsInts _ _ _ from (by have h := new_row (W := w1.alloc ZLap) hzz hZ; rw [World.size_alloc] at h; exact h))).mono (fun e w' h => q_ok (by show _ ≤ ((w1.alloc ZLap).alloc (.cells zz 3)).heap.size; simp) (below_b w1 _ _) (fun V hV => (show Box3 ((w1.alloc ZLap).alloc (.cells zz 3)).drew w1.heap.size 24 (.slice none 0 0) (.int .u8 0) (.int .u8 0) from (Box3.new _ _ _ _ _ rfl).alloc _).keep hV (by show _ < ((w1.alloc ZLap).alloc (.cells zz 3)).heap.size; simp; omega)) h)
theorem q_bad_c {E : Int} {w w1 : World} {zz : Array Value} {Z : List Int} {a1 a2 a3 : Value}
    (HN : ∀ (W : World) (q : Option Addr), Below w.heap.size w W → IsInts W q Z → Calls Try.prog 9 #[a1, a2, a3, .slice q 256 256] W (RNextBad E W)) (hb : Below w.heap.size w w1) (hzz : zz.toList = Z.map (Value.int .i64)) (hZ : Z.length = 256) :
    Calls Try.prog 9 #[a1, a2, a3, .slice (some ⟨(w1.heap.size + 1), 0, none⟩) 256 256] (((w1.alloc ZLap).alloc (.cells zz 3)).drew) (QBad E w1 (fun V => Box3 V w1.heap.size 24 (.slice none 0 0) (.int .u8 0) (.int .u8 0))) :=
  (HN (((w1.alloc ZLap).alloc (.cells zz 3)).drew) _ (hb.trans ((below_b w1 _ _ : Below _ _ (((w1.alloc ZLap).alloc (.cells zz 3)).drew)).mono hb.size)) (show IsInts _ _ _ from (by have h := new_row (W := w1.alloc ZLap) hzz hZ; rw [World.size_alloc] at h; exact h))).mono (fun e w' h => q_bad (below_b w1 _ _) (fun V hV => (show Box3 ((w1.alloc ZLap).alloc (.cells zz 3)).drew w1.heap.size 24 (.slice none 0 0) (.int .u8 0) (.int .u8 0) from (Box3.new _ _ _ _ _ rfl).alloc _).keep hV (by show _ < ((w1.alloc ZLap).alloc (.cells zz 3)).heap.size; simp; omega)) h)
set_option maxRecDepth 100000 in
set_option maxHeartbeats 4000000 in
theorem quiet_long (p : Option Addr) (n c : Nat) (ls lsh one two shape : Int) (w : World) (hn : 1000 < n) : Calls Try.prog 3 #[.agg #[.slice p n c, .int .u8 ls, .int .u8 lsh], .int .u8 one, .int .u8 two, .int .u8 shape] w fun e w' => e = .returned (.bool true) ∧ Below w.heap.size w w' := by
  have d0 : decide ((1000 : Int) < (n : Int)) = true := decide_eq_true (by omega)
  have B0 := Box3.new w 24 (.slice p n c) (.int .u8 ls) (.int .u8 lsh) rfl
  have hb0 : Below w.heap.size w (w.alloc (.cells #[.slice p n c, .int .u8 ls, .int .u8 lsh] 24)) := (Below.refl _ w).alloc (Nat.le_refl _) _
  go_enter Try.func3, Try.ntmps3
  go_wp2_with fail
  refine (alive13 _).mono ?_
  rintro e w1 ⟨rfl, hB1⟩
  have B1 := B0.keep hB1 B0.lt
  have k0 := B1.cell0
  have k1 := B1.cell1
  have k2 := B1.cell2
  have hb1 := hb0.trans (hB1.mono (by simp))
  have hz1 := hb1.size
  have hlt1 := B1.lt
  clear hB1 B0 hb0
  go_wp2
  go_ret
  exact ⟨rfl, hb1⟩
set_option maxRecDepth 100000 in
set_option maxHeartbeats 4000000 in
theorem quiet_bad1 (p : Option Addr) (n c : Nat) (ls lsh one two shape E : Int) (w : World) (hn : n ≤ 1000) (hE : E ≠ 0)
    (HN : Hid (∀ (W : World) (q : Option Addr), Below w.heap.size w W → IsInts W q (zeroL 256) → Calls Try.prog 9 #[.agg #[.slice p n c, .int .u8 ls, .int .u8 lsh], .int .u8 one, .int .u8 shape, .slice q 256 256] W (RNextBad E W))) : Calls Try.prog 3 #[.agg #[.slice p n c, .int .u8 ls, .int .u8 lsh], .int .u8 one, .int .u8 two, .int .u8 shape] w fun e w' => e = .returned (.bool true) ∧ Below w.heap.size w w' := by
  have d0 : decide ((1000 : Int) < (n : Int)) = false := decide_eq_false (by omega)
  have d1 : (E == 0) = false := beq_eq_false_iff_ne.2 hE
  have d2 : (E != 0) = true := by simp [bne, d1]
  have HZM := Lib.hid (zero_map 256)
  have HZL := Lib.hid (zero_len 256)
  generalize zeroL 256 = Z at *
  have B0 := Box3.new w 24 (.slice p n c) (.int .u8 ls) (.int .u8 lsh) rfl
  have hb0 : Below w.heap.size w (w.alloc (.cells #[.slice p n c, .int .u8 ls, .int .u8 lsh] 24)) := (Below.refl _ w).alloc (Nat.le_refl _) _
  go_enter Try.func3, Try.ntmps3
  go_wp2_with fail
  refine (alive13 _).mono ?_
  rintro e w1 ⟨rfl, hB1⟩
  have B1 := B0.keep hB1 B0.lt
  have k0 := B1.cell0
  have k1 := B1.cell1
  have k2 := B1.cell2
  have hb1 := hb0.trans (hB1.mono (by simp))
  have hz1 := hb1.size
  have hlt1 := B1.lt
  clear hB1 B0 hb0
  obtain ⟨zz, hzz, HMK⟩ := make_run 256 256 rfl (by omega)
  rw [← HZM.out] at hzz
  have Na := Lib.hid (q_bad_a HN.out hb1 hzz HZL.out)
  have Nb := Lib.hid (q_bad_b HN.out hb1 hzz HZL.out)
  have Nc := Lib.hid (q_bad_c HN.out hb1 hzz HZL.out)
  have Xa := B1.keep (below_a w1 (.cells zz 3)) hlt1
  have Xb := B1.keep (below_b w1 (.cells zz 3) ZLap) hlt1
  have Xc := B1.keep (below_b w1 ZLap (.cells zz 3)) hlt1
  have Xd := B1.keep (below_a w1 ZLap) hlt1
  have xa0 := Xa.cell0
  have xa1 := Xa.cell1
  have xa2 := Xa.cell2
  have xb0 := Xb.cell0
  have xb1 := Xb.cell1
  have xb2 := Xb.cell2
  have xc0 := Xc.cell0
  have xc1 := Xc.cell1
  have xc2 := Xc.cell2
  have xd0 := Xd.cell0
  have xd1 := Xd.cell1
  have xd2 := Xd.cell2
  clear hzz Xa Xb Xc Xd
  go_upto_region 4 with fail
  go_cut [10, 11, 12] from 28 to 36 (fun s10 s11 s12 wx => ∃ ga q4 c4, s10 = .pointer (some ⟨ga, 0, none⟩) ∧ s11 = .slice q4 0 c4 ∧ s12 = .int .i64 E ∧ Below w1.heap.size w1 wx)
  case first =>
    go_region_with (go_at_call 9; first
      | ((with_reducible refine Na.out.mono ?_); rintro e w3 ⟨p3, c3, q3, d3, rfl, hY, hX⟩)
      | ((with_reducible refine Nb.out.mono ?_); rintro e w3 ⟨p3, c3, q3, d3, rfl, hY, hX⟩; have z0 := hX.cell0; have z1 := hX.cell1; have z2 := hX.cell2; have f0 := hX.frozen 0; have f1 := hX.frozen 1; have f2 := hX.frozen 2)
      | ((with_reducible refine Nc.out.mono ?_); rintro e w3 ⟨p3, c3, q3, d3, rfl, hY, hX⟩; have z0 := hX.cell0; have z1 := hX.cell1; have z2 := hX.cell2; have f0 := hX.frozen 0; have f1 := hX.frozen 1; have f2 := hX.frozen 2))
    all_goals
      go_wp2_with fail
      go_meet
      first
        | exact ⟨_, _, _, rfl, rfl, rfl, hY.alloc hY.size _⟩
        | exact ⟨_, _, _, rfl, rfl, rfl, below_3set hY (by omega) _ _ _⟩
  case rest =>
    obtain ⟨ga, q4, c4, rfl, rfl, rfl, hBx⟩ := hcut
    have hbx := hb1.trans (hBx.mono hz1)
    go_wp2
    go_ret
    exact ⟨rfl, hbx⟩
end Go.Proofs.Ytcmbbmilldhnnaa
