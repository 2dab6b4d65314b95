/- power: what each call answers. -/
import Derived.Test.YtppfbfiigfjncaaPowerPlain
import Derived.Test.YtppfbfiigfjncaaRound
import Derived.Test.YtppfbfiigfjncaaCbrt
import Derived.Deep.RegionHeld3
set_option linter.unusedVariables false
namespace Go.Proofs.Ytppfbfiigfjncaa
open Go.ChangeShapes Go.WideShapes Go.ChangeAt Go.RowKit

theorem four_ok (q : Nat) (h : q ≤ 8191) (w : World) :
    Calls Try.prog 54 #[.int .i64 q] w fun e w' => e = .returned (.int .i64 (powN q)) ∧ Below w.heap.size w w' := by
  have hc := cb_le_82567 q h
  have hp := powN_le q h
  have e1 : ((q : Int) * cbN (q * 68719476736)) = ((powN q : Nat) : Int) := by unfold powN; simp
  have C := fun W => cbrt_ok (q * 68719476736) (by omega) W
  have e2 : ((q * 68719476736 : Nat) : Int) = (q : Int) * 68719476736 := by simp
  unfold RCbrt at C
  rw [e2] at C
  generalize cbN (q * 68719476736) = c at *
  generalize powN q = p at *
  have HC := Lib.hid C
  have q0 : 0 ≤ (q : Int) * c := by rw [e1]; omega
  have q1 : (q : Int) * c ≤ 676306297 := by rw [e1]; omega
  have H1 := Lib.hid e1
  clear C e1 e2
  go_enter Try.func54, Try.ntmps54
  go_wp2_with fail
  refine (HC.out _).mono ?_
  rintro e w1 ⟨rfl, hb⟩
  go_wp2
  go_ret
  exact ⟨ret_int H1.out, hb⟩

theorem of_q (s : Nat) (hs : s ≤ 255) (w : World) :
    Calls Try.prog 55 #[.agg #[.int .i64 1073741824, .int .i64 1276901417, .int .i64 1518500250, .int .i64 1805811301], .int .i64 s] w fun e w' => e = .returned (.int .i64 (qrt (s % 4))) ∧ Below w.heap.size w w' := by
  have hm : s % 4 = 0 ∨ s % 4 = 1 ∨ s % 4 = 2 ∨ s % 4 = 3 := by omega
  rcases hm with hm | hm | hm | hm
  all_goals
    have hz : (s : Int) % 4 = ((s % 4 : Nat) : Int) := by simp
    rw [hm] at hz
    have hq := congrArg qrt hm
    rw [hq]
    clear hq hm
    go_enter Try.func55, Try.ntmps55
    go_wp2
    go_ret
    exact ⟨rfl, (Below.refl _ _).alloc (Nat.le_refl _) _⟩

theorem round_below (n B : Int) (b : Nat) (hB : B = b) (h1 : -4611686018427387904 ≤ n) (h2 : n ≤ 4611686018427387904) (hb : b ≤ 62) (w : World) :
    Calls Try.prog 53 #[.int .i64 n, .int .i64 B] w fun e w' => e = .returned (.tuple #[.int .i64 (rnd n b), .int .i64 0]) ∧ Below w.heap.size w w' :=
  (round_lit n B b hB h1 h2 hb w).mono fun _ _ ⟨he, k, hw⟩ => ⟨he, hw ▸ below_drewN (Below.refl _ _) _⟩

/-- The quarter powers' cells, while other memory is made. -/
theorem line_keep {B : Nat} {w W w1 : World} {g : Nat} {c0 c1 c2 c3 : Value} (h : W.cell? ⟨g, 0, none⟩ = some c0 ∧ W.cell? ⟨g, 1, none⟩ = some c1 ∧ W.cell? ⟨g, 2, none⟩ = some c2 ∧ W.cell? ⟨g, 3, none⟩ = some c3 ∧ Below B w W ∧ g < W.heap.size ∧ B ≤ W.heap.size)
    (hb : Below W.heap.size W w1) : w1.cell? ⟨g, 0, none⟩ = some c0 ∧ w1.cell? ⟨g, 1, none⟩ = some c1 ∧ w1.cell? ⟨g, 2, none⟩ = some c2 ∧ w1.cell? ⟨g, 3, none⟩ = some c3 ∧ Below B w w1 ∧ g < w1.heap.size ∧ B ≤ w1.heap.size := by
  obtain ⟨h0, h1, h2, h3, h4, h5, h6⟩ := h
  have := hb.size
  exact ⟨(hb.cell (p := ⟨g, 0, none⟩) h5).trans h0, (hb.cell (p := ⟨g, 1, none⟩) h5).trans h1, (hb.cell (p := ⟨g, 2, none⟩) h5).trans h2, (hb.cell (p := ⟨g, 3, none⟩) h5).trans h3, h4.trans (hb.mono h6), by omega, by omega⟩

theorem line_end {B : Nat} {w W : World} {g : Nat} {c0 c1 c2 c3 : Value} (h : W.cell? ⟨g, 0, none⟩ = some c0 ∧ W.cell? ⟨g, 1, none⟩ = some c1 ∧ W.cell? ⟨g, 2, none⟩ = some c2 ∧ W.cell? ⟨g, 3, none⟩ = some c3 ∧ Below B w W ∧ g < W.heap.size ∧ B ≤ W.heap.size) : Below B w W := h.2.2.2.2.1
theorem line_first (w : World) (c0 c1 c2 c3 : Value) (t : TypeId) : (w.alloc (.cells #[c0, c1, c2, c3] t)).drew.cell? ⟨w.heap.size, 0, none⟩ = some c0 ∧ (w.alloc (.cells #[c0, c1, c2, c3] t)).drew.cell? ⟨w.heap.size, 1, none⟩ = some c1 ∧ (w.alloc (.cells #[c0, c1, c2, c3] t)).drew.cell? ⟨w.heap.size, 2, none⟩ = some c2 ∧ (w.alloc (.cells #[c0, c1, c2, c3] t)).drew.cell? ⟨w.heap.size, 3, none⟩ = some c3 ∧
    Below w.heap.size w (w.alloc (.cells #[c0, c1, c2, c3] t)).drew ∧ w.heap.size < (w.alloc (.cells #[c0, c1, c2, c3] t)).drew.heap.size ∧ w.heap.size ≤ (w.alloc (.cells #[c0, c1, c2, c3] t)).drew.heap.size := by
  have e : ∀ j, (w.alloc (.cells #[c0, c1, c2, c3] t)).drew.cell? ⟨w.heap.size, j, none⟩ = (#[c0, c1, c2, c3] : Array Value)[j]? := fun j => World.cell?_alloc_at _ _ _ _ rfl
  exact ⟨e 0, e 1, e 2, e 3, ((Below.refl _ _).alloc (Nat.le_refl _) _).drew, by simp, by simp⟩

set_option maxRecDepth 100000 in
set_option maxHeartbeats 2000000 in
theorem line_pos (q s : Nat) (h : q ≤ 8191) (hs : s ≤ 255) (w : World) :
    Calls Try.prog 35 #[.int .i64 q, .int .i64 s] w fun e w' => e = .returned (.int .i64 (lineN q s)) ∧ Below w.heap.size w w' := by
  obtain ⟨p0, p1⟩ := prod_le q (s % 4) h
  obtain ⟨r0, r1⟩ := raw_range q s h
  have hr : Hid (rnd ((powN q : Int) * qrt (s % 4)) (61 - s / 4) = rawL q s) := rfl
  have hl : Hid (lineN q s = min (rawL q s) 268435455) := rfl
  have F1 := Lib.hid (fun W => four_ok q h W)
  have F2 := Lib.hid (fun W => of_q s hs W)
  generalize lineN q s = L at *
  generalize rawL q s = R at *
  generalize qrt (s % 4) = k at *
  generalize (powN q : Int) = p at *
  have hfirst := Lib.hid (line_first w (.int .i64 1073741824) (.int .i64 1276901417) (.int .i64 1518500250) (.int .i64 1805811301) 76)
  by_cases hsh : s / 4 ≤ 61
  · skip
    have F3 := Lib.hid (fun W => round_below (p * k) (61 - (s : Int) / 4) (61 - s / 4) (by omega) (by omega) (by omega) (by omega) W)
    have hmax : (61 - (s : Int) / 4 < 0) = False := by simp; omega
    have q1 : IntKind.i64.wrap (p * k) = p * k := IntWalk.i64_in _ (by omega)
    have q2 : IntKind.i64.wrap ((s : Int) / 4) = (s : Int) / 4 := IntWalk.i64_in _ (by omega)
    have q3 : IntKind.i64.wrap (61 - (s : Int) / 4) = 61 - (s : Int) / 4 := IntWalk.i64_in _ (by omega)
    go_enter Try.func35, Try.ntmps35
    go_wp2_with fail
    go_region_held3 (fun w' => w'.cell? ⟨w.heap.size, 0, none⟩ = some (.int .i64 1073741824) ∧ w'.cell? ⟨w.heap.size, 1, none⟩ = some (.int .i64 1276901417) ∧ w'.cell? ⟨w.heap.size, 2, none⟩ = some (.int .i64 1518500250) ∧ w'.cell? ⟨w.heap.size, 3, none⟩ = some (.int .i64 1805811301) ∧ Below w.heap.size w w' ∧ w.heap.size < w'.heap.size ∧ w.heap.size ≤ w'.heap.size)
      (first | assumption | exact hfirst.out | (refine line_keep ?_ hb; assumption))
      (first | (go_at_call 54; refine (F1.out _).mono ?_; rintro e w1 ⟨rfl, hb⟩) | (go_at_call 55; refine (F2.out _).mono ?_; rintro e w1 ⟨rfl, hb⟩) | (go_at_call 53; refine (F3.out _).mono ?_; rintro e w1 ⟨rfl, hb⟩))
    go_wp2
    all_goals go_ret
    all_goals exact ⟨ret_int (by have h1 := hr.out; have h2 := hl.out; omega), line_end (by assumption)⟩
  · skip
    have F3 := Lib.hid (fun W => round_below (p * k) 0 (61 - s / 4) (by omega) (by omega) (by omega) (by omega) W)
    have hmax : (61 - (s : Int) / 4 < 0) = True := by simp; omega
    have q1 : IntKind.i64.wrap (p * k) = p * k := IntWalk.i64_in _ (by omega)
    have q2 : IntKind.i64.wrap ((s : Int) / 4) = (s : Int) / 4 := IntWalk.i64_in _ (by omega)
    have q3 : IntKind.i64.wrap (61 - (s : Int) / 4) = 61 - (s : Int) / 4 := IntWalk.i64_in _ (by omega)
    go_enter Try.func35, Try.ntmps35
    go_wp2_with fail
    go_region_held3 (fun w' => w'.cell? ⟨w.heap.size, 0, none⟩ = some (.int .i64 1073741824) ∧ w'.cell? ⟨w.heap.size, 1, none⟩ = some (.int .i64 1276901417) ∧ w'.cell? ⟨w.heap.size, 2, none⟩ = some (.int .i64 1518500250) ∧ w'.cell? ⟨w.heap.size, 3, none⟩ = some (.int .i64 1805811301) ∧ Below w.heap.size w w' ∧ w.heap.size < w'.heap.size ∧ w.heap.size ≤ w'.heap.size)
      (first | assumption | exact hfirst.out | (refine line_keep ?_ hb; assumption))
      (first | (go_at_call 54; refine (F1.out _).mono ?_; rintro e w1 ⟨rfl, hb⟩) | (go_at_call 55; refine (F2.out _).mono ?_; rintro e w1 ⟨rfl, hb⟩) | (go_at_call 53; refine (F3.out _).mono ?_; rintro e w1 ⟨rfl, hb⟩))
    go_wp2
    all_goals go_ret
    all_goals exact ⟨ret_int (by have h1 := hr.out; have h2 := hl.out; omega), line_end (by assumption)⟩

theorem line_neg (q s : Nat) (h0 : 1 ≤ q) (h : q ≤ 8191) (hs : s ≤ 255) (w : World) :
    Calls Try.prog 35 #[.int .i64 (-(q : Int)), .int .i64 s] w fun e w' => e = .returned (.int .i64 (-lineN q s)) ∧ Below w.heap.size w w' := by
  obtain ⟨r0, r1⟩ := lineN_range q s h
  have F := Lib.hid (fun W => line_pos q s h hs W)
  generalize lineN q s = L at *
  go_enter Try.func35, Try.ntmps35
  go_wp2_with (go_at_call 35; refine (F.out _).mono ?_; rintro e w1 ⟨rfl, hb⟩)
  go_ret
  exact ⟨rfl, hb⟩
theorem line_ok (q : Int) (s : Nat) (h0 : -8191 ≤ q) (h1 : q ≤ 8191) (hs : s ≤ 255) (w : World) :
    Calls Try.prog 35 #[.int .i64 q, .int .i64 s] w fun e w' => e = .returned (.int .i64 (lineL q s)) ∧ Below w.heap.size w w' := by
  by_cases h : 0 ≤ q
  · obtain ⟨n, rfl⟩ : ∃ n : Nat, q = n := ⟨q.toNat, by omega⟩
    rw [lineL_nat]
    exact line_pos n s (by omega) hs w
  · obtain ⟨n, rfl⟩ : ∃ n : Nat, q = -(n : Int) := ⟨(-q).toNat, by omega⟩
    rw [lineL_neg, lineL_nat]
    exact line_neg n s (by omega) (by omega) hs w
theorem odd_ok (n m : Int) (h1 : 0 ≤ m) (h2 : m ≤ 4611686018427387904) (w : World) :
    Calls Try.prog 34 #[.int .i64 n, .int .i64 m] w fun e w' => e = .returned (.bool (decide (n < -m) || decide (m < n))) ∧ w = w' := by
  go_enter Try.func34, Try.ntmps34
  go_wp2
  all_goals go_ret
  all_goals exact ⟨ret_bool (by simp <;> omega), rfl⟩

def BadQ (q m s : Int) : Prop := q < -m ∨ m < q ∨ s < 0 ∨ 255 < s
instance (q m s : Int) : Decidable (BadQ q m s) := by unfold BadQ; infer_instance
/-- What Line answers. -/
def lineV (q s : Int) : Int × Int := if BadQ q 8191 s then (0, 2) else (lineL q s.toNat, 0)
def RP2 (p : Int × Int) (w : World) (e : Ending) (w' : World) : Prop := e = .returned (.tuple #[.int .i64 p.1, .int .i64 p.2]) ∧ Below w.heap.size w w'
theorem Line_any (q s : Int) (w : World) : Calls Try.prog 22 #[.int .i64 q, .int .i64 s] w (RP2 (lineV q s) w) := by
  by_cases hb : BadQ q 8191 s
  · rw [lineV, if_pos hb]
    unfold BadQ at hb
    go_enter Try.func22, Try.ntmps22
    go_wp2_with (go_at_call 34; refine (odd_ok _ _ (by decide) (by decide) _).mono ?_; rintro e w1 ⟨rfl, rfl⟩)
    all_goals first | (go_ret2; exact ⟨rfl, Below.refl _ _⟩) | (exfalso; simp at *; omega)
  · rw [lineV, if_neg hb]
    have hb' : ¬ (q < -8191 ∨ 8191 < q ∨ s < 0 ∨ 255 < s) := hb
    clear hb
    obtain ⟨n, rfl⟩ : ∃ n : Nat, s = n := ⟨s.toNat, by omega⟩
    rw [Int.toNat_natCast]
    have F := Lib.hid (fun W => line_ok q n (by omega) (by omega) (by omega) W)
    have h1 : -8191 ≤ q := by omega
    have h2 : q ≤ 8191 := by omega
    have h3 : (n : Int) ≤ 255 := by omega
    clear hb'
    generalize lineL q n = L at *
    go_enter Try.func22, Try.ntmps22
    go_wp2_with (first | (go_at_call 34; refine (odd_ok _ _ (by decide) (by decide) _).mono ?_; rintro e w1 ⟨rfl, rfl⟩) | (go_at_call 35; refine (F.out _).mono ?_; rintro e w1 ⟨rfl, hb⟩))
    go_ret2
    exact ⟨rfl, hb⟩
end Go.Proofs.Ytppfbfiigfjncaa
