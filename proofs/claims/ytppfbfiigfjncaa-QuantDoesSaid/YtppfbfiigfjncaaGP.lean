/- The texts that all others stand on: small laws of slices and numbers, and what they tell. -/
import Derived.Test.YtppfbfiigfjncaaRows
import Derived.WalkKit
import Derived.ProofKit
import Derived.OpenShut
import Derived.BigQuiet
import Derived.Lib.Hide
import Derived.Maps.AppendAt
import Derived.Deep.QuietTactic
import Derived.Laws.Tables
/- Lemmas that every proof of this seat uses: a slice that reads as a list of integers. -/
namespace Go.Proofs.Ytppfbfiigfjncaa
open Go.ChangeShapes Go.WideShapes Go.ChangeAt Go.RowKit

/-- The slice's elements, by its address: the integers l. -/
def IsInts (w : World) (p : Option Addr) (l : List Int) : Prop :=
  l = [] ∨ ∃ b off, p = some ⟨b, off, none⟩ ∧ b < w.heap.size ∧ ∀ j, j < l.length → w.cell? ⟨b, off + j, none⟩ = some (.int .i64 (l.getD j 0))

theorem IsInts.nil (w : World) (p : Option Addr) : IsInts w p [] := .inl rfl

theorem IsInts.keep {w w' : World} {p : Option Addr} {l : List Int} (h : IsInts w p l) (hb : Below w.heap.size w w') : IsInts w' p l := by
  rcases h with h | ⟨b, off, hp, hlt, hc⟩
  · exact .inl h
  · exact .inr ⟨b, off, hp, Nat.lt_of_lt_of_le hlt hb.size, fun j hj => (hb.cell (p := ⟨b, off + j, none⟩) hlt).trans (hc j hj)⟩

theorem IsInts.at {w : World} {p : Option Addr} {l : List Int} (h : IsInts w p l) {j : Nat} (hj : j < l.length) :
    ∃ b off, p = some ⟨b, off, none⟩ ∧ b < w.heap.size ∧ ∀ j, j < l.length → w.cell? ⟨b, off + j, none⟩ = some (.int .i64 (l.getD j 0)) := by
  rcases h with h | h
  · simp [h] at hj
  · exact h

/-- A row of the call's own, of integers. -/
theorem owns_at {w : World} {base : Nat} {v : Value} {l : List Int} (h : w.ownsRow base 3 1 v l.length (l.map (Value.int .i64))) (hne : l ≠ []) :
    ∃ g cap, v = .slice (some ⟨g, 0, none⟩) l.length cap ∧ base ≤ g ∧ g < w.heap.size ∧ ∀ j, j < l.length → w.cell? ⟨g, j, none⟩ = some (.int .i64 (l.getD j 0)) := by
  have hlt := h.lt
  have h' := h
  obtain ⟨h1, h2 | ⟨g, cap, cur, rfl, hg, hh, r⟩⟩ := h
  · simp at h2; exact absurd h2.2 hne
  · have := hlt g rfl
    refine ⟨g, cap, rfl, hg, this.2, fun j hj => ?_⟩
    rw [h'.cellAt j (by omega)]
    simp [List.getD_eq_getElem?_getD, hj]

/-- A new block of integers: a literal's. -/
theorem isInts_new (w : World) (l : List Int) (t : TypeId) {n : Nat} (hn : w.heap.size = n) : IsInts (w.alloc (.cells (l.map (Value.int .i64)).toArray t)) (some ⟨n, 0, none⟩) l := by
  subst hn
  refine .inr ⟨_, 0, rfl, by simp, fun j hj => ?_⟩
  rw [World.cell?_alloc_at _ _ _ _ rfl]
  simp [List.getD_eq_getElem?_getD, hj]

theorem isInts_of {w : World} {g : Nat} {l : List Int} (hlt : g < w.heap.size) (h : ∀ j, j < l.length → w.cell? ⟨g, j, none⟩ = some (.int .i64 (l.getD j 0))) : IsInts w (some ⟨g, 0, none⟩) l :=
  .inr ⟨g, 0, rfl, hlt, fun j hj => by simpa using h j hj⟩

theorem IsInts.alloc {w : World} {p : Option Addr} {l : List Int} (h : IsInts w p l) (o : Obj) : IsInts (w.alloc o) p l := h.keep ((Below.refl _ _).alloc (Nat.le_refl _) _)
theorem IsInts.drewN {w : World} {p : Option Addr} {l : List Int} (h : IsInts w p l) (n : Nat) : IsInts (w.drewN n) p l := h

theorem below_drewN {B : Nat} {a w : World} (h : Below B a w) (n : Nat) : Below B a (w.drewN n) := h.trans ⟨rfl, rfl, rfl, Nat.le_refl _, fun _ _ => rfl⟩

theorem ret_bool {a b : Bool} (h : a = b) : Ending.returned (.bool a) = .returned (.bool b) := by rw [h]
theorem ret_int {k : IntKind} {a b : Int} (h : a = b) : Ending.returned (.int k a) = .returned (.int k b) := by rw [h]
theorem ret_ints {k k' : IntKind} {a b a' b' : Int} (h : a = b) (h' : a' = b') : Ending.returned (.tuple #[.int k a, .int k' a']) = .returned (.tuple #[.int k b, .int k' b']) := by rw [h, h']

theorem one_int (n : Int) : ∀ u ∈ [Value.int .i64 n], u.oneCell' = true := by simp [Value.oneCell']
theorem Try.infoInt : (Try.prog.info? 3).map (fun i => (i.zero, i.size, i.bytes)) = some (some (.int .i64 0), 1, 8) := by kernel_rfl

end Go.Proofs.Ytppfbfiigfjncaa
/- slices.Equal: what each call answers. -/
set_option linter.unusedVariables false
namespace Go.Proofs.Ytppfbfiigfjncaa
open Go.ChangeShapes Go.WideShapes Go.ChangeAt Go.RowKit

def REq (la lb : List Int) (w : World) (e : Ending) (w' : World) : Prop := e = .returned (.bool (decide (la = lb))) ∧ ∃ n, w' = w.drewN n

theorem eq_step {la lb : List Int} (hlen : la.length = lb.length) (k : Nat) (hk : ¬ k < la.length) (h : ∀ j, j < k → la.getD j 0 = lb.getD j 0) : la = lb := by
  refine List.ext_getElem hlen fun i h1 h2 => ?_
  have := h i (by omega)
  simpa [List.getD_eq_getElem?_getD, h1, h2] using this

set_option maxHeartbeats 400000 in
theorem eq_any (pa pb : Option Addr) (la lb : List Int) (ca cb : Nat) (w : World) (ha : IsInts w pa la) (hb : IsInts w pb lb) (ma : la.length ≤ maxLen) (mb : lb.length ≤ maxLen) :
    Calls Try.prog 70 #[.slice pa la.length ca, .slice pb lb.length cb] w (REq la lb w) := by
  unfold maxLen at ma mb
  by_cases hlen : la.length = lb.length
  · have hlen' := Lib.hid hlen
    have hnl : (la.length == lb.length) = true := by simp [hlen]
    have ha' := Lib.hid ha
    have hb' := Lib.hid hb
    clear hlen ha hb
    go_enter Try.func70, Try.ntmps70
    go_wp2
    go_loopw [13] (fun i wr => ∃ k n : Nat, i = .int .i64 k ∧ k ≤ la.length ∧ wr = w.drewN n ∧ ∀ j, j < k → la.getD j 0 = lb.getD j 0) (fun i _ => la.length - (intOf i).toNat)
    case atStart => exact ⟨0, 0, rfl, Nat.zero_le _, rfl, fun _ h => by omega⟩
    case round =>
      obtain ⟨k, n, rfl, hk, rfl, hj⟩ := hrel
      by_cases hlt : k < la.length
      · obtain ⟨b, off, rfl, _, hc⟩ := ha'.out.at hlt
        obtain ⟨b', off', rfl, _, hc'⟩ := hb'.out.at (hlen'.out ▸ hlt)
        have h1 := hc k hlt
        have h2 := hc' k (hlen'.out ▸ hlt)
        have hlt2 : k < lb.length := hlen'.out ▸ hlt
        have hj' := Lib.hid hj
        clear hc hc' ha' hb' hj
        by_cases heq : la.getD k 0 = lb.getD k 0
        · have hjk := Lib.hid heq
          rw [← heq] at h2
          generalize la.getD k 0 = x at h1 h2
          clear heq
          go_wp2
          go_quiet (fail)
          go_wp2
          refine ⟨⟨k + 1, n + nq, by go_num, hlt, rfl, fun j hj => ?_⟩, by simp [intOf]; omega⟩
          by_cases e : j = k
          · rw [e]; exact hjk.out
          · exact hj'.out j (by omega)
        · have hne : (la.getD k 0 == lb.getD k 0) = false := by simpa using heq
          have hfin : Hid (la ≠ lb) := fun e => heq (by rw [e])
          generalize la.getD k 0 = x at h1 hne
          generalize lb.getD k 0 = y at h2 hne
          clear heq
          go_wp2
          go_quiet (fail)
          go_wp2
          go_ret
          exact ⟨ret_bool (decide_eq_false hfin.out).symm, _, by rw [World.drewN_drewN]⟩
      · have hall := Lib.hid (eq_step hlen'.out k hlt hj)
        clear hj
        go_wp2
        go_ret
        exact ⟨ret_bool (decide_eq_true hall.out).symm, _, rfl⟩
  · have hne : (la.length == lb.length) = false := by simpa using hlen
    have hfin : Hid (la ≠ lb) := fun e => hlen (by rw [e])
    clear hlen
    go_enter Try.func70, Try.ntmps70
    go_wp2
    go_ret
    exact ⟨ret_bool (decide_eq_false hfin.out).symm, 0, rfl⟩

/-- .. of two lists that are the same. -/
theorem ints_same (pa pb : Option Addr) (l : List Int) (ca cb : Nat) (w : World) (ha : IsInts w pa l) (hb : IsInts w pb l) (ma : l.length ≤ maxLen) :
    Calls Try.prog 70 #[.slice pa l.length ca, .slice pb l.length cb] w fun e w' => e = .returned (.bool true) ∧ ∃ n, w' = w.drewN n :=
  (eq_any pa pb l l ca cb w ha hb ma ma).mono fun _ _ ⟨he, hw⟩ => ⟨he.trans (ret_bool (decide_eq_true rfl)), hw⟩
end Go.Proofs.Ytppfbfiigfjncaa
namespace Go.Proofs.Ytppfbfiigfjncaa
open Go.ChangeShapes Go.WideShapes Go.ChangeAt Go.RowKit

/-- The band behind one that begins at a line. -/
def nxt (k lines by' at' : Int) : Int := min lines (at' + 4 + 4 * (at' * k / by'))
def offL (k lines by' : Int) : Nat → Int → List Int
  | 0, _ => []
  | f + 1, a => a :: if a < lines then offL k lines by' f (nxt k lines by' a) else []

theorem offL_step {k lines by' a : Int} {f : Nat} (h : a < lines) : offL k lines by' (f + 1) a = a :: offL k lines by' f (nxt k lines by' a) := by rw [offL, if_pos h]
theorem offL_end {k lines by' a : Int} {f : Nat} (h : ¬ a < lines) : offL k lines by' (f + 1) a = [a] := by rw [offL, if_neg h]
theorem offL_first (k lines by' : Int) (h : 4 ≤ lines) : [0] ++ offL k lines by' 299 4 = offL k lines by' 300 0 := by
  have : nxt k lines by' 0 = 4 := by unfold nxt; simp; omega
  have e : offL k lines by' (299 + 1) 0 = 0 :: offL k lines by' 299 (nxt k lines by' 0) := offL_step (by omega)
  rw [this] at e
  exact e.symm


def JL (rate : Int) (w : World) (a' : Act) (wr : World) : Prop :=
  ∃ (v : Value) (xs : List Int) (at' : Int) (f : Nat) (u11 u12 u13 u14 u15 u16 u17 u18 u19 u20 u21 u22 u23 u24 u25 u26 u27 u28 u29 u30 u31 u32 u33 u34 u35 u36 u37 u38 u39 : Value), a' = { tmps := #[.int .i64 rate, .bool false, undef, undef, .slice none 0 0, .int .i64 0, .int .i64 (3 + (11 - rate) / 2), .int .i64 256, .int .i64 256, v, .int .i64 at', u11, u12, u13, u14, u15, u16, u17, u18, u19, u20, u21, u22, u23, u24, u25, u26, u27, u28, u29, u30, u31, u32, u33, u34, u35, u36, u37, u38, u39, undef], defers := [] } ∧
    wr.ownsRow w.heap.size 3 1 v xs.length (xs.map (Value.int .i64)) ∧ Below w.heap.size w wr ∧ xs ++ offL (3 + (11 - rate) / 2) 256 256 f at' = offL (3 + (11 - rate) / 2) 256 256 300 0 ∧ 0 ≤ at' ∧ at' ≤ 256 ∧ 256 - at' < f ∧ xs.length + f = 300

def RL (rate : Int) (w : World) (e : Ending) (w' : World) : Prop :=
  ∃ v, e = .returned (.tuple #[v, .int .i64 0]) ∧ w'.ownsRow w.heap.size 3 1 v (offL (3 + (11 - rate) / 2) 256 256 300 0).length ((offL (3 + (11 - rate) / 2) 256 256 300 0).map (Value.int .i64)) ∧ Below w.heap.size w w'

set_option maxHeartbeats 1000000 in
set_option maxRecDepth 100000 in
theorem off_L (rate : Int) (h0 : 0 ≤ rate) (h1 : rate ≤ 11) (w : World) :
    Calls Try.prog 32 #[.int .i64 rate, .bool false] w (RL rate w) := by
  obtain ⟨i0, hi, hz0, hz1, hz2⟩ := info_parts Try.infoInt
  go_enter Try.func32, Try.ntmps32
  go_wp2
  refine wp_scope_jumps 0 (JL rate w) (fun a' _ => (256 - intOf (a'.tmps.getD 10 undef)).toNat) rfl ?_ ?_
  · go_wp2
    go_step3
    go_wp2_with (at_builtin; refine wpList_append_own _ rfl _ _ 22 rfl w.heap.size 3 i0 (.int .i64 0) 1 8 Try.underlying22 hi hz0 hz1 hz2 rfl (by decide) _ _ _ rfl (World.ownsRow_nil _ _ _ _) ⟨w.heap.size, 0, none⟩ 1 1 [.int .i64 0] rfl rfl (cell_one_new _ _ _) (one_int _) ?c3 ?c4 ?c5 ?_)
    case c3 => decide
    case c4 => decide
    case c5 => simp
    intro v' w1 hown hg _
    go_wp2
    go_step3
    refine ⟨rfl, v', [0], 4, 299, _, _, _, _, _, _, _, _, _, _, _, _, _, _, _, _, _, _, _, _, _, _, _, _, _, _, _, _, _, rfl, hown, ?_, offL_first _ _ _ (by decide), by decide, by decide, by decide, by decide⟩
    exact ((Below.refl _ _).alloc (Nat.le_refl _) _).grown hg (by simp) (by simp [Value.ownBlock])
  · rintro a' wr ⟨v, xs, at', f, u11, u12, u13, u14, u15, u16, u17, u18, u19, u20, u21, u22, u23, u24, u25, u26, u27, u28, u29, u30, u31, u32, u33, u34, u35, u36, u37, u38, u39, rfl, hown, hb, hxs, ha0, ha1, haf, hlen⟩
    have hk0 : 0 ≤ at' * (3 + (11 - rate) / 2) := Int.mul_nonneg ha0 (by omega)
    have hk1 : at' * (3 + (11 - rate) / 2) ≤ 256 * 8 := Int.mul_le_mul ha1 (by omega) (by omega) (by omega)
    obtain ⟨f, rfl⟩ : ∃ f', f = f' + 1 := ⟨f - 1, by omega⟩
    have hl0 := hown.lt
    have hown1 := hown.alloc (.cells #[.int .i64 at'] 3)
    have hb1 := hb.alloc hb.size (.cells #[.int .i64 at'] 3)
    have hxs' := Lib.hid hxs
    clear hxs
    go_wp2_with (at_builtin; refine wpList_append_own _ rfl _ _ 22 rfl w.heap.size 3 i0 (.int .i64 0) 1 8 Try.underlying22 hi hz0 hz1 hz2 rfl (by decide) _ _ _ rfl hown1 ⟨wr.heap.size, 0, none⟩ 1 1 [.int .i64 at'] rfl rfl (cell_one_new _ _ _) (one_int _) ?c3 ?c4 ?c5 ?_)
    case c3 => unfold maxLen; omega
    case c4 => omega
    case c5 => have := hb.size; simp; omega
    intro v' w1 hown' hg _
    have hb2 : Below w.heap.size w w1 := hb1.grown hg (by have := hb.size; simp; omega) (fun k hk => (hl0 k hk).1)
    have hown2 : w1.ownsRow w.heap.size 3 1 v' (xs ++ [at']).length ((xs ++ [at']).map (Value.int .i64)) := by simpa using hown'
    clear hown' hown hown1 hb1 hb hg hl0
    by_cases hlt : at' < 256
    · have hxs2 : Hid (xs ++ [at'] ++ offL (3 + (11 - rate) / 2) 256 256 f (nxt (3 + (11 - rate) / 2) 256 256 at') = offL (3 + (11 - rate) / 2) 256 256 300 0) := by
        have h := hxs'.out
        rw [offL_step hlt] at h
        show _ = _
        rw [← h, List.append_assoc, List.singleton_append]
      clear hxs'
      go_wp2
      all_goals go_step3
      all_goals
        refine ⟨rfl, ⟨v', xs ++ [at'], _, f, _, _, _, _, _, _, _, _, _, _, _, _, _, _, _, _, _, _, _, _, _, _, _, _, _, _, _, _, _, rfl, hown2, hb2, ?h2, by omega, by omega, by omega, by simp; omega⟩, ?mu⟩
        case h2 => exact (congrArg (fun z => xs ++ [at'] ++ offL (3 + (11 - rate) / 2) 256 256 f z) (by unfold nxt; omega)).trans hxs2.out
        case mu => simp [intOf]; omega
    · have hxs2 : Hid (xs ++ [at'] = offL (3 + (11 - rate) / 2) 256 256 300 0) := by
        have h := hxs'.out
        rw [offL_end hlt] at h
        exact h
      clear hxs'
      go_wp2
      simp only [Exit.jump]
      go_ret2
      refine ⟨v', rfl, ?_, hb2⟩
      rw [← hxs2.out]
      exact hown2

def JS (rate : Int) (w : World) (a' : Act) (wr : World) : Prop :=
  ∃ (v : Value) (xs : List Int) (at' : Int) (f : Nat) (u11 u12 u13 u14 u15 u16 u17 u18 u19 u20 u21 u22 u23 u24 u25 u26 u27 u28 u29 u30 u31 u32 u33 u34 u35 u36 u37 u38 u39 : Value), a' = { tmps := #[.int .i64 rate, .bool true, undef, undef, .slice none 0 0, .int .i64 0, .int .i64 (3 + (11 - rate) / 2), .int .i64 32, .int .i64 64, v, .int .i64 at', u11, u12, u13, u14, u15, u16, u17, u18, u19, u20, u21, u22, u23, u24, u25, u26, u27, u28, u29, u30, u31, u32, u33, u34, u35, u36, u37, u38, u39, undef], defers := [] } ∧
    wr.ownsRow w.heap.size 3 1 v xs.length (xs.map (Value.int .i64)) ∧ Below w.heap.size w wr ∧ xs ++ offL (3 + (11 - rate) / 2) 32 64 f at' = offL (3 + (11 - rate) / 2) 32 64 300 0 ∧ 0 ≤ at' ∧ at' ≤ 32 ∧ 32 - at' < f ∧ xs.length + f = 300

def RS (rate : Int) (w : World) (e : Ending) (w' : World) : Prop :=
  ∃ v, e = .returned (.tuple #[v, .int .i64 0]) ∧ w'.ownsRow w.heap.size 3 1 v (offL (3 + (11 - rate) / 2) 32 64 300 0).length ((offL (3 + (11 - rate) / 2) 32 64 300 0).map (Value.int .i64)) ∧ Below w.heap.size w w'

set_option maxHeartbeats 1000000 in
set_option maxRecDepth 100000 in
theorem off_S (rate : Int) (h0 : 0 ≤ rate) (h1 : rate ≤ 11) (w : World) :
    Calls Try.prog 32 #[.int .i64 rate, .bool true] w (RS rate w) := by
  obtain ⟨i0, hi, hz0, hz1, hz2⟩ := info_parts Try.infoInt
  go_enter Try.func32, Try.ntmps32
  go_wp2
  refine wp_scope_jumps 0 (JS rate w) (fun a' _ => (32 - intOf (a'.tmps.getD 10 undef)).toNat) rfl ?_ ?_
  · go_wp2
    go_step3
    go_wp2_with (at_builtin; refine wpList_append_own _ rfl _ _ 22 rfl w.heap.size 3 i0 (.int .i64 0) 1 8 Try.underlying22 hi hz0 hz1 hz2 rfl (by decide) _ _ _ rfl (World.ownsRow_nil _ _ _ _) ⟨w.heap.size, 0, none⟩ 1 1 [.int .i64 0] rfl rfl (cell_one_new _ _ _) (one_int _) ?c3 ?c4 ?c5 ?_)
    case c3 => decide
    case c4 => decide
    case c5 => simp
    intro v' w1 hown hg _
    go_wp2
    go_step3
    refine ⟨rfl, v', [0], 4, 299, _, _, _, _, _, _, _, _, _, _, _, _, _, _, _, _, _, _, _, _, _, _, _, _, _, _, _, _, _, rfl, hown, ?_, offL_first _ _ _ (by decide), by decide, by decide, by decide, by decide⟩
    exact ((Below.refl _ _).alloc (Nat.le_refl _) _).grown hg (by simp) (by simp [Value.ownBlock])
  · rintro a' wr ⟨v, xs, at', f, u11, u12, u13, u14, u15, u16, u17, u18, u19, u20, u21, u22, u23, u24, u25, u26, u27, u28, u29, u30, u31, u32, u33, u34, u35, u36, u37, u38, u39, rfl, hown, hb, hxs, ha0, ha1, haf, hlen⟩
    have hk0 : 0 ≤ at' * (3 + (11 - rate) / 2) := Int.mul_nonneg ha0 (by omega)
    have hk1 : at' * (3 + (11 - rate) / 2) ≤ 32 * 8 := Int.mul_le_mul ha1 (by omega) (by omega) (by omega)
    obtain ⟨f, rfl⟩ : ∃ f', f = f' + 1 := ⟨f - 1, by omega⟩
    have hl0 := hown.lt
    have hown1 := hown.alloc (.cells #[.int .i64 at'] 3)
    have hb1 := hb.alloc hb.size (.cells #[.int .i64 at'] 3)
    have hxs' := Lib.hid hxs
    clear hxs
    go_wp2_with (at_builtin; refine wpList_append_own _ rfl _ _ 22 rfl w.heap.size 3 i0 (.int .i64 0) 1 8 Try.underlying22 hi hz0 hz1 hz2 rfl (by decide) _ _ _ rfl hown1 ⟨wr.heap.size, 0, none⟩ 1 1 [.int .i64 at'] rfl rfl (cell_one_new _ _ _) (one_int _) ?c3 ?c4 ?c5 ?_)
    case c3 => unfold maxLen; omega
    case c4 => omega
    case c5 => have := hb.size; simp; omega
    intro v' w1 hown' hg _
    have hb2 : Below w.heap.size w w1 := hb1.grown hg (by have := hb.size; simp; omega) (fun k hk => (hl0 k hk).1)
    have hown2 : w1.ownsRow w.heap.size 3 1 v' (xs ++ [at']).length ((xs ++ [at']).map (Value.int .i64)) := by simpa using hown'
    clear hown' hown hown1 hb1 hb hg hl0
    by_cases hlt : at' < 32
    · have hxs2 : Hid (xs ++ [at'] ++ offL (3 + (11 - rate) / 2) 32 64 f (nxt (3 + (11 - rate) / 2) 32 64 at') = offL (3 + (11 - rate) / 2) 32 64 300 0) := by
        have h := hxs'.out
        rw [offL_step hlt] at h
        show _ = _
        rw [← h, List.append_assoc, List.singleton_append]
      clear hxs'
      go_wp2
      all_goals go_step3
      all_goals
        refine ⟨rfl, ⟨v', xs ++ [at'], _, f, _, _, _, _, _, _, _, _, _, _, _, _, _, _, _, _, _, _, _, _, _, _, _, _, _, _, _, _, _, rfl, hown2, hb2, ?h2, by omega, by omega, by omega, by simp; omega⟩, ?mu⟩
        case h2 => exact (congrArg (fun z => xs ++ [at'] ++ offL (3 + (11 - rate) / 2) 32 64 f z) (by unfold nxt; omega)).trans hxs2.out
        case mu => simp [intOf]; omega
    · have hxs2 : Hid (xs ++ [at'] = offL (3 + (11 - rate) / 2) 32 64 300 0) := by
        have h := hxs'.out
        rw [offL_end hlt] at h
        exact h
      clear hxs'
      go_wp2
      simp only [Exit.jump]
      go_ret2
      refine ⟨v', rfl, ?_, hb2⟩
      rw [← hxs2.out]
      exact hown2

/-- The bands of a rate, of a short window or a long one. -/
def bandL (rate : Int) (short : Bool) : List Int := offL (3 + (11 - rate) / 2) (if short then 32 else 256) (if short then 64 else 256) 300 0

def ROff (rate : Int) (short : Bool) (w : World) (e : Ending) (w' : World) : Prop :=
  ∃ v, e = .returned (.tuple #[v, .int .i64 0]) ∧ w'.ownsRow w.heap.size 3 1 v (bandL rate short).length ((bandL rate short).map (Value.int .i64)) ∧ Below w.heap.size w w'

/-- band.Offsets, of a rate that may be. -/
theorem offsets_ok (rate : Int) (short : Bool) (h0 : 0 ≤ rate) (h1 : rate ≤ 11) (w : World) :
    Calls Try.prog 32 #[.int .i64 rate, .bool short] w (ROff rate short w) := by
  cases short
  · exact off_L rate h0 h1 w
  · exact off_S rate h0 h1 w

/-- band.Offsets, of another one. -/
theorem offsets_bad (rate : Int) (short : Bool) (h : rate < 0 ∨ 11 < rate) (w : World) :
    Calls Try.prog 32 #[.int .i64 rate, .bool short] w fun e w' => e = .returned (.tuple #[.slice none 0 0, .int .i64 2]) ∧ w = w' := by
  rcases h with h | h
  all_goals
    go_enter Try.func32, Try.ntmps32
    go_wp2
    go_step3
    go_wp2
    rw [Exit.noGoto_ret]
    go_ret2
    exact ⟨rfl, rfl⟩

end Go.Proofs.Ytppfbfiigfjncaa
/- The bands of every rate, by computation. -/
namespace Go.Proofs.Ytppfbfiigfjncaa

def risesAt (l : List Int) (i : Nat) : Bool :=
  decide (l.getD (i - 1) 0 < l.getD i 0) && decide (l.getD i 0 % 4 = 0) && decide (0 ≤ l.getD (i - 1) 0) && decide (l.getD i 0 ≤ 256) &&
    (decide (i < 2) || decide (l.length ≤ i + 1) || decide (l.getD (i - 1) 0 - l.getD (i - 2) 0 ≤ l.getD i 0 - l.getD (i - 1) 0 ∧ 0 ≤ l.getD (i - 2) 0 ∧ l.getD (i - 2) 0 ≤ 256))
def bandGood (r : Nat) (short : Bool) : Bool :=
  let l := bandL r short
  decide (2 ≤ l.length) && decide (l.length ≤ (if short then 16 else 41)) && decide (l.getD 0 0 = 0) && decide (l.getD (l.length - 1) 0 = if short then 32 else 256) && (List.range l.length).all fun i => i == 0 || risesAt l i
theorem band_good : ∀ r : Fin 12, ∀ short : Bool, bandGood r short = true := by decide +kernel

theorem band_len (rate : Int) (short : Bool) (h0 : 0 ≤ rate) (h1 : rate ≤ 11) : 2 ≤ (bandL rate short).length ∧ (bandL rate short).length ≤ (if short then 16 else 41) ∧ (bandL rate short).getD 0 0 = 0 ∧ (bandL rate short).getD ((bandL rate short).length - 1) 0 = (if short then 32 else 256) ∧ ∀ i, 1 ≤ i → i < (bandL rate short).length → risesAt (bandL rate short) i = true := by
  obtain ⟨r, rfl⟩ : ∃ r : Nat, rate = r := ⟨rate.toNat, by omega⟩
  have h := band_good ⟨r, by omega⟩ short
  simp only [bandGood, Bool.and_eq_true, decide_eq_true_eq, List.all_eq_true, List.mem_range, Bool.or_eq_true, beq_iff_eq] at h
  obtain ⟨⟨⟨⟨a, b⟩, c⟩, d⟩, e⟩ := h
  exact ⟨a, b, c, d, fun i hi hl => (e i hl).resolve_left (by omega)⟩

/-- A greater rate's bands are at least as many, and begin no later. -/
def ratesGood (a b : Nat) (short : Bool) : Bool :=
  decide ((bandL a short).length ≤ (bandL b short).length) && (List.range (bandL a short).length).all fun i => decide ((bandL b short).getD i 0 ≤ (bandL a short).getD i 0)
theorem rates_good : ∀ b : Fin 12, ∀ a : Fin 12, ∀ short : Bool, a ≤ b → ratesGood a b short = true := by decide +kernel
theorem band_rates (a b : Int) (short : Bool) (h0 : 0 ≤ a) (h : a ≤ b) (h1 : b ≤ 11) : (bandL a short).length ≤ (bandL b short).length ∧ ∀ i, i < (bandL a short).length → (bandL b short).getD i 0 ≤ (bandL a short).getD i 0 := by
  obtain ⟨r, rfl⟩ : ∃ r : Nat, a = r := ⟨a.toNat, by omega⟩
  obtain ⟨s, rfl⟩ : ∃ r : Nat, b = r := ⟨b.toNat, by omega⟩
  have h := rates_good ⟨s, by omega⟩ ⟨r, by omega⟩ short (by simp [Fin.le_def]; omega)
  simp only [ratesGood, Bool.and_eq_true, decide_eq_true_eq, List.all_eq_true, List.mem_range] at h
  exact h
end Go.Proofs.Ytppfbfiigfjncaa
/- band.Many, band.Offsets by rows. -/
set_option linter.unusedVariables false
namespace Go.Proofs.Ytppfbfiigfjncaa
open Go.ChangeShapes Go.WideShapes Go.ChangeAt Go.RowKit

theorem band_lt (rate : Int) (short : Bool) (h0 : 0 ≤ rate) (h1 : rate ≤ 11) : ∀ j i, i < j → j < (bandL rate short).length → (bandL rate short).getD i 0 < (bandL rate short).getD j 0 := by
  obtain ⟨k1, k2, k3, k4, k5⟩ := band_len rate short h0 h1
  intro j
  induction j with
  | zero => intro i hi; omega
  | succ j ih =>
    intro i hi hj
    have hr := k5 (j + 1) (by omega) hj
    simp only [risesAt, Bool.and_eq_true, decide_eq_true_eq] at hr
    have h := hr.1.1.1.1
    rw [Nat.add_sub_cancel] at h
    by_cases e : i = j
    · rw [e]; exact h
    · exact Int.lt_trans (ih i (by omega) (by omega)) h
theorem band_le (rate : Int) (short : Bool) (h0 : 0 ≤ rate) (h1 : rate ≤ 11) (i j : Nat) (hi : i ≤ j) (hj : j < (bandL rate short).length) : (bandL rate short).getD i 0 ≤ (bandL rate short).getD j 0 := by
  rcases Nat.lt_or_ge i j with h | h
  · exact Int.le_of_lt (band_lt rate short h0 h1 j i h hj)
  · rw [show i = j by omega]; exact Int.le_refl _

/-- A line's band. -/
def InBand (rate : Int) (short : Bool) (x : Int) (j : Nat) : Prop := j + 1 < (bandL rate short).length ∧ (bandL rate short).getD j 0 ≤ x ∧ x < (bandL rate short).getD (j + 1) 0
theorem inBand_unique {rate : Int} {short : Bool} {x : Int} {i j : Nat} (h0 : 0 ≤ rate) (h1 : rate ≤ 11) (hi : InBand rate short x i) (hj : InBand rate short x j) : i = j := by
  obtain ⟨a1, a2, a3⟩ := hi
  obtain ⟨b1, b2, b3⟩ := hj
  rcases Nat.lt_trichotomy i j with h | h | h
  · have := band_le rate short h0 h1 (i + 1) j (by omega) (by omega); omega
  · exact h
  · have := band_le rate short h0 h1 (j + 1) i (by omega) (by omega); omega
def linesOf (short : Bool) : Int := if short then 32 else 256

theorem offsets_row (rate : Int) (short : Bool) (h0 : 0 ≤ rate) (h1 : rate ≤ 11) (w : World) :
    Calls Try.prog 32 #[.int .i64 rate, .bool short] w fun e w' => ∃ g cap, e = .returned (.tuple #[.slice (some ⟨g, 0, none⟩) (bandL rate short).length cap, .int .i64 0]) ∧ IsInts w' (some ⟨g, 0, none⟩) (bandL rate short) ∧ Below w.heap.size w w' ∧ w.heap.size ≤ g :=
  (offsets_ok rate short h0 h1 w).mono fun e w' ⟨v, he, ho, hb⟩ => by
    obtain ⟨g, cap, rfl, hg, hlt, hc⟩ := owns_at ho (by intro e; have := (band_len rate short h0 h1).1; simp [e] at this)
    exact ⟨g, cap, he, isInts_of hlt hc, hb, hg⟩

def RMany (rate : Int) (short : Bool) (w : World) (e : Ending) (w' : World) : Prop := e = .returned (.tuple #[.int .i64 ((bandL rate short).length - 1), .int .i64 0]) ∧ Below w.heap.size w w'
theorem many_ok (rate : Int) (short : Bool) (h0 : 0 ≤ rate) (h1 : rate ≤ 11) (w : World) :
    Calls Try.prog 56 #[.int .i64 rate, .bool short] w (RMany rate short w) := by
  obtain ⟨k1, k2, _, _, _⟩ := band_len rate short h0 h1
  have k2' : (bandL rate short).length ≤ 41 := Nat.le_trans k2 (by split <;> omega)
  clear k2
  go_enter Try.func56, Try.ntmps56
  go_wp2_with fail
  refine (offsets_row rate short h0 h1 _).mono ?_
  rintro e w1 ⟨g, cap, rfl, hi, hb, hg⟩
  clear hi
  go_wp2
  go_ret2
  exact ⟨rfl, hb⟩
theorem many_bad (rate : Int) (short : Bool) (h : rate < 0 ∨ 11 < rate) (w : World) :
    Calls Try.prog 56 #[.int .i64 rate, .bool short] w fun e w' => e = .returned (.tuple #[.int .i64 0, .int .i64 2]) ∧ w = w' := by
  go_enter Try.func56, Try.ntmps56
  go_wp2_with fail
  refine (offsets_bad rate short h _).mono ?_
  rintro e w1 ⟨rfl, rfl⟩
  go_wp2
  go_ret2
  exact ⟨rfl, rfl⟩

end Go.Proofs.Ytppfbfiigfjncaa
/- A variable of many cells. -/
set_option linter.unusedVariables false
namespace Go.Proofs.Ytppfbfiigfjncaa
open Go.ChangeShapes Go.WideShapes Go.ChangeAt Go.RowKit
def CellsAt (W : World) (g : Nat) (t : TypeId) (cs : Array Value) : Prop := W.heap[g]? = some (.cells cs t (0, 0))
section
variable {W : World} {g : Nat} {t : TypeId} {cs : Array Value}
theorem CellsAt.lt (h : CellsAt W g t cs) : g < W.heap.size := (Array.getElem?_eq_some_iff.1 h).1
theorem CellsAt.cell (h : CellsAt W g t cs) (j : Nat) : W.cell? ⟨g, j, none⟩ = cs[j]? := by simp [World.cell?, show W.heap[g]? = _ from h]
theorem CellsAt.frozen (h : CellsAt W g t cs) (i : Nat) : W.frozen? ⟨g, i, none⟩ = false := by simp [World.frozen?, show W.heap[g]? = _ from h]
theorem CellsAt.new (W : World) (t : TypeId) (cs : Array Value) {g : Nat} (hg : W.heap.size = g) : CellsAt (W.alloc (.cells cs t)) g t cs := by subst hg; show (W.heap.push _)[W.heap.size]? = _; simp
theorem CellsAt.keep {W' : World} {B : Nat} (h : CellsAt W g t cs) (hb : Below B W W') (hB : g < B) : CellsAt W' g t cs := (hb.block g hB).trans h
theorem CellsAt.alloc (h : CellsAt W g t cs) (o : Obj) : CellsAt (W.alloc o) g t cs := (Below.heap_alloc W o g h.lt).trans h
theorem CellsAt.other (h : CellsAt W g t cs) (p : Addr) (hp : g ≠ p.block) (u : Value) : CellsAt (W.setCell p u) g t cs := (Below.heap_setCell W p u g hp).trans h
theorem CellsAt.set (h : CellsAt W g t cs) (j : Nat) (u : Value) : CellsAt (W.setCell ⟨g, j, none⟩ u) g t (cs.setIfInBounds j u) := by
  obtain ⟨hlt, hk⟩ := Array.getElem?_eq_some_iff.1 h
  show (W.heap.modify g _)[g]? = _
  rw [Array.getElem?_eq_getElem (by rw [Array.size_modify]; exact hlt), Array.getElem_modify_self, hk]
  rfl
theorem CellsAt.drewN (h : CellsAt W g t cs) (n : Nat) : CellsAt (W.drewN n) g t cs := h
end
/-- A row of integers as the cells of a block. -/
def valsL (l : List Int) : Array Value := (l.map (Value.int .i64)).toArray
theorem valsL_get (l : List Int) {j : Nat} (h : j < l.length) : (valsL l)[j]? = some (.int .i64 (l.getD j 0)) := by
  simp [valsL, List.getD_eq_getElem?_getD, h]
theorem valsL_size (l : List Int) : (valsL l).size = l.length := by simp [valsL]
theorem valsL_set (l : List Int) (j : Nat) (x : Int) : (valsL l).setIfInBounds j (.int .i64 x) = valsL (l.set j x) := by
  simp [valsL]
theorem CellsAt.ints {W : World} {g : Nat} {t : TypeId} {l : List Int} (h : CellsAt W g t (valsL l)) : IsInts W (some ⟨g, 0, none⟩) l := isInts_of h.lt (fun j hj => by rw [h.cell, valsL_get l hj])
theorem CellsAt.int {W : World} {g : Nat} {t : TypeId} {l : List Int} (h : CellsAt W g t (valsL l)) {j : Nat} (hj : j < l.length) : W.cell? ⟨g, j, none⟩ = some (.int .i64 (l.getD j 0)) := by rw [h.cell, valsL_get l hj]
theorem CellsAt.setRow {W : World} {g : Nat} {t : TypeId} {cs : Array Value} (h : CellsAt W g t cs) (cs' : Array Value) : CellsAt (W.setRow g cs') g t cs' := setRow_heap W g cs cs' t _ h
theorem CellsAt.otherRow {W : World} {g k : Nat} {t : TypeId} {cs : Array Value} (h : CellsAt W g t cs) (hk : g ≠ k) (cs' : Array Value) : CellsAt (W.setRow k cs') g t cs := (setRow_other W k g cs' hk).trans h
theorem below_setRow {B : Nat} {w W : World} (h : Below B w W) {g : Nat} (hg : B ≤ g) (cs : Array Value) : Below B w (W.setRow g cs) := h.trans ⟨rfl, rfl, rfl, by simp, fun k hk => setRow_other W g k cs (by omega)⟩
/-- The whole of it, as the walk asks. -/
theorem CellsAt.load {P : Program} {W : World} {g : Nat} {t : TypeId} {cs : Array Value} (h : CellsAt W g t cs) {n : Nat} (hn : cs.size = n) : (loadCellsFrom ⟨g, 0, none⟩ 0 n #[]).run P W = .ok cs W := by
  subst hn
  have := run_loadCells_list (P := P) W ⟨g, 0, none⟩ cs.toList (fun j v hv => by
    have hadd : (⟨g, 0, none⟩ : Addr).add j = ⟨g, j, none⟩ := by unfold Addr.add; split <;> simp_all
    rw [hadd, h.cell j]
    simpa using hv)
  simpa [loadCells] using this
theorem CellsAt.store {P : Program} {W : World} {g : Nat} {t ty : TypeId} {cs : Array Value} (h : CellsAt W g t cs) (cs' : Array Value) (hi : (P.info? ty).map (·.size) = some cs'.size) (ho : cs.size = cs'.size) (h1 : cs'.all (·.oneCell') = true) : (storeCells ⟨g, 0, none⟩ cs'.toList 0).run P W = .ok () (W.setRow g cs') := by
  have := run_storeVar_row (P := P) W g t ty cs cs' h hi ho h1
  cases hq : P.info? ty with
  | none => simp [hq] at hi
  | some i =>
    have hs : cs'.size = i.size := by simp [hq] at hi; omega
    simpa [storeVar, sizeOf, typeInfo, hq, Value.cells, hs] using this
theorem valsL_one (l : List Int) : (valsL l).all (·.oneCell') = true := by
  rw [Array.all_eq_true_iff_forall_mem]
  intro v hv
  simp [valsL] at hv
  obtain ⟨x, _, rfl⟩ := hv
  rfl
/-- Cells written one behind the other. -/
def setAll (W : World) (g : Nat) : List Value → Nat → World
  | [], _ => W
  | v :: vs, i => setAll (W.setCell ⟨g, i, none⟩ v) g vs (i + 1)
def setVals (cs : Array Value) : List Value → Nat → Array Value
  | [], _ => cs
  | v :: vs, i => setVals (cs.setIfInBounds i v) vs (i + 1)
theorem setVals_size : ∀ (vs : List Value) (cs : Array Value) (i : Nat), (setVals cs vs i).size = cs.size
  | [], _, _ => rfl
  | v :: vs, cs, i => by rw [setVals, setVals_size vs]; simp
theorem setVals_get : ∀ (vs : List Value) (cs : Array Value) (i j : Nat), j < cs.size → (setVals cs vs i)[j]? = if i ≤ j ∧ j < i + vs.length then vs[j - i]? else cs[j]?
  | [], cs, i, j, hj => by rw [setVals, if_neg (by simp only [List.length_nil]; omega)]
  | v :: vs, cs, i, j, hj => by
    rw [setVals, setVals_get vs _ _ _ (by simpa using hj)]
    simp only [List.length_cons]
    by_cases h1 : i + 1 ≤ j ∧ j < i + 1 + vs.length
    · rw [if_pos h1, if_pos (by omega), show j - i = (j - (i + 1)) + 1 by omega, List.getElem?_cons_succ]
    · rw [if_neg h1]
      by_cases h2 : j = i
      · subst h2; rw [if_pos (by omega), Nat.sub_self, List.getElem?_cons_zero, Array.getElem?_setIfInBounds_self_of_lt hj]
      · rw [if_neg (by omega), Array.getElem?_setIfInBounds_ne (by omega)]
theorem CellsAt.setAll {g : Nat} {t : TypeId} : ∀ (vs : List Value) {W : World} {cs : Array Value} (i : Nat), CellsAt W g t cs → CellsAt (setAll W g vs i) g t (setVals cs vs i)
  | [], _, _, _, h => h
  | v :: vs, _, _, i, h => CellsAt.setAll vs (i + 1) (h.set i v)
theorem CellsAt.otherAll {g k : Nat} {t : TypeId} (hk : g ≠ k) {cs : Array Value} : ∀ (vs : List Value) {W : World} (i : Nat), CellsAt W g t cs → CellsAt (Go.Proofs.Ytppfbfiigfjncaa.setAll W k vs i) g t cs
  | [], _, _, h => h
  | v :: vs, _, i, h => CellsAt.otherAll hk vs (i + 1) (h.other ⟨k, i, none⟩ hk v)
theorem below_setAll {B : Nat} {w : World} {g : Nat} (hg : B ≤ g) : ∀ (vs : List Value) {W : World} (i : Nat), Below B w W → Below B w (setAll W g vs i)
  | [], _, _, h => h
  | v :: vs, _, i, h => below_setAll hg vs (i + 1) (h.setCell (p := ⟨g, i, none⟩) hg v)
theorem setVals_whole (cs : Array Value) (l : List Int) (h : cs.size = l.length) : setVals cs (l.map (Value.int .i64)) 0 = valsL l := by
  apply Array.ext_getElem?
  intro j
  by_cases hj : j < cs.size
  · rw [setVals_get _ _ _ _ hj, if_pos (by simp; omega), Nat.sub_zero]
    simp [valsL]
  · rw [Array.getElem?_eq_none (by rw [setVals_size]; omega), Array.getElem?_eq_none (by rw [valsL_size]; omega)]
theorem twelve {L : List Int} (h : L.length = 12) : ∃ x0 x1 x2 x3 x4 x5 x6 x7 x8 x9 x10 x11, L = [x0, x1, x2, x3, x4, x5, x6, x7, x8, x9, x10, x11] := by
  match L, h with
  | [x0, x1, x2, x3, x4, x5, x6, x7, x8, x9, x10, x11], _ => exact ⟨x0, x1, x2, x3, x4, x5, x6, x7, x8, x9, x10, x11, rfl⟩
end Go.Proofs.Ytppfbfiigfjncaa
/- info.grouped: what a call answers. -/
set_option linter.unusedVariables false
set_option linter.unusedSimpArgs false
namespace Go.Proofs.Ytppfbfiigfjncaa
open Go.ChangeShapes Go.WideShapes Go.ChangeAt Go.RowKit

abbrev infoC (seq shape max : Int) (pg : Option Addr) (ng cg : Nat) : Array Value := #[.int .u8 seq, .int .u8 shape, .int .i64 max, .slice pg ng cg]
/-- The sum of the first so many. -/
def sumG (G : List Int) : Nat → Int
  | 0 => 0
  | n + 1 => sumG G n + G.getD n 0
def okG (x : Int) : Bool := decide (1 ≤ x) && decide (x ≤ 8)
def grpB (seq : Int) (G : List Int) : Bool := if seq = 2 then G.all okG && (decide (sumG G G.length = 8) && decide (G.length ≤ 8)) else decide (G = [1])
theorem sumG_fit (G : List Int) : ∀ n, n ≤ G.length → (∀ j, j < n → okG (G.getD j 0) = true) → 0 ≤ sumG G n ∧ sumG G n ≤ 8 * n
  | 0, _, _ => by simp [sumG]
  | n + 1, hn, h => by
    have ih := sumG_fit G n (by omega) (fun j hj => h j (by omega))
    have h1 := h n (by omega)
    rw [sumG]
    generalize G.getD n 0 = x at *
    unfold okG at h1
    simp at h1
    omega
def RGrp (b : Bool) (w : World) (e : Ending) (w' : World) : Prop := e = .returned (.bool b) ∧ Below w.heap.size w w'
theorem all_step {G : List Int} (h : ∀ j, j < G.length → okG (G.getD j 0) = true) : G.all okG = true := by
  rw [List.all_eq_true]
  intro x hx
  obtain ⟨i, hi, rfl⟩ := List.getElem_of_mem hx
  have := h i hi
  simpa [List.getD_eq_getElem?_getD, hi] using this
theorem all_not {G : List Int} {k : Nat} (hk : k < G.length) (h : okG (G.getD k 0) = false) : G.all okG = false := by
  rw [List.all_eq_false]
  exact ⟨G[k], List.getElem_mem hk, by simpa [List.getD_eq_getElem?_getD, hk] using h⟩
set_option maxRecDepth 100000 in
set_option maxHeartbeats 4000000 in
theorem grouped_ok (seq shape max : Int) (G : List Int) (pg : Option Addr) (cg : Nat) (w : World) (hG : IsInts w pg G) (hl : G.length ≤ 100) :
    Calls Try.prog 57 #[.agg (infoC seq shape max pg G.length cg)] w (RGrp (grpB seq G) w) := by
  have hb0 : Below w.heap.size w (w.alloc (.cells (infoC seq shape max pg G.length cg) 27)) := (Below.refl _ w).alloc (Nat.le_refl _) _
  have X0 := Lib.hid (CellsAt.new w 27 (infoC seq shape max pg G.length cg) rfl)
  have HG := Lib.hid (hG.keep hb0)
  by_cases hs : seq = 2
  · subst hs
    obtain ⟨bb, hbb⟩ : ∃ b, grpB 2 G = b := ⟨_, rfl⟩
    have HB := Lib.hid hbb
    rw [hbb]
    clear hG hbb
    unfold RGrp
    go_enter Try.func57, Try.ntmps57
    go_wp2_with fail
    go_loop [3, 16] (fun S K => ∃ k : Nat, K = .int .i64 k ∧ k ≤ G.length ∧ S = .int .i64 (sumG G k) ∧ Hid (∀ j, j < k → okG (G.getD j 0) = true)) (fun _ K => G.length - (intOf K).toNat)
    case atStart => exact ⟨0, rfl, Nat.zero_le _, rfl, fun j hj => by omega⟩
    case round =>
      obtain ⟨k, rfl, hk, rfl, hall⟩ := hrel
      have hfit := sumG_fit G k hk hall.out
      by_cases hlt : k < G.length
      · obtain ⟨b, off, rfl, _, hc⟩ := HG.out.at hlt
        have h1 := hc k hlt
        have hsucc : sumG G (k + 1) = sumG G k + G.getD k 0 := rfl
        have HSU := Lib.hid hsucc
        cases hok : okG (G.getD k 0)
        · have HN := Lib.hid (all_not hlt hok)
          clear hc hsucc HSU
          generalize G.getD k 0 = x at h1 hok
          have hx : x < 1 ∨ 8 < x := by
            unfold okG at hok; simp at hok; omega
          clear hok
          have HX := Lib.hid hx
          by_cases c1 : x < 1
          · have e1 : decide (x < 1) = true := decide_eq_true c1
            clear hx
            go_wp2
            go_ret
            exact ⟨ret_bool (by rw [← HB.out]; unfold grpB; rw [HN.out]; simp), hb0⟩
          · have e1 : decide (x < 1) = false := decide_eq_false c1
            have e2 : decide (x > 8) = true := decide_eq_true (by omega)
            clear hx
            go_wp2
            go_ret
            exact ⟨ret_bool (by rw [← HB.out]; unfold grpB; rw [HN.out]; simp), hb0⟩
        · have hok2 := Lib.hid hok
          clear hc hsucc
          obtain ⟨x, hxe⟩ : ∃ x, G.getD k 0 = x := ⟨_, rfl⟩
          rw [hxe] at h1 HSU hok
          have hx : 1 ≤ x ∧ x ≤ 8 := by
            unfold okG at hok; simp at hok; omega
          clear hok
          have HXE := Lib.hid hxe
          have e1 : decide (x < 1) = false := decide_eq_false (by omega)
          have e2 : decide (x > 8) = false := decide_eq_false (by omega)
          have e3 : IntKind.i64.wrap (sumG G k + x) = sumG G k + x := IntWalk.i64_in _ (by omega)
          clear hxe
          go_wp2
          go_round
          case rel => exact ⟨k + 1, by go_num, hlt, by rw [HSU.out], fun j hj => by
            by_cases e : j = k
            · rw [e]; exact hok2.out
            · exact hall.out j (by omega)⟩
          case measure => simp [intOf]; omega
      · have hkM : k = G.length := by omega
        subst hkM
        have HA := Lib.hid (all_step hall.out)
        clear hall
        have HSF := Lib.hid hfit
        clear hfit
        obtain ⟨S, hS⟩ : ∃ s, sumG G G.length = s := ⟨_, rfl⟩
        have HSE := Lib.hid hS
        rw [hS]
        clear hS
        by_cases c1 : S = 8
        · have e1 : (S == 8) = true := by simpa using c1
          have C1 := Lib.hid c1
          clear c1
          by_cases c2 : G.length ≤ 8
          · have e2 : decide ((G.length : Int) ≤ 8) = true := decide_eq_true (by omega)
            go_wp2
            go_ret
            exact ⟨ret_bool (by rw [← HB.out]; unfold grpB; rw [if_pos rfl, HA.out, HSE.out, decide_eq_true C1.out, decide_eq_true c2]; rfl), hb0⟩
          · have e2 : decide ((G.length : Int) ≤ 8) = false := decide_eq_false (by omega)
            go_wp2
            go_ret
            exact ⟨ret_bool (by rw [← HB.out]; unfold grpB; rw [if_pos rfl, HA.out, HSE.out, decide_eq_true C1.out, decide_eq_false c2]; rfl), hb0⟩
        · have e1 : (S == 8) = false := by simpa using c1
          have C1 := Lib.hid c1
          clear c1
          go_wp2
          go_ret
          exact ⟨ret_bool (by rw [← HB.out]; unfold grpB; rw [if_pos rfl, HA.out, HSE.out, decide_eq_false C1.out]; rfl), hb0⟩
  · obtain ⟨bb, hbb⟩ : ∃ b, grpB seq G = b := ⟨_, rfl⟩
    have HB := Lib.hid hbb
    rw [hbb]
    have hs2 : (seq != 2) = true := by simpa using hs
    have HS := Lib.hid hs
    clear hG hbb hs
    unfold RGrp
    go_enter Try.func57, Try.ntmps57
    go_wp2_with fail
    have hb1 := hb0.alloc hb0.size (.cells #[.int .i64 1] 3)
    have hI1 : IsInts ((w.alloc (.cells (infoC seq shape max pg G.length cg) 27)).alloc (.cells #[.int .i64 1] 3)) (some ⟨w.heap.size + 1, 0, none⟩) [1] := (CellsAt.new (w.alloc (.cells (infoC seq shape max pg G.length cg) 27)) 3 (valsL [1]) (by simp)).ints
    refine (eq_any pg (some ⟨w.heap.size + 1, 0, none⟩) G [1] cg 1 _ (HG.out.keep ((Below.refl _ _).alloc (Nat.le_refl _) _)) hI1 (by unfold maxLen; omega) (by unfold maxLen; decide)).mono ?_
    rintro e w1 ⟨rfl, n, rfl⟩
    have hb2 := below_drewN hb1 n
    clear hI1 hb1 hb0 X0 HG
    go_wp2
    go_ret
    exact ⟨ret_bool (by rw [← HB.out]; unfold grpB; rw [if_neg HS.out]), hb2⟩
end Go.Proofs.Ytppfbfiigfjncaa
/- info.Check, info.some, info.Windows: what each call answers. -/
set_option linter.unusedVariables false
set_option linter.unusedSimpArgs false
namespace Go.Proofs.Ytppfbfiigfjncaa
open Go.ChangeShapes Go.WideShapes Go.ChangeAt Go.RowKit

/-- May windows be, at a rate that may be? -/
def mayB (rate seq shape max : Int) (G : List Int) : Bool := !(decide (3 < seq) || (decide (1 < shape) || (decide (max < 0) || (decide ((bandL rate (seq == 2)).length - 1 < max) || !grpB seq G))))
def infoE (rate seq shape max : Int) (G : List Int) : Int := if rate < 0 ∨ 11 < rate then 2 else if mayB rate seq shape max G then 0 else 8
def RE (c : Int) (w : World) (e : Ending) (w' : World) : Prop := e = .returned (.int .i64 c) ∧ Below w.heap.size w w'
set_option maxRecDepth 100000 in
set_option maxHeartbeats 4000000 in
theorem check_may (rate seq shape max : Int) (h0 : 0 ≤ rate) (h1 : rate ≤ 11) (G : List Int) (pg : Option Addr) (cg : Nat) (w : World) (hG : IsInts w pg G) (hl : G.length ≤ 100) :
    Calls Try.prog 38 #[.int .i64 rate, .agg (infoC seq shape max pg G.length cg)] w (RE (if mayB rate seq shape max G then 0 else 8) w) := by
  have hb0 : Below w.heap.size w (w.alloc (.cells (infoC seq shape max pg G.length cg) 27)) := (Below.refl _ w).alloc (Nat.le_refl _) _
  have X0 := Lib.hid (CellsAt.new w 27 (infoC seq shape max pg G.length cg) rfl)
  have HG := Lib.hid hG
  have HM := Lib.hid (fun W => many_ok rate (seq == 2) h0 h1 W)
  have HGR := Lib.hid (fun (W : World) (h : Below w.heap.size w W) => grouped_ok seq shape max G pg cg W (hG.keep h) hl)
  obtain ⟨k1, k2, _, _, _⟩ := band_len rate (seq == 2) h0 h1
  have k2' : (bandL rate (seq == 2)).length ≤ 41 := Nat.le_trans k2 (by split <;> omega)
  clear k2
  unfold mayB
  unfold RMany at HM
  unfold RGrp at HGR
  generalize grpB seq G = gb at *
  generalize (bandL rate (seq == 2)).length = many at *
  unfold RE
  obtain ⟨cc, hcc⟩ : ∃ c, (if (!(decide (3 < seq) || (decide (1 < shape) || (decide (max < 0) || (decide ((many : Int) - 1 < max) || !gb))))) = true then (0 : Int) else 8) = c := ⟨_, rfl⟩
  rw [hcc]
  have HCC := Lib.hid hcc
  clear hG hcc
  go_enter Try.func38, Try.ntmps38
  go_wp2_with fail
  refine (HM.out _).mono ?_
  rintro e w1 ⟨rfl, hB1⟩
  have hb1 := hb0.trans (hB1.mono hb0.size)
  have X1 := Lib.hid (X0.out.keep hB1 X0.out.lt)
  have HGC := Lib.hid (HGR.out _ hb1)
  have kx0 := X1.out.cell 0
  have kx1 := X1.out.cell 1
  have kx2 := X1.out.cell 2
  have kx3 := X1.out.cell 3
  simp only [List.getElem?_toArray, List.getElem?_cons_zero, List.getElem?_cons_succ] at kx0 kx1 kx2 kx3
  clear hB1 hb0 X0 HM HGR
  by_cases c1 : 3 < seq
  · have e1 : decide (seq > 3) = true := decide_eq_true c1
    go_wp2
    go_ret
    exact ⟨ret_int (by rw [← HCC.out]; simp [c1]), hb1⟩
  have e1 : decide (seq > 3) = false := decide_eq_false c1
  by_cases c2 : 1 < shape
  · have e2 : decide (shape > 1) = true := decide_eq_true c2
    go_wp2
    go_ret
    exact ⟨ret_int (by rw [← HCC.out]; simp [c2]), hb1⟩
  have e2 : decide (shape > 1) = false := decide_eq_false c2
  by_cases c3 : max < 0
  · have e3 : decide (max < 0) = true := decide_eq_true c3
    go_wp2
    go_ret
    exact ⟨ret_int (by rw [← HCC.out]; simp [c3]), hb1⟩
  have e3 : decide (max < 0) = false := decide_eq_false c3
  by_cases c4 : (many : Int) - 1 < max
  · have e4 : decide (max > (many : Int) - 1) = true := decide_eq_true c4
    go_wp2
    go_ret
    exact ⟨ret_int (by rw [← HCC.out]; simp [c4]), hb1⟩
  have e4 : decide (max > (many : Int) - 1) = false := decide_eq_false c4
  have C := Lib.hid (And.intro c1 (And.intro c2 (And.intro c3 c4)))
  clear c1 c2 c3 c4
  go_wp2_with fail
  refine HGC.out.mono ?_
  rintro e w2 ⟨rfl, hB2⟩
  have hb2 := hb1.trans (hB2.mono hb1.size)
  clear hB2 hb1 X1 kx0 kx1 kx2 kx3 HGC
  cases gb
  · go_wp2
    go_ret
    exact ⟨ret_int (by rw [← HCC.out]; simp), hb2⟩
  · go_wp2
    go_ret
    exact ⟨ret_int (by rw [← HCC.out]; obtain ⟨c1, c2, c3, c4⟩ := C.out; simp [c1, c2, c3, c4]), hb2⟩
set_option maxRecDepth 100000 in
theorem check_rate (rate seq shape max : Int) (h : rate < 0 ∨ 11 < rate) (pg : Option Addr) (ng cg : Nat) (w : World) :
    Calls Try.prog 38 #[.int .i64 rate, .agg (infoC seq shape max pg ng cg)] w (RE 2 w) := by
  have hb0 : Below w.heap.size w (w.alloc (.cells (infoC seq shape max pg ng cg) 27)) := (Below.refl _ w).alloc (Nat.le_refl _) _
  have HM := Lib.hid (fun W => many_bad rate (seq == 2) h W)
  clear h
  unfold RE
  go_enter Try.func38, Try.ntmps38
  go_wp2_with fail
  refine (HM.out _).mono ?_
  rintro e w1 ⟨rfl, rfl⟩
  go_wp2
  go_ret
  exact ⟨rfl, hb0⟩
theorem info_check (rate seq shape max : Int) (G : List Int) (pg : Option Addr) (cg : Nat) (w : World) (hG : IsInts w pg G) (hl : G.length ≤ 100) :
    Calls Try.prog 38 #[.int .i64 rate, .agg (infoC seq shape max pg G.length cg)] w (RE (infoE rate seq shape max G) w) := by
  unfold infoE
  by_cases h : rate < 0 ∨ 11 < rate
  · rw [if_pos h]; exact check_rate rate seq shape max h pg G.length cg w
  · rw [if_neg h]; exact check_may rate seq shape max (by omega) (by omega) G pg cg w hG hl
set_option maxRecDepth 100000 in
theorem info_some (seq shape max : Int) (G : List Int) (pg : Option Addr) (cg : Nat) (w : World) (hG : IsInts w pg G) (hl : G.length ≤ 100) :
    Calls Try.prog 31 #[.agg (infoC seq shape max pg G.length cg)] w fun e w' => e = .returned (.bool (mayB 11 seq shape max G)) ∧ Below w.heap.size w w' := by
  have hb0 : Below w.heap.size w (w.alloc (.cells (infoC seq shape max pg G.length cg) 27)) := (Below.refl _ w).alloc (Nat.le_refl _) _
  have HC := Lib.hid (fun (W : World) (h : Below w.heap.size w W) => check_may 11 seq shape max (by decide) (by decide) G pg cg W (hG.keep h) hl)
  clear hG
  unfold RE at HC
  generalize mayB 11 seq shape max G = b at *
  go_enter Try.func31, Try.ntmps31
  go_wp2_with fail
  refine (HC.out _ hb0).mono ?_
  rintro e w1 ⟨rfl, hB⟩
  have hb1 := hb0.trans (hB.mono hb0.size)
  clear hB hb0 HC
  cases b
  · go_wp2
    go_ret
    exact ⟨rfl, hb1⟩
  · go_wp2
    go_ret
    exact ⟨rfl, hb1⟩
/-- How many windows. -/
def winN (seq : Int) : Nat := if seq = 2 then 8 else 1
set_option maxRecDepth 100000 in
theorem info_windows (seq shape max : Int) (G : List Int) (pg : Option Addr) (cg : Nat) (w : World) (hG : IsInts w pg G) (hl : G.length ≤ 100) :
    Calls Try.prog 19 #[.agg (infoC seq shape max pg G.length cg)] w fun e w' => e = .returned (.tuple #[.int .i64 (if mayB 11 seq shape max G then (winN seq : Int) else 0), .int .i64 (if mayB 11 seq shape max G then 0 else 8)]) ∧ Below w.heap.size w w' := by
  have hb0 : Below w.heap.size w (w.alloc (.cells (infoC seq shape max pg G.length cg) 27)) := (Below.refl _ w).alloc (Nat.le_refl _) _
  have X0 := Lib.hid (CellsAt.new w 27 (infoC seq shape max pg G.length cg) rfl)
  have HC := Lib.hid (fun (W : World) (h : Below w.heap.size w W) => info_some seq shape max G pg cg W (hG.keep h) hl)
  clear hG
  generalize mayB 11 seq shape max G = b at *
  go_enter Try.func19, Try.ntmps19
  go_wp2_with fail
  refine (HC.out _ hb0).mono ?_
  rintro e w1 ⟨rfl, hB⟩
  have hb1 := hb0.trans (hB.mono hb0.size)
  have X1 := Lib.hid (X0.out.keep hB X0.out.lt)
  have kx0 := X1.out.cell 0
  simp only [List.getElem?_toArray, List.getElem?_cons_zero, List.getElem?_cons_succ] at kx0
  clear hB hb0 HC X0
  cases b
  · go_wp2
    go_ret2
    exact ⟨rfl, hb1⟩
  · by_cases hs : seq = 2
    · subst hs
      go_wp2
      go_ret2
      exact ⟨rfl, hb1⟩
    · have e1 : (seq == 2) = false := by simpa using hs
      have HS := Lib.hid hs
      clear hs
      go_wp2
      go_ret2
      exact ⟨by simp [winN, HS.out], hb1⟩
end Go.Proofs.Ytppfbfiigfjncaa
/- info.Group: what a call answers, of a window that there is. -/
set_option linter.unusedVariables false
set_option linter.unusedSimpArgs false
namespace Go.Proofs.Ytppfbfiigfjncaa
open Go.ChangeShapes Go.WideShapes Go.ChangeAt Go.RowKit

/-- Which group's window it is. -/
def grpOf : List Int → Int → Nat
  | [], _ => 0
  | x :: l, w => if w < x then 0 else grpOf l (w - x) + 1
/-- Windows that may be at some rate: their groups. -/
theorem may_groups {seq shape max : Int} {G : List Int} (h : mayB 11 seq shape max G = true) : (∀ j, j < G.length → 1 ≤ G.getD j 0 ∧ G.getD j 0 ≤ 8) ∧ sumG G G.length = winN seq ∧ G.length ≤ 8 := by
  unfold mayB at h
  simp at h
  have hg := h.2.2.2.2
  unfold grpB at hg
  by_cases hs : seq = 2
  · rw [if_pos hs] at hg
    simp at hg
    obtain ⟨h1, h2, h3⟩ := hg
    refine ⟨fun j hj => ?_, by rw [h2, winN, if_pos hs]; rfl, h3⟩
    have := h1 (G.getD j 0) (by rw [List.getD_eq_getElem?_getD, List.getElem?_eq_getElem hj]; exact List.getElem_mem hj)
    unfold okG at this
    simp at this
    rw [List.getD_eq_getElem?_getD]
    exact this
  · rw [if_neg hs] at hg
    have hg : G = [1] := by simpa using hg
    subst hg
    refine ⟨fun j hj => ?_, by rw [winN, if_neg hs]; rfl, by decide⟩
    obtain rfl : j = 0 := by simpa using hj
    decide
theorem grpOf_step {G : List Int} {k : Nat} (hk : k < G.length) (l : Int) : grpOf (G.drop k) l = if l < G.getD k 0 then 0 else grpOf (G.drop (k + 1)) (l - G.getD k 0) + 1 := by
  have hd : G.drop k = G.getD k 0 :: G.drop (k + 1) := by rw [List.drop_eq_getElem_cons hk]; simp [List.getD_eq_getElem?_getD, hk]
  rw [hd]; rfl
set_option maxRecDepth 100000 in
set_option maxHeartbeats 4000000 in
theorem info_group (seq shape max : Int) (G : List Int) (pg : Option Addr) (cg : Nat) (window : Int) (w : World) (hG : IsInts w pg G) (hl : G.length ≤ 100) (hm : mayB 11 seq shape max G = true) (h0 : 0 ≤ window) (h1 : window < winN seq) :
    Calls Try.prog 21 #[.agg (infoC seq shape max pg G.length cg), .int .i64 window] w fun e w' => e = .returned (.tuple #[.int .i64 (grpOf G window : Nat), .int .i64 0]) ∧ Below w.heap.size w w' := by
  have hb0 : Below w.heap.size w (w.alloc (.cells (infoC seq shape max pg G.length cg) 27)) := (Below.refl _ w).alloc (Nat.le_refl _) _
  have X0 := Lib.hid (CellsAt.new w 27 (infoC seq shape max pg G.length cg) rfl)
  obtain ⟨hg1, hg2, hg3⟩ := may_groups hm
  have HC := Lib.hid (fun (W : World) (h : Below w.heap.size w W) => info_windows seq shape max G pg cg W (hG.keep h) hl)
  rw [hm] at HC
  simp only [if_true] at HC
  have hw8 : winN seq ≤ 8 := by unfold winN; split <;> omega
  have HG := Lib.hid (fun (W : World) (h : Below w.heap.size w W) => hG.keep h)
  have HG1 := Lib.hid hg1
  obtain ⟨gr, hgr⟩ : ∃ g, grpOf G window = g := ⟨_, rfl⟩
  rw [hgr]
  have HGR := Lib.hid hgr
  obtain ⟨many, hmany⟩ : ∃ m, winN seq = m := ⟨_, rfl⟩
  rw [hmany] at HC hg2 h1 hw8
  have d0 : decide (window < 0) = false := decide_eq_false (by omega)
  have d1 : decide (window ≥ (many : Int)) = false := decide_eq_false (by omega)
  clear hG hm hgr hmany hg1
  go_enter Try.func21, Try.ntmps21
  go_wp2_with fail
  refine (HC.out _ hb0).mono ?_
  rintro e w1 ⟨rfl, hB⟩
  have hb1 := hb0.trans (hB.mono hb0.size)
  have X1 := Lib.hid (X0.out.keep hB X0.out.lt)
  have kx3 := X1.out.cell 3
  simp only [List.getElem?_toArray, List.getElem?_cons_zero, List.getElem?_cons_succ] at kx3
  have HG2 := Lib.hid (HG.out _ hb1)
  clear hB hb0 HC X0 HG
  go_wp2_with fail
  clear d0 d1
  go_loop [8, 9] (fun K V => ∃ k : Nat, K = .int .i64 k ∧ k < G.length ∧ V = .int .i64 (window - sumG G k) ∧ sumG G k ≤ window ∧ 0 ≤ sumG G k ∧ Hid (gr = k + grpOf (G.drop k) (window - sumG G k))) (fun K _ => G.length - (intOf K).toNat)
  case atStart =>
    refine ⟨0, rfl, ?_, by simp [sumG], by simpa [sumG] using h0, Int.le_refl _, Lib.hid (by rw [← HGR.out]; simp [sumG])⟩
    rcases Nat.eq_zero_or_pos G.length with h | h
    · rw [h] at hg2; simp [sumG] at hg2; omega
    · exact h
  case round =>
    obtain ⟨k, rfl, hlt, rfl, hs, hs0, hR⟩ := hrel
    obtain ⟨b, off, rfl, _, hc⟩ := HG2.out.at hlt
    have r1 := hc k hlt
    have hx := HG1.out k hlt
    have hst := grpOf_step hlt (window - sumG G k)
    have hsucc : sumG G (k + 1) = sumG G k + G.getD k 0 := rfl
    have HST := Lib.hid hst
    have HSU := Lib.hid hsucc
    have hlast : k + 1 = G.length → sumG G k + G.getD k 0 = many := fun h => by rw [← hsucc, h, hg2]
    have HLAST := Lib.hid hlast
    clear hc hst hsucc hlast
    generalize G.getD k 0 = x at r1 hx HST HSU HLAST
    obtain ⟨S, hS⟩ : ∃ S, sumG G k = S := ⟨_, rfl⟩
    rw [hS] at HST HSU HLAST hs hs0 hR ⊢
    clear hS
    by_cases hcase : window - S < x
    · have d2 : decide (window - S ≥ x) = false := decide_eq_false (by omega)
      have HF : Hid (gr = k) := by have := hR.out; have h2 := HST.out; rw [if_pos hcase] at h2; show _ = _; omega
      clear hR HST HSU hcase
      go_wp2
      go_ret2
      exact ⟨by rw [HF.out]; rfl, hb1⟩
    · have d2 : decide (window - S ≥ x) = true := decide_eq_true (by omega)
      have v1 : IntKind.i64.wrap (window - S - x) = window - S - x := IntWalk.i64_in _ (by omega)
      have hk2 : k + 1 < G.length := by
        rcases Nat.lt_or_ge (k + 1) G.length with h | h
        · exact h
        · have := HLAST.out (by omega); omega
      have HN : Hid (gr = (k + 1 : Nat) + grpOf (G.drop (k + 1)) (window - sumG G (k + 1))) := by
        have := hR.out; have h2 := HST.out; rw [if_neg hcase] at h2
        show _ = _
        rw [HSU.out, show window - (S + x) = window - S - x by omega]
        omega
      have hfin : S + x ≤ window ∧ 0 ≤ S + x := by omega
      clear hR HST hcase HLAST
      go_wp2
      go_round
      case rel => exact ⟨k + 1, by go_num, hk2, by rw [HSU.out]; exact congrArg _ (by omega), by rw [HSU.out]; omega, by rw [HSU.out]; omega, HN⟩
      case measure => simp [intOf]; omega
end Go.Proofs.Ytppfbfiigfjncaa
/- Quantised lines, in plain numbers: the places, and what each round does. -/
set_option linter.unusedVariables false
namespace Go.Proofs.Ytppfbfiigfjncaa

/-- A line's place: its number, its group, its band. -/
structure Pl where
  n : Nat
  g : Nat
  b : Nat
/-- The places of one band's first so many lines. -/
def bandPl (w g b a : Nat) (k : Nat) : List Pl := (List.range k).map (fun i => ⟨32 * w + (a + i), g, b⟩)
def wideB (offs : List Int) (b : Nat) : Nat := (offs.getD (b + 1) 0 - offs.getD b 0).toNat
def winPl (offs : List Int) (G : List Int) (w : Nat) : Nat → List Pl
  | 0 => []
  | b + 1 => winPl offs G w b ++ bandPl w (grpOf G w) b (offs.getD b 0).toNat (wideB offs b)
def allPl (offs : List Int) (G : List Int) (mx : Nat) : Nat → List Pl
  | 0 => []
  | w + 1 => allPl offs G mx w ++ winPl offs G w mx
theorem bandPl_succ (w g b a k : Nat) : bandPl w g b a (k + 1) = bandPl w g b a k ++ [⟨32 * w + (a + k), g, b⟩] := by
  unfold bandPl; rw [List.range_succ, List.map_append]; rfl
theorem mem_bandPl {w g b a k : Nat} {p : Pl} (h : p ∈ bandPl w g b a k) : ∃ i, i < k ∧ p = ⟨32 * w + (a + i), g, b⟩ := by
  unfold bandPl at h
  obtain ⟨i, hi, rfl⟩ := List.mem_map.1 h
  exact ⟨i, List.mem_range.1 hi, rfl⟩
theorem mem_winPl {offs G : List Int} {w : Nat} {p : Pl} : ∀ {m : Nat}, p ∈ winPl offs G w m → ∃ b i, b < m ∧ i < wideB offs b ∧ p = ⟨32 * w + ((offs.getD b 0).toNat + i), grpOf G w, b⟩
  | 0, h => by cases h
  | m + 1, h => by
    rcases List.mem_append.1 h with h | h
    · obtain ⟨b, i, hb, hi, e⟩ := mem_winPl h
      exact ⟨b, i, by omega, hi, e⟩
    · obtain ⟨i, hi, e⟩ := mem_bandPl h
      exact ⟨m, i, by omega, hi, e⟩
theorem mem_allPl {offs G : List Int} {mx : Nat} {p : Pl} : ∀ {m : Nat}, p ∈ allPl offs G mx m → ∃ w b i, w < m ∧ b < mx ∧ i < wideB offs b ∧ p = ⟨32 * w + ((offs.getD b 0).toNat + i), grpOf G w, b⟩
  | 0, h => by cases h
  | m + 1, h => by
    rcases List.mem_append.1 h with h | h
    · obtain ⟨w, b, i, hw, hb, hi, e⟩ := mem_allPl h
      exact ⟨w, b, i, by omega, hb, hi, e⟩
    · obtain ⟨b, i, hb, hi, e⟩ := mem_winPl h
      exact ⟨m, b, i, by omega, hb, hi, e⟩
def sentB (k : Int) : Bool := decide (1 ≤ k) && decide (k ≤ 11)
def bookOf (Bk : List (List Int)) (p : Pl) : Int := (Bk.getD p.g []).getD p.b 0
/-- One round. -/
def stepQ (F : Int → Int → Int) (Bk St : List (List Int)) (L O : List Int) (p : Pl) : List Int :=
  if sentB (bookOf Bk p) then O.set p.n (F (L.getD p.n 0) (bookOf St p)) else O
theorem stepQ_len (F : Int → Int → Int) (Bk St : List (List Int)) (L O : List Int) (p : Pl) : (stepQ F Bk St L O p).length = O.length := by
  unfold stepQ; split
  · rw [List.length_set]
  · rfl
theorem stepQ_at (F : Int → Int → Int) (Bk St : List (List Int)) (L O : List Int) (p : Pl) (hp : p.n < O.length) : (stepQ F Bk St L O p).getD p.n 0 = if sentB (bookOf Bk p) then F (L.getD p.n 0) (bookOf St p) else O.getD p.n 0 := by
  unfold stepQ; split
  · rw [List.getD_eq_getElem?_getD, List.getElem?_set_self hp]; rfl
  · rfl
theorem stepQ_off (F : Int → Int → Int) (Bk St : List (List Int)) (L O : List Int) (p : Pl) {j : Nat} (hj : p.n ≠ j) : (stepQ F Bk St L O p).getD j 0 = O.getD j 0 := by
  unfold stepQ; split
  · rw [List.getD_eq_getElem?_getD, List.getElem?_set_ne hj, ← List.getD_eq_getElem?_getD]
  · rfl
def runQ (F : Int → Int → Int) (Bk St : List (List Int)) (L : List Int) (ps : List Pl) (O : List Int) : List Int := ps.foldl (stepQ F Bk St L) O
theorem runQ_len (F : Int → Int → Int) (Bk St : List (List Int)) (L : List Int) : ∀ (ps : List Pl) (O : List Int), (runQ F Bk St L ps O).length = O.length
  | [], O => rfl
  | p :: ps, O => by
    unfold runQ; rw [List.foldl_cons]
    exact (runQ_len F Bk St L ps _).trans (stepQ_len F Bk St L O p)
theorem runQ_snoc (F : Int → Int → Int) (Bk St : List (List Int)) (L : List Int) (ps : List Pl) (p : Pl) (O : List Int) : runQ F Bk St L (ps ++ [p]) O = stepQ F Bk St L (runQ F Bk St L ps O) p := by
  unfold runQ; rw [List.foldl_append]; rfl
theorem runQ_off (F : Int → Int → Int) (Bk St : List (List Int)) (L : List Int) {j : Nat} : ∀ (ps : List Pl) (O : List Int), (∀ p ∈ ps, p.n ≠ j) → (runQ F Bk St L ps O).getD j 0 = O.getD j 0
  | [], O, _ => rfl
  | p :: ps, O, h => by
    unfold runQ; rw [List.foldl_cons]
    have := runQ_off F Bk St L ps (stepQ F Bk St L O p) (fun q hq => h q (List.mem_cons_of_mem _ hq))
    unfold runQ at this
    rw [this, stepQ_off F Bk St L O p (h p List.mem_cons_self)]
theorem runQ_at (F : Int → Int → Int) (Bk St : List (List Int)) (L : List Int) : ∀ (ps : List Pl) (O : List Int), ps.Pairwise (fun a b => a.n ≠ b.n) → ∀ p ∈ ps, p.n < O.length → (runQ F Bk St L ps O).getD p.n 0 = if sentB (bookOf Bk p) then F (L.getD p.n 0) (bookOf St p) else O.getD p.n 0
  | [], O, _, p, h, _ => by cases h
  | q :: ps, O, hpw, p, h, hp => by
    obtain ⟨h1, h2⟩ := List.pairwise_cons.1 hpw
    unfold runQ; rw [List.foldl_cons]
    rcases List.mem_cons.1 h with rfl | h
    · have := runQ_off F Bk St L (j := p.n) ps (stepQ F Bk St L O p) (fun r hr e => h1 r hr e.symm)
      unfold runQ at this
      rw [this, stepQ_at F Bk St L O p hp]
    · have := runQ_at F Bk St L ps (stepQ F Bk St L O q) h2 p h (by rw [stepQ_len]; exact hp)
      unfold runQ at this
      rw [this, stepQ_off F Bk St L O q (fun e => h1 p h e)]
end Go.Proofs.Ytppfbfiigfjncaa
/- Quantised lines, in plain numbers: which place a line has, and what it becomes. -/
set_option linter.unusedVariables false
namespace Go.Proofs.Ytppfbfiigfjncaa

/-- Which place a line has. -/
def placeAt (ps : List Pl) (j : Nat) : Option Pl := ps.find? (fun p => p.n == j)
def valQ (F : Int → Int → Int) (Bk St : List (List Int)) (L : List Int) (j : Nat) : Option Pl → Int
  | some p => if sentB (bookOf Bk p) then F (L.getD j 0) (bookOf St p) else 0
  | none => 0
theorem runQ_val (F : Int → Int → Int) (Bk St : List (List Int)) (L : List Int) (ps : List Pl) (O : List Int) (hpw : ps.Pairwise (fun a b => a.n ≠ b.n)) (j : Nat) (hj : j < O.length) (h0 : O.getD j 0 = 0) :
    (runQ F Bk St L ps O).getD j 0 = valQ F Bk St L j (placeAt ps j) := by
  unfold placeAt
  cases hf : ps.find? (fun p => p.n == j) with
  | none =>
    rw [List.find?_eq_none] at hf
    rw [runQ_off F Bk St L ps O (fun p hp e => hf p hp (by simpa using e)), h0]; rfl
  | some p =>
    have hm := List.mem_of_find?_eq_some hf
    have hn : p.n = j := by simpa using List.find?_some hf
    subst hn
    rw [runQ_at F Bk St L ps O hpw p hm hj, h0]; rfl
theorem win_pairwise {offs G : List Int} {w m : Nat} (hmono : ∀ i j, i ≤ j → j ≤ m → offs.getD i 0 ≤ offs.getD j 0) (hpos : ∀ j, j ≤ m → 0 ≤ offs.getD j 0) :
    (winPl offs G w m).Pairwise (fun a b => a.n ≠ b.n) := by
  induction m with
  | zero => exact List.Pairwise.nil
  | succ m ih =>
    refine List.pairwise_append.2 ⟨ih (fun i j hi hj => hmono i j hi (by omega)) (fun j hj => hpos j (by omega)), ?_, ?_⟩
    · unfold bandPl
      refine List.Pairwise.map _ (R := fun a b => a ≠ b) (fun a b h => by simp; omega) ?_
      exact List.nodup_range
    · intro p hp q hq
      obtain ⟨b, i, hb, hi, rfl⟩ := mem_winPl hp
      obtain ⟨i', hi', rfl⟩ := mem_bandPl hq
      have h1 := hmono (b + 1) m (by omega) (by omega)
      have h2 := hpos b (by omega)
      have h3 := hpos m (by omega)
      have h4 := hmono b (b + 1) (by omega) (by omega)
      unfold wideB at hi hi'
      simp only
      omega
theorem all_pairwise {offs G : List Int} {mx many : Nat} (Ln : Nat) (hmono : ∀ i j, i ≤ j → j ≤ mx → offs.getD i 0 ≤ offs.getD j 0) (hpos : ∀ j, j ≤ mx → 0 ≤ offs.getD j 0) (hL : offs.getD mx 0 ≤ 32 ∨ many ≤ 1) :
    (allPl offs G mx many).Pairwise (fun a b => a.n ≠ b.n) := by
  induction many with
  | zero => exact List.Pairwise.nil
  | succ m ih =>
    refine List.pairwise_append.2 ⟨ih (by omega), win_pairwise hmono hpos, ?_⟩
    intro p hp q hq
    obtain ⟨w, b, i, hw, hb, hi, rfl⟩ := mem_allPl hp
    obtain ⟨b', i', hb', hi', rfl⟩ := mem_winPl hq
    have h1 := hmono (b + 1) mx (by omega) (by omega)
    have h2 := hpos b (by omega)
    have h3 := hpos b' (by omega)
    have h4 := hmono b (b + 1) (by omega) (by omega)
    unfold wideB at hi hi'
    simp only
    omega
/-- Offsets of bands below the greatest that is sent. -/
structure OffsQ (offs : List Int) (mx many : Nat) : Prop where
  lt : mx < offs.length
  len : offs.length ≤ 41
  mono : ∀ i j, i ≤ j → j < offs.length → offs.getD i 0 ≤ offs.getD j 0
  pos : ∀ j, j < offs.length → 0 ≤ offs.getD j 0
  top : (many = 8 ∧ ∀ j, j < offs.length → offs.getD j 0 ≤ 32) ∨ (many = 1 ∧ ∀ j, j < offs.length → offs.getD j 0 ≤ 256)
theorem OffsQ.pw {offs G : List Int} {mx many : Nat} (h : OffsQ offs mx many) : (allPl offs G mx many).Pairwise (fun a b => a.n ≠ b.n) := by
  refine all_pairwise 0 (fun i j hi hj => h.mono i j hi (by have := h.lt; omega)) (fun j hj => h.pos j (by have := h.lt; omega)) ?_
  rcases h.top with ⟨h1, h2⟩ | ⟨h1, h2⟩
  · exact .inl (h2 mx h.lt)
  · exact .inr (by omega)
theorem OffsQ.place {offs G : List Int} {mx many : Nat} (h : OffsQ offs mx many) {p : Pl} (hp : p ∈ allPl offs G mx many) : p.n < 256 ∧ p.b < mx ∧ ∃ w, w < many ∧ p.g = grpOf G (w : Int) := by
  obtain ⟨w, b, i, hw, hb, hi, rfl⟩ := mem_allPl hp
  have hl := h.lt
  have h1 := h.pos b (by omega)
  have h2 := h.mono b (b + 1) (by omega) (by omega)
  unfold wideB at hi
  refine ⟨?_, hb, w, hw, rfl⟩
  rcases h.top with ⟨e, h3⟩ | ⟨e, h3⟩
  · have := h3 (b + 1) (by omega)
    simp only
    omega
  · have := h3 (b + 1) (by omega)
    simp only
    omega
theorem runQ_all (F : Int → Int → Int) (Bk St : List (List Int)) (L : List Int) {offs G : List Int} {mx many : Nat} (h : OffsQ offs mx many) (j : Nat) (hj : j < 256) :
    (runQ F Bk St L (allPl offs G mx many) (List.replicate 256 0)).getD j 0 = valQ F Bk St L j (placeAt (allPl offs G mx many) j) := by
  refine runQ_val F Bk St L _ _ h.pw j (by rw [List.length_replicate]; exact hj) ?_
  rw [List.getD_eq_getElem?_getD, List.getElem?_replicate]; split <;> rfl
theorem winPl_mem {offs G : List Int} {w b i : Nat} : ∀ {m : Nat}, b < m → i < wideB offs b → (⟨32 * w + ((offs.getD b 0).toNat + i), grpOf G w, b⟩ : Pl) ∈ winPl offs G w m
  | 0, h, _ => by omega
  | m + 1, h, hi => by
    refine List.mem_append.2 ?_
    by_cases e : b = m
    · subst e
      exact .inr (List.mem_map.2 ⟨i, List.mem_range.2 hi, rfl⟩)
    · exact .inl (winPl_mem (by omega) hi)
theorem allPl_mem {offs G : List Int} {mx w : Nat} {p : Pl} : ∀ {many : Nat}, w < many → p ∈ winPl offs G w mx → p ∈ allPl offs G mx many
  | 0, h, _ => by omega
  | m + 1, h, hp => by
    refine List.mem_append.2 ?_
    by_cases e : w = m
    · subst e; exact .inr hp
    · exact .inl (allPl_mem (by omega) hp)
/-- A line's place, by its window and its band. -/
theorem place_of {offs G : List Int} {mx many : Nat} (h : OffsQ offs mx many) {w n b : Nat} (hw : w < many) (hn : n < 256 / many) (hb : b + 1 < offs.length) (h1 : offs.getD b 0 ≤ n) (h2 : (n : Int) < offs.getD (b + 1) 0) :
    placeAt (allPl offs G mx many) (32 * w + n) = if b < mx then some ⟨32 * w + n, grpOf G w, b⟩ else none := by
  have hp := h.pos b (by omega)
  have hpw := h.pw (G := G)
  have hmem : b < mx → (⟨32 * w + n, grpOf G w, b⟩ : Pl) ∈ allPl offs G mx many := by
    intro hbm
    refine allPl_mem hw ?_
    have := winPl_mem (offs := offs) (G := G) (w := w) (b := b) (i := n - (offs.getD b 0).toNat) hbm (by unfold wideB; omega)
    rwa [show (offs.getD b 0).toNat + (n - (offs.getD b 0).toNat) = n by omega] at this
  unfold placeAt
  cases hf : (allPl offs G mx many).find? (fun p => p.n == 32 * w + n) with
  | none =>
    rw [List.find?_eq_none] at hf
    rw [if_neg (fun hbm => hf _ (hmem hbm) (by simp))]
  | some p =>
    have hm := List.mem_of_find?_eq_some hf
    have hpn : p.n = 32 * w + n := by simpa using List.find?_some hf
    obtain ⟨w', b', i', hw', hb', hi', rfl⟩ := mem_allPl hm
    have hlt := h.lt
    have q1 := h.pos b' (by omega)
    have q2 := h.mono b' (b' + 1) (by omega) (by omega)
    unfold wideB at hi'
    simp only at hpn
    have hww : w' = w := by
      rcases h.top with ⟨e, h3⟩ | ⟨e, h3⟩
      · have := h3 (b' + 1) (by omega)
        subst e
        omega
      · omega
    subst hww
    have hbb : b' = b := by
      rcases Nat.lt_trichotomy b' b with hlt | he | hgt
      · have := h.mono (b' + 1) b (by omega) (by omega); omega
      · exact he
      · have := h.mono (b + 1) b' (by omega) (by omega); omega
    subst hbb
    rw [if_pos hb', hpn]
end Go.Proofs.Ytppfbfiigfjncaa
/- Rows of the call's own, kept while other memory is made or written. -/
set_option linter.unusedVariables false
namespace Go.Proofs.Ytppfbfiigfjncaa
open Go.ChangeShapes Go.WideShapes Go.ChangeAt Go.RowKit

theorem owns_keep {w w' : World} {base : Nat} {e : TypeId} {size : Nat} {v : Value} {n : Nat} {xs : List Value} (h : w.ownsRow base e size v n xs) (hb : Below w.heap.size w w') : w'.ownsRow base e size v n xs := by
  refine ⟨h.1, ?_⟩
  rcases h.2 with hn | ⟨g, cap, cur, rfl, hg, hgg, rest⟩
  · exact .inl hn
  · refine .inr ⟨g, cap, cur, rfl, hg, ?_, rest⟩
    rw [hb.block g (Array.getElem?_eq_some_iff.1 hgg).1]
    exact hgg
theorem owns_shape {w : World} {base : Nat} {e : TypeId} {size : Nat} {v : Value} {n : Nat} {xs : List Value} (h : w.ownsRow base e size v n xs) (hn : 0 < n) : ∃ g cap, v = .slice (some ⟨g, 0, none⟩) n cap ∧ base ≤ g ∧ g < w.heap.size := by
  have hlt := h.lt
  rcases h.2 with h2 | ⟨g, cap, cur, rfl, hg, hgg, rest⟩
  · omega
  · exact ⟨g, cap, rfl, hg, (hlt g rfl).2⟩
theorem IsInts.setCell {w : World} {g off' : Nat} {l : List Int} (h : IsInts w (some ⟨g, off', none⟩) l) (a : Addr) (u : Value) (hne : g ≠ a.block) : IsInts (w.setCell a u) (some ⟨g, off', none⟩) l := by
  rcases h with h | ⟨b, off, hp, hlt, hc⟩
  · exact .inl h
  · obtain ⟨rfl, rfl⟩ : g = b ∧ off' = off := by simpa using hp
    refine .inr ⟨g, off', rfl, by simpa [World.setCell] using hlt, fun j hj => ?_⟩
    rw [← hc j hj]
    exact World.cell?_of_block (Below.heap_setCell _ _ _ _ hne)
end Go.Proofs.Ytppfbfiigfjncaa
/- Rows of integers that stay while others are written. -/
set_option linter.unusedVariables false
namespace Go.Proofs.Ytppfbfiigfjncaa
open Go.ChangeShapes Go.WideShapes Go.ChangeAt Go.RowKit

/-- A slice's integers, in a block from lo on and below hi. -/
def IntsB (w : World) (p : Option Addr) (l : List Int) (lo hi : Nat) : Prop :=
  hi ≤ w.heap.size ∧ (l = [] ∨ ∃ b off, p = some ⟨b, off, none⟩ ∧ lo ≤ b ∧ b < hi ∧ ∀ j, j < l.length → w.cell? ⟨b, off + j, none⟩ = some (.int .i64 (l.getD j 0)))
theorem IntsB.ints {w : World} {p : Option Addr} {l : List Int} {lo hi : Nat} (h : IntsB w p l lo hi) : IsInts w p l := by
  obtain ⟨h0, h | ⟨b, off, hp, h1, h2, hc⟩⟩ := h
  · exact .inl h
  · exact .inr ⟨b, off, hp, Nat.lt_of_lt_of_le h2 h0, hc⟩
theorem IsInts.inB {w : World} {p : Option Addr} {l : List Int} (h : IsInts w p l) : IntsB w p l 0 w.heap.size := by
  refine ⟨Nat.le_refl _, ?_⟩
  rcases h with h | ⟨b, off, hp, hlt, hc⟩
  · exact .inl h
  · exact .inr ⟨b, off, hp, Nat.zero_le _, hlt, hc⟩
theorem IntsB.keep {w w' : World} {p : Option Addr} {l : List Int} {lo hi B : Nat} (h : IntsB w p l lo hi) (hb : Below B w w') (hB : hi ≤ B) : IntsB w' p l lo hi := by
  obtain ⟨h0, h⟩ := h
  refine ⟨Nat.le_trans h0 hb.size, ?_⟩
  rcases h with h | ⟨b, off, hp, h1, h2, hc⟩
  · exact .inl h
  · exact .inr ⟨b, off, hp, h1, h2, fun j hj => (hb.cell (p := ⟨b, off + j, none⟩) (Nat.lt_of_lt_of_le h2 hB)).trans (hc j hj)⟩
theorem IntsB.setCell {w : World} {p : Option Addr} {l : List Int} {lo hi : Nat} (h : IntsB w p l lo hi) (a : Addr) (u : Value) (hne : a.block < lo ∨ hi ≤ a.block) : IntsB (w.setCell a u) p l lo hi := by
  obtain ⟨h0, h⟩ := h
  refine ⟨by simpa [World.setCell] using h0, ?_⟩
  rcases h with h | ⟨b, off, hp, h1, h2, hc⟩
  · exact .inl h
  · refine .inr ⟨b, off, hp, h1, h2, fun j hj => ?_⟩
    rw [← hc j hj]
    exact World.cell?_of_block (Below.heap_setCell _ _ _ _ (show b ≠ a.block by omega))
theorem IntsB.alloc {w : World} {p : Option Addr} {l : List Int} {lo hi : Nat} (h : IntsB w p l lo hi) (o : Obj) : IntsB (w.alloc o) p l lo hi := h.keep ((Below.refl _ _).alloc (Nat.le_refl _) _) h.1
theorem IntsB.drewN {w : World} {p : Option Addr} {l : List Int} {lo hi : Nat} (h : IntsB w p l lo hi) (n : Nat) : IntsB (w.drewN n) p l lo hi := h
theorem IntsB.wide {w : World} {p : Option Addr} {l : List Int} {lo hi lo' hi' : Nat} (h : IntsB w p l lo hi) (h1 : lo' ≤ lo) (h2 : hi ≤ hi') (h3 : hi' ≤ w.heap.size) : IntsB w p l lo' hi' := by
  obtain ⟨h0, h⟩ := h
  refine ⟨h3, ?_⟩
  rcases h with h | ⟨b, off, hp, a1, a2, hc⟩
  · exact .inl h
  · exact .inr ⟨b, off, hp, Nat.le_trans h1 a1, Nat.lt_of_lt_of_le a2 h2, hc⟩
theorem IntsB.at {w : World} {p : Option Addr} {l : List Int} {lo hi : Nat} (h : IntsB w p l lo hi) {j : Nat} (hj : j < l.length) :
    ∃ b off, p = some ⟨b, off, none⟩ ∧ w.cell? ⟨b, off + j, none⟩ = some (.int .i64 (l.getD j 0)) := by
  obtain ⟨h0, h | ⟨b, off, hp, h1, h2, hc⟩⟩ := h
  · simp [h] at hj
  · exact ⟨b, off, hp, hc j hj⟩

/-- A row of the call's own reads so. -/
theorem owns_any {w : World} {base : Nat} {v : Value} {l : List Int} (h : w.ownsRow base 3 1 v l.length (l.map (Value.int .i64))) : ∃ p cap, v = .slice p l.length cap ∧ IntsB w p l base w.heap.size := by
  by_cases hne : l = []
  · subst hne
    rcases h.2 with ⟨h', _⟩ | ⟨g', cap, cur, h', _⟩
    · exact ⟨none, 0, h', Nat.le_refl _, .inl rfl⟩
    · exact ⟨some ⟨g', 0, none⟩, cap, h', Nat.le_refl _, .inl rfl⟩
  · obtain ⟨g, cap, hv, hg, hlt, hc⟩ := owns_at h hne
    exact ⟨_, cap, hv, Nat.le_refl _, .inr ⟨g, 0, rfl, hg, hlt, fun j hj => by simpa using hc j hj⟩⟩
theorem owns_lower {w : World} {base base' : Nat} {e : TypeId} {size n : Nat} {v : Value} {xs : List Value} (h : w.ownsRow base e size v n xs) (hle : base' ≤ base) : w.ownsRow base' e size v n xs := by
  refine ⟨h.1, ?_⟩
  rcases h.2 with h' | ⟨g', cap, cur, h', hg, rest⟩
  · exact .inl h'
  · exact .inr ⟨g', cap, cur, h', Nat.le_trans hle hg, rest⟩
def RRowE (p : List Int × Int) (w : World) (e : Ending) (w' : World) : Prop := ∃ v, e = .returned (.tuple #[v, .int .i64 p.2]) ∧ w'.ownsRow w.heap.size 3 1 v p.1.length (p.1.map (Value.int .i64)) ∧ Below w.heap.size w w'
/-- A row that is being written: its cells, in a block from lo on and below hi. -/
def Spoil (w : World) (p : Option Addr) (n c lo hi : Nat) (xs : List Value) : Prop :=
  xs.length = n ∧ hi ≤ w.heap.size ∧ (n ≠ 0 → ∃ g, p = some ⟨g, 0, none⟩ ∧ lo ≤ g ∧ g < hi ∧ w.ownsRow lo 3 1 (.slice (some ⟨g, 0, none⟩) n c) n xs)
theorem Spoil.of {w : World} {p : Option Addr} {l : List Int} {c lo : Nat} (h : w.ownsRow lo 3 1 (.slice p l.length c) l.length (l.map (Value.int .i64))) : Spoil w p l.length c lo w.heap.size (l.map (Value.int .i64)) := by
  refine ⟨by simp, Nat.le_refl _, fun hn => ?_⟩
  obtain ⟨g, cap, hv, h1, h2⟩ := owns_shape h (by omega)
  obtain ⟨rfl, rfl⟩ : p = some ⟨g, 0, none⟩ ∧ c = cap := by simpa using hv
  exact ⟨g, rfl, h1, h2, h⟩
theorem owns_keepB {w w' : World} {base B : Nat} {e : TypeId} {size : Nat} {v : Value} {n : Nat} {xs : List Value} (h : w.ownsRow base e size v n xs) (hb : Below B w w') (hB : ∀ g, v.ownBlock = some g → g < B) : w'.ownsRow base e size v n xs := by
  refine ⟨h.1, ?_⟩
  rcases h.2 with hn | ⟨g, cap, cur, rfl, hg, hgg, rest⟩
  · exact .inl hn
  · refine .inr ⟨g, cap, cur, rfl, hg, ?_, rest⟩
    rw [hb.block g (hB g rfl)]
    exact hgg
theorem Spoil.keep {w w' : World} {p : Option Addr} {n c lo hi B : Nat} {xs : List Value} (h : Spoil w p n c lo hi xs) (hb : Below B w w') (hB : hi ≤ B) : Spoil w' p n c lo hi xs := by
  obtain ⟨hl, hh, h⟩ := h
  refine ⟨hl, Nat.le_trans hh hb.size, fun hn => ?_⟩
  obtain ⟨g, hp, h1, h2, hO⟩ := h hn
  exact ⟨g, hp, h1, h2, owns_keepB hO hb (fun k e => by obtain rfl : g = k := (by simpa [Value.ownBlock] using e); omega)⟩
theorem Spoil.drewN {w : World} {p : Option Addr} {n c lo hi : Nat} {xs : List Value} (h : Spoil w p n c lo hi xs) (m : Nat) : Spoil (w.drewN m) p n c lo hi xs := h
/-- One cell is written. -/
theorem Spoil.at {w : World} {p : Option Addr} {n c lo hi : Nat} {xs : List Value} (h : Spoil w p n c lo hi xs) {k : Nat} (hk : k < n) :
    ∃ g, p = some ⟨g, 0, none⟩ ∧ lo ≤ g ∧ g < hi ∧ w.cell? ⟨g, k, none⟩ = xs[k]? ∧ w.frozen? ⟨g, k, none⟩ = false ∧ ∀ u, Spoil (w.setCell ⟨g, k, none⟩ u) p n c lo hi (xs.set k u) := by
  obtain ⟨hl, hh, h⟩ := h
  obtain ⟨g, hp, h1, h2, hO⟩ := h (by omega)
  refine ⟨g, hp, h1, h2, hO.cellAt k (by omega), hO.frozenAt k, fun u => ⟨by simp [hl], by simpa [World.setCell] using hh, fun _ => ⟨g, hp, h1, h2, (hO.stored k u).1⟩⟩⟩
theorem Spoil.apart {w : World} {p : Option Addr} {n c lo hi : Nat} {xs : List Value} (h : Spoil w p n c lo hi xs) (a : Addr) (u : Value) (hne : a.block < lo ∨ hi ≤ a.block) : Spoil (w.setCell a u) p n c lo hi xs := by
  obtain ⟨hl, hh, h⟩ := h
  refine ⟨hl, by simpa [World.setCell] using hh, fun hn => ?_⟩
  obtain ⟨g, hp, h1, h2, hO⟩ := h hn
  refine ⟨g, hp, h1, h2, hO.1, ?_⟩
  rcases hO.2 with ⟨h', _⟩ | ⟨g', cap, cur, h', hg, hgg, rest⟩
  · simp at h'
  · obtain ⟨rfl, rfl⟩ : g = g' ∧ c = cap := by simpa using h'
    refine .inr ⟨g, c, cur, rfl, hg, ?_, rest⟩
    rw [Below.heap_setCell _ _ _ _ (show g ≠ a.block by omega)]
    exact hgg
/-- A written row reads so. -/
theorem Spoil.ints {w : World} {p : Option Addr} {n c lo hi : Nat} {l : List Int} (h : Spoil w p n c lo hi (l.map (Value.int .i64))) : IntsB w p l lo hi := by
  obtain ⟨hl, hh, h⟩ := h
  refine ⟨hh, ?_⟩
  by_cases hn : n = 0
  · left
    have : l.length = 0 := by simpa [hn] using hl
    exact List.eq_nil_of_length_eq_zero this
  · obtain ⟨g, hp, h1, h2, hO⟩ := h hn
    refine .inr ⟨g, 0, hp, h1, h2, fun j hj => ?_⟩
    have : l.length = n := by simpa using hl
    rw [Nat.zero_add, hO.cellAt j (by omega)]
    simp [List.getD_eq_getElem?_getD, hj]
theorem fill_eq {xs : List Value} {m : Nat} {f : Nat → Int} (hl : xs.length = m) (h : ∀ j, j < m → xs[j]? = some (.int .i64 (f j))) : xs = ((List.range m).map f).map (Value.int .i64) := by
  apply List.ext_getElem?
  intro j
  by_cases hj : j < m
  · rw [h j hj]; simp [hj]
  · rw [List.getElem?_eq_none (by omega), List.getElem?_eq_none (by simp; omega)]
theorem fill_step {xs : List Value} {k n : Nat} {f : Nat → Int} (hn : xs.length = n) (hk : k < n) (h : ∀ j, j < k → xs[j]? = some (.int .i64 (f j))) {v : Int} (hv : f k = v) : ∀ j, j < k + 1 → (xs.set k (.int .i64 v))[j]? = some (.int .i64 (f j)) := by
  intro j hj
  by_cases e : j = k
  · rw [e, List.getElem?_set_self (by omega), hv]
  · rw [List.getElem?_set_ne (by omega)]; exact h j (by omega)
/-- What a list's cells are; and behind one that is written. -/
theorem row_get (l : List Int) : ∀ j, 0 ≤ j → j < l.length → (l.map (Value.int .i64))[j]? = some (.int .i64 (l.getD j 0)) := by
  intro j _ h
  simp [List.getD_eq_getElem?_getD, h]
theorem row_set {xs : List Value} {k n : Nat} {l : List Int} (h : ∀ j, k ≤ j → j < n → xs[j]? = some (.int .i64 (l.getD j 0))) (u : Value) : ∀ j, k + 1 ≤ j → j < n → (xs.set k u)[j]? = some (.int .i64 (l.getD j 0)) := by
  intro j h1 h2
  rw [List.getElem?_set_ne (by omega)]
  exact h j (by omega) h2
end Go.Proofs.Ytppfbfiigfjncaa
/- Rows of integers that came in: a slice of slices. -/
set_option linter.unusedVariables false
namespace Go.Proofs.Ytppfbfiigfjncaa
open Go.ChangeShapes Go.WideShapes Go.ChangeAt Go.RowKit

/-- A row: where it lies. -/
structure RV where
  q : Option Addr
  c : Nat
  l : List Int
instance : Inhabited RV := ⟨⟨none, 0, []⟩⟩
def rowsOf (R : List RV) : List (List Int) := R.map (fun r => r.l)
theorem rowsOf_get (R : List RV) (g : Nat) : (rowsOf R).getD g [] = (R.getD g default).l := by
  unfold rowsOf
  rw [List.getD_eq_getElem?_getD, List.getElem?_map, List.getD_eq_getElem?_getD]
  cases R[g]? <;> rfl
theorem rowsOf_len (R : List RV) : (rowsOf R).length = R.length := by unfold rowsOf; rw [List.length_map]
def IsRows (W : World) (q : Option Addr) (R : List RV) : Prop :=
  (R = [] ∨ ∃ b off, q = some ⟨b, off, none⟩ ∧ b < W.heap.size ∧ ∀ j, j < R.length → W.cell? ⟨b, off + j, none⟩ = some (.slice (R.getD j default).q (R.getD j default).l.length (R.getD j default).c)) ∧
    ∀ j, j < R.length → IsInts W (R.getD j default).q (R.getD j default).l
theorem IsRows.keep {W W' : World} {q : Option Addr} {R : List RV} (h : IsRows W q R) (hb : Below W.heap.size W W') : IsRows W' q R := by
  refine ⟨?_, fun j hj => (h.2 j hj).keep hb⟩
  rcases h.1 with h | ⟨b, off, hq, hlt, hc⟩
  · exact .inl h
  · exact .inr ⟨b, off, hq, Nat.lt_of_lt_of_le hlt hb.size, fun j hj => (hb.cell (p := ⟨b, _, none⟩) hlt).trans (hc j hj)⟩
theorem IsRows.at {W : World} {q : Option Addr} {R : List RV} (h : IsRows W q R) {j : Nat} (hj : j < R.length) : ∃ b off, q = some ⟨b, off, none⟩ ∧ b < W.heap.size ∧ W.cell? ⟨b, off + j, none⟩ = some (.slice (R.getD j default).q (R.getD j default).l.length (R.getD j default).c) ∧ IsInts W (R.getD j default).q (R.getD j default).l := by
  rcases h.1 with h' | ⟨b, off, hq, hlt, hc⟩
  · simp [h'] at hj
  · exact ⟨b, off, hq, hlt, hc j hj, h.2 j hj⟩
end Go.Proofs.Ytppfbfiigfjncaa
/- quant.ready's answer, in plain numbers; and what follows, if it is none. -/
set_option linter.unusedVariables false
namespace Go.Proofs.Ytppfbfiigfjncaa

def shortB (m : Int) (r : RV) : Bool := !decide ((r.l.length : Int) = m)
def farB (m n : Int) : Bool := decide (n < -m) || decide (m < n)
def badK (k s : Int) : Bool := decide (k < 0) || (decide (13 < k) || (sentB k && (decide (s < 0) || decide (255 < s))))
def badR (b s : List Int) : Bool := (List.range b.length).any (fun j => badK (b.getD j 0) (s.getD j 0))
def badG (Bk St : List RV) : Bool := (List.range Bk.length).any (fun g => badR (Bk.getD g default).l (St.getD g default).l)
def manyB (max : Int) (G : List Int) (Bk St : List RV) : Bool := !decide (Bk.length = G.length) || (!decide (St.length = G.length) || (Bk.any (shortB max) || St.any (shortB max)))
def readyQ (most rate seq shape max : Int) (G : List Int) (Bk St : List RV) (x : List Int) : Int :=
  if infoE rate seq shape max G ≠ 0 then infoE rate seq shape max G
  else if manyB max G Bk St = true then 4
  else if badG Bk St = true then 2
  else if x.length ≠ 256 then 4
  else if x.any (farB most) = true then 2 else 0
/-- What follows, if all may be. -/
structure QGood (most rate seq shape max : Int) (G : List Int) (Bk St : List RV) (x : List Int) : Prop where
  info : infoE rate seq shape max G = 0
  r0 : 0 ≤ rate
  r1 : rate ≤ 11
  may : mayB rate seq shape max G = true
  m0 : 0 ≤ max
  m1 : max.toNat < (bandL rate (seq == 2)).length
  bl : Bk.length = G.length
  sl : St.length = G.length
  br : ∀ g, g < G.length → ((Bk.getD g default).l.length : Int) = max
  sr : ∀ g, g < G.length → ((St.getD g default).l.length : Int) = max
  ok : ∀ (g j : Nat), g < G.length → (j : Int) < max → badK ((Bk.getD g default).l.getD j 0) ((St.getD g default).l.getD j 0) = false
  xl : x.length = 256
  xb : ∀ j, -most ≤ x.getD j 0 ∧ x.getD j 0 ≤ most
theorem mayI {rate seq shape max : Int} {G : List Int} (h : infoE rate seq shape max G = 0) : 0 ≤ rate ∧ rate ≤ 11 ∧ mayB rate seq shape max G = true := by
  unfold infoE at h
  split at h
  · simp at h
  · split at h
    · rename_i h1 h2
      exact ⟨by omega, by omega, h2⟩
    · simp at h
theorem any_row {R : List RV} {m : Int} (h : R.any (shortB m) = false) {g : Nat} (hg : g < R.length) : ((R.getD g default).l.length : Int) = m := by
  rw [List.any_eq_false] at h
  have := h (R.getD g default) (by rw [List.getD_eq_getElem?_getD, List.getElem?_eq_getElem hg]; exact List.getElem_mem hg)
  unfold shortB at this
  simpa using this
theorem any_row' {R : List RV} {m : Int} (h : ∀ g, g < R.length → ((R.getD g default).l.length : Int) = m) : R.any (shortB m) = false := by
  rw [List.any_eq_false]
  intro r hr
  obtain ⟨i, hi, rfl⟩ := List.getElem_of_mem hr
  have := h i hi
  rw [List.getD_eq_getElem?_getD, List.getElem?_eq_getElem hi] at this
  unfold shortB
  simpa using this
theorem bad_none {Bk St : List RV} (h : badG Bk St = false) {g j : Nat} (hg : g < Bk.length) (hj : j < (Bk.getD g default).l.length) : badK ((Bk.getD g default).l.getD j 0) ((St.getD g default).l.getD j 0) = false := by
  unfold badG at h
  rw [List.any_eq_false] at h
  have h1 := h g (List.mem_range.2 hg)
  unfold badR at h1
  rw [Bool.not_eq_true, List.any_eq_false] at h1
  simpa using h1 j (List.mem_range.2 hj)
theorem bad_none' {Bk St : List RV} (h : ∀ g j, g < Bk.length → j < (Bk.getD g default).l.length → badK ((Bk.getD g default).l.getD j 0) ((St.getD g default).l.getD j 0) = false) : badG Bk St = false := by
  unfold badG
  rw [List.any_eq_false]
  intro g hg
  unfold badR
  rw [Bool.not_eq_true, List.any_eq_false]
  intro j hj
  rw [h g j (List.mem_range.1 hg) (List.mem_range.1 hj)]; simp
theorem far_none {x : List Int} {m : Int} (h0 : 0 ≤ m) (h : x.any (farB m) = false) (j : Nat) : -m ≤ x.getD j 0 ∧ x.getD j 0 ≤ m := by
  by_cases hj : j < x.length
  · rw [List.any_eq_false] at h
    have := h (x.getD j 0) (by rw [List.getD_eq_getElem?_getD, List.getElem?_eq_getElem hj]; exact List.getElem_mem hj)
    unfold farB at this
    simp at this
    rw [List.getD_eq_getElem?_getD]
    omega
  · rw [List.getD_eq_getElem?_getD, List.getElem?_eq_none (by omega)]
    simp only [Option.getD_none]
    omega
theorem far_none' {x : List Int} {m : Int} (h : ∀ j, j < x.length → -m ≤ x.getD j 0 ∧ x.getD j 0 ≤ m) : x.any (farB m) = false := by
  rw [List.any_eq_false]
  intro v hv
  obtain ⟨i, hi, rfl⟩ := List.getElem_of_mem hv
  have := h i hi
  rw [List.getD_eq_getElem?_getD, List.getElem?_eq_getElem hi] at this
  simp only [Option.getD_some] at this
  unfold farB
  simp
  omega
theorem qgood {most rate seq shape max : Int} {G : List Int} {Bk St : List RV} {x : List Int} (hm : 0 ≤ most) (h : readyQ most rate seq shape max G Bk St x = 0) : QGood most rate seq shape max G Bk St x := by
  unfold readyQ at h
  by_cases h1 : infoE rate seq shape max G = 0
  · rw [if_neg (by simp [h1])] at h
    cases h2 : manyB max G Bk St with
    | true => rw [if_pos h2] at h; simp at h
    | false =>
      rw [if_neg (by simp [h2])] at h
      cases h3 : badG Bk St with
      | true => rw [if_pos h3] at h; simp at h
      | false =>
        rw [if_neg (by simp [h3])] at h
        by_cases h4 : x.length = 256
        · rw [if_neg (by simp [h4])] at h
          cases h5 : x.any (farB most) with
          | true => rw [if_pos h5] at h; simp at h
          | false =>
            obtain ⟨r0, r1, hmay⟩ := mayI h1
            have hmay' := hmay
            unfold mayB at hmay'
            simp at hmay'
            obtain ⟨_, _, m0, m1, _⟩ := hmay'
            obtain ⟨k1, _⟩ := band_len rate (seq == 2) r0 r1
            unfold manyB at h2
            simp only [Bool.or_eq_false_iff, Bool.not_eq_false', decide_eq_true_eq] at h2
            obtain ⟨e1, e2, e3, e4⟩ := h2
            have hbr : ∀ g, g < G.length → ((Bk.getD g default).l.length : Int) = max := fun g hg => any_row e3 (by omega)
            exact ⟨h1, r0, r1, hmay, m0, by omega, e1, e2, hbr, fun g hg => any_row e4 (by omega), fun g j hg hj => bad_none h3 (by omega) (by have := hbr g hg; omega), h4, far_none hm h5⟩
        · rw [if_pos h4] at h; simp at h
  · rw [if_pos h1] at h; exact absurd h h1
theorem readyQ_ok {most rate seq shape max : Int} {G : List Int} {Bk St : List RV} {x : List Int} (h : QGood most rate seq shape max G Bk St x) : readyQ most rate seq shape max G Bk St x = 0 := by
  unfold readyQ
  rw [if_neg (by simp [h.info]), if_neg, if_neg, if_neg (by simp [h.xl]), if_neg]
  · rw [far_none' (fun j _ => h.xb j)]; simp
  · rw [bad_none' (fun g j hg hj => h.ok g j (by have := h.bl; omega) (by have := h.br g (by have := h.bl; omega); omega))]; simp
  · unfold manyB
    rw [any_row' (fun g hg => h.br g (by have := h.bl; omega)), any_row' (fun g hg => h.sr g (by have := h.sl; omega))]
    simp [h.bl, h.sl]
theorem offsQ (rate : Int) (seq : Int) (h0 : 0 ≤ rate) (h1 : rate ≤ 11) {mx : Nat} (hm : mx < (bandL rate (seq == 2)).length) : OffsQ (bandL rate (seq == 2)) mx (winN seq) := by
  obtain ⟨k1, k2, k3, k4, _⟩ := band_len rate (seq == 2) h0 h1
  have hpos : ∀ j, j < (bandL rate (seq == 2)).length → 0 ≤ (bandL rate (seq == 2)).getD j 0 := fun j hj => by
    have a := band_le rate (seq == 2) h0 h1 0 j (Nat.zero_le _) hj
    omega
  have htop : ∀ j, j < (bandL rate (seq == 2)).length → (bandL rate (seq == 2)).getD j 0 ≤ if seq == 2 then 32 else 256 := fun j hj => by
    have b := band_le rate (seq == 2) h0 h1 j ((bandL rate (seq == 2)).length - 1) (by omega) (by omega)
    rw [k4] at b
    exact b
  unfold winN
  refine ⟨hm, Nat.le_trans k2 (by split <;> omega), fun i j hi hj => band_le rate (seq == 2) h0 h1 i j hi hj, hpos, ?_⟩
  by_cases hs : seq = 2
  · left; rw [if_pos hs]; exact ⟨rfl, fun j hj => by have := htop j hj; simpa [hs] using this⟩
  · right; rw [if_neg hs]; exact ⟨rfl, fun j hj => by have := htop j hj; simpa [hs] using this⟩
/-- What the calls answer. -/
def quantR (F : Int → Int → Int) (most rate seq shape max : Int) (G : List Int) (Bk St : List RV) (x : List Int) : List Int × Int :=
  (if readyQ most rate seq shape max G Bk St x = 0 then runQ F (rowsOf Bk) (rowsOf St) x (allPl (bandL rate (seq == 2)) G max.toNat (winN seq)) (List.replicate 256 0) else [], readyQ most rate seq shape max G Bk St x)
end Go.Proofs.Ytppfbfiigfjncaa
/- quant: small calls, and slices.ContainsFunc over them. -/
set_option linter.unusedVariables false
set_option linter.unusedSimpArgs false
namespace Go.Proofs.Ytppfbfiigfjncaa
open Go.ChangeShapes Go.WideShapes Go.ChangeAt Go.RowKit

theorem q_sent (k : Int) (w : World) : Calls Try.prog 42 #[.int .i64 k] w fun e w' => e = .returned (.bool (sentB k)) ∧ w = w' := by
  by_cases h1 : 1 ≤ k
  · have d1 : decide (k ≥ 1) = true := decide_eq_true h1
    have HS : Hid (sentB k = decide (k ≤ 11)) := Lib.hid (by unfold sentB; simp [h1])
    clear h1
    go_enter Try.func42, Try.ntmps42
    go_wp2
    go_ret
    exact ⟨ret_bool HS.out.symm, rfl⟩
  · have d1 : decide (k ≥ 1) = false := decide_eq_false h1
    have HS : Hid (sentB k = false) := Lib.hid (by unfold sentB; simp [h1])
    clear h1
    go_enter Try.func42, Try.ntmps42
    go_wp2
    go_ret
    exact ⟨ret_bool HS.out.symm, rfl⟩
theorem q_short (q : Option Addr) (n c : Nat) (m : Int) (b : Nat) (w : World) (hc : w.cell? ⟨b, 2, none⟩ = some (.int .i64 m)) :
    Calls Try.prog 39 #[.slice q n c, .pointer (some ⟨b, 0, none⟩)] w fun e w' => e = .returned (.bool (!decide ((n : Int) = m))) ∧ w = w' := by
  go_enter Try.func39, Try.ntmps39
  go_wp2
  go_ret
  exact ⟨ret_bool (by rw [bne]; congr 1), rfl⟩
theorem q_far (n m : Int) (hm : 0 ≤ m) (hm2 : m ≤ 4611686018427387904) (a : Addr) (w : World) (hc : w.cell? a = some (.int .i64 m)) :
    Calls Try.prog 40 #[.int .i64 n, .pointer (some a)] w fun e w' => e = .returned (.bool (farB m n)) ∧ w = w' := by
  have hw : IntKind.i64.wrap (-m) = -m := IntWalk.i64_in _ (by omega)
  by_cases h1 : n < -m
  · have d1 : decide (n < -m) = true := decide_eq_true h1
    have HS : Hid (farB m n = true) := Lib.hid (by unfold farB; simp [h1])
    clear h1 hm hm2
    go_enter Try.func40, Try.ntmps40
    go_wp2
    go_ret
    exact ⟨ret_bool HS.out.symm, rfl⟩
  · have d1 : decide (n < -m) = false := decide_eq_false h1
    have HS : Hid (farB m n = decide (m < n)) := Lib.hid (by unfold farB; simp [h1])
    clear h1 hm hm2
    go_enter Try.func40, Try.ntmps40
    go_wp2
    go_ret
    exact ⟨ret_bool HS.out.symm, rfl⟩
def RIdx (b : Bool) (w : World) (e : Ending) (w' : World) : Prop := ∃ r : Int, e = .returned (.int .i64 r) ∧ decide (r ≥ 0) = b ∧ w = w'
set_option maxHeartbeats 1000000 in
theorem idx_rows (R : List RV) (q : Option Addr) (c : Nat) (m : Int) (bx : Nat) (w : World) (hI : IsRows w q R) (hl : R.length ≤ 100) (hm : w.cell? ⟨bx, 2, none⟩ = some (.int .i64 m)) :
    Calls Try.prog 58 #[.slice q R.length c, .func (.func 39) #[] #[.pointer (some ⟨bx, 0, none⟩)]] w (RIdx (R.any (shortB m)) w) := by
  have HI := Lib.hid hI
  have HC := Lib.hid (fun (bv : RV) => q_short bv.q bv.l.length bv.c m bx w hm)
  clear hI hm
  go_enter Try.func58, Try.ntmps58
  go_wp2
  go_loop [8] (fun I => ∃ k : Nat, I = .int .i64 k ∧ k ≤ R.length ∧ Hid (R.any (shortB m) = (R.drop k).any (shortB m))) (fun I => R.length - (intOf I).toNat)
  case atStart => exact ⟨0, rfl, Nat.zero_le _, Lib.hid (by simp)⟩
  case round =>
    obtain ⟨k, rfl, hk, hany⟩ := hrel
    by_cases hlt : k < R.length
    · have hd0 : decide ((k : Int) < (R.length : Int)) = true := decide_eq_true (by omega)
      obtain ⟨b, off, rfl, _, h1, _⟩ := HI.out.at hlt
      have HK := Lib.hid (HC.out (R.getD k default))
      have hd : R.drop k = R.getD k default :: R.drop (k + 1) := by rw [List.drop_eq_getElem_cons hlt]; simp [List.getD_eq_getElem?_getD, hlt]
      have hst : Hid (R.any (shortB m) = (shortB m (R.getD k default) || (R.drop (k + 1)).any (shortB m))) := by
        have := hany.out; rw [hd, List.any_cons] at this; exact this
      generalize R.getD k default = bv at h1 HK hst
      clear hd hany HI HC
      have hP0 : shortB m bv = !decide ((bv.l.length : Int) = m) := rfl
      go_wp2_with fail
      refine HK.out.mono ?_
      rintro e w' ⟨rfl, hw⟩
      obtain rfl := hw
      rw [← hP0]
      clear hP0
      cases hP : shortB m bv
      · have HR : Hid (R.any (shortB m) = (R.drop (k + 1)).any (shortB m)) := by have := hst.out; rw [hP, Bool.false_or] at this; exact this
        have hP2 := Lib.hid hP
        clear hst hP
        go_wp2
        go_round
        case rel => exact ⟨k + 1, by go_num, hlt, HR⟩
        case measure => simp [intOf]; omega
      · have HR : Hid (R.any (shortB m) = true) := by have := hst.out; rw [hP, Bool.true_or] at this; exact this
        have hP2 := Lib.hid hP
        clear hst hP
        go_wp2
        go_ret
        exact ⟨_, rfl, by rw [HR.out]; simp, rfl⟩
    · have hkl : k = R.length := by omega
      have HR : Hid (R.any (shortB m) = false) := by have := hany.out; rw [hkl, List.drop_length, List.any_nil] at this; exact this
      clear hany hkl HI HC
      go_wp2
      go_ret
      exact ⟨_, rfl, by rw [HR.out]; simp, rfl⟩
theorem contains_rows (R : List RV) (q : Option Addr) (c : Nat) (m : Int) (bx : Nat) (w : World) (hI : IsRows w q R) (hl : R.length ≤ 100) (hm : w.cell? ⟨bx, 2, none⟩ = some (.int .i64 m)) :
    Calls Try.prog 41 #[.slice q R.length c, .func (.func 39) #[] #[.pointer (some ⟨bx, 0, none⟩)]] w fun e w' => e = .returned (.bool (R.any (shortB m))) ∧ w = w' := by
  have HX := Lib.hid (idx_rows R q c m bx w hI hl hm)
  clear hI hm
  go_enter Try.func41, Try.ntmps41
  go_wp2_with fail
  refine HX.out.mono ?_
  rintro e w' ⟨r, rfl, hr, hw⟩
  obtain rfl := hw
  have HR := Lib.hid hr
  clear hr
  go_wp2
  go_ret
  exact ⟨ret_bool HR.out, rfl⟩
set_option maxHeartbeats 1000000 in
theorem idx_far (l : List Int) (q : Option Addr) (c : Nat) (m : Int) (a : Addr) (w : World) (hI : IsInts w q l) (hl : l.length ≤ 1000) (h0 : 0 ≤ m) (h2 : m ≤ 4611686018427387904) (hm : w.cell? a = some (.int .i64 m)) :
    Calls Try.prog 59 #[.slice q l.length c, .func (.func 40) #[] #[.pointer (some a)]] w (RIdx (l.any (farB m)) w) := by
  have HI := Lib.hid hI
  have HC := Lib.hid (fun (bv : Int) => q_far bv m h0 h2 a w hm)
  clear hI h0 h2 hm
  go_enter Try.func59, Try.ntmps59
  go_wp2
  go_loop [8] (fun I => ∃ k : Nat, I = .int .i64 k ∧ k ≤ l.length ∧ Hid (l.any (farB m) = (l.drop k).any (farB m))) (fun I => l.length - (intOf I).toNat)
  case atStart => exact ⟨0, rfl, Nat.zero_le _, Lib.hid (by simp)⟩
  case round =>
    obtain ⟨k, rfl, hk, hany⟩ := hrel
    by_cases hlt : k < l.length
    · have hd0 : decide ((k : Int) < (l.length : Int)) = true := decide_eq_true (by omega)
      obtain ⟨b, off, rfl, _, hc⟩ := HI.out.at hlt
      have h1 := hc k hlt
      clear hc
      have HK := Lib.hid (HC.out (l.getD k 0))
      have hd : l.drop k = l.getD k 0 :: l.drop (k + 1) := by rw [List.drop_eq_getElem_cons hlt]; simp [List.getD_eq_getElem?_getD, hlt]
      have hst : Hid (l.any (farB m) = (farB m (l.getD k 0) || (l.drop (k + 1)).any (farB m))) := by
        have := hany.out; rw [hd, List.any_cons] at this; exact this
      generalize l.getD k 0 = bv at h1 HK hst
      clear hd hany HI HC
      skip
      go_wp2_with fail
      refine HK.out.mono ?_
      rintro e w' ⟨rfl, hw⟩
      obtain rfl := hw
      skip
      cases hP : farB m bv
      · have HR : Hid (l.any (farB m) = (l.drop (k + 1)).any (farB m)) := by have := hst.out; rw [hP, Bool.false_or] at this; exact this
        have hP2 := Lib.hid hP
        clear hst hP
        go_wp2
        go_round
        case rel => exact ⟨k + 1, by go_num, hlt, HR⟩
        case measure => simp [intOf]; omega
      · have HR : Hid (l.any (farB m) = true) := by have := hst.out; rw [hP, Bool.true_or] at this; exact this
        have hP2 := Lib.hid hP
        clear hst hP
        go_wp2
        go_ret
        exact ⟨_, rfl, by rw [HR.out]; simp, rfl⟩
    · have hkl : k = l.length := by omega
      have HR : Hid (l.any (farB m) = false) := by have := hany.out; rw [hkl, List.drop_length, List.any_nil] at this; exact this
      clear hany hkl HI HC
      go_wp2
      go_ret
      exact ⟨_, rfl, by rw [HR.out]; simp, rfl⟩
theorem contains_far (l : List Int) (q : Option Addr) (c : Nat) (m : Int) (a : Addr) (w : World) (hI : IsInts w q l) (hl : l.length ≤ 1000) (h0 : 0 ≤ m) (h2 : m ≤ 4611686018427387904) (hm : w.cell? a = some (.int .i64 m)) :
    Calls Try.prog 43 #[.slice q l.length c, .func (.func 40) #[] #[.pointer (some a)]] w fun e w' => e = .returned (.bool (l.any (farB m))) ∧ w = w' := by
  have HX := Lib.hid (idx_far l q c m a w hI hl h0 h2 hm)
  clear hI h0 h2 hm
  go_enter Try.func43, Try.ntmps43
  go_wp2_with fail
  refine HX.out.mono ?_
  rintro e w' ⟨r, rfl, hr, hw⟩
  obtain rfl := hw
  have HR := Lib.hid hr
  clear hr
  go_wp2
  go_ret
  exact ⟨ret_bool HR.out, rfl⟩
end Go.Proofs.Ytppfbfiigfjncaa
