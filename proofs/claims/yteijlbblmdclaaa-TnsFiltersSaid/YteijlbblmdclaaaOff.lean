import Derived.Test.YteijlbblmdclaaaGP
namespace Go.Proofs.Yteijlbblmdclaaa
open Go.ChangeShapes Go.WideShapes Go.ChangeAt Go.RowKit

/-- The band behind one that begins at a line. -/
def nxt (k lines by' at' : Int) : Int := min lines (at' + 4 + 4 * (at' * k / by'))
def offL (k lines by' : Int) : Nat → Int → List Int
  | 0, _ => []
  | f + 1, a => a :: if a < lines then offL k lines by' f (nxt k lines by' a) else []

theorem offL_step {k lines by' a : Int} {f : Nat} (h : a < lines) : offL k lines by' (f + 1) a = a :: offL k lines by' f (nxt k lines by' a) := by rw [offL, if_pos h]
theorem offL_end {k lines by' a : Int} {f : Nat} (h : ¬ a < lines) : offL k lines by' (f + 1) a = [a] := by rw [offL, if_neg h]
theorem offL_first (k lines by' : Int) (h : 4 ≤ lines) : [0] ++ offL k lines by' 299 4 = offL k lines by' 300 0 := by
  have : nxt k lines by' 0 = 4 := by unfold nxt; simp; omega
  have e : offL k lines by' (299 + 1) 0 = 0 :: offL k lines by' 299 (nxt k lines by' 0) := offL_step (by omega)
  rw [this] at e
  exact e.symm


def JL (rate : Int) (w : World) (a' : Act) (wr : World) : Prop :=
  ∃ (v : Value) (xs : List Int) (at' : Int) (f : Nat) (u11 u12 u13 u14 u15 u16 u17 u18 u19 u20 u21 u22 u23 u24 u25 u26 u27 u28 u29 u30 u31 u32 u33 u34 u35 u36 u37 u38 u39 : Value), a' = { tmps := #[.int .i64 rate, .bool false, undef, undef, .slice none 0 0, .int .i64 0, .int .i64 (3 + (11 - rate) / 2), .int .i64 256, .int .i64 256, v, .int .i64 at', u11, u12, u13, u14, u15, u16, u17, u18, u19, u20, u21, u22, u23, u24, u25, u26, u27, u28, u29, u30, u31, u32, u33, u34, u35, u36, u37, u38, u39, undef], defers := [] } ∧
    wr.ownsRow w.heap.size 3 1 v xs.length (xs.map (Value.int .i64)) ∧ Below w.heap.size w wr ∧ xs ++ offL (3 + (11 - rate) / 2) 256 256 f at' = offL (3 + (11 - rate) / 2) 256 256 300 0 ∧ 0 ≤ at' ∧ at' ≤ 256 ∧ 256 - at' < f ∧ xs.length + f = 300

def RL (rate : Int) (w : World) (e : Ending) (w' : World) : Prop :=
  ∃ v, e = .returned (.tuple #[v, .int .i64 0]) ∧ w'.ownsRow w.heap.size 3 1 v (offL (3 + (11 - rate) / 2) 256 256 300 0).length ((offL (3 + (11 - rate) / 2) 256 256 300 0).map (Value.int .i64)) ∧ Below w.heap.size w w'

set_option maxHeartbeats 1000000 in
set_option maxRecDepth 100000 in
theorem off_L (rate : Int) (h0 : 0 ≤ rate) (h1 : rate ≤ 11) (w : World) :
    Calls Try.prog 15 #[.int .i64 rate, .bool false] w (RL rate w) := by
  obtain ⟨i0, hi, hz0, hz1, hz2⟩ := info_parts Try.infoInt
  go_enter Try.func15, Try.ntmps15
  go_wp2
  refine wp_scope_jumps 0 (JL rate w) (fun a' _ => (256 - intOf (a'.tmps.getD 10 undef)).toNat) rfl ?_ ?_
  · go_wp2
    go_step3
    go_wp2_with (at_builtin; refine wpList_append_own _ rfl _ _ 22 rfl w.heap.size 3 i0 (.int .i64 0) 1 8 Try.underlying22 hi hz0 hz1 hz2 rfl (by decide) _ _ _ rfl (World.ownsRow_nil _ _ _ _) ⟨w.heap.size, 0, none⟩ 1 1 [.int .i64 0] rfl rfl (cell_one_new _ _ _) (one_int _) ?c3 ?c4 ?c5 ?_)
    case c3 => decide
    case c4 => decide
    case c5 => simp
    intro v' w1 hown hg _
    go_wp2
    go_step3
    refine ⟨rfl, v', [0], 4, 299, _, _, _, _, _, _, _, _, _, _, _, _, _, _, _, _, _, _, _, _, _, _, _, _, _, _, _, _, _, rfl, hown, ?_, offL_first _ _ _ (by decide), by decide, by decide, by decide, by decide⟩
    exact ((Below.refl _ _).alloc (Nat.le_refl _) _).grown hg (by simp) (by simp [Value.ownBlock])
  · rintro a' wr ⟨v, xs, at', f, u11, u12, u13, u14, u15, u16, u17, u18, u19, u20, u21, u22, u23, u24, u25, u26, u27, u28, u29, u30, u31, u32, u33, u34, u35, u36, u37, u38, u39, rfl, hown, hb, hxs, ha0, ha1, haf, hlen⟩
    have hk0 : 0 ≤ at' * (3 + (11 - rate) / 2) := Int.mul_nonneg ha0 (by omega)
    have hk1 : at' * (3 + (11 - rate) / 2) ≤ 256 * 8 := Int.mul_le_mul ha1 (by omega) (by omega) (by omega)
    obtain ⟨f, rfl⟩ : ∃ f', f = f' + 1 := ⟨f - 1, by omega⟩
    have hl0 := hown.lt
    have hown1 := hown.alloc (.cells #[.int .i64 at'] 3)
    have hb1 := hb.alloc hb.size (.cells #[.int .i64 at'] 3)
    have hxs' := Lib.hid hxs
    clear hxs
    go_wp2_with (at_builtin; refine wpList_append_own _ rfl _ _ 22 rfl w.heap.size 3 i0 (.int .i64 0) 1 8 Try.underlying22 hi hz0 hz1 hz2 rfl (by decide) _ _ _ rfl hown1 ⟨wr.heap.size, 0, none⟩ 1 1 [.int .i64 at'] rfl rfl (cell_one_new _ _ _) (one_int _) ?c3 ?c4 ?c5 ?_)
    case c3 => unfold maxLen; omega
    case c4 => omega
    case c5 => have := hb.size; simp; omega
    intro v' w1 hown' hg _
    have hb2 : Below w.heap.size w w1 := hb1.grown hg (by have := hb.size; simp; omega) (fun k hk => (hl0 k hk).1)
    have hown2 : w1.ownsRow w.heap.size 3 1 v' (xs ++ [at']).length ((xs ++ [at']).map (Value.int .i64)) := by simpa using hown'
    clear hown' hown hown1 hb1 hb hg hl0
    by_cases hlt : at' < 256
    · have hxs2 : Hid (xs ++ [at'] ++ offL (3 + (11 - rate) / 2) 256 256 f (nxt (3 + (11 - rate) / 2) 256 256 at') = offL (3 + (11 - rate) / 2) 256 256 300 0) := by
        have h := hxs'.out
        rw [offL_step hlt] at h
        show _ = _
        rw [← h, List.append_assoc, List.singleton_append]
      clear hxs'
      go_wp2
      all_goals go_step3
      all_goals
        refine ⟨rfl, ⟨v', xs ++ [at'], _, f, _, _, _, _, _, _, _, _, _, _, _, _, _, _, _, _, _, _, _, _, _, _, _, _, _, _, _, _, _, rfl, hown2, hb2, ?h2, by omega, by omega, by omega, by simp; omega⟩, ?mu⟩
        case h2 => exact (congrArg (fun z => xs ++ [at'] ++ offL (3 + (11 - rate) / 2) 256 256 f z) (by unfold nxt; omega)).trans hxs2.out
        case mu => simp [intOf]; omega
    · have hxs2 : Hid (xs ++ [at'] = offL (3 + (11 - rate) / 2) 256 256 300 0) := by
        have h := hxs'.out
        rw [offL_end hlt] at h
        exact h
      clear hxs'
      go_wp2
      simp only [Exit.jump]
      go_ret2
      refine ⟨v', rfl, ?_, hb2⟩
      rw [← hxs2.out]
      exact hown2

def JS (rate : Int) (w : World) (a' : Act) (wr : World) : Prop :=
  ∃ (v : Value) (xs : List Int) (at' : Int) (f : Nat) (u11 u12 u13 u14 u15 u16 u17 u18 u19 u20 u21 u22 u23 u24 u25 u26 u27 u28 u29 u30 u31 u32 u33 u34 u35 u36 u37 u38 u39 : Value), a' = { tmps := #[.int .i64 rate, .bool true, undef, undef, .slice none 0 0, .int .i64 0, .int .i64 (3 + (11 - rate) / 2), .int .i64 32, .int .i64 64, v, .int .i64 at', u11, u12, u13, u14, u15, u16, u17, u18, u19, u20, u21, u22, u23, u24, u25, u26, u27, u28, u29, u30, u31, u32, u33, u34, u35, u36, u37, u38, u39, undef], defers := [] } ∧
    wr.ownsRow w.heap.size 3 1 v xs.length (xs.map (Value.int .i64)) ∧ Below w.heap.size w wr ∧ xs ++ offL (3 + (11 - rate) / 2) 32 64 f at' = offL (3 + (11 - rate) / 2) 32 64 300 0 ∧ 0 ≤ at' ∧ at' ≤ 32 ∧ 32 - at' < f ∧ xs.length + f = 300

def RS (rate : Int) (w : World) (e : Ending) (w' : World) : Prop :=
  ∃ v, e = .returned (.tuple #[v, .int .i64 0]) ∧ w'.ownsRow w.heap.size 3 1 v (offL (3 + (11 - rate) / 2) 32 64 300 0).length ((offL (3 + (11 - rate) / 2) 32 64 300 0).map (Value.int .i64)) ∧ Below w.heap.size w w'

set_option maxHeartbeats 1000000 in
set_option maxRecDepth 100000 in
theorem off_S (rate : Int) (h0 : 0 ≤ rate) (h1 : rate ≤ 11) (w : World) :
    Calls Try.prog 15 #[.int .i64 rate, .bool true] w (RS rate w) := by
  obtain ⟨i0, hi, hz0, hz1, hz2⟩ := info_parts Try.infoInt
  go_enter Try.func15, Try.ntmps15
  go_wp2
  refine wp_scope_jumps 0 (JS rate w) (fun a' _ => (32 - intOf (a'.tmps.getD 10 undef)).toNat) rfl ?_ ?_
  · go_wp2
    go_step3
    go_wp2_with (at_builtin; refine wpList_append_own _ rfl _ _ 22 rfl w.heap.size 3 i0 (.int .i64 0) 1 8 Try.underlying22 hi hz0 hz1 hz2 rfl (by decide) _ _ _ rfl (World.ownsRow_nil _ _ _ _) ⟨w.heap.size, 0, none⟩ 1 1 [.int .i64 0] rfl rfl (cell_one_new _ _ _) (one_int _) ?c3 ?c4 ?c5 ?_)
    case c3 => decide
    case c4 => decide
    case c5 => simp
    intro v' w1 hown hg _
    go_wp2
    go_step3
    refine ⟨rfl, v', [0], 4, 299, _, _, _, _, _, _, _, _, _, _, _, _, _, _, _, _, _, _, _, _, _, _, _, _, _, _, _, _, _, rfl, hown, ?_, offL_first _ _ _ (by decide), by decide, by decide, by decide, by decide⟩
    exact ((Below.refl _ _).alloc (Nat.le_refl _) _).grown hg (by simp) (by simp [Value.ownBlock])
  · rintro a' wr ⟨v, xs, at', f, u11, u12, u13, u14, u15, u16, u17, u18, u19, u20, u21, u22, u23, u24, u25, u26, u27, u28, u29, u30, u31, u32, u33, u34, u35, u36, u37, u38, u39, rfl, hown, hb, hxs, ha0, ha1, haf, hlen⟩
    have hk0 : 0 ≤ at' * (3 + (11 - rate) / 2) := Int.mul_nonneg ha0 (by omega)
    have hk1 : at' * (3 + (11 - rate) / 2) ≤ 32 * 8 := Int.mul_le_mul ha1 (by omega) (by omega) (by omega)
    obtain ⟨f, rfl⟩ : ∃ f', f = f' + 1 := ⟨f - 1, by omega⟩
    have hl0 := hown.lt
    have hown1 := hown.alloc (.cells #[.int .i64 at'] 3)
    have hb1 := hb.alloc hb.size (.cells #[.int .i64 at'] 3)
    have hxs' := Lib.hid hxs
    clear hxs
    go_wp2_with (at_builtin; refine wpList_append_own _ rfl _ _ 22 rfl w.heap.size 3 i0 (.int .i64 0) 1 8 Try.underlying22 hi hz0 hz1 hz2 rfl (by decide) _ _ _ rfl hown1 ⟨wr.heap.size, 0, none⟩ 1 1 [.int .i64 at'] rfl rfl (cell_one_new _ _ _) (one_int _) ?c3 ?c4 ?c5 ?_)
    case c3 => unfold maxLen; omega
    case c4 => omega
    case c5 => have := hb.size; simp; omega
    intro v' w1 hown' hg _
    have hb2 : Below w.heap.size w w1 := hb1.grown hg (by have := hb.size; simp; omega) (fun k hk => (hl0 k hk).1)
    have hown2 : w1.ownsRow w.heap.size 3 1 v' (xs ++ [at']).length ((xs ++ [at']).map (Value.int .i64)) := by simpa using hown'
    clear hown' hown hown1 hb1 hb hg hl0
    by_cases hlt : at' < 32
    · have hxs2 : Hid (xs ++ [at'] ++ offL (3 + (11 - rate) / 2) 32 64 f (nxt (3 + (11 - rate) / 2) 32 64 at') = offL (3 + (11 - rate) / 2) 32 64 300 0) := by
        have h := hxs'.out
        rw [offL_step hlt] at h
        show _ = _
        rw [← h, List.append_assoc, List.singleton_append]
      clear hxs'
      go_wp2
      all_goals go_step3
      all_goals
        refine ⟨rfl, ⟨v', xs ++ [at'], _, f, _, _, _, _, _, _, _, _, _, _, _, _, _, _, _, _, _, _, _, _, _, _, _, _, _, _, _, _, _, rfl, hown2, hb2, ?h2, by omega, by omega, by omega, by simp; omega⟩, ?mu⟩
        case h2 => exact (congrArg (fun z => xs ++ [at'] ++ offL (3 + (11 - rate) / 2) 32 64 f z) (by unfold nxt; omega)).trans hxs2.out
        case mu => simp [intOf]; omega
    · have hxs2 : Hid (xs ++ [at'] = offL (3 + (11 - rate) / 2) 32 64 300 0) := by
        have h := hxs'.out
        rw [offL_end hlt] at h
        exact h
      clear hxs'
      go_wp2
      simp only [Exit.jump]
      go_ret2
      refine ⟨v', rfl, ?_, hb2⟩
      rw [← hxs2.out]
      exact hown2

/-- The bands of a rate, of a short window or a long one. -/
def bandL (rate : Int) (short : Bool) : List Int := offL (3 + (11 - rate) / 2) (if short then 32 else 256) (if short then 64 else 256) 300 0

def ROff (rate : Int) (short : Bool) (w : World) (e : Ending) (w' : World) : Prop :=
  ∃ v, e = .returned (.tuple #[v, .int .i64 0]) ∧ w'.ownsRow w.heap.size 3 1 v (bandL rate short).length ((bandL rate short).map (Value.int .i64)) ∧ Below w.heap.size w w'

/-- band.Offsets, of a rate that may be. -/
theorem offsets_ok (rate : Int) (short : Bool) (h0 : 0 ≤ rate) (h1 : rate ≤ 11) (w : World) :
    Calls Try.prog 15 #[.int .i64 rate, .bool short] w (ROff rate short w) := by
  cases short
  · exact off_L rate h0 h1 w
  · exact off_S rate h0 h1 w

/-- band.Offsets, of another one. -/
theorem offsets_bad (rate : Int) (short : Bool) (h : rate < 0 ∨ 11 < rate) (w : World) :
    Calls Try.prog 15 #[.int .i64 rate, .bool short] w fun e w' => e = .returned (.tuple #[.slice none 0 0, .int .i64 2]) ∧ w = w' := by
  rcases h with h | h
  all_goals
    go_enter Try.func15, Try.ntmps15
    go_wp2
    go_step3
    go_wp2
    rw [Exit.noGoto_ret]
    go_ret2
    exact ⟨rfl, rfl⟩

end Go.Proofs.Yteijlbblmdclaaa
