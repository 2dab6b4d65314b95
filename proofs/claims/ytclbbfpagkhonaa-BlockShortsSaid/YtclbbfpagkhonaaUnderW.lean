/- BlockUnder: the walk. -/
import Derived.Test.YtclbbfpagkhonaaUnderPlain
import Derived.Test.YtclbbfpagkhonaaBlkNames
import Derived.Test.YtclbbfpagkhonaaG1
import Derived.Deep.QuietTactic
set_option linter.unusedVariables false
set_option linter.unusedSimpArgs false
namespace Go.Proofs.Ytclbbfpagkhonaa
open Go.ChangeShapes Go.WideShapes Go.ChangeAt Go.RowKit

/-- A list and an error: where it lies. -/
def RListG (l : List Int) (E : Int) (w : World) (e : Ending) (w' : World) : Prop :=
  ∃ p c, e = .returned (.tuple #[.slice p l.length c, .int .i64 E]) ∧ l.length ≤ c ∧ IsInts w' p l ∧ Below w.heap.size w w'
theorem list_g {r : List Int × Int} {w : World} {e : Ending} {w' : World} (h : RRowE r w e w') : RListG r.1 r.2 w e w' := by
  obtain ⟨v, rfl, h1, hB⟩ := h
  obtain ⟨p, c, rfl, i1⟩ := owns_any h1
  refine ⟨p, c, rfl, ?_, i1.ints, hB⟩
  rcases h1.2 with ⟨h', _⟩ | ⟨g', cap, cur, e', _, _, h3, _⟩
  · have := h'
    simp at this
    omega
  · obtain ⟨_, rfl⟩ : p = some ⟨g', 0, none⟩ ∧ c = cap := by simpa using e'
    exact h3
theorem owns_cap' {w : World} {base : Nat} {e : TypeId} {size g n c : Nat} {xs : List Value} (h : w.ownsRow base e size (.slice (some ⟨g, 0, none⟩) n c) n xs) : n ≤ c := by
  rcases h.2 with ⟨h', _⟩ | ⟨g', cap, cur, e', _, _, h2, _⟩
  · simp at h'
  · obtain ⟨rfl, rfl⟩ : g = g' ∧ c = cap := by simpa using e'
    exact h2
theorem full_ints' {w : World} {base g n c : Nat} {l : List Int} (h : w.ownsRow base 3 1 (.slice (some ⟨g, 0, none⟩) n c) n (l.map (Value.int .i64))) (hn : l.length = n) (hlt : g < w.heap.size) : IsInts w (some ⟨g, 0, none⟩) l := by
  refine isInts_of hlt (fun j hj => ?_)
  rw [h.cellAt j (by omega), row_get l j (Nat.zero_le _) hj]
set_option maxRecDepth 100000 in
set_option maxHeartbeats 4000000 in
theorem under_long (seq was shape x : Int) (at_ : Int) (p : Option Addr) (n c : Nat) (w : World) (d0 : decide ((1000 : Int) < (n : Int)) = true) : Calls Try.prog 6 #[.int .u8 seq, .int .u8 was, .int .u8 shape, .slice p n c, .int .i64 at_, .int .i16 x] w fun e w' => e = .returned (.bool true) ∧ Below w.heap.size w w' := by
  go_enter Try.func6, Try.ntmps6
  go_wp2_with fail
  refine (alive12 _).mono ?_
  rintro e w1 ⟨rfl, hB1⟩
  have hz1 := hB1.size
  go_wp2
  go_ret
  exact ⟨rfl, hB1⟩
set_option maxRecDepth 100000 in
set_option maxHeartbeats 4000000 in
theorem under_bad1 (seq was shape x : Int) (at_ : Int) (p : Option Addr) (n c : Nat) (w : World) (d0 : decide ((1000 : Int) < (n : Int)) = false) (A : List Int) (E : Int) (hA0 : A.length = 0) (d1 : (E == 0) = false) (d1' : (E != 0) = true) (HA : Hid (∀ W, Below w.heap.size w W → Calls Try.prog 11 #[.int .u8 seq, .int .u8 was, .int .u8 shape, .slice p n c] W (RListG A E W))) : Calls Try.prog 6 #[.int .u8 seq, .int .u8 was, .int .u8 shape, .slice p n c, .int .i64 at_, .int .i16 x] w fun e w' => e = .returned (.bool true) ∧ Below w.heap.size w w' := by
  unfold RListG at HA
  rw [hA0] at HA
  go_enter Try.func6, Try.ntmps6
  go_wp2_with fail
  refine (alive12 _).mono ?_
  rintro e w1 ⟨rfl, hB1⟩
  have hz1 := hB1.size
  go_wp2_with fail
  refine (HA.out _ hB1).mono ?_
  rintro e w2 ⟨pa, ca, rfl, hca, hIa, hB2⟩
  have hb2 := hB1.trans (hB2.mono hz1)
  have hz2 := hb2.size
  go_wp2
  go_ret
  exact ⟨rfl, hb2⟩
set_option maxRecDepth 100000 in
set_option maxHeartbeats 4000000 in
theorem under_bad2a (seq was shape x : Int) (at_ : Int) (p : Option Addr) (n c : Nat) (w : World) (d0 : decide ((1000 : Int) < (n : Int)) = false) (A : List Int) (E : Int) (hE : E = 0) (d2 : decide (at_ < 0) = true) (HA : Hid (∀ W, Below w.heap.size w W → Calls Try.prog 11 #[.int .u8 seq, .int .u8 was, .int .u8 shape, .slice p n c] W (RListG A E W))) : Calls Try.prog 6 #[.int .u8 seq, .int .u8 was, .int .u8 shape, .slice p n c, .int .i64 at_, .int .i16 x] w fun e w' => e = .returned (.bool true) ∧ Below w.heap.size w w' := by
  subst hE
  unfold RListG at HA
  go_enter Try.func6, Try.ntmps6
  go_wp2_with fail
  refine (alive12 _).mono ?_
  rintro e w1 ⟨rfl, hB1⟩
  have hz1 := hB1.size
  go_wp2_with fail
  refine (HA.out _ hB1).mono ?_
  rintro e w2 ⟨pa, ca, rfl, hca, hIa, hB2⟩
  have hb2 := hB1.trans (hB2.mono hz1)
  have hz2 := hb2.size
  go_wp2
  go_ret
  exact ⟨rfl, hb2⟩
set_option maxRecDepth 100000 in
set_option maxHeartbeats 4000000 in
theorem under_bad2b (seq was shape x : Int) (at_ : Int) (p : Option Addr) (n c : Nat) (w : World) (d0 : decide ((1000 : Int) < (n : Int)) = false) (A : List Int) (E : Int) (hE : E = 0) (d2 : decide (at_ < 0) = false) (d3 : decide (511 < at_) = true) (HA : Hid (∀ W, Below w.heap.size w W → Calls Try.prog 11 #[.int .u8 seq, .int .u8 was, .int .u8 shape, .slice p n c] W (RListG A E W))) : Calls Try.prog 6 #[.int .u8 seq, .int .u8 was, .int .u8 shape, .slice p n c, .int .i64 at_, .int .i16 x] w fun e w' => e = .returned (.bool true) ∧ Below w.heap.size w w' := by
  subst hE
  unfold RListG at HA
  go_enter Try.func6, Try.ntmps6
  go_wp2_with fail
  refine (alive12 _).mono ?_
  rintro e w1 ⟨rfl, hB1⟩
  have hz1 := hB1.size
  go_wp2_with fail
  refine (HA.out _ hB1).mono ?_
  rintro e w2 ⟨pa, ca, rfl, hca, hIa, hB2⟩
  have hb2 := hB1.trans (hB2.mono hz1)
  have hz2 := hb2.size
  go_wp2
  go_ret
  exact ⟨rfl, hb2⟩
set_option maxRecDepth 100000 in
set_option maxHeartbeats 4000000 in
theorem under_ok_z (was shape x : Int) (hx : -32768 ≤ x ∧ x ≤ 32767) (p : Option Addr) (c : Nat) (w : World) (k : Nat) (hk : k < 512) (l A B Y : List Int) (E : Int) (hE : E = 0) (hn : l.length = 512) (hAl : A.length = 256) (hBl : B.length = 256) (hYl : Y.length = 512) (hw : IsArg w p c l)
    (HA : Hid (∀ W, Below w.heap.size w W → Calls Try.prog 11 #[.int .u8 0, .int .u8 was, .int .u8 shape, .slice p 512 c] W (RListG A E W)))
    (HB : Hid (∀ W q d, 512 ≤ d → IsInts W q (l.set k x) → Calls Try.prog 11 #[.int .u8 0, .int .u8 was, .int .u8 shape, .slice q 512 d] W (RListG B E W)))
    (HY : Hid (∀ W q d, 256 ≤ d → IsInts W q A → Calls Try.prog 10 #[.int .u8 0, .int .u8 was, .int .u8 shape, .slice q 256 d] W (RListG Y E W)))   : Calls Try.prog 6 #[.int .u8 0, .int .u8 was, .int .u8 shape, .slice p 512 c, .int .i64 k, .int .i16 x] w fun e w' => e = .returned (.bool true) ∧ Below w.heap.size w w' := by
  subst hE
  have hwk : IntKind.i64.wrap x = x := by rw [IntKind.wrap_i64]; omega
  have d2 : decide ((k : Int) < 0) = false := decide_eq_false (by omega)
  have d3 : decide ((511 : Int) < (k : Int)) = false := decide_eq_false (by omega)
  unfold RListG at HA HB HY
  rw [hAl] at HA
  rw [hBl] at HB
  rw [hYl] at HY
  have HAl := Lib.hid hAl
  have HBl := Lib.hid hBl
  have HYl := Lib.hid hYl
  have HW := Lib.hid hw
  have HN := Lib.hid hn
  have hset : Hid ((l.map (Value.int .i64)).set k (.int .i64 x) = (l.set k x).map (Value.int .i64)) := by show _ = _; rw [List.map_set]
  have hsl : Hid ((l.set k x).length = 512) := by show _ = _; rw [List.length_set]; exact hn
  have hgl : Hid ((l.map (Value.int .i64))[k]? = some (.int .i64 (l.getD k 0))) := by show _ = _; exact row_get l k (Nat.zero_le _) (by omega)
  obtain ⟨L2, hL2⟩ : ∃ L2, l.set k x = L2 := ⟨_, rfl⟩
  rw [hL2] at HB hset hsl
  obtain ⟨u0, hu0⟩ : ∃ u0, l.getD k 0 = u0 := ⟨_, rfl⟩
  rw [hu0] at hgl
  clear hAl hBl hYl hw hL2 hu0 hn
  go_enter Try.func6, Try.ntmps6
  go_wp2_with fail
  refine (alive12 _).mono ?_
  rintro e w1 ⟨rfl, hB1⟩
  have hz1 := hB1.size
  go_wp2_with fail
  refine (HA.out _ hB1).mono ?_
  rintro e w2 ⟨pa, ca, rfl, hca, hIa, hB2⟩
  have hb2 := hB1.trans (hB2.mono hz1)
  have hz2 := hb2.size
  have HIa := Lib.hid hIa
  have HWa := Lib.hid (HW.out.keep hb2)
  have Hb2 := Lib.hid hb2
  clear hIa hB2 hb2 HW HA
  go_wp2_with (at_builtin; refine append_ints rfl _ _ rfl w2.heap.size (.slice none 0 0) 0 [] rfl (World.ownsRow_nil _ _ _ _) p c l (by rw [HN.out]; rfl) HWa.out (by unfold maxLen; rw [HN.out]; omega) (by rw [HN.out]; omega) (Nat.le_refl _) ?_; intro v3 w3 hO3 hG3; rw [Nat.zero_add, HN.out, List.nil_append] at hO3; obtain ⟨g3, c3, rfl, hg3, hlt3⟩ := owns_shape hO3 (by omega); have hB3 := (Below.refl w2.heap.size w2).grown hG3 (Nat.le_refl _) (fun _ e => by cases e); have hcap3 := owns_cap' hO3; have cc := hO3.cellAt k (by omega); rw [hgl.out] at cc; have cf := hO3.frozenAt k; have hst := hO3.stored k (.int .i64 x); rw [hset.out] at hst; have HR := Lib.hid hst.1; clear hst hO3 hG3)
  have hz3 := hB3.size
  obtain ⟨W4, hW4⟩ : ∃ W4, w3.setCell ⟨g3, k, none⟩ (.int .i64 x) = W4 := ⟨_, rfl⟩
  rw [hW4] at HR
  have hs4 : W4.heap.size = w3.heap.size := by rw [← hW4]; simp [World.setCell]
  have hB24 : Below w2.heap.size w2 W4 := by rw [← hW4]; exact hB3.setCell (p := ⟨g3, k, none⟩) hg3 _
  have HI4 := Lib.hid (full_ints' HR.out hsl.out (by omega))
  have HIa4 := Lib.hid (HIa.out.keep hB24)
  have Hb4 := Lib.hid (Hb2.out.trans (hB24.mono hz2))
  clear cc cf HR hB3 hB24 HIa Hb2 HWa
  rw [hW4]
  clear hW4
  refine (HB.out _ _ _ hcap3 HI4.out).mono ?_
  rintro e w5 ⟨pb, cb, rfl, hcb, hIb, hB5⟩
  have HIa5 := Lib.hid (HIa4.out.keep hB5)
  have HIb5 := Lib.hid hIb
  have hz4 := Hb4.out.size
  have Hb5 := Lib.hid (Hb4.out.trans (hB5.mono hz4))
  clear hB5 hIb HB HIa4 Hb4 HI4
  go_wp2_with fail
  refine (HY.out _ _ _ hca HIa5.out).mono ?_
  rintro e w6 ⟨py, cy, rfl, hcy, hIy, hB6⟩
  have HIa6 := Lib.hid (HIa5.out.keep hB6)
  have HIb6 := Lib.hid (HIb5.out.keep hB6)
  have HIy6 := Lib.hid hIy
  have hz5 := Hb5.out.size
  have Hb6 := Lib.hid (Hb5.out.trans (hB6.mono hz5))
  clear hB6 hIy HY HIa5 HIb5 Hb5
  go_wp2
  go_ret
  exact ⟨rfl, Hb6.out⟩
set_option maxRecDepth 100000 in
set_option maxHeartbeats 4000000 in
theorem under_ok_sa (was shape x : Int) (hx : -32768 ≤ x ∧ x ≤ 32767) (p : Option Addr) (c : Nat) (w : World) (k : Nat) (hk : k < 512) (l A B Y : List Int) (E : Int) (hE : E = 0) (hn : l.length = 512) (hAl : A.length = 256) (hBl : B.length = 256) (hYl : Y.length = 512) (hw : IsArg w p c l)
    (HA : Hid (∀ W, Below w.heap.size w W → Calls Try.prog 11 #[.int .u8 2, .int .u8 was, .int .u8 shape, .slice p 512 c] W (RListG A E W)))
    (HB : Hid (∀ W q d, 512 ≤ d → IsInts W q (l.set k x) → Calls Try.prog 11 #[.int .u8 2, .int .u8 was, .int .u8 shape, .slice q 512 d] W (RListG B E W)))
    (HY : Hid (∀ W q d, 256 ≤ d → IsInts W q A → Calls Try.prog 10 #[.int .u8 2, .int .u8 was, .int .u8 shape, .slice q 256 d] W (RListG Y E W))) (e1 : decide ((k : Int) < 112) = true) (hAB : A = B) (hY0 : Y.getD k 0 = 0) : Calls Try.prog 6 #[.int .u8 2, .int .u8 was, .int .u8 shape, .slice p 512 c, .int .i64 k, .int .i16 x] w fun e w' => e = .returned (.bool true) ∧ Below w.heap.size w w' := by
  have HAB := Lib.hid hAB
  have HY0 := Lib.hid hY0
  clear hAB hY0
  subst hE
  have hwk : IntKind.i64.wrap x = x := by rw [IntKind.wrap_i64]; omega
  have d2 : decide ((k : Int) < 0) = false := decide_eq_false (by omega)
  have d3 : decide ((511 : Int) < (k : Int)) = false := decide_eq_false (by omega)
  unfold RListG at HA HB HY
  rw [hAl] at HA
  rw [hBl] at HB
  rw [hYl] at HY
  have HAl := Lib.hid hAl
  have HBl := Lib.hid hBl
  have HYl := Lib.hid hYl
  have HW := Lib.hid hw
  have HN := Lib.hid hn
  have hset : Hid ((l.map (Value.int .i64)).set k (.int .i64 x) = (l.set k x).map (Value.int .i64)) := by show _ = _; rw [List.map_set]
  have hsl : Hid ((l.set k x).length = 512) := by show _ = _; rw [List.length_set]; exact hn
  have hgl : Hid ((l.map (Value.int .i64))[k]? = some (.int .i64 (l.getD k 0))) := by show _ = _; exact row_get l k (Nat.zero_le _) (by omega)
  obtain ⟨L2, hL2⟩ : ∃ L2, l.set k x = L2 := ⟨_, rfl⟩
  rw [hL2] at HB hset hsl
  obtain ⟨u0, hu0⟩ : ∃ u0, l.getD k 0 = u0 := ⟨_, rfl⟩
  rw [hu0] at hgl
  clear hAl hBl hYl hw hL2 hu0 hn
  go_enter Try.func6, Try.ntmps6
  go_wp2_with fail
  refine (alive12 _).mono ?_
  rintro e w1 ⟨rfl, hB1⟩
  have hz1 := hB1.size
  go_wp2_with fail
  refine (HA.out _ hB1).mono ?_
  rintro e w2 ⟨pa, ca, rfl, hca, hIa, hB2⟩
  have hb2 := hB1.trans (hB2.mono hz1)
  have hz2 := hb2.size
  have HIa := Lib.hid hIa
  have HWa := Lib.hid (HW.out.keep hb2)
  have Hb2 := Lib.hid hb2
  clear hIa hB2 hb2 HW HA
  go_wp2_with (at_builtin; refine append_ints rfl _ _ rfl w2.heap.size (.slice none 0 0) 0 [] rfl (World.ownsRow_nil _ _ _ _) p c l (by rw [HN.out]; rfl) HWa.out (by unfold maxLen; rw [HN.out]; omega) (by rw [HN.out]; omega) (Nat.le_refl _) ?_; intro v3 w3 hO3 hG3; rw [Nat.zero_add, HN.out, List.nil_append] at hO3; obtain ⟨g3, c3, rfl, hg3, hlt3⟩ := owns_shape hO3 (by omega); have hB3 := (Below.refl w2.heap.size w2).grown hG3 (Nat.le_refl _) (fun _ e => by cases e); have hcap3 := owns_cap' hO3; have cc := hO3.cellAt k (by omega); rw [hgl.out] at cc; have cf := hO3.frozenAt k; have hst := hO3.stored k (.int .i64 x); rw [hset.out] at hst; have HR := Lib.hid hst.1; clear hst hO3 hG3)
  have hz3 := hB3.size
  obtain ⟨W4, hW4⟩ : ∃ W4, w3.setCell ⟨g3, k, none⟩ (.int .i64 x) = W4 := ⟨_, rfl⟩
  rw [hW4] at HR
  have hs4 : W4.heap.size = w3.heap.size := by rw [← hW4]; simp [World.setCell]
  have hB24 : Below w2.heap.size w2 W4 := by rw [← hW4]; exact hB3.setCell (p := ⟨g3, k, none⟩) hg3 _
  have HI4 := Lib.hid (full_ints' HR.out hsl.out (by omega))
  have HIa4 := Lib.hid (HIa.out.keep hB24)
  have Hb4 := Lib.hid (Hb2.out.trans (hB24.mono hz2))
  clear cc cf HR hB3 hB24 HIa Hb2 HWa
  rw [hW4]
  clear hW4
  refine (HB.out _ _ _ hcap3 HI4.out).mono ?_
  rintro e w5 ⟨pb, cb, rfl, hcb, hIb, hB5⟩
  have HIa5 := Lib.hid (HIa4.out.keep hB5)
  have HIb5 := Lib.hid hIb
  have hz4 := Hb4.out.size
  have Hb5 := Lib.hid (Hb4.out.trans (hB5.mono hz4))
  clear hB5 hIb HB HIa4 Hb4 HI4
  go_wp2_with fail
  refine (HY.out _ _ _ hca HIa5.out).mono ?_
  rintro e w6 ⟨py, cy, rfl, hcy, hIy, hB6⟩
  have HIa6 := Lib.hid (HIa5.out.keep hB6)
  have HIb6 := Lib.hid (HIb5.out.keep hB6)
  have HIy6 := Lib.hid hIy
  have hz5 := Hb5.out.size
  have Hb6 := Lib.hid (Hb5.out.trans (hB6.mono hz5))
  clear hB6 hIy HY HIa5 HIb5 Hb5
  go_wp2
  go_loopw [22] (fun I wr => ∃ (j m : Nat), I = .int .i64 j ∧ j ≤ 256 ∧ wr = w6.drewN m) (fun I _ => 256 - (intOf I).toNat)
  case atStart => exact ⟨0, 0, rfl, by omega, rfl⟩
  case round =>
    obtain ⟨j, m, rfl, hj, rfl⟩ := hrel
    by_cases hlj : j < 256
    · have hd : decide ((j : Int) < 256) = true := decide_eq_true (by omega)
      obtain ⟨ba, oa, rfl, _, qa⟩ := HIa6.out.at (j := j) (by rw [HAl.out]; exact hlj)
      obtain ⟨bb, ob, rfl, _, qb⟩ := HIb6.out.at (j := j) (by rw [HBl.out]; exact hlj)
      have ra := qa j (by rw [HAl.out]; exact hlj)
      have rb := qb j (by rw [HBl.out]; exact hlj)
      rw [← HAB.out] at rb
      generalize A.getD j 0 = z at *
      have z1 : (z == z) = true := by simp
      have z2 : (z != z) = false := by simp
      clear qa qb
      go_wp2
      go_quiet (fail)
      go_wp2
      exact ⟨⟨j + 1, _, by go_num, by omega, rfl⟩, by simp [intOf]; omega⟩
    · have hd : decide ((j : Int) < 256) = false := decide_eq_false (by omega)
      obtain ⟨by_, oy, rfl, _, qy⟩ := HIy6.out.at (j := k) (by rw [HYl.out]; exact hk)
      have ry := qy k (by rw [HYl.out]; exact hk)
      rw [HY0.out] at ry
      clear qy
      go_wp2
      go_ret
      exact ⟨rfl, below_drewN Hb6.out _⟩
set_option maxRecDepth 100000 in
set_option maxHeartbeats 4000000 in
theorem under_ok_sb (was shape x : Int) (hx : -32768 ≤ x ∧ x ≤ 32767) (p : Option Addr) (c : Nat) (w : World) (k : Nat) (hk : k < 512) (l A B Y : List Int) (E : Int) (hE : E = 0) (hn : l.length = 512) (hAl : A.length = 256) (hBl : B.length = 256) (hYl : Y.length = 512) (hw : IsArg w p c l)
    (HA : Hid (∀ W, Below w.heap.size w W → Calls Try.prog 11 #[.int .u8 2, .int .u8 was, .int .u8 shape, .slice p 512 c] W (RListG A E W)))
    (HB : Hid (∀ W q d, 512 ≤ d → IsInts W q (l.set k x) → Calls Try.prog 11 #[.int .u8 2, .int .u8 was, .int .u8 shape, .slice q 512 d] W (RListG B E W)))
    (HY : Hid (∀ W q d, 256 ≤ d → IsInts W q A → Calls Try.prog 10 #[.int .u8 2, .int .u8 was, .int .u8 shape, .slice q 256 d] W (RListG Y E W))) (e1 : decide ((k : Int) < 112) = false) (e2 : decide ((400 : Int) ≤ (k : Int)) = true) (hAB : A = B) (hY0 : Y.getD k 0 = 0) : Calls Try.prog 6 #[.int .u8 2, .int .u8 was, .int .u8 shape, .slice p 512 c, .int .i64 k, .int .i16 x] w fun e w' => e = .returned (.bool true) ∧ Below w.heap.size w w' := by
  have HAB := Lib.hid hAB
  have HY0 := Lib.hid hY0
  clear hAB hY0
  subst hE
  have hwk : IntKind.i64.wrap x = x := by rw [IntKind.wrap_i64]; omega
  have d2 : decide ((k : Int) < 0) = false := decide_eq_false (by omega)
  have d3 : decide ((511 : Int) < (k : Int)) = false := decide_eq_false (by omega)
  unfold RListG at HA HB HY
  rw [hAl] at HA
  rw [hBl] at HB
  rw [hYl] at HY
  have HAl := Lib.hid hAl
  have HBl := Lib.hid hBl
  have HYl := Lib.hid hYl
  have HW := Lib.hid hw
  have HN := Lib.hid hn
  have hset : Hid ((l.map (Value.int .i64)).set k (.int .i64 x) = (l.set k x).map (Value.int .i64)) := by show _ = _; rw [List.map_set]
  have hsl : Hid ((l.set k x).length = 512) := by show _ = _; rw [List.length_set]; exact hn
  have hgl : Hid ((l.map (Value.int .i64))[k]? = some (.int .i64 (l.getD k 0))) := by show _ = _; exact row_get l k (Nat.zero_le _) (by omega)
  obtain ⟨L2, hL2⟩ : ∃ L2, l.set k x = L2 := ⟨_, rfl⟩
  rw [hL2] at HB hset hsl
  obtain ⟨u0, hu0⟩ : ∃ u0, l.getD k 0 = u0 := ⟨_, rfl⟩
  rw [hu0] at hgl
  clear hAl hBl hYl hw hL2 hu0 hn
  go_enter Try.func6, Try.ntmps6
  go_wp2_with fail
  refine (alive12 _).mono ?_
  rintro e w1 ⟨rfl, hB1⟩
  have hz1 := hB1.size
  go_wp2_with fail
  refine (HA.out _ hB1).mono ?_
  rintro e w2 ⟨pa, ca, rfl, hca, hIa, hB2⟩
  have hb2 := hB1.trans (hB2.mono hz1)
  have hz2 := hb2.size
  have HIa := Lib.hid hIa
  have HWa := Lib.hid (HW.out.keep hb2)
  have Hb2 := Lib.hid hb2
  clear hIa hB2 hb2 HW HA
  go_wp2_with (at_builtin; refine append_ints rfl _ _ rfl w2.heap.size (.slice none 0 0) 0 [] rfl (World.ownsRow_nil _ _ _ _) p c l (by rw [HN.out]; rfl) HWa.out (by unfold maxLen; rw [HN.out]; omega) (by rw [HN.out]; omega) (Nat.le_refl _) ?_; intro v3 w3 hO3 hG3; rw [Nat.zero_add, HN.out, List.nil_append] at hO3; obtain ⟨g3, c3, rfl, hg3, hlt3⟩ := owns_shape hO3 (by omega); have hB3 := (Below.refl w2.heap.size w2).grown hG3 (Nat.le_refl _) (fun _ e => by cases e); have hcap3 := owns_cap' hO3; have cc := hO3.cellAt k (by omega); rw [hgl.out] at cc; have cf := hO3.frozenAt k; have hst := hO3.stored k (.int .i64 x); rw [hset.out] at hst; have HR := Lib.hid hst.1; clear hst hO3 hG3)
  have hz3 := hB3.size
  obtain ⟨W4, hW4⟩ : ∃ W4, w3.setCell ⟨g3, k, none⟩ (.int .i64 x) = W4 := ⟨_, rfl⟩
  rw [hW4] at HR
  have hs4 : W4.heap.size = w3.heap.size := by rw [← hW4]; simp [World.setCell]
  have hB24 : Below w2.heap.size w2 W4 := by rw [← hW4]; exact hB3.setCell (p := ⟨g3, k, none⟩) hg3 _
  have HI4 := Lib.hid (full_ints' HR.out hsl.out (by omega))
  have HIa4 := Lib.hid (HIa.out.keep hB24)
  have Hb4 := Lib.hid (Hb2.out.trans (hB24.mono hz2))
  clear cc cf HR hB3 hB24 HIa Hb2 HWa
  rw [hW4]
  clear hW4
  refine (HB.out _ _ _ hcap3 HI4.out).mono ?_
  rintro e w5 ⟨pb, cb, rfl, hcb, hIb, hB5⟩
  have HIa5 := Lib.hid (HIa4.out.keep hB5)
  have HIb5 := Lib.hid hIb
  have hz4 := Hb4.out.size
  have Hb5 := Lib.hid (Hb4.out.trans (hB5.mono hz4))
  clear hB5 hIb HB HIa4 Hb4 HI4
  go_wp2_with fail
  refine (HY.out _ _ _ hca HIa5.out).mono ?_
  rintro e w6 ⟨py, cy, rfl, hcy, hIy, hB6⟩
  have HIa6 := Lib.hid (HIa5.out.keep hB6)
  have HIb6 := Lib.hid (HIb5.out.keep hB6)
  have HIy6 := Lib.hid hIy
  have hz5 := Hb5.out.size
  have Hb6 := Lib.hid (Hb5.out.trans (hB6.mono hz5))
  clear hB6 hIy HY HIa5 HIb5 Hb5
  go_wp2
  go_loopw [22] (fun I wr => ∃ (j m : Nat), I = .int .i64 j ∧ j ≤ 256 ∧ wr = w6.drewN m) (fun I _ => 256 - (intOf I).toNat)
  case atStart => exact ⟨0, 0, rfl, by omega, rfl⟩
  case round =>
    obtain ⟨j, m, rfl, hj, rfl⟩ := hrel
    by_cases hlj : j < 256
    · have hd : decide ((j : Int) < 256) = true := decide_eq_true (by omega)
      obtain ⟨ba, oa, rfl, _, qa⟩ := HIa6.out.at (j := j) (by rw [HAl.out]; exact hlj)
      obtain ⟨bb, ob, rfl, _, qb⟩ := HIb6.out.at (j := j) (by rw [HBl.out]; exact hlj)
      have ra := qa j (by rw [HAl.out]; exact hlj)
      have rb := qb j (by rw [HBl.out]; exact hlj)
      rw [← HAB.out] at rb
      generalize A.getD j 0 = z at *
      have z1 : (z == z) = true := by simp
      have z2 : (z != z) = false := by simp
      clear qa qb
      go_wp2
      go_quiet (fail)
      go_wp2
      exact ⟨⟨j + 1, _, by go_num, by omega, rfl⟩, by simp [intOf]; omega⟩
    · have hd : decide ((j : Int) < 256) = false := decide_eq_false (by omega)
      obtain ⟨by_, oy, rfl, _, qy⟩ := HIy6.out.at (j := k) (by rw [HYl.out]; exact hk)
      have ry := qy k (by rw [HYl.out]; exact hk)
      rw [HY0.out] at ry
      clear qy
      go_wp2
      go_ret
      exact ⟨rfl, below_drewN Hb6.out _⟩
set_option maxRecDepth 100000 in
set_option maxHeartbeats 4000000 in
theorem under_ok_sc (was shape x : Int) (hx : -32768 ≤ x ∧ x ≤ 32767) (p : Option Addr) (c : Nat) (w : World) (k : Nat) (hk : k < 512) (l A B Y : List Int) (E : Int) (hE : E = 0) (hn : l.length = 512) (hAl : A.length = 256) (hBl : B.length = 256) (hYl : Y.length = 512) (hw : IsArg w p c l)
    (HA : Hid (∀ W, Below w.heap.size w W → Calls Try.prog 11 #[.int .u8 2, .int .u8 was, .int .u8 shape, .slice p 512 c] W (RListG A E W)))
    (HB : Hid (∀ W q d, 512 ≤ d → IsInts W q (l.set k x) → Calls Try.prog 11 #[.int .u8 2, .int .u8 was, .int .u8 shape, .slice q 512 d] W (RListG B E W)))
    (HY : Hid (∀ W q d, 256 ≤ d → IsInts W q A → Calls Try.prog 10 #[.int .u8 2, .int .u8 was, .int .u8 shape, .slice q 256 d] W (RListG Y E W))) (e1 : decide ((k : Int) < 112) = false) (e2 : decide ((400 : Int) ≤ (k : Int)) = false)  : Calls Try.prog 6 #[.int .u8 2, .int .u8 was, .int .u8 shape, .slice p 512 c, .int .i64 k, .int .i16 x] w fun e w' => e = .returned (.bool true) ∧ Below w.heap.size w w' := by
  subst hE
  have hwk : IntKind.i64.wrap x = x := by rw [IntKind.wrap_i64]; omega
  have d2 : decide ((k : Int) < 0) = false := decide_eq_false (by omega)
  have d3 : decide ((511 : Int) < (k : Int)) = false := decide_eq_false (by omega)
  unfold RListG at HA HB HY
  rw [hAl] at HA
  rw [hBl] at HB
  rw [hYl] at HY
  have HAl := Lib.hid hAl
  have HBl := Lib.hid hBl
  have HYl := Lib.hid hYl
  have HW := Lib.hid hw
  have HN := Lib.hid hn
  have hset : Hid ((l.map (Value.int .i64)).set k (.int .i64 x) = (l.set k x).map (Value.int .i64)) := by show _ = _; rw [List.map_set]
  have hsl : Hid ((l.set k x).length = 512) := by show _ = _; rw [List.length_set]; exact hn
  have hgl : Hid ((l.map (Value.int .i64))[k]? = some (.int .i64 (l.getD k 0))) := by show _ = _; exact row_get l k (Nat.zero_le _) (by omega)
  obtain ⟨L2, hL2⟩ : ∃ L2, l.set k x = L2 := ⟨_, rfl⟩
  rw [hL2] at HB hset hsl
  obtain ⟨u0, hu0⟩ : ∃ u0, l.getD k 0 = u0 := ⟨_, rfl⟩
  rw [hu0] at hgl
  clear hAl hBl hYl hw hL2 hu0 hn
  go_enter Try.func6, Try.ntmps6
  go_wp2_with fail
  refine (alive12 _).mono ?_
  rintro e w1 ⟨rfl, hB1⟩
  have hz1 := hB1.size
  go_wp2_with fail
  refine (HA.out _ hB1).mono ?_
  rintro e w2 ⟨pa, ca, rfl, hca, hIa, hB2⟩
  have hb2 := hB1.trans (hB2.mono hz1)
  have hz2 := hb2.size
  have HIa := Lib.hid hIa
  have HWa := Lib.hid (HW.out.keep hb2)
  have Hb2 := Lib.hid hb2
  clear hIa hB2 hb2 HW HA
  go_wp2_with (at_builtin; refine append_ints rfl _ _ rfl w2.heap.size (.slice none 0 0) 0 [] rfl (World.ownsRow_nil _ _ _ _) p c l (by rw [HN.out]; rfl) HWa.out (by unfold maxLen; rw [HN.out]; omega) (by rw [HN.out]; omega) (Nat.le_refl _) ?_; intro v3 w3 hO3 hG3; rw [Nat.zero_add, HN.out, List.nil_append] at hO3; obtain ⟨g3, c3, rfl, hg3, hlt3⟩ := owns_shape hO3 (by omega); have hB3 := (Below.refl w2.heap.size w2).grown hG3 (Nat.le_refl _) (fun _ e => by cases e); have hcap3 := owns_cap' hO3; have cc := hO3.cellAt k (by omega); rw [hgl.out] at cc; have cf := hO3.frozenAt k; have hst := hO3.stored k (.int .i64 x); rw [hset.out] at hst; have HR := Lib.hid hst.1; clear hst hO3 hG3)
  have hz3 := hB3.size
  obtain ⟨W4, hW4⟩ : ∃ W4, w3.setCell ⟨g3, k, none⟩ (.int .i64 x) = W4 := ⟨_, rfl⟩
  rw [hW4] at HR
  have hs4 : W4.heap.size = w3.heap.size := by rw [← hW4]; simp [World.setCell]
  have hB24 : Below w2.heap.size w2 W4 := by rw [← hW4]; exact hB3.setCell (p := ⟨g3, k, none⟩) hg3 _
  have HI4 := Lib.hid (full_ints' HR.out hsl.out (by omega))
  have HIa4 := Lib.hid (HIa.out.keep hB24)
  have Hb4 := Lib.hid (Hb2.out.trans (hB24.mono hz2))
  clear cc cf HR hB3 hB24 HIa Hb2 HWa
  rw [hW4]
  clear hW4
  refine (HB.out _ _ _ hcap3 HI4.out).mono ?_
  rintro e w5 ⟨pb, cb, rfl, hcb, hIb, hB5⟩
  have HIa5 := Lib.hid (HIa4.out.keep hB5)
  have HIb5 := Lib.hid hIb
  have hz4 := Hb4.out.size
  have Hb5 := Lib.hid (Hb4.out.trans (hB5.mono hz4))
  clear hB5 hIb HB HIa4 Hb4 HI4
  go_wp2_with fail
  refine (HY.out _ _ _ hca HIa5.out).mono ?_
  rintro e w6 ⟨py, cy, rfl, hcy, hIy, hB6⟩
  have HIa6 := Lib.hid (HIa5.out.keep hB6)
  have HIb6 := Lib.hid (HIb5.out.keep hB6)
  have HIy6 := Lib.hid hIy
  have hz5 := Hb5.out.size
  have Hb6 := Lib.hid (Hb5.out.trans (hB6.mono hz5))
  clear hB6 hIy HY HIa5 HIb5 Hb5
  go_wp2
  go_ret
  exact ⟨rfl, Hb6.out⟩
set_option maxRecDepth 100000 in
set_option maxHeartbeats 4000000 in
theorem under_ok_ta (was shape x : Int) (hx : -32768 ≤ x ∧ x ≤ 32767) (p : Option Addr) (c : Nat) (w : World) (k : Nat) (hk : k < 512) (l A B Y : List Int) (E : Int) (hE : E = 0) (hn : l.length = 512) (hAl : A.length = 256) (hBl : B.length = 256) (hYl : Y.length = 512) (hw : IsArg w p c l)
    (HA : Hid (∀ W, Below w.heap.size w W → Calls Try.prog 11 #[.int .u8 1, .int .u8 was, .int .u8 shape, .slice p 512 c] W (RListG A E W)))
    (HB : Hid (∀ W q d, 512 ≤ d → IsInts W q (l.set k x) → Calls Try.prog 11 #[.int .u8 1, .int .u8 was, .int .u8 shape, .slice q 512 d] W (RListG B E W)))
    (HY : Hid (∀ W q d, 256 ≤ d → IsInts W q A → Calls Try.prog 10 #[.int .u8 1, .int .u8 was, .int .u8 shape, .slice q 256 d] W (RListG Y E W))) (e2 : decide ((400 : Int) ≤ (k : Int)) = true) (hAB : A = B) (hY0 : Y.getD k 0 = 0) : Calls Try.prog 6 #[.int .u8 1, .int .u8 was, .int .u8 shape, .slice p 512 c, .int .i64 k, .int .i16 x] w fun e w' => e = .returned (.bool true) ∧ Below w.heap.size w w' := by
  have HAB := Lib.hid hAB
  have HY0 := Lib.hid hY0
  clear hAB hY0
  subst hE
  have hwk : IntKind.i64.wrap x = x := by rw [IntKind.wrap_i64]; omega
  have d2 : decide ((k : Int) < 0) = false := decide_eq_false (by omega)
  have d3 : decide ((511 : Int) < (k : Int)) = false := decide_eq_false (by omega)
  unfold RListG at HA HB HY
  rw [hAl] at HA
  rw [hBl] at HB
  rw [hYl] at HY
  have HAl := Lib.hid hAl
  have HBl := Lib.hid hBl
  have HYl := Lib.hid hYl
  have HW := Lib.hid hw
  have HN := Lib.hid hn
  have hset : Hid ((l.map (Value.int .i64)).set k (.int .i64 x) = (l.set k x).map (Value.int .i64)) := by show _ = _; rw [List.map_set]
  have hsl : Hid ((l.set k x).length = 512) := by show _ = _; rw [List.length_set]; exact hn
  have hgl : Hid ((l.map (Value.int .i64))[k]? = some (.int .i64 (l.getD k 0))) := by show _ = _; exact row_get l k (Nat.zero_le _) (by omega)
  obtain ⟨L2, hL2⟩ : ∃ L2, l.set k x = L2 := ⟨_, rfl⟩
  rw [hL2] at HB hset hsl
  obtain ⟨u0, hu0⟩ : ∃ u0, l.getD k 0 = u0 := ⟨_, rfl⟩
  rw [hu0] at hgl
  clear hAl hBl hYl hw hL2 hu0 hn
  go_enter Try.func6, Try.ntmps6
  go_wp2_with fail
  refine (alive12 _).mono ?_
  rintro e w1 ⟨rfl, hB1⟩
  have hz1 := hB1.size
  go_wp2_with fail
  refine (HA.out _ hB1).mono ?_
  rintro e w2 ⟨pa, ca, rfl, hca, hIa, hB2⟩
  have hb2 := hB1.trans (hB2.mono hz1)
  have hz2 := hb2.size
  have HIa := Lib.hid hIa
  have HWa := Lib.hid (HW.out.keep hb2)
  have Hb2 := Lib.hid hb2
  clear hIa hB2 hb2 HW HA
  go_wp2_with (at_builtin; refine append_ints rfl _ _ rfl w2.heap.size (.slice none 0 0) 0 [] rfl (World.ownsRow_nil _ _ _ _) p c l (by rw [HN.out]; rfl) HWa.out (by unfold maxLen; rw [HN.out]; omega) (by rw [HN.out]; omega) (Nat.le_refl _) ?_; intro v3 w3 hO3 hG3; rw [Nat.zero_add, HN.out, List.nil_append] at hO3; obtain ⟨g3, c3, rfl, hg3, hlt3⟩ := owns_shape hO3 (by omega); have hB3 := (Below.refl w2.heap.size w2).grown hG3 (Nat.le_refl _) (fun _ e => by cases e); have hcap3 := owns_cap' hO3; have cc := hO3.cellAt k (by omega); rw [hgl.out] at cc; have cf := hO3.frozenAt k; have hst := hO3.stored k (.int .i64 x); rw [hset.out] at hst; have HR := Lib.hid hst.1; clear hst hO3 hG3)
  have hz3 := hB3.size
  obtain ⟨W4, hW4⟩ : ∃ W4, w3.setCell ⟨g3, k, none⟩ (.int .i64 x) = W4 := ⟨_, rfl⟩
  rw [hW4] at HR
  have hs4 : W4.heap.size = w3.heap.size := by rw [← hW4]; simp [World.setCell]
  have hB24 : Below w2.heap.size w2 W4 := by rw [← hW4]; exact hB3.setCell (p := ⟨g3, k, none⟩) hg3 _
  have HI4 := Lib.hid (full_ints' HR.out hsl.out (by omega))
  have HIa4 := Lib.hid (HIa.out.keep hB24)
  have Hb4 := Lib.hid (Hb2.out.trans (hB24.mono hz2))
  clear cc cf HR hB3 hB24 HIa Hb2 HWa
  rw [hW4]
  clear hW4
  refine (HB.out _ _ _ hcap3 HI4.out).mono ?_
  rintro e w5 ⟨pb, cb, rfl, hcb, hIb, hB5⟩
  have HIa5 := Lib.hid (HIa4.out.keep hB5)
  have HIb5 := Lib.hid hIb
  have hz4 := Hb4.out.size
  have Hb5 := Lib.hid (Hb4.out.trans (hB5.mono hz4))
  clear hB5 hIb HB HIa4 Hb4 HI4
  go_wp2_with fail
  refine (HY.out _ _ _ hca HIa5.out).mono ?_
  rintro e w6 ⟨py, cy, rfl, hcy, hIy, hB6⟩
  have HIa6 := Lib.hid (HIa5.out.keep hB6)
  have HIb6 := Lib.hid (HIb5.out.keep hB6)
  have HIy6 := Lib.hid hIy
  have hz5 := Hb5.out.size
  have Hb6 := Lib.hid (Hb5.out.trans (hB6.mono hz5))
  clear hB6 hIy HY HIa5 HIb5 Hb5
  go_wp2
  go_loopw [22] (fun I wr => ∃ (j m : Nat), I = .int .i64 j ∧ j ≤ 256 ∧ wr = w6.drewN m) (fun I _ => 256 - (intOf I).toNat)
  case atStart => exact ⟨0, 0, rfl, by omega, rfl⟩
  case round =>
    obtain ⟨j, m, rfl, hj, rfl⟩ := hrel
    by_cases hlj : j < 256
    · have hd : decide ((j : Int) < 256) = true := decide_eq_true (by omega)
      obtain ⟨ba, oa, rfl, _, qa⟩ := HIa6.out.at (j := j) (by rw [HAl.out]; exact hlj)
      obtain ⟨bb, ob, rfl, _, qb⟩ := HIb6.out.at (j := j) (by rw [HBl.out]; exact hlj)
      have ra := qa j (by rw [HAl.out]; exact hlj)
      have rb := qb j (by rw [HBl.out]; exact hlj)
      rw [← HAB.out] at rb
      generalize A.getD j 0 = z at *
      have z1 : (z == z) = true := by simp
      have z2 : (z != z) = false := by simp
      clear qa qb
      go_wp2
      go_quiet (fail)
      go_wp2
      exact ⟨⟨j + 1, _, by go_num, by omega, rfl⟩, by simp [intOf]; omega⟩
    · have hd : decide ((j : Int) < 256) = false := decide_eq_false (by omega)
      obtain ⟨by_, oy, rfl, _, qy⟩ := HIy6.out.at (j := k) (by rw [HYl.out]; exact hk)
      have ry := qy k (by rw [HYl.out]; exact hk)
      rw [HY0.out] at ry
      clear qy
      go_wp2
      go_ret
      exact ⟨rfl, below_drewN Hb6.out _⟩
set_option maxRecDepth 100000 in
set_option maxHeartbeats 4000000 in
theorem under_ok_tb (was shape x : Int) (hx : -32768 ≤ x ∧ x ≤ 32767) (p : Option Addr) (c : Nat) (w : World) (k : Nat) (hk : k < 512) (l A B Y : List Int) (E : Int) (hE : E = 0) (hn : l.length = 512) (hAl : A.length = 256) (hBl : B.length = 256) (hYl : Y.length = 512) (hw : IsArg w p c l)
    (HA : Hid (∀ W, Below w.heap.size w W → Calls Try.prog 11 #[.int .u8 1, .int .u8 was, .int .u8 shape, .slice p 512 c] W (RListG A E W)))
    (HB : Hid (∀ W q d, 512 ≤ d → IsInts W q (l.set k x) → Calls Try.prog 11 #[.int .u8 1, .int .u8 was, .int .u8 shape, .slice q 512 d] W (RListG B E W)))
    (HY : Hid (∀ W q d, 256 ≤ d → IsInts W q A → Calls Try.prog 10 #[.int .u8 1, .int .u8 was, .int .u8 shape, .slice q 256 d] W (RListG Y E W))) (e2 : decide ((400 : Int) ≤ (k : Int)) = false)  : Calls Try.prog 6 #[.int .u8 1, .int .u8 was, .int .u8 shape, .slice p 512 c, .int .i64 k, .int .i16 x] w fun e w' => e = .returned (.bool true) ∧ Below w.heap.size w w' := by
  subst hE
  have hwk : IntKind.i64.wrap x = x := by rw [IntKind.wrap_i64]; omega
  have d2 : decide ((k : Int) < 0) = false := decide_eq_false (by omega)
  have d3 : decide ((511 : Int) < (k : Int)) = false := decide_eq_false (by omega)
  unfold RListG at HA HB HY
  rw [hAl] at HA
  rw [hBl] at HB
  rw [hYl] at HY
  have HAl := Lib.hid hAl
  have HBl := Lib.hid hBl
  have HYl := Lib.hid hYl
  have HW := Lib.hid hw
  have HN := Lib.hid hn
  have hset : Hid ((l.map (Value.int .i64)).set k (.int .i64 x) = (l.set k x).map (Value.int .i64)) := by show _ = _; rw [List.map_set]
  have hsl : Hid ((l.set k x).length = 512) := by show _ = _; rw [List.length_set]; exact hn
  have hgl : Hid ((l.map (Value.int .i64))[k]? = some (.int .i64 (l.getD k 0))) := by show _ = _; exact row_get l k (Nat.zero_le _) (by omega)
  obtain ⟨L2, hL2⟩ : ∃ L2, l.set k x = L2 := ⟨_, rfl⟩
  rw [hL2] at HB hset hsl
  obtain ⟨u0, hu0⟩ : ∃ u0, l.getD k 0 = u0 := ⟨_, rfl⟩
  rw [hu0] at hgl
  clear hAl hBl hYl hw hL2 hu0 hn
  go_enter Try.func6, Try.ntmps6
  go_wp2_with fail
  refine (alive12 _).mono ?_
  rintro e w1 ⟨rfl, hB1⟩
  have hz1 := hB1.size
  go_wp2_with fail
  refine (HA.out _ hB1).mono ?_
  rintro e w2 ⟨pa, ca, rfl, hca, hIa, hB2⟩
  have hb2 := hB1.trans (hB2.mono hz1)
  have hz2 := hb2.size
  have HIa := Lib.hid hIa
  have HWa := Lib.hid (HW.out.keep hb2)
  have Hb2 := Lib.hid hb2
  clear hIa hB2 hb2 HW HA
  go_wp2_with (at_builtin; refine append_ints rfl _ _ rfl w2.heap.size (.slice none 0 0) 0 [] rfl (World.ownsRow_nil _ _ _ _) p c l (by rw [HN.out]; rfl) HWa.out (by unfold maxLen; rw [HN.out]; omega) (by rw [HN.out]; omega) (Nat.le_refl _) ?_; intro v3 w3 hO3 hG3; rw [Nat.zero_add, HN.out, List.nil_append] at hO3; obtain ⟨g3, c3, rfl, hg3, hlt3⟩ := owns_shape hO3 (by omega); have hB3 := (Below.refl w2.heap.size w2).grown hG3 (Nat.le_refl _) (fun _ e => by cases e); have hcap3 := owns_cap' hO3; have cc := hO3.cellAt k (by omega); rw [hgl.out] at cc; have cf := hO3.frozenAt k; have hst := hO3.stored k (.int .i64 x); rw [hset.out] at hst; have HR := Lib.hid hst.1; clear hst hO3 hG3)
  have hz3 := hB3.size
  obtain ⟨W4, hW4⟩ : ∃ W4, w3.setCell ⟨g3, k, none⟩ (.int .i64 x) = W4 := ⟨_, rfl⟩
  rw [hW4] at HR
  have hs4 : W4.heap.size = w3.heap.size := by rw [← hW4]; simp [World.setCell]
  have hB24 : Below w2.heap.size w2 W4 := by rw [← hW4]; exact hB3.setCell (p := ⟨g3, k, none⟩) hg3 _
  have HI4 := Lib.hid (full_ints' HR.out hsl.out (by omega))
  have HIa4 := Lib.hid (HIa.out.keep hB24)
  have Hb4 := Lib.hid (Hb2.out.trans (hB24.mono hz2))
  clear cc cf HR hB3 hB24 HIa Hb2 HWa
  rw [hW4]
  clear hW4
  refine (HB.out _ _ _ hcap3 HI4.out).mono ?_
  rintro e w5 ⟨pb, cb, rfl, hcb, hIb, hB5⟩
  have HIa5 := Lib.hid (HIa4.out.keep hB5)
  have HIb5 := Lib.hid hIb
  have hz4 := Hb4.out.size
  have Hb5 := Lib.hid (Hb4.out.trans (hB5.mono hz4))
  clear hB5 hIb HB HIa4 Hb4 HI4
  go_wp2_with fail
  refine (HY.out _ _ _ hca HIa5.out).mono ?_
  rintro e w6 ⟨py, cy, rfl, hcy, hIy, hB6⟩
  have HIa6 := Lib.hid (HIa5.out.keep hB6)
  have HIb6 := Lib.hid (HIb5.out.keep hB6)
  have HIy6 := Lib.hid hIy
  have hz5 := Hb5.out.size
  have Hb6 := Lib.hid (Hb5.out.trans (hB6.mono hz5))
  clear hB6 hIy HY HIa5 HIb5 Hb5
  go_wp2
  go_ret
  exact ⟨rfl, Hb6.out⟩
set_option maxRecDepth 100000 in
set_option maxHeartbeats 4000000 in
theorem under_ok_pa (was shape x : Int) (hx : -32768 ≤ x ∧ x ≤ 32767) (p : Option Addr) (c : Nat) (w : World) (k : Nat) (hk : k < 512) (l A B Y : List Int) (E : Int) (hE : E = 0) (hn : l.length = 512) (hAl : A.length = 256) (hBl : B.length = 256) (hYl : Y.length = 512) (hw : IsArg w p c l)
    (HA : Hid (∀ W, Below w.heap.size w W → Calls Try.prog 11 #[.int .u8 3, .int .u8 was, .int .u8 shape, .slice p 512 c] W (RListG A E W)))
    (HB : Hid (∀ W q d, 512 ≤ d → IsInts W q (l.set k x) → Calls Try.prog 11 #[.int .u8 3, .int .u8 was, .int .u8 shape, .slice q 512 d] W (RListG B E W)))
    (HY : Hid (∀ W q d, 256 ≤ d → IsInts W q A → Calls Try.prog 10 #[.int .u8 3, .int .u8 was, .int .u8 shape, .slice q 256 d] W (RListG Y E W))) (e1 : decide ((k : Int) < 112) = true) (hAB : A = B) (hY0 : Y.getD k 0 = 0) : Calls Try.prog 6 #[.int .u8 3, .int .u8 was, .int .u8 shape, .slice p 512 c, .int .i64 k, .int .i16 x] w fun e w' => e = .returned (.bool true) ∧ Below w.heap.size w w' := by
  have HAB := Lib.hid hAB
  have HY0 := Lib.hid hY0
  clear hAB hY0
  subst hE
  have hwk : IntKind.i64.wrap x = x := by rw [IntKind.wrap_i64]; omega
  have d2 : decide ((k : Int) < 0) = false := decide_eq_false (by omega)
  have d3 : decide ((511 : Int) < (k : Int)) = false := decide_eq_false (by omega)
  unfold RListG at HA HB HY
  rw [hAl] at HA
  rw [hBl] at HB
  rw [hYl] at HY
  have HAl := Lib.hid hAl
  have HBl := Lib.hid hBl
  have HYl := Lib.hid hYl
  have HW := Lib.hid hw
  have HN := Lib.hid hn
  have hset : Hid ((l.map (Value.int .i64)).set k (.int .i64 x) = (l.set k x).map (Value.int .i64)) := by show _ = _; rw [List.map_set]
  have hsl : Hid ((l.set k x).length = 512) := by show _ = _; rw [List.length_set]; exact hn
  have hgl : Hid ((l.map (Value.int .i64))[k]? = some (.int .i64 (l.getD k 0))) := by show _ = _; exact row_get l k (Nat.zero_le _) (by omega)
  obtain ⟨L2, hL2⟩ : ∃ L2, l.set k x = L2 := ⟨_, rfl⟩
  rw [hL2] at HB hset hsl
  obtain ⟨u0, hu0⟩ : ∃ u0, l.getD k 0 = u0 := ⟨_, rfl⟩
  rw [hu0] at hgl
  clear hAl hBl hYl hw hL2 hu0 hn
  go_enter Try.func6, Try.ntmps6
  go_wp2_with fail
  refine (alive12 _).mono ?_
  rintro e w1 ⟨rfl, hB1⟩
  have hz1 := hB1.size
  go_wp2_with fail
  refine (HA.out _ hB1).mono ?_
  rintro e w2 ⟨pa, ca, rfl, hca, hIa, hB2⟩
  have hb2 := hB1.trans (hB2.mono hz1)
  have hz2 := hb2.size
  have HIa := Lib.hid hIa
  have HWa := Lib.hid (HW.out.keep hb2)
  have Hb2 := Lib.hid hb2
  clear hIa hB2 hb2 HW HA
  go_wp2_with (at_builtin; refine append_ints rfl _ _ rfl w2.heap.size (.slice none 0 0) 0 [] rfl (World.ownsRow_nil _ _ _ _) p c l (by rw [HN.out]; rfl) HWa.out (by unfold maxLen; rw [HN.out]; omega) (by rw [HN.out]; omega) (Nat.le_refl _) ?_; intro v3 w3 hO3 hG3; rw [Nat.zero_add, HN.out, List.nil_append] at hO3; obtain ⟨g3, c3, rfl, hg3, hlt3⟩ := owns_shape hO3 (by omega); have hB3 := (Below.refl w2.heap.size w2).grown hG3 (Nat.le_refl _) (fun _ e => by cases e); have hcap3 := owns_cap' hO3; have cc := hO3.cellAt k (by omega); rw [hgl.out] at cc; have cf := hO3.frozenAt k; have hst := hO3.stored k (.int .i64 x); rw [hset.out] at hst; have HR := Lib.hid hst.1; clear hst hO3 hG3)
  have hz3 := hB3.size
  obtain ⟨W4, hW4⟩ : ∃ W4, w3.setCell ⟨g3, k, none⟩ (.int .i64 x) = W4 := ⟨_, rfl⟩
  rw [hW4] at HR
  have hs4 : W4.heap.size = w3.heap.size := by rw [← hW4]; simp [World.setCell]
  have hB24 : Below w2.heap.size w2 W4 := by rw [← hW4]; exact hB3.setCell (p := ⟨g3, k, none⟩) hg3 _
  have HI4 := Lib.hid (full_ints' HR.out hsl.out (by omega))
  have HIa4 := Lib.hid (HIa.out.keep hB24)
  have Hb4 := Lib.hid (Hb2.out.trans (hB24.mono hz2))
  clear cc cf HR hB3 hB24 HIa Hb2 HWa
  rw [hW4]
  clear hW4
  refine (HB.out _ _ _ hcap3 HI4.out).mono ?_
  rintro e w5 ⟨pb, cb, rfl, hcb, hIb, hB5⟩
  have HIa5 := Lib.hid (HIa4.out.keep hB5)
  have HIb5 := Lib.hid hIb
  have hz4 := Hb4.out.size
  have Hb5 := Lib.hid (Hb4.out.trans (hB5.mono hz4))
  clear hB5 hIb HB HIa4 Hb4 HI4
  go_wp2_with fail
  refine (HY.out _ _ _ hca HIa5.out).mono ?_
  rintro e w6 ⟨py, cy, rfl, hcy, hIy, hB6⟩
  have HIa6 := Lib.hid (HIa5.out.keep hB6)
  have HIb6 := Lib.hid (HIb5.out.keep hB6)
  have HIy6 := Lib.hid hIy
  have hz5 := Hb5.out.size
  have Hb6 := Lib.hid (Hb5.out.trans (hB6.mono hz5))
  clear hB6 hIy HY HIa5 HIb5 Hb5
  go_wp2
  go_loopw [22] (fun I wr => ∃ (j m : Nat), I = .int .i64 j ∧ j ≤ 256 ∧ wr = w6.drewN m) (fun I _ => 256 - (intOf I).toNat)
  case atStart => exact ⟨0, 0, rfl, by omega, rfl⟩
  case round =>
    obtain ⟨j, m, rfl, hj, rfl⟩ := hrel
    by_cases hlj : j < 256
    · have hd : decide ((j : Int) < 256) = true := decide_eq_true (by omega)
      obtain ⟨ba, oa, rfl, _, qa⟩ := HIa6.out.at (j := j) (by rw [HAl.out]; exact hlj)
      obtain ⟨bb, ob, rfl, _, qb⟩ := HIb6.out.at (j := j) (by rw [HBl.out]; exact hlj)
      have ra := qa j (by rw [HAl.out]; exact hlj)
      have rb := qb j (by rw [HBl.out]; exact hlj)
      rw [← HAB.out] at rb
      generalize A.getD j 0 = z at *
      have z1 : (z == z) = true := by simp
      have z2 : (z != z) = false := by simp
      clear qa qb
      go_wp2
      go_quiet (fail)
      go_wp2
      exact ⟨⟨j + 1, _, by go_num, by omega, rfl⟩, by simp [intOf]; omega⟩
    · have hd : decide ((j : Int) < 256) = false := decide_eq_false (by omega)
      obtain ⟨by_, oy, rfl, _, qy⟩ := HIy6.out.at (j := k) (by rw [HYl.out]; exact hk)
      have ry := qy k (by rw [HYl.out]; exact hk)
      rw [HY0.out] at ry
      clear qy
      go_wp2
      go_ret
      exact ⟨rfl, below_drewN Hb6.out _⟩
set_option maxRecDepth 100000 in
set_option maxHeartbeats 4000000 in
theorem under_ok_pb (was shape x : Int) (hx : -32768 ≤ x ∧ x ≤ 32767) (p : Option Addr) (c : Nat) (w : World) (k : Nat) (hk : k < 512) (l A B Y : List Int) (E : Int) (hE : E = 0) (hn : l.length = 512) (hAl : A.length = 256) (hBl : B.length = 256) (hYl : Y.length = 512) (hw : IsArg w p c l)
    (HA : Hid (∀ W, Below w.heap.size w W → Calls Try.prog 11 #[.int .u8 3, .int .u8 was, .int .u8 shape, .slice p 512 c] W (RListG A E W)))
    (HB : Hid (∀ W q d, 512 ≤ d → IsInts W q (l.set k x) → Calls Try.prog 11 #[.int .u8 3, .int .u8 was, .int .u8 shape, .slice q 512 d] W (RListG B E W)))
    (HY : Hid (∀ W q d, 256 ≤ d → IsInts W q A → Calls Try.prog 10 #[.int .u8 3, .int .u8 was, .int .u8 shape, .slice q 256 d] W (RListG Y E W))) (e1 : decide ((k : Int) < 112) = false)  : Calls Try.prog 6 #[.int .u8 3, .int .u8 was, .int .u8 shape, .slice p 512 c, .int .i64 k, .int .i16 x] w fun e w' => e = .returned (.bool true) ∧ Below w.heap.size w w' := by
  subst hE
  have hwk : IntKind.i64.wrap x = x := by rw [IntKind.wrap_i64]; omega
  have d2 : decide ((k : Int) < 0) = false := decide_eq_false (by omega)
  have d3 : decide ((511 : Int) < (k : Int)) = false := decide_eq_false (by omega)
  unfold RListG at HA HB HY
  rw [hAl] at HA
  rw [hBl] at HB
  rw [hYl] at HY
  have HAl := Lib.hid hAl
  have HBl := Lib.hid hBl
  have HYl := Lib.hid hYl
  have HW := Lib.hid hw
  have HN := Lib.hid hn
  have hset : Hid ((l.map (Value.int .i64)).set k (.int .i64 x) = (l.set k x).map (Value.int .i64)) := by show _ = _; rw [List.map_set]
  have hsl : Hid ((l.set k x).length = 512) := by show _ = _; rw [List.length_set]; exact hn
  have hgl : Hid ((l.map (Value.int .i64))[k]? = some (.int .i64 (l.getD k 0))) := by show _ = _; exact row_get l k (Nat.zero_le _) (by omega)
  obtain ⟨L2, hL2⟩ : ∃ L2, l.set k x = L2 := ⟨_, rfl⟩
  rw [hL2] at HB hset hsl
  obtain ⟨u0, hu0⟩ : ∃ u0, l.getD k 0 = u0 := ⟨_, rfl⟩
  rw [hu0] at hgl
  clear hAl hBl hYl hw hL2 hu0 hn
  go_enter Try.func6, Try.ntmps6
  go_wp2_with fail
  refine (alive12 _).mono ?_
  rintro e w1 ⟨rfl, hB1⟩
  have hz1 := hB1.size
  go_wp2_with fail
  refine (HA.out _ hB1).mono ?_
  rintro e w2 ⟨pa, ca, rfl, hca, hIa, hB2⟩
  have hb2 := hB1.trans (hB2.mono hz1)
  have hz2 := hb2.size
  have HIa := Lib.hid hIa
  have HWa := Lib.hid (HW.out.keep hb2)
  have Hb2 := Lib.hid hb2
  clear hIa hB2 hb2 HW HA
  go_wp2_with (at_builtin; refine append_ints rfl _ _ rfl w2.heap.size (.slice none 0 0) 0 [] rfl (World.ownsRow_nil _ _ _ _) p c l (by rw [HN.out]; rfl) HWa.out (by unfold maxLen; rw [HN.out]; omega) (by rw [HN.out]; omega) (Nat.le_refl _) ?_; intro v3 w3 hO3 hG3; rw [Nat.zero_add, HN.out, List.nil_append] at hO3; obtain ⟨g3, c3, rfl, hg3, hlt3⟩ := owns_shape hO3 (by omega); have hB3 := (Below.refl w2.heap.size w2).grown hG3 (Nat.le_refl _) (fun _ e => by cases e); have hcap3 := owns_cap' hO3; have cc := hO3.cellAt k (by omega); rw [hgl.out] at cc; have cf := hO3.frozenAt k; have hst := hO3.stored k (.int .i64 x); rw [hset.out] at hst; have HR := Lib.hid hst.1; clear hst hO3 hG3)
  have hz3 := hB3.size
  obtain ⟨W4, hW4⟩ : ∃ W4, w3.setCell ⟨g3, k, none⟩ (.int .i64 x) = W4 := ⟨_, rfl⟩
  rw [hW4] at HR
  have hs4 : W4.heap.size = w3.heap.size := by rw [← hW4]; simp [World.setCell]
  have hB24 : Below w2.heap.size w2 W4 := by rw [← hW4]; exact hB3.setCell (p := ⟨g3, k, none⟩) hg3 _
  have HI4 := Lib.hid (full_ints' HR.out hsl.out (by omega))
  have HIa4 := Lib.hid (HIa.out.keep hB24)
  have Hb4 := Lib.hid (Hb2.out.trans (hB24.mono hz2))
  clear cc cf HR hB3 hB24 HIa Hb2 HWa
  rw [hW4]
  clear hW4
  refine (HB.out _ _ _ hcap3 HI4.out).mono ?_
  rintro e w5 ⟨pb, cb, rfl, hcb, hIb, hB5⟩
  have HIa5 := Lib.hid (HIa4.out.keep hB5)
  have HIb5 := Lib.hid hIb
  have hz4 := Hb4.out.size
  have Hb5 := Lib.hid (Hb4.out.trans (hB5.mono hz4))
  clear hB5 hIb HB HIa4 Hb4 HI4
  go_wp2_with fail
  refine (HY.out _ _ _ hca HIa5.out).mono ?_
  rintro e w6 ⟨py, cy, rfl, hcy, hIy, hB6⟩
  have HIa6 := Lib.hid (HIa5.out.keep hB6)
  have HIb6 := Lib.hid (HIb5.out.keep hB6)
  have HIy6 := Lib.hid hIy
  have hz5 := Hb5.out.size
  have Hb6 := Lib.hid (Hb5.out.trans (hB6.mono hz5))
  clear hB6 hIy HY HIa5 HIb5 Hb5
  go_wp2
  go_ret
  exact ⟨rfl, Hb6.out⟩
end Go.Proofs.Ytclbbfpagkhonaa
