/- BandTells. -/
import Derived.Test.YtahoeggjldhneaaBandLaws
import Derived.Test.YtahoeggjldhneaaOwn
set_option linter.unusedVariables false
namespace Go.Proofs.Ytahoeggjldhneaa
open Go.ChangeShapes Go.WideShapes Go.ChangeAt Go.RowKit

def RP (X E : Int) (w : World) (e : Ending) (w' : World) : Prop := e = .returned (.tuple #[.int .i64 X, .int .i64 E]) ∧ Below w.heap.size w w'

theorem calls_some {P : Program} {f : FuncId} {args : Array Value} {w : World} {R : Ending → World → Prop} (h : Calls P f args w R) : ∃ e w', R e w' := by
  obtain ⟨e, w', fr, hR, _⟩ := h []
  exact ⟨e, w', hR⟩

/-- A line's band, told twice: the same. -/
theorem of_pair (rate : Int) (short : Bool) (x : Int) (h0 : 0 ≤ rate) (h1 : rate ≤ 11) (w0 : World) :
    ∃ X E : Int, (∀ W, Calls Try.prog 10 #[.int .i64 rate, .bool short, .int .i64 x] W (RP X E W)) ∧
      (∀ W, Calls Try.prog 14 #[.int .i64 rate, .bool short, .int .i64 x] W (RP X E W)) := by
  by_cases hx : x < 0 ∨ linesOf short ≤ x
  · refine ⟨0, 2, fun W => of_out rate short x h0 h1 hx W, fun W => (refof_ok rate short x h0 h1 W).mono fun e w' ⟨h, hb⟩ => ?_⟩
    rcases h with ⟨j, hin, he⟩ | ⟨_, he⟩
    · exfalso
      obtain ⟨k1, k2, k3, k4, k5⟩ := band_len rate short h0 h1
      obtain ⟨j1, j2, j3⟩ := hin
      have l1 := band_le rate short h0 h1 0 j (by omega) (by omega)
      have l2 := band_le rate short h0 h1 (j + 1) ((bandL rate short).length - 1) (by omega) (by omega)
      have k4' : (bandL rate short).getD ((bandL rate short).length - 1) 0 = linesOf short := k4
      omega
    · exact ⟨he, hb⟩
  · have ok := fun W => of_ok rate short x h0 h1 (by omega) (by omega) W
    obtain ⟨_, _, j, hj, _, _⟩ := calls_some (ok w0)
    refine ⟨j, 0, fun W => (ok W).mono fun e w' ⟨i, hi, he, hb⟩ => ?_, fun W => (refof_ok rate short x h0 h1 W).mono fun e w' ⟨h, hb⟩ => ?_⟩
    · obtain rfl := inBand_unique h0 h1 hi hj
      exact ⟨he, hb⟩
    · rcases h with ⟨i, hi, he⟩ | ⟨hno, _⟩
      · obtain rfl := inBand_unique h0 h1 hi hj
        exact ⟨he, hb⟩
      · exact absurd hj (hno j)

set_option maxHeartbeats 1000000 in
theorem tells_bad (rate : Int) (short : Bool) (x : Int) (h : rate < 0 ∨ 11 < rate) (w : World) :
    Calls Try.prog 7 #[.int .i64 rate, .bool short, .int .i64 x] w fun e w' => e = .returned (.bool true) ∧ Below w.heap.size w w' := by
  go_enter Try.func7, Try.ntmps7
  go_wp2_with fail
  refine (offsets_bad rate short h _).mono ?_
  rintro e w' ⟨rfl, rfl⟩
  go_wp2_with fail
  refine (told_bad rate short h _).mono ?_
  rintro e w' ⟨rfl, rfl⟩
  go_wp2_with fail
  refine (many_bad rate short h _).mono ?_
  rintro e w' ⟨rfl, rfl⟩
  go_wp2_with fail
  refine (refmany_bad rate short h _).mono ?_
  rintro e w' ⟨rfl, rfl⟩
  go_wp2_with fail
  refine (of_bad rate short x h _).mono ?_
  rintro e w' ⟨rfl, rfl⟩
  go_wp2_with fail
  refine (refof_bad rate short x h _).mono ?_
  rintro e w' ⟨rfl, rfl⟩
  go_wp2_with fail
  refine (ints_same none none [] _ _ _ (IsInts.nil _ _) (IsInts.nil _ _) (by decide)).mono ?_
  rintro e w' ⟨rfl, n, rfl⟩
  go_wp2
  refine wp_loop_rounds 1 ?_
  rw [rounds_succ]
  go_wp2_with fail
  refine (offsets_bad rate short h _).mono ?_
  rintro e w' ⟨rfl, rfl⟩
  go_wp2_with fail
  refine (ints_same none none [] _ _ _ (IsInts.nil _ _) (IsInts.nil _ _) (by decide)).mono ?_
  rintro e w' ⟨rfl, n', rfl⟩
  go_wp2
  go_ret
  exact ⟨rfl, below_drewN (Below.refl _ _) _⟩

set_option maxRecDepth 100000 in
set_option maxHeartbeats 2000000 in
theorem tells_ok (rate : Int) (short : Bool) (x : Int) (h0 : 0 ≤ rate) (h1 : rate ≤ 11) (w : World) :
    Calls Try.prog 7 #[.int .i64 rate, .bool short, .int .i64 x] w fun e w' => e = .returned (.bool true) ∧ Below w.heap.size w w' := by
  obtain ⟨X, E, hof, href⟩ := of_pair rate short x h0 h1 w
  obtain ⟨k1, k2, _, _, _⟩ := band_len rate short h0 h1
  have k2' : (bandL rate short).length ≤ 41 := Nat.le_trans k2 (by split <;> omega)
  have O1 := fun W => offsets_ok rate short h0 h1 W
  have O2 := fun W => told_ok rate short h0 h1 W
  have O3 := fun W => many_ok rate short h0 h1 W
  have O4 := fun W => refmany_ok rate short h0 h1 W
  have O5 := fun W => offsets_row rate short h0 h1 W
  have H1 := Lib.hid O1
  have H2 := Lib.hid O2
  have H3 := Lib.hid O3
  have H4 := Lib.hid O4
  have H5 := Lib.hid O5
  have H6 := Lib.hid hof
  have H7 := Lib.hid href
  clear O1 O2 O3 O4 O5 hof href k2
  go_enter Try.func7, Try.ntmps7
  go_wp2_with fail
  refine (H1.out _).mono ?_
  rintro e w1 ⟨v, rfl, hown, hb1⟩
  obtain ⟨g, cap, rfl, hg, hgl⟩ := owns_shape hown (by omega)
  have HO := Lib.hid hown
  clear hown
  go_wp2_with fail
  refine (H2.out _).mono ?_
  rintro e w2 ⟨g2, cap2, rfl, hi2, hb2, hg2⟩
  have HI := Lib.hid hi2
  have b2 := hb1.trans (hb2.mono hb1.size)
  have HO2 := Lib.hid (owns_keep HO.out hb2)
  clear hi2 HO hb1
  go_wp2_with fail
  refine (H3.out _).mono ?_
  rintro e w3 ⟨rfl, hb3⟩
  have b3 := b2.trans (hb3.mono b2.size)
  have HO3 := Lib.hid (owns_keep HO2.out hb3)
  have HI3 := Lib.hid (HI.out.keep hb3)
  go_wp2_with fail
  refine (H4.out _).mono ?_
  rintro e w4 ⟨rfl, hb4⟩
  have b4 := b3.trans (hb4.mono b3.size)
  have HO4 := Lib.hid (owns_keep HO3.out hb4)
  have HI4 := Lib.hid (HI3.out.keep hb4)
  clear HO2 HO3 HI HI3
  go_wp2_with fail
  refine (H6.out _).mono ?_
  rintro e w5 ⟨rfl, hb5⟩
  have b5 := b4.trans (hb5.mono b4.size)
  have HO5 := Lib.hid (owns_keep HO4.out hb5)
  have HI5 := Lib.hid (HI4.out.keep hb5)
  go_wp2_with fail
  refine (H7.out _).mono ?_
  rintro e w6 ⟨rfl, hb6⟩
  have b6 := b5.trans (hb6.mono b5.size)
  have HO6 := Lib.hid (owns_keep HO5.out hb6)
  have HI6 := Lib.hid (HI5.out.keep hb6)
  have hgl6 : g < w6.heap.size := by have := hb2.size; have := hb3.size; have := hb4.size; have := hb5.size; have := hb6.size; omega
  have hne : g2 ≠ g := by omega
  clear HO4 HO5 HI4 HI5 b2 b3 b4 b5 hb2 hb3 hb4 hb5 hb6
  obtain ⟨g', cap', hv', _, hlt', hc'⟩ := owns_at HO6.out (by intro e; simp [e] at k1)
  obtain ⟨rfl, rfl⟩ : g = g' ∧ cap = cap' := by simpa using hv'
  have IA := Lib.hid (isInts_of hlt' hc')
  clear hc' hlt' hv'
  go_wp2_with fail
  refine (ints_same _ _ (bandL rate short) _ _ _ IA.out HI6.out (by unfold maxLen; omega)).mono ?_
  rintro e w7 ⟨rfl, n, hw7⟩
  have b7 : Below w.heap.size w w7 := hw7 ▸ below_drewN b6 n
  have HO7 : w7.ownsRow w.heap.size 3 1 (.slice (some ⟨g, 0, none⟩) (bandL rate short).length cap) (bandL rate short).length ((bandL rate short).map (Value.int .i64)) := hw7 ▸ HO6.out
  have HI7 : IsInts w7 (some ⟨g2, 0, none⟩) (bandL rate short) := hw7 ▸ HI6.out.drewN n
  have KO := Lib.hid HO7
  have KI := Lib.hid HI7
  clear hw7 HO6 HI6 HO7 HI7 b6 hgl6 IA
  generalize hL : bandL rate short = l at *
  have HL := Lib.hid hL
  clear hL
  go_wp2
  go_loopw [20] (fun I wr => ∃ (k : Nat) (xs : List Value), I = .int .i64 k ∧ k ≤ l.length ∧ Hid (wr.ownsRow w.heap.size 3 1 (.slice (some ⟨g, 0, none⟩) l.length cap) l.length xs) ∧ Hid (IsInts wr (some ⟨g2, 0, none⟩) l) ∧ Below w.heap.size w wr) (fun I _ => l.length - (intOf I).toNat)
  case atStart => exact ⟨0, _, rfl, Nat.zero_le _, KO, KI, b7⟩
  case round =>
    obtain ⟨k, xs, rfl, hk, ho, hi, hb⟩ := hrel
    by_cases hlt : k < l.length
    · have hlen := ho.out.1
      have c1 := ho.out.cellAt k (by omega)
      obtain ⟨u, hu⟩ : ∃ u, xs[k]? = some u := ⟨xs[k]'(by omega), by simp [show k < xs.length by omega]⟩
      rw [hu] at c1
      have f1 := ho.out.frozenAt k
      have HO' := Lib.hid (ho.out.stored k (.int .i64 (-1))).1
      have HI' := Lib.hid (hi.out.setCell ⟨g, k, none⟩ (.int .i64 (-1)) hne)
      have hb' := hb.setCell (p := ⟨g, k, none⟩) hg (.int .i64 (-1))
      clear hu hlen hb ho hi
      go_wp2
      exact ⟨⟨k + 1, _, by go_num, hlt, HO', HI', hb'⟩, by simp [intOf]; omega⟩
    · go_wp2_with fail
      refine (H5.out _).mono ?_
      rintro e w8 ⟨g3, cap3, rfl, hi3, hb8, hg3⟩
      have K3 := Lib.hid hi3
      have K2 := Lib.hid (hi.out.keep hb8)
      have b8 := hb.trans (hb8.mono hb.size)
      clear hi3
      go_wp2_with fail
      refine (ints_same _ _ l _ _ _ K3.out K2.out (by unfold maxLen; omega)).mono ?_
      rintro e w9 ⟨rfl, n', hw9⟩
      subst hw9
      go_wp2
      go_ret
      exact ⟨rfl, below_drewN b8 _⟩

theorem tells_any (rate : Int) (short : Bool) (x : Int) (w : World) :
    Calls Try.prog 7 #[.int .i64 rate, .bool short, .int .i64 x] w fun e w' => e = .returned (.bool true) ∧ Below w.heap.size w w' := by
  by_cases h : rate < 0 ∨ 11 < rate
  · exact tells_bad rate short x h w
  · exact tells_ok rate short x (by omega) (by omega) w
end Go.Proofs.Ytahoeggjldhneaa
