/- lap.Next: what each call answers. -/
import Derived.Test.YtcmbbmilldhnnaaLapPlain
set_option linter.unusedVariables false
namespace Go.Proofs.Ytcmbbmilldhnnaa
open Go.ChangeShapes Go.WideShapes Go.ChangeAt Go.RowKit
attribute [local go_sem] Oper.semAt_some

theorem row_same {w w' : World} {base base' : Nat} {e : TypeId} {size : Nat} {g m c n : Nat} {xs : List Value} (h : w.ownsRow base e size (.slice (some ⟨g, 0, none⟩) m c) n xs) (hb : w'.heap[g]? = w.heap[g]?) : w'.ownsRow base e size (.slice (some ⟨g, 0, none⟩) m c) n xs := owns_away2 (L := 0) h hb
theorem boxed_off {W : World} {B : Nat} {t : TypeId} {v : Value} (h : Boxed W B t v) (p : Addr) (hp : B ≠ p.block) (u : Value) : Boxed (W.setCell p u) B t v := (Below.heap_setCell W p u B hp).trans h
/-- A post that takes no panic. -/
def noPanic (Q : Exit → Act → World → Prop) : Exit → Act → World → Prop
  | .panic _, _, _ => False
  | .outgrown, _, _ => False
  | .normal, a, w => Q .normal a w
  | .ret, a, w => Q .ret a w
  | .exit i, a, w => Q (.exit i) a w
  | .goto t, a, w => Q (.goto t) a w
theorem wpIn_noPanic {F : Fence} {n : Nat} {P : Program} {c : Code} {Q : Exit → Act → World → Prop} {a : Act} {w : World} (h : c.wpIn F n P (noPanic Q) a w) : c.wpIn F n P Q a w := by
  refine wpIn_mono h ?_
  intro e a w h
  cases e <;> first | exact h | exact h.elim
theorem noPanic_normal {Q : Exit → Act → World → Prop} {a : Act} {w : World} (h : Q .normal a w) : noPanic Q .normal a w := h
def INext (w : World) (M gy : Nat) (y : List Int) (pre : List Int) (W : World) : Prop :=
  Box3 W (w.heap.size + 1) 24 (.slice none 0 0) (.int .u8 0) (.int .u8 0) ∧ Below w.heap.size w W ∧ IsInts W (some ⟨gy, 0, none⟩) y ∧
  ∃ v, Boxed W (w.heap.size + 2) 22 v ∧ W.ownsRow (M + 2) 3 1 v (pre.map outP).length ((pre.map outP).map (Value.int .i64))
theorem INext.apart {w : World} {M gy : Nat} {y : List Int} (pre : List Int) (A B : World) (h : INext w M gy y pre A) (ha : Apart M A B) (hM : w.heap.size + 3 ≤ M) (hg : gy < M) (hs : M ≤ A.heap.size) : INext w M gy y pre B := by
  obtain ⟨h1, h2, h3, v, h4, h5⟩ := h
  exact ⟨ha.box3 h1 (by omega), ha.below h2 (by omega) (by omega), ints_block h3 ha.size (ha.block gy (by omega) (by omega) (by omega)), v, ha.boxed h4 (by omega), owns_away h5 ha (Nat.le_refl _)⟩
set_option maxRecDepth 100000 in
set_option maxHeartbeats 4000000 in
theorem next_ok (l : List Int) (ls lsh seq shape : Int) (lines : List Int) (hmay : mayB l ls lsh = true) (hE : synE seq lsh shape lines = 0) (hs0 : 0 ≤ seq) (hsh0 : 0 ≤ lsh) (hsp0 : 0 ≤ shape)
    (p q : Option Addr) (c d : Nat) (hc : 256 ≤ c) (hd : lines.length ≤ d) (w : World) (hI : IsInts w p l) (hJ : IsInts w q lines) :
    Calls Try.prog 9 #[.agg #[.slice p 256 c, .int .u8 ls, .int .u8 lsh], .int .u8 seq, .int .u8 shape, .slice q lines.length d] w (RNext (((synL (winsL seq lsh shape) lines).drop 256, seq, shape), pcmL l (synL (winsL seq lsh shape) lines), 0) w) := by
  unfold pcmL
  obtain ⟨hl, hlm, hls, hlsh⟩ := mayB_spec hmay
  obtain ⟨pb, off, rfl, hpb, _⟩ := hI.at (j := 0) (by omega)
  have hA := (askedE_zero (by omega)).1 hE
  have hll : lines.length ≤ 4096 := by omega
  have HCK := Lib.hid (show ∀ W, Below w.heap.size w W → Calls Try.prog 13 #[.agg #[.slice (some ⟨pb, off, none⟩) 256 c, .int .u8 ls, .int .u8 lsh]] W (RCheck 0 W) from fun W hW => by
    have := check_ok l (some ⟨pb, off, none⟩) c ls lsh (by omega) W (hI.keep hW)
    rw [hl, hmay] at this
    exact this)
  have HSY := Lib.hid (show ∀ W, Below w.heap.size w W → Calls Try.prog 19 #[.int .u8 seq, .int .u8 lsh, .int .u8 shape, .slice q lines.length d] W (RRowE (synL (winsL seq lsh shape) lines, 0) W) from fun W hW => by
    have := syn_any seq lsh shape hs0 hsh0 hsp0 lines (by omega) q d hd W (hJ.keep hW)
    unfold synN at this
    rw [if_pos hE] at this
    exact this)
  have hym := synL_range seq lsh shape (by omega) (by omega) (by omega) hA.2.2.2.1 (fun j => getD_range hA.2.2.2.2 (by omega) (by omega) j)
  have hyl := synL_len (winsL seq lsh shape) lines
  generalize synL (winsL seq lsh shape) lines = y at *
  have HIB := Lib.hid hI.inB
  have HLM := Lib.hid hlm
  have HYM := Lib.hid hym
  have HL := Lib.hid hl
  have HYL := Lib.hid hyl
  unfold RCheck at HCK
  unfold RRowE at HSY
  dsimp only at HSY
  have C0 := Box3.new w 24 (.slice (some ⟨pb, off, none⟩) 256 c) (.int .u8 ls) (.int .u8 lsh) rfl
  obtain ⟨W0, hW0⟩ : ∃ W0, ((w.alloc (.cells #[.slice (some ⟨pb, off, none⟩) 256 c, .int .u8 ls, .int .u8 lsh] 24)).alloc (.cells #[.slice none 0 0, .int .u8 0, .int .u8 0] 24)).alloc (.cells #[.slice none 0 0] 22) = W0 := ⟨_, rfl⟩
  have hsz0 : W0.heap.size = w.heap.size + 3 := by rw [← hW0]; simp
  have hB0 : Below w.heap.size w W0 := by rw [← hW0]; exact (((Below.refl _ w).alloc (Nat.le_refl _) _).alloc (by simp) _).alloc (by simp; omega) _
  have x4 : Box3 W0 w.heap.size 24 (.slice (some ⟨pb, off, none⟩) 256 c) (.int .u8 ls) (.int .u8 lsh) := by rw [← hW0]; exact (C0.alloc _).alloc _
  have x8 : Box3 W0 (w.heap.size + 1) 24 (.slice none 0 0) (.int .u8 0) (.int .u8 0) := by rw [← hW0]; exact (Box3.new _ _ _ _ _ (by simp)).alloc _
  have x9 : Boxed W0 (w.heap.size + 2) 22 (.slice none 0 0) := by rw [← hW0]; exact box_new _ _ _ (by simp)
  have j0 := x4.cell0
  have j1 := x4.cell1
  have j2 := x4.cell2
  clear hI hJ hmay hlm hym hl hyl hA hE C0
  refine (callsIn_wide (n := 3)).1 ?_
  refine callsIn_of_wp_marks Try.func9 rfl trivial ?_ rfl
  simp only [Try.ntmps9, List.size_toArray, List.length_cons, List.length_nil, Nat.reduceAdd, Nat.reduceSub, Array.replicate_succ, Array.replicate_zero, List.push_toArray, List.append_toArray, List.nil_append, List.cons_append]
  gi_wp2_with fail
  refine ⟨trivial, ?_⟩
  refine (callsIn_wide.2 (HCK.out _ hB0)).mono ?_
  rintro e w1 ⟨rfl, hB1⟩
  have y4 := x4.keep hB1 x4.lt
  have y8 := x8.keep hB1 x8.lt
  have y9 : Boxed w1 (w.heap.size + 2) 22 (.slice none 0 0) := (hB1.block _ x9.lt).trans x9
  have hB01 := hB0.trans (hB1.mono (by omega))
  have hz1 := hB1.size
  clear j0 j1 j2 hW0 HCK hB1 x4 x8 x9 hB0
  have j0 := y4.cell0
  have j1 := y4.cell1
  have j2 := y4.cell2
  gi_wp2_with fail
  refine ⟨trivial, ?_⟩
  refine (callsIn_wide.2 (HSY.out _ hB01)).mono ?_
  rintro e w2 ⟨v2, rfl, hO2, hB2⟩
  obtain ⟨gy, cy, rfl, hgy, hlty, hcy⟩ := owns_at hO2 (by intro e; have := HYL.out; rw [e] at this; simp at this)
  have z4 := y4.keep hB2 y4.lt
  have z8 := y8.keep hB2 y8.lt
  have z9 : Boxed w2 (w.heap.size + 2) 22 (.slice none 0 0) := (hB2.block _ y9.lt).trans y9
  have hB02 := hB01.trans (hB2.mono (by omega))
  have hz2 := hB2.size
  have hcy' : ∀ j, j < y.length → w2.cell? ⟨gy, j, none⟩ = _ := hcy
  have HIY := Lib.hid (isInts_of hlty hcy)
  have hcap : 512 ≤ cy := by
    have h1 := hO2.2
    rw [HYL.out] at h1
    rcases h1 with ⟨h, _⟩ | ⟨g', cap, cur, e', _, _, h2, _⟩
    · simp at h
    · obtain ⟨rfl, rfl⟩ : gy = g' ∧ cy = cap := by simpa using e'
      exact h2
  rw [HYL.out]
  clear j0 j1 j2 HSY hB2 y4 y8 y9 hB01 hO2 hcy hcy'
  have j0 := z4.cell0
  gi_wp2_with fail
  refine ⟨trivial, ?_⟩
  refine (callsIn_wide.2 (both_ok (some ⟨pb, off, none⟩) (some ⟨gy, 0, none⟩) 256 512 c cy _)).mono ?_
  rintro e w3 ⟨rfl, rfl⟩
  simp only [bothV]
  obtain ⟨W3, hW3⟩ : ∃ W3, (w2.alloc (.cells #[.slice (some ⟨pb, off, none⟩) 256 c] 22)).alloc (.cells #[.slice (some ⟨gy, 0, none⟩) 512 cy] 22) = W3 := ⟨_, rfl⟩
  have hsz : W3.heap.size = w2.heap.size + 2 := by rw [← hW3]; simp
  have hB23 : Below w2.heap.size w2 W3 := by rw [← hW3]; exact ((Below.refl _ w2).alloc (Nat.le_refl _) _).alloc (by simp) _
  have hba : Boxed W3 w2.heap.size 22 (.slice (some ⟨pb, off, none⟩) 256 c) := by rw [← hW3]; exact (box_new _ _ _ rfl).alloc _
  have hbb : Boxed W3 (w2.heap.size + 1) 22 (.slice (some ⟨gy, 0, none⟩) 512 cy) := by rw [← hW3]; exact box_new _ _ _ (by simp)
  have u8 := z8.keep hB23 z8.lt
  have u9 : Boxed W3 (w.heap.size + 2) 22 (.slice none 0 0) := (hB23.block _ z9.lt).trans z9
  have hB03 := hB02.trans (hB23.mono (by omega))
  have hIL := HIB.out.keep hB03 (Nat.le_refl _)
  have hIY3 := HIY.out.keep hB23
  gi_wp2_with fail
  rw [hW3]
  clear hW3 z4 z8 z9 j0 hB23 hB02
  have hseq := both_all l y pb off gy 0 256 512 c cy HL.out HYL.out (by omega) (by omega) W3 w2.heap.size (by omega) (fun j => by have := HLM.out j; have := HYM.out j; omega) hba hbb hIL.ints hIY3
  have HSL := Lib.hid (show (sumsL l y).length = 256 by unfold sumsL; simp [HL.out])
  have HSM := Lib.hid (show ∀ x ∈ sumsL l y, -4611686018427387904 ≤ x ∧ x ≤ 4611686018427387904 by
    intro x hx
    unfold sumsL at hx
    obtain ⟨j, _, rfl⟩ := List.mem_map.1 hx
    have := HLM.out j; have := HYM.out j; omega)
  unfold PxI at hseq
  generalize sumsL l y = ss at *
  refine range_all (gf := 34) (lb := #[.pointer (some ⟨w2.heap.size, 0, none⟩), .pointer (some ⟨w2.heap.size + 1, 0, none⟩)]) rfl (enters_of Try.func34 (by kernel_rfl) rfl) hseq
    ?hK (fun _ => rfl) (INext w (w2.heap.size + 2) gy y) ?hI (fun _ _ _ _ h _ _ => h) ⟨u8, hB03, hIY3, _, u9, World.ownsRow_nil _ _ _ _⟩ ?hround ?hdone
  case hK =>
    intro A A' B B' g1 g2 ⟨k0, k1, k2, k3⟩
    exact ⟨(g2 _ (by omega)).trans (k0.trans (g1 _ (by omega))), (g2 _ (by omega)).trans (k1.trans (g1 _ (by omega))), (g2 _ (by omega)).trans (k2.trans (g1 _ (by omega))), (g2 _ (by omega)).trans (k3.trans (g1 _ (by omega)))⟩
  case hI =>
    intro s A B hi hz ha
    exact hi.apart s A B (by rw [← hsz]; exact ha) (by omega) (by omega) (by omega)
  case hround =>
    rintro l' pre x W W4 hA2 ⟨k8, kB, kI, v, k9, hown⟩ hx1 K' hK'
    have HK := Lib.hid hK'
    clear hK'
    gi_wp2
    refine HK.out _ ?_
    clear HK K'
    dsimp only [encI]
    have hpl : pre.length < 256 := by
      rcases Nat.lt_or_ge pre.length ss.length with h | h
      · rw [HSL.out] at h; exact h
      · rw [List.getElem?_eq_none h] at hx1; cases hx1
    have hxm : x ∈ ss := List.mem_of_getElem? hx1
    obtain ⟨m0, m1⟩ := HSM.out x hxm
    have HRO := Lib.hid (fun W => round_ok x 4 m0 m1 (by omega) W)
    unfold RRound at HRO
    obtain ⟨b0, b1⟩ := rnd_bound (n := x) (B := 4611686018427387904) 4 (by omega) (by omega) (by omega)
    have HCL := Lib.hid (fun W => clip_ok (rnd x 4) 16 (by omega) (by omega) (by omega) (by omega) W)
    have HSN := Lib.hid (show (pre ++ [x]).map outP = pre.map outP ++ [clp (rnd x 4) 16] by rw [List.map_append]; rfl)
    have HLP := Lib.hid (show (pre.map outP).length < 256 by rw [List.length_map]; exact hpl)
    obtain ⟨L0, hL0⟩ : ∃ L0, pre.map outP = L0 := ⟨_, rfl⟩
    rw [hL0] at HSN hown HLP
    obtain ⟨r, hr⟩ : ∃ r, rnd x 4 = r := ⟨_, rfl⟩
    rw [hr] at HRO HCL HSN
    obtain ⟨z, hz⟩ : ∃ z, clp r 16 = z := ⟨_, rfl⟩
    rw [hz] at HCL HSN
    have HR := Lib.hid hown
    clear hown hx1 hL0 hr hz b0 b1
    gi_wp2_with fail
    refine ⟨trivial, ?_⟩
    refine (CallsIn.inRound l' (callsIn_wide.2 (HRO.out _))).mono ?_
    rintro e w5 ⟨rfl, m, rfl⟩
    gi_wp2_with fail
    refine ⟨trivial, ?_⟩
    refine (CallsIn.inRound l' (callsIn_wide.2 (HCL.out _))).mono ?_
    rintro e w6 ⟨rfl, hw⟩
    rw [← hw]
    clear hw w6
    have q9 : Boxed (W4.drewN m) (w.heap.size + 2) 22 v := k9
    have hc9 := q9.cell
    have hRd : (W4.drewN m).ownsRow (w2.heap.size + 2 + 2) 3 1 v L0.length (L0.map (Value.int .i64)) := HR.out
    have HRa := Lib.hid (owns_keep hRd ((Below.refl _ _).alloc (Nat.le_refl _) (.cells #[.int .i64 z] 3)))
    have hsd : (W4.drewN m).heap.size = W4.heap.size := rfl
    gi_wp2_with (gi_at_builtin; refine appendIn_row rfl (.tmp 45) (.tmp 47) rfl (w2.heap.size + 2 + 2) v L0 rfl HRa.out ⟨(W4.drewN m).heap.size, 0, none⟩ 1 1 [z] rfl (isInts_new (W4.drewN m) [z] 3 rfl) rfl (by simp) (by have := HLP.out; omega) (by simp) (by simp [hsd]; omega) ?_; intro g7 c7 W7 hlt7 hg7 hO7 hB7; have hx7 : Boxed W7 (w.heap.size + 2) 22 v := (hB7.block (w.heap.size + 2) (by omega)).trans (q9.alloc _); have hc7 := hx7.cell; have hf7 := hx7.frozen)
    have hz7 := hB7.size
    rw [List.length_append] at hO7
    have hBa : Below (w2.heap.size + 2 + 2) W4 W7 := ((below_drewN (Below.refl _ W4) m).alloc (by rw [hsd]; omega) _).trans hB7
    have hSt : Still (w.heap.size + 2) (w2.heap.size + 2 + 2) W4 (W7.setCell ⟨w.heap.size + 2, 0, none⟩ (.slice (some ⟨g7, 0, none⟩) (L0.length + [z].length) c7)) := (Still.of hBa).trans (Still.set _ _ _)
    refine ⟨⟨hSt.size, hSt.block _ (by omega) (by omega), hSt.block _ (by omega) (by omega)⟩, ⟨hSt.block _ (by omega) (by omega), hSt.block _ (by omega) (by omega), hSt.block _ (by omega) (by omega), hSt.block _ (by omega) (by omega)⟩, (hSt.block (w.heap.size + 1) (by omega) (by omega)).trans k8, hSt.below kB (by omega) (by omega), ints_block kI hSt.size (hSt.block gy (by omega) (by omega)), _, hx7.set _, ?_⟩
    rw [HSN.out, List.length_append]
    exact hO7.kept (grownBy_setCell' W7 _ _) (.inr (by simp [Value.ownBlock]; omega))
  case hdone =>
    rintro xs W hz hS ⟨k8, kB, kI, v, k9, hown⟩ hK
    have e1 : xs = ss := hS
    rw [e1] at hown
    have hPl : (ss.map outP).length = 256 := by rw [List.length_map]; exact HSL.out
    rw [hPl] at hown
    obtain ⟨g9, cap9, rfl, hg9, hlt9⟩ := owns_shape hown (by omega)
    have HRO := Lib.hid hown
    have kId : IsInts W (some ⟨gy, 256, none⟩) (y.drop 256) := by
      have := ints_cut kI 256 256
      rw [Nat.zero_add, List.take_of_length_le (by rw [List.length_drop, HYL.out]; omega)] at this
      exact this
    have HCLN := Lib.hid (show Calls Try.prog 23 #[.slice (some ⟨gy, 256, none⟩) 256 (cy - 256)] W.drew _ from clone_ok (w := W.drew) (show IsInts W.drew _ _ from kId) (by rw [List.length_drop, HYL.out]) (by omega) (by omega) (c := cy - 256))
    have HTL := Lib.hid (show (y.drop 256).length = 256 by rw [List.length_drop, HYL.out])
    have hPL := Lib.hid hPl
    have d8 : Box3 W.drew (w.heap.size + 1) 24 (.slice none 0 0) (.int .u8 0) (.int .u8 0) := k8
    have d9 : Boxed W.drew (w.heap.size + 2) 22 (.slice (some ⟨g9, 0, none⟩) 256 cap9) := k9
    have hcc : 0 < cy - 256 := by omega
    have hcc2 : 256 ≤ cy := by omega
    have hmx : Try.prog.follows .mixedOrders = true := by kernel_rfl
    have a9 := k9.cell
    have b9 := k9.frozen
    have a80 := k8.cell0
    have a81 := k8.cell1
    have a82 := k8.cell2
    have b80 := k8.frozen 0
    have b81 := k8.frozen 1
    have b82 := k8.frozen 2
    rw [hsz] at hK hz
    generalize y.drop 256 = TL at *
    generalize ss.map outP = PL at *
    clear hown kI kId hPl e1 hS
    gi_wp2
    refine wpIn_noPanic ?_
    gi_region_with_o (refine ⟨trivial, ?_⟩; gi_at_call 23; refine (callsIn_wide.2 HCLN.out).mono ?_; rintro e W5 ⟨g5, c5, rfl, hO5, hg5, hlt5, hB5⟩; have e8 := d8.keep hB5 d8.lt; have e9 : Boxed W5 _ _ _ := (hB5.block _ d9.lt).trans d9; have a9 := e9.cell; have b9 := e9.frozen; have a80 := e8.cell0; have a81 := e8.cell1; have a82 := e8.cell2; have b80 := e8.frozen 0; have b81 := e8.frozen 1; have b82 := e8.frozen 2)
    all_goals refine noPanic_normal ?_
    all_goals gi_wp2
    all_goals
      obtain ⟨W8, hW8⟩ : ∃ W8, (((W5.setCell ⟨w.heap.size + 1, 0, none⟩ (.slice (some ⟨g5, 0, none⟩) 256 c5)).setCell ⟨w.heap.size + 1, 1, none⟩ (.int .u8 seq)).setCell ⟨w.heap.size + 1, 2, none⟩ (.int .u8 shape)).setCell ⟨w.heap.size + 1 + 1, 0, none⟩ (.slice (some ⟨g9, 0, none⟩) 256 cap9) = W8 := ⟨_, rfl⟩
      have hzd : W.drew.heap.size = W.heap.size := rfl
      have hz5 := hB5.size
      have f8 : Box3 W8 (w.heap.size + 1) 24 (.slice (some ⟨g5, 0, none⟩) 256 c5) (.int .u8 seq) (.int .u8 shape) := by rw [← hW8]; exact (e8.all _ _ _).other _ (by show w.heap.size + 1 ≠ w.heap.size + 1 + 1; omega) _
      have f9 : Boxed W8 (w.heap.size + 2) 22 (.slice (some ⟨g9, 0, none⟩) 256 cap9) := by
        rw [← hW8]
        exact Boxed.set _ (boxed_off (boxed_off (boxed_off e9 _ (by show _ ≠ w.heap.size + 1; omega) _) _ (by show _ ≠ w.heap.size + 1; omega) _) _ (by show _ ≠ w.heap.size + 1; omega) _)
      have hoth : ∀ k, k ≠ w.heap.size + 1 → k ≠ w.heap.size + 2 → W8.heap[k]? = W5.heap[k]? := by
        intro k h1 h2
        rw [← hW8]
        exact (Below.heap_setCell _ _ _ k (by show k ≠ w.heap.size + 1 + 1; omega)).trans ((Below.heap_setCell _ _ _ k (by show k ≠ w.heap.size + 1; omega)).trans ((Below.heap_setCell _ _ _ k (by show k ≠ w.heap.size + 1; omega)).trans (Below.heap_setCell _ _ _ k (by show k ≠ w.heap.size + 1; omega))))
      have hW5 : ∀ k, k < W.heap.size → W5.heap[k]? = W.heap[k]? := fun k hk => hB5.block k hk
      have hsz8 : W8.heap.size = W5.heap.size := by rw [← hW8]; simp [World.setCell]
      have hK8 : W8.heap[w2.heap.size + 2]? = some (.deferred (some [])) := (hoth _ (by omega) (by omega)).trans ((hW5 _ (by omega)).trans hK)
      have hB8 : Below w.heap.size w W8 := by
        rw [← hW8]
        have h := kB.trans ((show Below w.heap.size W W5 from ⟨hB5.os, hB5.tape, hB5.output, hB5.size, fun k hk => hW5 k (by omega)⟩))
        exact (((h.setCell (p := ⟨w.heap.size + 1, 0, none⟩) (by show _ ≤ w.heap.size + 1; omega) _).setCell (p := ⟨w.heap.size + 1, 1, none⟩) (by show _ ≤ w.heap.size + 1; omega) _).setCell (p := ⟨w.heap.size + 1, 2, none⟩) (by show _ ≤ w.heap.size + 1; omega) _).setCell (p := ⟨w.heap.size + 1 + 1, 0, none⟩) (by show _ ≤ w.heap.size + 1 + 1; omega) _
      have r5 : W8.ownsRow w.heap.size 3 1 (.slice (some ⟨g5, 0, none⟩) 256 c5) 256 (TL.map (Value.int .i64)) := owns_lower (row_same (base' := 0) hO5 (hoth g5 (by omega) (by omega))) (by omega)
      have r9 : W8.ownsRow w.heap.size 3 1 (.slice (some ⟨g9, 0, none⟩) 256 cap9) 256 (PL.map (Value.int .i64)) := owns_lower (row_same (base' := 0) HRO.out ((hoth g9 (by omega) (by omega)).trans (hW5 g9 hlt9))) (by omega)
      rw [hW8]
      refine ⟨by simp, .inl ⟨_, _, rfl, run_takeDeferred hK8, ?_⟩⟩
      have p80 := (show Box3 (W8.putObj (w2.heap.size + 2) (.deferred none)) _ _ _ _ _ from (World.putObj_heap_other (by omega)).trans f8)
      have q9 := (f9.kept (grownBy_putObj' W8 (w2.heap.size + 2) (.deferred none)) (by simp; omega)).cell
      have q80 := p80.cell0
      have q81 := p80.cell1
      have q82 := p80.cell2
      refine ⟨.tuple #[.agg #[.slice (some ⟨g5, 0, none⟩) 256 c5, .int .u8 seq, .int .u8 shape], .slice (some ⟨g9, 0, none⟩) 256 cap9, .int .i64 0], ?_, .slice (some ⟨g5, 0, none⟩) 256 c5, .slice (some ⟨g9, 0, none⟩) 256 cap9, rfl, ?_, ?_, ?_, hB8.trans (belowK_b (w := w) (Nat.le_refl _) W8 (w2.heap.size + 2) _ _ (by omega) hK8 rfl rfl)⟩
      · simp [results, Try.f9, go_sem, q80, q81, q82, q9]
      · show World.ownsRow _ _ _ _ _ TL.length _
        rw [HTL.out]; exact ownsRow_putObj r5 _ hK8 rfl
      · show World.ownsRow _ _ _ _ _ PL.length _
        rw [hPL.out]; exact ownsRow_putObj r9 _ hK8 rfl
      · intro g e1 e2
        obtain rfl : g5 = g := by simpa [Value.ownBlock] using e1
        obtain rfl : g9 = g5 := by simpa [Value.ownBlock] using e2
        omega
end Go.Proofs.Ytcmbbmilldhnnaa
