/- reedpiperef13: May, Check, New, Same, Done, Next. -/
import Derived.Test.YtcmbbmilldhnnaaRef12f
import Derived.Test.YtcmbbmilldhnnaaLapBad
import Derived.Test.YtcmbbmilldhnnaaSame11
import Derived.Deep.AppendLies
import Derived.Deep.RegionLaw
set_option linter.unusedVariables false
set_option linter.unusedSimpArgs false
namespace Go.Proofs.Ytcmbbmilldhnnaa
open Go.ChangeShapes Go.WideShapes Go.ChangeAt Go.RowKit

theorem kept16 (n : Int) (b : Nat) (h1 : 1 ≤ b) (h2 : b ≤ 62) (w : World) :
    Calls Try.prog 49 #[.int .i64 n, .int .i64 b] w fun e w' => e = .returned (.int .i64 (clp n b)) ∧ w = w' := by
  have p1 := pow_pos' (b - 1)
  have p2 : (2 : Int) ^ (b - 1) ≤ 2 ^ 61 := pow_le_pow' (by omega)
  go_enter Try.func49, Try.ntmps49
  go_wp2
  all_goals go_ret
  all_goals exact ⟨ret_int (by unfold clp; omega), rfl⟩
def RMay (b : Bool) (w : World) (e : Ending) (w' : World) : Prop := e = .returned (.bool b) ∧ Below w.heap.size w w'
section
variable (l : List Int) (n : Nat) (p : Option Addr) (c : Nat) (seq shape : Int) (w : World)

set_option maxRecDepth 100000 in
theorem may_a (d1 : ((n : Int) == 256) = false) (d1' : ((n : Int) != 256) = true) : Calls Try.prog 30 #[.agg #[.slice p n c, .int .u8 seq, .int .u8 shape]] w (RMay false w) := by
  unfold RMay
  go_enter Try.func30, Try.ntmps30
  go_wp2
  go_ret
  exact ⟨rfl, (Below.refl _ w).alloc (Nat.le_refl _) _⟩
set_option maxRecDepth 100000 in
theorem may_b (d1 : ((n : Int) == 256) = true) (d1' : ((n : Int) != 256) = false) (d2 : decide (3 < seq) = true) : Calls Try.prog 30 #[.agg #[.slice p n c, .int .u8 seq, .int .u8 shape]] w (RMay false w) := by
  unfold RMay
  go_enter Try.func30, Try.ntmps30
  go_wp2
  go_ret
  exact ⟨rfl, (Below.refl _ w).alloc (Nat.le_refl _) _⟩
set_option maxRecDepth 100000 in
theorem may_c (d1 : ((n : Int) == 256) = true) (d1' : ((n : Int) != 256) = false) (d2 : decide (3 < seq) = false) (d3 : decide (1 < shape) = true) : Calls Try.prog 30 #[.agg #[.slice p n c, .int .u8 seq, .int .u8 shape]] w (RMay false w) := by
  unfold RMay
  go_enter Try.func30, Try.ntmps30
  go_wp2
  go_ret
  exact ⟨rfl, (Below.refl _ w).alloc (Nat.le_refl _) _⟩
set_option maxRecDepth 100000 in
set_option maxHeartbeats 1000000 in
theorem may_d (d2 : decide (3 < seq) = false) (d3 : decide (1 < shape) = false) (hl : l.length = 256) (hI : IsInts w p l) : Calls Try.prog 30 #[.agg #[.slice p 256 c, .int .u8 seq, .int .u8 shape]] w (RMay (!(l.any farP)) w) := by
  have hb0 : Below w.heap.size w (w.alloc (.cells #[.slice p 256 c, .int .u8 seq, .int .u8 shape] 24)) := (Below.refl _ w).alloc (Nat.le_refl _) _
  have HI := Lib.hid (hI.keep hb0)
  have HB := Lib.hid hb0
  have HL := Lib.hid hl
  obtain ⟨r, hr⟩ : ∃ r, (!(l.any farP)) = r := ⟨_, rfl⟩
  have HE := Lib.hid hr
  rw [hr]
  clear hI hr hb0 hl
  unfold RMay
  go_enter Try.func30, Try.ntmps30
  go_wp2
  go_loop [3] (fun I => ∃ k : Nat, I = .int .i64 k ∧ k ≤ 256 ∧ Hid (l.any farP = (l.drop k).any farP)) (fun I => 256 - (intOf I).toNat)
  case atStart => exact ⟨0, rfl, Nat.zero_le _, Lib.hid (by simp)⟩
  case round =>
    obtain ⟨k, rfl, hk, hany⟩ := hrel
    by_cases hlt : k < 256
    · have hd0 : decide ((k : Int) < 256) = true := decide_eq_true (by omega)
      have hkl : k < l.length := by rw [HL.out]; exact hlt
      obtain ⟨b, off, rfl, _, hc⟩ := HI.out.at hkl
      have h1 := hc k hkl
      have hdr : l.drop k = l.getD k 0 :: l.drop (k + 1) := by rw [List.drop_eq_getElem_cons hkl]; simp [List.getD_eq_getElem?_getD, hkl]
      have hst : Hid (l.any farP = (farP (l.getD k 0) || (l.drop (k + 1)).any farP)) := by
        have := hany.out; rw [hdr, List.any_cons] at this; exact this
      generalize l.getD k 0 = x at h1 hst
      have hkI : (k : Int) < 256 := by omega
      clear hc hdr hany HI hkl
      by_cases hx1 : x < -1099511627776
      · have e1 : decide (x < -1099511627776) = true := decide_eq_true hx1
        have HR : Hid (l.any farP = true) := by
          have := hst.out
          rw [show farP x = true by unfold farP; simp; omega, Bool.true_or] at this; exact this
        clear hst hx1
        go_wp2
        go_ret
        exact ⟨ret_bool (by rw [← HE.out, HR.out]; rfl), HB.out⟩
      · have e1 : decide (x < -1099511627776) = false := decide_eq_false hx1
        by_cases hx2 : 1099511627776 < x
        · have e2 : decide (1099511627776 < x) = true := decide_eq_true hx2
          have HR : Hid (l.any farP = true) := by
            have := hst.out
            rw [show farP x = true by unfold farP; simp; omega, Bool.true_or] at this; exact this
          clear hst hx1 hx2
          go_wp2
          go_ret
          exact ⟨ret_bool (by rw [← HE.out, HR.out]; rfl), HB.out⟩
        · have e2 : decide (1099511627776 < x) = false := decide_eq_false hx2
          have HR : Hid (l.any farP = (l.drop (k + 1)).any farP) := by
            have := hst.out
            rw [show farP x = false by unfold farP; simp; omega, Bool.false_or] at this; exact this
          clear hst hx1 hx2
          go_wp2
          go_round
          case rel => exact ⟨k + 1, by go_num, by omega, HR⟩
          case measure => simp [intOf]; omega
    · have hkM : k = 256 := by omega
      subst hkM
      have HR : Hid (l.any farP = false) := by
        have := hany.out
        rw [List.drop_of_length_le (by rw [HL.out]; exact Nat.le_refl _), List.any_nil] at this; exact this
      clear hany hlt
      go_wp2
      go_ret
      exact ⟨ret_bool (by rw [← HE.out, HR.out]; rfl), HB.out⟩
end
theorem ref_may (l : List Int) (p : Option Addr) (c : Nat) (seq shape : Int) (w : World) (hI : IsInts w p l) : Calls Try.prog 30 #[.agg #[.slice p l.length c, .int .u8 seq, .int .u8 shape]] w (RMay (mayB l seq shape) w) := by
  by_cases h1 : l.length = 256
  · have d1 : ((l.length : Int) == 256) = true := by simp [h1]
    have d1' : ((l.length : Int) != 256) = false := by simp [h1]
    by_cases h2 : 3 < seq
    · have : mayB l seq shape = false := by unfold mayB; simp; intros; omega
      rw [this]; exact may_b l.length p c seq shape w d1 d1' (decide_eq_true h2)
    by_cases h3 : 1 < shape
    · have : mayB l seq shape = false := by unfold mayB; simp; intros; omega
      rw [this]; exact may_c l.length p c seq shape w d1 d1' (decide_eq_false h2) (decide_eq_true h3)
    have : mayB l seq shape = !(l.any farP) := by
      unfold mayB
      rw [decide_eq_true h1, decide_eq_true (show seq ≤ 3 by omega), decide_eq_true (show shape ≤ 1 by omega)]
      simp
    rw [this, h1]
    exact may_d l p c seq shape w (decide_eq_false h2) (decide_eq_false h3) h1 hI
  · have : mayB l seq shape = false := by unfold mayB; simp [h1]
    have d1 : ((l.length : Int) == 256) = false := beq_eq_false_iff_ne.2 (by omega)
    rw [this]; exact may_a l.length p c seq shape w d1 (by simp [bne, d1])
set_option maxRecDepth 100000 in
theorem ref_check13 (l : List Int) (p : Option Addr) (c : Nat) (seq shape : Int) (w : World) (hI : IsInts w p l) : Calls Try.prog 17 #[.agg #[.slice p l.length c, .int .u8 seq, .int .u8 shape]] w (RCheck (if mayB l seq shape = true then 0 else 8) w) := by
  have hb0 : Below w.heap.size w (w.alloc (.cells #[.slice p l.length c, .int .u8 seq, .int .u8 shape] 24)) := (Below.refl _ w).alloc (Nat.le_refl _) _
  have HM := Lib.hid (fun W hW => ref_may l p c seq shape W (hI.keep hW))
  cases hm : mayB l seq shape
  all_goals
    rw [hm] at HM
    first | rw [if_pos rfl] | rw [if_neg (by simp)]
    unfold RCheck
    unfold RMay at HM
    clear hI hm
    go_enter Try.func17, Try.ntmps17
    go_wp2_with fail
    refine (HM.out _ hb0).mono ?_
    rintro e w1 ⟨rfl, hB1⟩
    have hb1 := hb0.trans (hB1.mono hb0.size)
    clear hb0 hB1
    go_wp2
    go_ret
    exact ⟨rfl, hb1⟩
/-- Two of what overlaps that are alike. -/
theorem ref_same13 (l : List Int) (p q : Option Addr) (c d : Nat) (seq shape : Int) (hl : l.length ≤ maxLen) (w : World) (hI : IsInts w p l) (hJ : IsInts w q l) : Calls Try.prog 15 #[.agg #[.slice p l.length c, .int .u8 seq, .int .u8 shape], .agg #[.slice q l.length d, .int .u8 seq, .int .u8 shape]] w (RMay true w) := by
  have hb0 : Below w.heap.size w ((w.alloc (.cells #[.slice p l.length c, .int .u8 seq, .int .u8 shape] 24)).alloc (.cells #[.slice q l.length d, .int .u8 seq, .int .u8 shape] 24)) := ((Below.refl _ w).alloc (Nat.le_refl _) _).alloc (by simp) _
  have HS := Lib.hid (fun W (h : Below w.heap.size w W) => ints_same p q l c d W (hI.keep h) (hJ.keep h) hl)
  unfold RMay
  clear hI hJ
  go_enter Try.func15, Try.ntmps15
  go_wp2_with fail
  refine (HS.out _ hb0).mono ?_
  rintro e w1 ⟨rfl, n, rfl⟩
  go_wp2
  go_ret
  exact ⟨rfl, below_drewN hb0 n⟩
def RNew (w : World) (e : Ending) (w' : World) : Prop := ∃ g, e = .returned (.agg #[.slice (some ⟨g, 0, none⟩) 256 256, .int .u8 0, .int .u8 0]) ∧ w.heap.size ≤ g ∧ IsInts w' (some ⟨g, 0, none⟩) (zeroL 256) ∧ Below w.heap.size w w'
theorem new_row13 {w w' : World} {e : Ending} (h : ∃ g, e = .returned (.agg #[.slice (some ⟨g, 0, none⟩) 256 256, .int .u8 0, .int .u8 0]) ∧ w'.ownsRow w.heap.size 3 1 (.slice (some ⟨g, 0, none⟩) 256 256) 256 ((zeroL 256).map (Value.int .i64)) ∧ w.heap.size ≤ g ∧ g < w'.heap.size ∧ Below w.heap.size w w') : RNew w e w' := by
  obtain ⟨g, rfl, hO, h1, h2, hB⟩ := h
  refine ⟨g, rfl, h1, isInts_of h2 (fun j hj => ?_), hB⟩
  have hz := zero_len 256
  rw [hO.cellAt j (by omega)]
  exact row_get _ j (Nat.zero_le _) hj
set_option maxHeartbeats 1000000 in
theorem ref_new13 (w : World) : Calls Try.prog 18 #[] w (RNew w) := by
  refine Calls.mono (R := fun e w' => ∃ g, e = .returned (.agg #[.slice (some ⟨g, 0, none⟩) 256 256, .int .u8 0, .int .u8 0]) ∧ w'.ownsRow w.heap.size 3 1 (.slice (some ⟨g, 0, none⟩) 256 256) 256 ((zeroL 256).map (Value.int .i64)) ∧ w.heap.size ≤ g ∧ g < w'.heap.size ∧ Below w.heap.size w w') ?_ (fun e w' h => new_row13 h)
  rw [zero_map]
  have B0 := Box3.new w 24 (.slice none 0 0) (.int .u8 0) (.int .u8 0) rfl
  go_enter Try.func18, Try.ntmps18
  go_wp2_with (at_make; refine make_row rfl _ _ rfl 256 (by omega) rfl rfl ?_; intro w2 hlt2 hO2 hB2; have B2 := B0.keep hB2 (by simp); have k0 := B2.cell0; have k1 := B2.cell1; have k2 := B2.cell2; have f0 := B2.frozen 0; have f1 := B2.frozen 1; have f2 := B2.frozen 2)
  have hb2 : Below w.heap.size w w2 := ((Below.refl _ w).alloc (Nat.le_refl _) _).trans (hB2.mono (by simp))
  simp only [World.size_alloc] at hO2 hlt2
  have B3 := B2.all (.slice (some ⟨w.heap.size + 1, 0, none⟩) 256 256) (.int .u8 0) (.int .u8 0)
  have j0 := B3.cell0
  have j1 := B3.cell1
  have j2 := B3.cell2
  refine bodyPost_ret (v := .agg #[.slice (some ⟨w.heap.size + 1, 0, none⟩) 256 256, .int .u8 0, .int .u8 0]) ?_ rfl ?_
  · simp [results, Try.f18, go_sem, j0, j1, j2]
  · refine ⟨_, rfl, ?_, by omega, by simpa [World.setCell] using hlt2, ((hb2.setCell (p := ⟨w.heap.size, 0, none⟩) (Nat.le_refl _) _).setCell (p := ⟨w.heap.size, 1, none⟩) (Nat.le_refl _) _).setCell (p := ⟨w.heap.size, 2, none⟩) (Nat.le_refl _) _⟩
    have hk : ∀ {W : World} (i : Nat) (u : Value), W.ownsRow w.heap.size 3 1 (.slice (some ⟨w.heap.size + 1, 0, none⟩) 256 256) 256 (List.replicate 256 (.int .i64 0)) → (W.setCell ⟨w.heap.size, i, none⟩ u).ownsRow w.heap.size 3 1 (.slice (some ⟨w.heap.size + 1, 0, none⟩) 256 256) 256 (List.replicate 256 (.int .i64 0)) := by
      intro W i u h
      refine ⟨h.1, ?_⟩
      rcases h.2 with hn | ⟨g', cap, cur, e', hg, hgg, rest⟩
      · exact .inl hn
      · obtain ⟨rfl, rfl⟩ : w.heap.size + 1 = g' ∧ 256 = cap := by simpa using e'
        exact .inr ⟨_, _, cur, rfl, hg, (Below.heap_setCell _ _ _ _ (by show w.heap.size + 1 ≠ w.heap.size; omega)).trans hgg, rest⟩
    exact hk 2 _ (hk 1 _ (hk 0 _ (owns_lower hO2 (by omega))))
def pcmP (l Y : List Int) (k : Nat) : List Int := (List.range k).map (fun j => outP (l.getD j 0 + Y.getD j 0))
theorem pcmP_len (l Y : List Int) (k : Nat) : (pcmP l Y k).length = k := by simp [pcmP]
theorem pcmP_succ (l Y : List Int) (k : Nat) : pcmP l Y (k + 1) = pcmP l Y k ++ [outP (l.getD k 0 + Y.getD k 0)] := by
  unfold pcmP
  rw [List.range_succ, List.map_append]; rfl
theorem pcmP_all (l Y : List Int) (h : l.length = 256) : pcmP l Y 256 = pcmL l Y := by
  unfold pcmP pcmL sumsL
  rw [h, List.map_map]; rfl
theorem ints_3set {W : World} {p : Nat} {l : List Int} (h : IsInts W (some ⟨p, 0, none⟩) l) {g : Nat} (hg : p ≠ g) (a b c : Value) : IsInts (((W.setCell ⟨g, 0, none⟩ a).setCell ⟨g, 1, none⟩ b).setCell ⟨g, 2, none⟩ c) (some ⟨p, 0, none⟩) l := ((h.setCell _ _ hg).setCell _ _ hg).setCell _ _ hg
theorem below_3set {W W0 : World} {n g : Nat} (h : Below n W0 W) (hg : n ≤ g) (a b c : Value) : Below n W0 (((W.setCell ⟨g, 0, none⟩ a).setCell ⟨g, 1, none⟩ b).setCell ⟨g, 2, none⟩ c) := ((h.setCell (p := ⟨g, 0, none⟩) hg a).setCell (p := ⟨g, 1, none⟩) hg b).setCell (p := ⟨g, 2, none⟩) hg c
/-- What Done answers. -/
def RDone (T P : List Int) (s sh : Int) (w : World) (e : Ending) (w' : World) : Prop :=
  ∃ g1 c1 g2 c2, e = .returned (.tuple #[.agg #[.slice (some ⟨g1, 0, none⟩) 256 c1, .int .u8 s, .int .u8 sh], .slice (some ⟨g2, 0, none⟩) 256 c2]) ∧ w.heap.size ≤ g1 ∧ IsInts w' (some ⟨g1, 0, none⟩) T ∧ w.heap.size ≤ g2 ∧ IsInts w' (some ⟨g2, 0, none⟩) P ∧ Below w.heap.size w w'
set_option maxRecDepth 100000 in
set_option maxHeartbeats 4000000 in
theorem ref_done (l : List Int) (ls lsh seq shape : Int) (hl : l.length = 256) (bl : ∀ j, -1099511627776 ≤ l.getD j 0 ∧ l.getD j 0 ≤ 1099511627776) (Y : List Int) (hY : Y.length = 512) (bY : ∀ j, -34359738368 ≤ Y.getD j 0 ∧ Y.getD j 0 ≤ 34359738368)
    (p q : Option Addr) (c m d : Nat) (w : World) (hI : IsInts w p l) (HN : Hid (∀ W, Below w.heap.size w W → Calls Try.prog 48 #[.int .u8 seq, .int .u8 lsh, .int .u8 shape, .slice q m d] W (RRow Y W))) :
    Calls Try.prog 32 #[.agg #[.slice p 256 c, .int .u8 ls, .int .u8 lsh], .int .u8 seq, .int .u8 shape, .slice q m d] w (RDone (Y.drop 256) (pcmL l Y) seq shape w) := by
  obtain ⟨i0, hi, hz0, hz1, hz2⟩ := info_parts Try.infoInt
  have HI := Lib.hid hI
  have HL := Lib.hid hl
  have HYL := Lib.hid hY
  have HBL := Lib.hid bl
  have HBY := Lib.hid bY
  have HALL := Lib.hid (pcmP_all l Y hl)
  have B0 := (Box3.new w 24 (.slice p 256 c) (.int .u8 ls) (.int .u8 lsh) rfl).alloc (.cells #[.slice none 0 0, .int .u8 0, .int .u8 0] 24)
  have B1 := Box3.new (w.alloc (.cells #[.slice p 256 c, .int .u8 ls, .int .u8 lsh] 24)) 24 (.slice none 0 0) (.int .u8 0) (.int .u8 0) rfl
  have hb0 : Below w.heap.size w ((w.alloc (.cells #[.slice p 256 c, .int .u8 ls, .int .u8 lsh] 24)).alloc (.cells #[.slice none 0 0, .int .u8 0, .int .u8 0] 24)) := ((Below.refl _ w).alloc (Nat.le_refl _) _).alloc (by simp) _
  simp only [World.size_alloc] at B1
  have HB0 := Lib.hid B0
  have HB1 := Lib.hid B1
  clear hI hl hY bl bY B0 B1
  go_enter Try.func32, Try.ntmps32
  go_wp2_with fail
  refine (HN.out _ hb0).mono ?_
  rintro e w1 ⟨v1, rfl, hO1, hB1⟩
  obtain ⟨gy, cy, rfl, hgy, hgy2, _⟩ := owns_at hO1 (by intro e; have := HYL.out; rw [e] at this; simp at this)
  obtain ⟨py, cy2, e2, IY⟩ := owns_any hO1
  obtain ⟨rfl, rfl⟩ : some (⟨gy, 0, none⟩ : Addr) = py ∧ cy = cy2 := by simpa using e2
  have hcy : 512 ≤ cy := by
    rcases hO1.2 with ⟨h', _⟩ | ⟨g', cap, cur, e', _, _, h2, _⟩
    · simp at h'
    · have e3 : gy = g' ∧ cy = cap := by simpa using e'
      have := HYL.out
      omega
  have X0 := Lib.hid (HB0.out.keep hB1 HB0.out.lt)
  have X1 := Lib.hid (HB1.out.keep hB1 HB1.out.lt)
  have HY1 := Lib.hid IY
  have hb1 := hb0.trans (hB1.mono hb0.size)
  have HI1 := Lib.hid (HI.out.keep hb1)
  have hgy3 : w.heap.size + 1 < gy := by simp at hgy; omega
  rw [HYL.out]
  clear hO1 hB1 hb0 HB0 HB1 HI IY e2 HN hgy
  have hzA := hb1.size
  obtain ⟨b1, hb1e⟩ : ∃ b1, w1.heap.size = b1 := ⟨_, rfl⟩
  go_wp2_with fail
  go_loopw [11, 12] (fun V I wr => ∃ k : Nat, wr.ownsRow w1.heap.size 3 1 V (pcmP l Y k).length ((pcmP l Y k).map (Value.int .i64)) ∧ I = .int .i64 k ∧ k ≤ 256 ∧ Below w1.heap.size w1 wr) (fun _ I _ => 256 - (intOf I).toNat)
  case atStart => exact ⟨0, World.ownsRow_nil _ _ _ _, rfl, by decide, Below.refl _ _⟩
  case round =>
    obtain ⟨k, hown, rfl, hk, hb⟩ := hrel
    have Z0 := X0.out.keep hb X0.out.lt
    have k0 := Z0.cell0
    by_cases hlt : k < 256
    · have hd : decide ((k : Int) < 256) = true := decide_eq_true (by omega)
      obtain ⟨bp, op, hp, _, qp⟩ := (HI1.out.keep hb).at (j := k) (by rw [HL.out]; exact hlt)
      have r1 := qp k (by rw [HL.out]; exact hlt)
      obtain ⟨bq, oq, hq, r2⟩ := (HY1.out.keep hb (Nat.le_refl _)).at (j := k) (by rw [HYL.out]; omega)
      obtain ⟨rfl, rfl⟩ : gy = bq ∧ 0 = oq := by simpa using hq
      rw [Nat.zero_add] at r2
      have c1 := HBL.out k
      have c2 := HBY.out k
      have HV := Lib.hid (pcmP_succ l Y k)
      have hl2 := Lib.hid (pcmP_len l Y k)
      obtain ⟨x, hx⟩ : ∃ x, l.getD k 0 = x := ⟨_, rfl⟩
      obtain ⟨y, hy⟩ : ∃ y, Y.getD k 0 = y := ⟨_, rfl⟩
      rw [hx] at r1 c1 HV
      rw [hy] at r2 c2 HV
      have HR := Lib.hid (fun W => (down_lit (x + y) 4 4 rfl (by omega) (by omega) (by decide) W))
      have HC := Lib.hid (fun W => (kept16 (rnd (x + y) 4) 16 (by decide) (by decide) W))
      have t1 : IntKind.i64.wrap (x + y) = x + y := IntWalk.i64_in _ (by omega)
      have t7 : (k : Int) < 256 := by omega
      have t8 : (k : Int) < 512 := by omega
      obtain ⟨z, hz⟩ : ∃ z, outP (x + y) = z := ⟨_, rfl⟩
      rw [hz] at HV
      unfold outP at hz
      rw [hz] at HC
      generalize rnd (x + y) 4 = u at *
      have hown1 := Lib.hid (show ((wr.drew).alloc (.cells #[.int .i64 z] 3)).ownsRow w1.heap.size 3 1 _ _ _ from hown.alloc (.cells #[.int .i64 z] 3))
      have hbb1 := Lib.hid (show Below w1.heap.size w1 ((wr.drew).alloc (.cells #[.int .i64 z] 3)) from (below_drewN hb 1).alloc hb.size (.cells #[.int .i64 z] 3))
      have hl0 := Lib.hid hown.lt
      have hsz := hb.size
      subst hp
      clear qp hx hy hz hown hb hq Z0
      go_wp2_with fail
      go_region_law (first
        | (refine step_append_lies _ rfl (.tmp 23) (.tmp 36) 22 rfl w1.heap.size 3 i0 (.int .i64 0) 1 8 Try.underlying22 hi hz0 hz1 hz2 rfl (by decide) _ _ _ (by first | rfl | simp [Act.eval, Act.put]) hown1.out ⟨wr.heap.size, 0, none⟩ 1 1 [.int .i64 z] (by first | rfl | simp [Act.eval, Act.put]) rfl (cell_one_new _ _ _) (one_int _) (by decide) (by rw [hl2.out]; unfold maxLen; omega) (by rw [hl2.out]; omega) (by show _ ≤ (wr.alloc _).heap.size; simp; omega) _ rfl ?_; intro g' cap' wA hown' hg hat hltA)
        | (go_simp; go_at_call 50; refine (HR.out _).mono ?_; rintro e w' ⟨rfl, rfl⟩)
        | (go_simp; go_at_call 49; refine (HC.out _).mono ?_; rintro e w' ⟨rfl, rfl⟩))
      all_goals
        have hb2 : Below w1.heap.size w1 wA := hbb1.out.grown hg (by show _ ≤ (wr.alloc _).heap.size; simp; omega) (fun j hj => (hl0.out j hj).1)
        have hown2 : wA.ownsRow w1.heap.size 3 1 (.slice (some ⟨g', 0, none⟩) ((pcmP l Y k).length + 1) cap') (pcmP l Y (k + 1)).length ((pcmP l Y (k + 1)).map (Value.int .i64)) := by
          rw [HV.out, List.map_append, List.length_append]
          simpa using hown'
        clear hown' hg hbb1 hown1
        go_wp2
        exact ⟨⟨k + 1, hown2, by go_num, by omega, hb2⟩, by simp [intOf]; omega⟩
    · have hkM : k = 256 := by omega
      subst hkM
      have hl2 := pcmP_len l Y 256
      obtain ⟨gp, cp, rfl, hgp, hgp2, hcp⟩ := owns_at hown (by intro e; rw [e] at hl2; simp at hl2)
      have HP := Lib.hid (isInts_of hgp2 hcp)
      rw [HALL.out] at HP
      have HYr := Lib.hid (HY1.out.keep hb (Nat.le_refl _))
      have HD := Lib.hid (intsB_drop HYr.out 256)
      have HDL := Lib.hid (show (Y.drop 256).length = 256 by rw [List.length_drop, HYL.out])
      have Z1 := Lib.hid (X1.out.keep hb X1.out.lt)
      have hbw := hb1.trans (hb.mono hzA)
      have hsr := hb.size
      have HBR := Lib.hid hb
      obtain ⟨D, hD⟩ : ∃ D, Y.drop 256 = D := ⟨_, rfl⟩
      rw [hD] at HD HDL
      rw [hl2]
      have HDE := Lib.hid hD
      clear hown hcp hb hD hl2 HYr hlt
      have u1 : (256 : Int) ≤ (cy : Int) := by omega
      have hgpr : gp < wr.heap.size := hgp2
      go_wp2_with (at_builtin; refine append_l rfl _ _ rfl wr.heap.size _ [] rfl (World.ownsRow_nil _ _ _ _) _ _ D 256 HDL.out rfl HD.out.ints (by decide) (by decide) (by decide) (Nat.le_refl _) wr (Below.refl _ _) ?_; intro v4 w4 hown4 hb4; rw [List.nil_append] at hown4; obtain ⟨g4, c4, rfl, hg4, hg42, hc4⟩ := owns_at hown4 (by intro e; have := HDL.out; rw [e] at this; simp at this); rw [HDL.out]; have HD4 := Lib.hid (isInts_of hg42 hc4); have HB4 := Lib.hid hb4; clear hown4 hc4 hb4; have Z4 := Z1.out.keep HB4.out Z1.out.lt; have k0 := Z4.cell0; have k1 := Z4.cell1; have k2 := Z4.cell2; have f0 := Z4.frozen 0; have f1 := Z4.frozen 1; have f2 := Z4.frozen 2)
      have Z5 := Z4.all (.slice (some ⟨g4, 0, none⟩) 256 c4) (.int .u8 seq) (.int .u8 shape)
      have j0 := Z5.cell0
      have j1 := Z5.cell1
      have j2 := Z5.cell2
      have hb4w := hbw.trans (HB4.out.mono hbw.size)
      refine bodyPost_ret (v := .tuple #[.agg #[.slice (some ⟨g4, 0, none⟩) 256 c4, .int .u8 seq, .int .u8 shape], .slice (some ⟨gp, 0, none⟩) 256 cp]) ?_ rfl ?_
      · simp [results, Try.f32, go_sem, j0, j1, j2]
      · refine ⟨g4, c4, gp, cp, rfl, by omega, (by rw [HDE.out]; exact ints_3set (g := w.heap.size + 1) HD4.out (by omega) _ _ _), by omega, ints_3set (g := w.heap.size + 1) (HP.out.keep HB4.out) (by omega) _ _ _, below_3set (g := w.heap.size + 1) hb4w (by omega) _ _ _⟩
end Go.Proofs.Ytcmbbmilldhnnaa
