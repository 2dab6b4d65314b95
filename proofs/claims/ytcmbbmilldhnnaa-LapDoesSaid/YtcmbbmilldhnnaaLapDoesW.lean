/- LapDoes: the walk. -/
import Derived.Test.YtcmbbmilldhnnaaRef13n
import Derived.Test.YtcmbbmilldhnnaaStepArg
import Derived.Test.YtcmbbmilldhnnaaOpenLap
import Derived.Deep.CutRange
import Derived.Deep.RegionHeld3
set_option linter.unusedVariables false
set_option linter.unusedSimpArgs false
namespace Go.Proofs.Ytcmbbmilldhnnaa
open Go.ChangeShapes Go.WideShapes Go.ChangeAt Go.RowKit

theorem owns_anyd {w : World} {base : Nat} {v : Value} {l : List Int} (h : w.ownsRow base 3 1 v l.length (l.map (Value.int .i64))) : ∃ p cap, v = .slice p l.length cap ∧ IntsB w p l base w.heap.size ∧ l.length ≤ cap := by
  obtain ⟨p, cap, rfl, hI⟩ := owns_any h
  refine ⟨p, cap, rfl, hI, ?_⟩
  rcases h.2 with ⟨h', _⟩ | ⟨g', cap', cur, e', _, _, h2, _⟩
  · have h3 : p = none ∧ l = [] ∧ cap = 0 := by simpa using h'
    rw [h3.2.1]; exact Nat.zero_le _
  · have e3 : p = some ⟨g', 0, none⟩ ∧ cap = cap' := by simpa using e'
    rw [e3.2]; exact h2
/-- A row of its own, as one block. -/
theorem spoil_own {w : World} {base : Nat} {v : Value} {l : List Int} (h : w.ownsRow base 3 1 v l.length (l.map (Value.int .i64))) (hb : base ≤ w.heap.size) : ∃ p cap a b, v = .slice p l.length cap ∧ Spoil w p l.length cap a b (l.map (Value.int .i64)) ∧ base ≤ a ∧ b ≤ w.heap.size ∧ ((l = [] ∧ b = base) ∨ ∃ g, v.ownBlock = some g ∧ a = g ∧ b = g + 1) := by
  by_cases hl : l = []
  · subst hl
    obtain ⟨p, cap, rfl, hI⟩ := owns_any h
    exact ⟨p, cap, base, base, rfl, ⟨rfl, hb, fun h => absurd rfl h⟩, Nat.le_refl _, hb, .inl ⟨rfl, rfl⟩⟩
  · obtain ⟨g, cap, rfl, hg, hlt, hc⟩ := owns_at h hl
    refine ⟨_, cap, g, g + 1, rfl, ⟨by simp, hlt, fun _ => ⟨g, rfl, Nat.le_refl _, Nat.lt_succ_self _, ?_⟩⟩, hg, hlt, .inr ⟨g, rfl, rfl, rfl⟩⟩
    refine ⟨h.1, ?_⟩
    rcases h.2 with ⟨h', _⟩ | ⟨g', cap', cur, e', h1, rest⟩
    · simp at h'
    · have e3 : g = g' ∧ cap = cap' := by simpa using e'
      exact .inr ⟨g', cap', cur, e', by omega, rest⟩
/-- What Next answers: two rows that may be written. -/
def RNextS (r : (List Int × Int × Int) × List Int × Int) (w : World) (e : Ending) (w' : World) : Prop :=
  ∃ p1 c1 p2 c2 a1 b1 a2 b2, e = .returned (.tuple #[.agg #[.slice p1 r.1.1.length c1, .int .u8 r.1.2.1, .int .u8 r.1.2.2], .slice p2 r.2.1.length c2, .int .i64 r.2.2]) ∧ Spoil w' p1 r.1.1.length c1 a1 b1 (r.1.1.map (Value.int .i64)) ∧ Spoil w' p2 r.2.1.length c2 a2 b2 (r.2.1.map (Value.int .i64)) ∧ w.heap.size ≤ a1 ∧ w.heap.size ≤ a2 ∧ b1 ≤ w'.heap.size ∧ b2 ≤ w'.heap.size ∧ (b1 ≤ a2 ∨ b2 ≤ a1) ∧ Below w.heap.size w w'
theorem next_spoils {r : (List Int × Int × Int) × List Int × Int} {w : World} {e : Ending} {w' : World} (h : RNext r w e w') : RNextS r w e w' := by
  obtain ⟨v1, v2, rfl, h1, h2, hne, hB⟩ := h
  obtain ⟨p1, c1, a1, b1, e1, S1, k1, m1, d1⟩ := spoil_own h1 hB.size
  obtain ⟨p2, c2, a2, b2, e2, S2, k2, m2, d2⟩ := spoil_own h2 hB.size
  refine ⟨p1, c1, p2, c2, a1, b1, a2, b2, by rw [e1, e2], S1, S2, k1, k2, m1, m2, ?_, hB⟩
  rcases d1 with ⟨_, h⟩ | ⟨g1, o1, q1, r1⟩
  · exact .inl (by omega)
  · rcases d2 with ⟨_, h⟩ | ⟨g2, o2, q2, r2⟩
    · exact .inr (by omega)
    · have := hne g1 o1
      rw [o2] at this
      have hh : g2 ≠ g1 := fun e => this (by rw [e])
      omega
theorem wayA {w1 wA : World} {o : Obj} {p : Option Addr} {l : List Int} (h : IntsB wA p l w1.drew.heap.size wA.heap.size) : IntsB (wA.alloc o) p l w1.heap.size (wA.alloc o).heap.size := (h.alloc o).wide (Nat.le_refl _) (by simp) (Nat.le_refl _)
theorem belowA {w1 wA : World} (h : Below w1.drew.heap.size w1.drew wA) (o : Obj) : Below w1.heap.size w1 (wA.alloc o) := ((below_drewN (Below.refl _ w1) 1).trans h).alloc h.size o
theorem intsB_3set {W : World} {p : Option Addr} {l : List Int} {lo hi : Nat} (h : IntsB W p l lo hi) {g : Nat} (hg : g < lo ∨ hi ≤ g) (a b c : Value) : IntsB (((W.setCell ⟨g, 0, none⟩ a).setCell ⟨g, 1, none⟩ b).setCell ⟨g, 2, none⟩ c) p l lo hi := ((h.setCell _ _ hg).setCell _ _ hg).setCell _ _ hg
theorem wayB {w1 wA : World} {o : Obj} {p : Option Addr} {l : List Int} {a b c : Value} (h : IntsB wA p l ((w1.alloc o).drew).heap.size wA.heap.size) : IntsB (((wA.setCell ⟨w1.heap.size, 0, none⟩ a).setCell ⟨w1.heap.size, 1, none⟩ b).setCell ⟨w1.heap.size, 2, none⟩ c) p l w1.heap.size (((wA.setCell ⟨w1.heap.size, 0, none⟩ a).setCell ⟨w1.heap.size, 1, none⟩ b).setCell ⟨w1.heap.size, 2, none⟩ c).heap.size := by
  have h2 := intsB_3set h (g := w1.heap.size) (.inl (by show _ < (w1.alloc o).heap.size; simp)) a b c
  exact h2.wide (by show _ ≤ (w1.alloc o).heap.size; simp) (by simp [World.setCell]) (Nat.le_refl _)
theorem belowB {w1 wA : World} {o : Obj} {a b c : Value} (h : Below ((w1.alloc o).drew).heap.size (w1.alloc o).drew wA) : Below w1.heap.size w1 (((wA.setCell ⟨w1.heap.size, 0, none⟩ a).setCell ⟨w1.heap.size, 1, none⟩ b).setCell ⟨w1.heap.size, 2, none⟩ c) :=
  below_3set ((below_drewN ((Below.refl _ w1).alloc (Nat.le_refl _) o) 1).trans (h.mono (by show _ ≤ (w1.alloc o).heap.size; simp))) (Nat.le_refl _) a b c
theorem lap_small (l : List Int) (ls lsh seq shape : Int) (lines : List Int) : (lapN l ls lsh seq shape lines).1.1.length ≤ 512 ∧ (lapN l ls lsh seq shape lines).2.1.length ≤ 512 := by
  unfold lapN
  by_cases h : mayB l ls lsh = false
  · rw [if_pos h]; exact ⟨Nat.zero_le _, Nat.zero_le _⟩
  · rw [if_neg h]
    have h' : mayB l ls lsh = true := by simpa using h
    obtain ⟨h256, _⟩ := mayB_spec h'
    by_cases hE : synE seq lsh shape lines ≠ 0
    · rw [if_pos hE]; exact ⟨Nat.zero_le _, Nat.zero_le _⟩
    · rw [if_neg hE]
      have h5 := synL_len (winsL seq lsh shape) lines
      have h6 : (pcmL l (synL (winsL seq lsh shape) lines)).length = 256 := by unfold pcmL sumsL; rw [List.length_map, List.length_map, List.length_range, h256]
      generalize synL (winsL seq lsh shape) lines = Y at *
      generalize pcmL l Y = P at *
      show (Y.drop 256).length ≤ _ ∧ P.length ≤ _
      rw [List.length_drop]
      omega
theorem s3 {W : World} {g : Nat} {t : TypeId} {a b c : Value} (h : Box3 W g t a b c) : W.cell? ⟨g, 0, none⟩ = some a ∧ W.cell? ⟨g, 1, none⟩ = some b ∧ W.cell? ⟨g, 2, none⟩ = some c ∧ Box3 W g t a b c := ⟨h.cell0, h.cell1, h.cell2, h⟩
theorem s3alloc {W : World} {g : Nat} {t : TypeId} {a b c : Value} (o : Obj) (h : W.cell? ⟨g, 0, none⟩ = some a ∧ W.cell? ⟨g, 1, none⟩ = some b ∧ W.cell? ⟨g, 2, none⟩ = some c ∧ Box3 W g t a b c) : (W.alloc o).cell? ⟨g, 0, none⟩ = some a ∧ (W.alloc o).cell? ⟨g, 1, none⟩ = some b ∧ (W.alloc o).cell? ⟨g, 2, none⟩ = some c ∧ Box3 (W.alloc o) g t a b c := s3 (h.2.2.2.alloc o)
theorem box3drew {W : World} {g : Nat} {t : TypeId} {a b c : Value} (h : Box3 W g t a b c) : Box3 W.drew g t a b c := h
theorem srB {A : Prop} {w0 W W' : World} (h : Below w0.heap.size w0 W ∧ A) (hB : Below W.heap.size W W') : Below w0.heap.size w0 W' := h.1.trans (hB.mono h.1.size)
theorem spoil_put {w : World} {p : Option Addr} {n c lo hi k g : Nat} {xs : List Value} (h : Spoil w p n c lo hi xs) (hp : p = some ⟨g, 0, none⟩) (hk : k < n) (u : Value) : Spoil (w.setCell ⟨g, k, none⟩ u) p n c lo hi (xs.set k u) := by
  obtain ⟨g', hp', _, _, _, _, hn⟩ := h.at hk
  rw [hp] at hp'
  have e : g = g' := by simpa using hp'
  rw [e]; exact hn u
theorem box3set {W : World} {g11 g : Nat} {t : TypeId} {a b c : Value} (h : Box3 W g11 t a b c) (m : Nat) (hg : g11 ≠ g) (k : Nat) (u : Value) : Box3 ((W.drewN m).setCell ⟨g, k, none⟩ u) g11 t a b c := Box3.other (W := W.drewN m) h ⟨g, k, none⟩ hg u
theorem s3drew {W : World} {g : Nat} {t : TypeId} {a b c : Value} (h : (W).cell? ⟨g, 0, none⟩ = some a ∧ (W).cell? ⟨g, 1, none⟩ = some b ∧ (W).cell? ⟨g, 2, none⟩ = some c ∧ Box3 (W) g t a b c) : (W.drew).cell? ⟨g, 0, none⟩ = some a ∧ (W.drew).cell? ⟨g, 1, none⟩ = some b ∧ (W.drew).cell? ⟨g, 2, none⟩ = some c ∧ Box3 (W.drew) g t a b c := h
theorem s3set {W : World} {g k : Nat} {t : TypeId} {a b c : Value} (h : W.cell? ⟨g, 0, none⟩ = some a ∧ W.cell? ⟨g, 1, none⟩ = some b ∧ W.cell? ⟨g, 2, none⟩ = some c ∧ Box3 W g t a b c) (hk : g ≠ k) (x y z : Value) : (((W.setCell ⟨k, 0, none⟩ x).setCell ⟨k, 1, none⟩ y).setCell ⟨k, 2, none⟩ z).cell? ⟨g, 0, none⟩ = some a ∧ (((W.setCell ⟨k, 0, none⟩ x).setCell ⟨k, 1, none⟩ y).setCell ⟨k, 2, none⟩ z).cell? ⟨g, 1, none⟩ = some b ∧ (((W.setCell ⟨k, 0, none⟩ x).setCell ⟨k, 1, none⟩ y).setCell ⟨k, 2, none⟩ z).cell? ⟨g, 2, none⟩ = some c ∧ Box3 (((W.setCell ⟨k, 0, none⟩ x).setCell ⟨k, 1, none⟩ y).setCell ⟨k, 2, none⟩ z) g t a b c := s3 (((h.2.2.2.other ⟨k, 0, none⟩ hk _).other ⟨k, 1, none⟩ hk _).other ⟨k, 2, none⟩ hk _)
theorem s3keep {W W' : World} {g : Nat} {t : TypeId} {a b c : Value} (h : W.cell? ⟨g, 0, none⟩ = some a ∧ W.cell? ⟨g, 1, none⟩ = some b ∧ W.cell? ⟨g, 2, none⟩ = some c ∧ Box3 W g t a b c) (hB : Below W.heap.size W W') : W'.cell? ⟨g, 0, none⟩ = some a ∧ W'.cell? ⟨g, 1, none⟩ = some b ∧ W'.cell? ⟨g, 2, none⟩ = some c ∧ Box3 W' g t a b c := s3 (h.2.2.2.keep hB h.2.2.2.lt)
set_option maxRecDepth 100000 in
theorem lapdoes_long0 (p q : Option Addr) (n c m d : Nat) (ls lsh seq shape : Int) (w : World) (hn : 1000 < n) : Calls Try.prog 6 #[.agg #[.slice p n c, .int .u8 ls, .int .u8 lsh], .int .u8 seq, .int .u8 shape, .slice q m d] w fun e w' => e = .returned (.bool true) ∧ Below w.heap.size w w' := by
  have d0 : decide ((1000 : Int) < (n : Int)) = true := decide_eq_true (by omega)
  go_enter Try.func6, Try.ntmps6
  go_wp2
  go_ret
  exact ⟨rfl, (Below.refl _ w).alloc (Nat.le_refl _) _⟩
set_option maxRecDepth 100000 in
theorem lapdoes_long1 (p q : Option Addr) (n c m d : Nat) (ls lsh seq shape : Int) (w : World) (hn0 : n ≤ 1000) (hn : 1000 < m) : Calls Try.prog 6 #[.agg #[.slice p n c, .int .u8 ls, .int .u8 lsh], .int .u8 seq, .int .u8 shape, .slice q m d] w fun e w' => e = .returned (.bool true) ∧ Below w.heap.size w w' := by
  have d0 : decide ((1000 : Int) < (n : Int)) = false := decide_eq_false (by omega)
  have d1 : decide ((1000 : Int) < (m : Int)) = true := decide_eq_true (by omega)
  go_enter Try.func6, Try.ntmps6
  go_wp2
  go_ret
  exact ⟨rfl, (Below.refl _ w).alloc (Nat.le_refl _) _⟩
set_option maxRecDepth 100000 in
set_option maxHeartbeats 8000000 in
theorem lapdoes_ok (l lines : List Int) (p q : Option Addr) (c d : Nat) (ls lsh seq shape : Int) (w : World) (A0 : IsArg w p c l) (A1 : IsArg w q d lines) (cc0 : l.length ≤ c) (cc1 : lines.length ≤ d) (hn0 : l.length ≤ 1000) (hn1 : lines.length ≤ 1000) (hs0 : 0 ≤ seq) (hsh0 : 0 ≤ lsh) (hsp0 : 0 ≤ shape) :
    Calls Try.prog 6 #[.agg #[.slice p l.length c, .int .u8 ls, .int .u8 lsh], .int .u8 seq, .int .u8 shape, .slice q lines.length d] w fun e w' => e = .returned (.bool true) ∧ Below w.heap.size w w' := by
  have d0 : decide ((1000 : Int) < (l.length : Int)) = false := decide_eq_false (by omega)
  have d1 : decide ((1000 : Int) < (lines.length : Int)) = false := decide_eq_false (by omega)
  have HA0 := Lib.hid A0
  have HA1 := Lib.hid A1
  have HCC := Lib.hid cc1
  have HNX := Lib.hid (fun (W : World) p' c' q' d' (h1 : l.length ≤ c') (h2 : lines.length ≤ d') (hI : IsInts W p' l) (hJ : IsInts W q' lines) => (next_any l ls lsh seq shape lines hs0 hsh0 hsp0 (by omega) (by omega) p' q' c' d' h1 h2 W hI hJ).mono (fun e w' h => next_spoils h))
  have HRX := Lib.hid (fun (W : World) (hI : IsInts W p l) (hJ : IsInts W q lines) => refnext_any l ls lsh seq shape lines hs0 hsh0 hsp0 (by omega) p q c d cc1 W hI hJ)
  have HCK := Lib.hid (fun (W : World) p' c' (hI : IsInts W p' l) => check_ok l p' c' ls lsh (by omega) W hI)
  have HRC := Lib.hid (fun (W : World) (hI : IsInts W p l) => ref_check13 l p c ls lsh W hI)
  have HSM := Lib.hid (lap_small l ls lsh seq shape lines)
  have hm1 : Hid (l.length ≤ maxLen) := by unfold maxLen; show _ ≤ _; omega
  have hm2 : Hid (lines.length ≤ maxLen) := by unfold maxLen; show _ ≤ _; omega
  have hx1 : Hid (0 + lines.length ≤ maxLen) := by unfold maxLen; show _ ≤ _; omega
  have hx2 : Hid ((0 + lines.length) * 8 ≤ 140737488355328) := by show _ ≤ _; omega
  have HZS := Lib.hid (fun (W : World) p' q' (hI : IsInts W p' (zeroL 256)) (hJ : IsInts W q' (zeroL 256)) => show Calls Try.prog 15 #[.agg #[.slice p' 256 256, .int .u8 0, .int .u8 0], .agg #[.slice q' 256 256, .int .u8 0, .int .u8 0]] W (RMay true W) by
    have hz := zero_len 256
    have := ref_same13 (zeroL 256) p' q' 256 256 0 0 (by rw [hz]; unfold maxLen; omega) W hI hJ
    rw [hz] at this
    exact this)
  have C5 := Lib.hid (fun (W : World) => (new_ok W).mono (fun e w' h => new_row13 h))
  have C6 := Lib.hid (fun (W : World) => ref_new13 W)
  unfold RNew at C5 C6
  generalize zeroL 256 = Z at *
  obtain ⟨ck, hck⟩ : ∃ ck, (if mayB l ls lsh = true then (0 : Int) else 8) = ck := ⟨_, rfl⟩
  rw [hck] at HCK HRC
  generalize lapN l ls lsh seq shape lines = r at *
  obtain ⟨⟨T, s, sh⟩, P, E⟩ := r
  have hT512 : T.length ≤ 512 := HSM.out.1
  have hP512 : P.length ≤ 512 := HSM.out.2
  have hmT : Hid (T.length ≤ maxLen) := by unfold maxLen; show _ ≤ _; omega
  have hmP : Hid (P.length ≤ maxLen) := by unfold maxLen; show _ ≤ _; omega
  unfold RNextS at HNX
  unfold RNextR at HRX
  dsimp only at HNX HRX
  unfold RCheck at HCK HRC
  have B4 := Box3.new w 24 (.slice p l.length c) (.int .u8 ls) (.int .u8 lsh) rfl
  have hb1 : Below w.heap.size w (w.alloc (LapO (.slice p l.length c) (.int .u8 ls) (.int .u8 lsh))) := (Below.refl _ w).alloc (Nat.le_refl _) _
  have hz1 : (w.alloc (LapO (.slice p l.length c) (.int .u8 ls) (.int .u8 lsh))).heap.size = w.heap.size + 1 := by simp
  have HIA := Lib.hid (fun (W : World) (h : Below w.heap.size w W) => A0.keep h)
  clear A0 A1 cc0 cc1 hck HSM
  go_enter Try.func6, Try.ntmps6
  go_upto_region 3 with fail
  obtain ⟨w1, hw1⟩ : ∃ w1, w.alloc (LapO (.slice p l.length c) (.int .u8 ls) (.int .u8 lsh)) = w1 := ⟨_, rfl⟩
  rw [hw1] at B4 hb1 hz1
  rw [hw1]
  have hfirst := Lib.hid (s3 B4)
  have hNew := Lib.hid (show Box3 (w1.alloc (LapO (.slice none 0 0) (.int .u8 0) (.int .u8 0))) w1.heap.size 24 (.slice none 0 0) (.int .u8 0) (.int .u8 0) from Box3.new _ _ _ _ _ rfl)
  have HI1 := Lib.hid (HIA.out w1 hb1)
  have HI2 := Lib.hid (HIA.out (w1.alloc (LapO (.slice none 0 0) (.int .u8 0) (.int .u8 0))) (hb1.alloc (by omega) _))
  have hlt1 : w.heap.size < w1.heap.size := by omega
  have HZ1 := Lib.hid hz1
  have HB1 := Lib.hid hb1
  clear hw1 B4 HIA hz1 hb1
  go_cut [9] from 28 to 35 (fun s9 wx => ∃ g p9 c9, s9 = .pointer (some ⟨g, 0, none⟩) ∧ Box3 wx g 24 (.slice p9 l.length c9) (.int .u8 ls) (.int .u8 lsh) ∧ l.length ≤ c9 ∧ w1.heap.size ≤ g ∧ IntsB wx p9 l w1.heap.size wx.heap.size ∧ Below w1.heap.size w1 wx)
  case first =>
    go_region_held3 (fun w' => w'.cell? ⟨w.heap.size, 0, none⟩ = some (.slice p l.length c) ∧ w'.cell? ⟨w.heap.size, 1, none⟩ = some (.int .u8 ls) ∧ w'.cell? ⟨w.heap.size, 2, none⟩ = some (.int .u8 lsh) ∧ Box3 w' w.heap.size 24 (.slice p l.length c) (.int .u8 ls) (.int .u8 lsh))
      (first | assumption | (first | exact hfirst.out | exact s3drew hfirst.out | exact s3drew (s3alloc _ hfirst.out) | exact s3alloc _ hfirst.out) | (refine s3keep ?_ hBA; (first | exact hfirst.out | exact s3drew hfirst.out | exact s3drew (s3alloc _ hfirst.out) | exact s3alloc _ hfirst.out)) | (refine s3alloc _ ?_; refine s3keep ?_ hBA; (first | exact hfirst.out | exact s3drew hfirst.out | exact s3drew (s3alloc _ hfirst.out) | exact s3alloc _ hfirst.out)) | (refine s3set ?_ (by omega) _ _ _; refine s3keep ?_ hBA; (first | exact hfirst.out | exact s3drew hfirst.out | exact s3drew (s3alloc _ hfirst.out) | exact s3alloc _ hfirst.out)))
      (first
        | (refine step_append_arg (w := w1.drew) (by rfl) _ _ (by rfl) (by rfl) p c l (by rfl) (HI1.out.drewN 1) (by omega) ?_; intro vA wA hOA hBA; obtain ⟨pA, cA, rfl, IA, hcA⟩ := owns_anyd hOA)
        | (refine step_append_arg (w := (w1.alloc (LapO (.slice none 0 0) (.int .u8 0) (.int .u8 0))).drew) (by rfl) _ _ (by rfl) (by rfl) p c l (by rfl) (HI2.out.drewN 1) (by omega) ?_; intro vA wA hOA hBA; obtain ⟨pA, cA, rfl, IA, hcA⟩ := owns_anyd hOA; have zA := (box3drew hNew.out).keep hBA hNew.out.lt; have z0 := zA.cell0; have z1 := zA.cell1; have z2 := zA.cell2; have zf0 := zA.frozen 0; have zf1 := zA.frozen 1; have zf2 := zA.frozen 2; have zl := zA.lt))
    all_goals
      go_wp2_with fail
      go_meet
      first
        | exact ⟨_, pA, cA, rfl, Box3.new _ _ _ _ _ rfl, hcA, hBA.size, wayA IA, belowA hBA _⟩
        | exact ⟨_, pA, cA, rfl, zA.all _ _ _, hcA, Nat.le_refl _, wayB IA, belowB hBA⟩
  case rest =>
    obtain ⟨g9, p9, c9, rfl, B9, hc9, hg9, I9, hbx⟩ := hcut
    have hbxw := HB1.out.trans (hbx.mono (by omega))
    have HX1 := Lib.hid (HA1.out.keep hbxw)
    have HB9 := Lib.hid B9
    have HI9 := Lib.hid I9
    have HBX := Lib.hid hbx
    have hzx := hbx.size
    clear B9 I9 hbx
    go_wp2_with (at_builtin; refine append_ints rfl _ _ rfl wc.heap.size _ 0 [] rfl (World.ownsRow_nil _ _ _ _) q d lines rfl HX1.out hx1.out hx2.out (Nat.le_refl _) ?_)
    intro v4 w4 hO4 hg4
    have hb4 : Below wc.heap.size wc w4 := grown_below0 hg4 (World.ownsRow_nil wc wc.heap.size 3 1) (Nat.le_refl _)
    try simp only [Nat.zero_add, List.nil_append] at hO4
    obtain ⟨p10, c10, rfl, I10, hc10⟩ := owns_anyd hO4
    have hz4 := hb4.size
    have HI10 := Lib.hid (I10.wide (lo' := w1.heap.size) hzx (Nat.le_refl _) (Nat.le_refl _))
    have HC10 := Lib.hid hc10
    have hlt9 := HB9.out.lt
    have X9 := HB9.out.keep hb4 hlt9
    have HI9b := Lib.hid ((HI9.out.keep hb4 (Nat.le_refl _)).wide (Nat.le_refl _) hz4 (Nat.le_refl _))
    have HB4w := Lib.hid (HBX.out.trans (hb4.mono hzx))
    have hb4w := hbxw.trans (hb4.mono (by omega))
    have k0 := X9.cell0
    have k1 := X9.cell1
    have k2 := X9.cell2
    have HX9 := Lib.hid X9
    have E9 := Lib.hid X9
    have E4 := Lib.hid (hfirst.out.2.2.2.keep HB4w.out hlt1)
    have E9i := HI9b
    have E10 := HI10
    have Ep := Lib.hid (HA0.out.1.inB.keep hb4w (Nat.le_refl _))
    have Eq := Lib.hid (HA1.out.1.inB.keep hb4w (Nat.le_refl _))
    have HB4ww := Lib.hid hb4w
    clear hO4 hg4 I10 hc10 X9 HI9 HB9 HBX HX1 hb4 hbxw
    go_wp2_with fail
    refine (HNX.out w4 p9 c9 p10 c10 hc9 HC10.out HI9b.out.ints HI10.out.ints).mono ?_
    rintro e w5 ⟨p1, c1, p2, c2, a1, b1, a2, b2, rfl, S1, S2, ha1, ha2, hb1', hb2', hdis, hB5⟩
    have hz5 := hB5.size
    have HS1 := Lib.hid S1
    have HS2 := Lib.hid S2
    have HB5 := Lib.hid hB5
    have Y0 := Lib.hid (hfirst.out.2.2.2.keep (HB4w.out.trans (hB5.mono HB4w.out.size)) hlt1)
    have hb5w := hb4w.trans (hB5.mono hb4w.size)
    have y0 := Y0.out.cell0
    have y1 := Y0.out.cell1
    have y2 := Y0.out.cell2
    have hH5 : w.heap.size < w5.heap.size := Y0.out.lt
    have HR5 := Lib.hid (fun o => HRX.out (w5.alloc o) ((HA0.out.1.keep hb5w).alloc o) ((HA1.out.1.keep hb5w).alloc o))
    clear k0 k1 k2 S1 S2 hB5 HNX HRX hb4w
    go_wp2_with fail
    refine (HR5.out _).mono ?_
    rintro e w7 ⟨p3, c3, p4, c4, rfl, I3, I4, hB7⟩
    have HI3 := Lib.hid I3
    have HI4 := Lib.hid I4
    have HB7 := Lib.hid hB7
    have hz7 := hB7.size
    simp only [World.size_alloc] at hz7
    clear y0 y1 y2 HR5 I3 I4 hB7
    go_upto_region 7 with fail
    have hb58 := (((Below.refl _ w5).alloc (Nat.le_refl _) (LapO (.slice p1 T.length c1) (.int .u8 s) (.int .u8 sh))).trans (HB7.out.mono (by simp))).alloc (by omega) (LapO (.slice p3 T.length c3) (.int .u8 s) (.int .u8 sh))
    have D14 := Box3.new w7 24 (.slice p3 T.length c3) (.int .u8 s) (.int .u8 sh) rfl
    have D11 := ((Box3.new w5 24 (.slice p1 T.length c1) (.int .u8 s) (.int .u8 sh) rfl).keep HB7.out (by simp)).alloc (LapO (.slice p3 T.length c3) (.int .u8 s) (.int .u8 sh))
    have I3 := HI3.out.alloc (LapO (.slice p3 T.length c3) (.int .u8 s) (.int .u8 sh))
    have I4 := HI4.out.alloc (LapO (.slice p3 T.length c3) (.int .u8 s) (.int .u8 sh))
    have hz8 : w7.heap.size < (w7.alloc (LapO (.slice p3 T.length c3) (.int .u8 s) (.int .u8 sh))).heap.size := by simp
    obtain ⟨w8, hw8⟩ : ∃ w8, w7.alloc (LapO (.slice p3 T.length c3) (.int .u8 s) (.int .u8 sh)) = w8 := ⟨_, rfl⟩
    rw [hw8] at hb58 D14 D11 I3 I4 hz8
    rw [hw8]
    have D9 := Lib.hid ((HX9.out.keep HB5.out HX9.out.lt).keep hb58 (Nat.lt_of_lt_of_le HX9.out.lt hz5))
    have D4 := Lib.hid (Y0.out.keep hb58 hH5)
    have D14 := Lib.hid D14
    have D11 := Lib.hid D11
    have J1 := Lib.hid (HS1.out.keep hb58 hb1')
    have J2 := Lib.hid (HS2.out.keep hb58 hb2')
    have I3 := Lib.hid I3
    have I4 := Lib.hid I4
    have K9 := Lib.hid ((HI9b.out.keep HB5.out (Nat.le_refl _)).keep hb58 hz5)
    have K10 := Lib.hid ((HI10.out.keep HB5.out (Nat.le_refl _)).keep hb58 hz5)
    have hb8w := hb5w.trans (hb58.mono hb5w.size)
    have Kp := Lib.hid (HA0.out.1.inB.keep hb8w (Nat.le_refl _))
    have Kq := Lib.hid (HA1.out.1.inB.keep hb8w (Nat.le_refl _))
    have hb48 := Lib.hid (HB5.out.trans (hb58.mono hz5))
    have hz48 := hb48.out.size
    have hz58 := hb58.size
    have hz4w : w1.heap.size ≤ w4.heap.size := HB4w.out.size
    have hb8w := Lib.hid hb8w
    obtain ⟨g11, hg11⟩ : ∃ g, w5.heap.size = g := ⟨_, rfl⟩
    obtain ⟨g14, hg14⟩ : ∃ g, w7.heap.size = g := ⟨_, rfl⟩
    rw [hg11] at D11 hb1' hb2' hz5 hz7 hH5 hz58 ⊢
    rw [hg14] at D14 hz7 hz8 ⊢
    have hg9b : g9 < w4.heap.size := HX9.out.lt
    clear hb58 hw8 HB5 HB7 HX9 Y0 HS1 HS2 HI3 HI4 HI9b HI10 HB4w hb5w HA0 HA1 hfirst hNew HI1 HI2 HCC HC10 hg11 hg14
    have HSR := Lib.hid (fun (W : World) (h : Below w8.heap.size w8 W) => show Below w8.heap.size w8 W ∧ W.cell? ⟨g11, 0, none⟩ = some (.slice p1 T.length c1) ∧ W.cell? ⟨g11, 1, none⟩ = some (.int .u8 s) ∧ W.cell? ⟨g11, 2, none⟩ = some (.int .u8 sh) ∧ W.cell? ⟨g14, 0, none⟩ = some (.slice p3 T.length c3) ∧ W.cell? ⟨g14, 1, none⟩ = some (.int .u8 s) ∧ W.cell? ⟨g14, 2, none⟩ = some (.int .u8 sh) ∧ W.cell? ⟨g9, 0, none⟩ = some (.slice p9 l.length c9) ∧ W.cell? ⟨g9, 1, none⟩ = some (.int .u8 ls) ∧ W.cell? ⟨g9, 2, none⟩ = some (.int .u8 lsh) ∧ W.cell? ⟨w.heap.size, 0, none⟩ = some (.slice p l.length c) ∧ W.cell? ⟨w.heap.size, 1, none⟩ = some (.int .u8 ls) ∧ W.cell? ⟨w.heap.size, 2, none⟩ = some (.int .u8 lsh) from ⟨h, (D11.out.keep h D11.out.lt).cell0, (D11.out.keep h D11.out.lt).cell1, (D11.out.keep h D11.out.lt).cell2, (D14.out.keep h D14.out.lt).cell0, (D14.out.keep h D14.out.lt).cell1, (D14.out.keep h D14.out.lt).cell2, (D9.out.keep h D9.out.lt).cell0, (D9.out.keep h D9.out.lt).cell1, (D9.out.keep h D9.out.lt).cell2, (D4.out.keep h D4.out.lt).cell0, (D4.out.keep h D4.out.lt).cell1, (D4.out.keep h D4.out.lt).cell2⟩)
    have h0 := Lib.hid (HSR.out w8.drew (below_drewN (Below.refl _ w8) 1))
    have C1 := Lib.hid (fun (W : World) (h : Below w8.heap.size w8 W) => ref_same13 T p1 p3 c1 c3 s sh hmT.out W (J1.out.ints.keep h J1.out.2.1).ints (I3.out.keep h))
    have C2 := Lib.hid (fun (W : World) (h : Below w8.heap.size w8 W) => (ints_same p2 p4 P c2 c4 W (J2.out.ints.keep h J2.out.2.1).ints (I4.out.keep h) hmP.out).mono (fun e w' h => show RMay true W e w' from ⟨h.1, by obtain ⟨n, hn⟩ := h.2; rw [hn]; exact below_drewN (Below.refl _ _) n⟩))
    have C3 := Lib.hid (fun (W : World) (h : Below w8.heap.size w8 W) => HCK.out W p9 c9 (K9.out.keep h (by omega)).ints)
    have C4 := Lib.hid (fun (W : World) (h : Below w8.heap.size w8 W) => HRC.out W (Kp.out.keep h (by omega)).ints)
    unfold RMay at C1 C2
    unfold RMay at HZS
    go_cut [83] from 56 to 82 (fun s83 wx => s83 = .bool false ∧ Below w8.heap.size w8 wx)
    case first =>
      go_region_held3 (fun W => Below w8.heap.size w8 W ∧ W.cell? ⟨g11, 0, none⟩ = some (.slice p1 T.length c1) ∧ W.cell? ⟨g11, 1, none⟩ = some (.int .u8 s) ∧ W.cell? ⟨g11, 2, none⟩ = some (.int .u8 sh) ∧ W.cell? ⟨g14, 0, none⟩ = some (.slice p3 T.length c3) ∧ W.cell? ⟨g14, 1, none⟩ = some (.int .u8 s) ∧ W.cell? ⟨g14, 2, none⟩ = some (.int .u8 sh) ∧ W.cell? ⟨g9, 0, none⟩ = some (.slice p9 l.length c9) ∧ W.cell? ⟨g9, 1, none⟩ = some (.int .u8 ls) ∧ W.cell? ⟨g9, 2, none⟩ = some (.int .u8 lsh) ∧ W.cell? ⟨w.heap.size, 0, none⟩ = some (.slice p l.length c) ∧ W.cell? ⟨w.heap.size, 1, none⟩ = some (.int .u8 ls) ∧ W.cell? ⟨w.heap.size, 2, none⟩ = some (.int .u8 lsh))
        (first | assumption | exact h0.out | (exact HSR.out _ (srB (by assumption) hBc)))
        (first
          | (go_at_call 15; ((with_reducible refine (C1.out _ (And.left (by assumption))).mono ?_); rintro e w' ⟨rfl, hBc⟩))
          | (go_at_call 16; ((with_reducible refine (C2.out _ (And.left (by assumption))).mono ?_); rintro e w' ⟨rfl, hBc⟩))
          | (go_at_call 13; ((with_reducible refine (C3.out _ (And.left (by assumption))).mono ?_); rintro e w' ⟨rfl, hBc⟩))
          | (go_at_call 17; ((with_reducible refine (C4.out _ (And.left (by assumption))).mono ?_); rintro e w' ⟨rfl, hBc⟩))
          | (go_at_call 10; ((with_reducible refine (C5.out _).mono ?_); rintro e w' ⟨gA, rfl, hgA, hIA, hBc⟩))
          | (go_at_call 18; ((with_reducible refine (C6.out _).mono ?_); rintro e w' ⟨gB, rfl, hgB, hIB, hBc⟩))
          | (go_at_call 15; ((with_reducible refine (HZS.out _ _ _ (by first | exact hIA | exact hIA.keep hBc) (by first | exact hIB | exact hIB.keep hBc)).mono ?_); rintro e w' ⟨rfl, hBc⟩)))
      all_goals
        go_wp2_with fail
        go_meet
        exact ⟨rfl, And.left (by assumption)⟩
    case rest =>
      obtain ⟨rfl, hb9⟩ := hcut
      have hb49 := hb48.out.trans (hb9.mono hz48)
      have HS := Lib.hid (J1.out.keep hb9 J1.out.2.1)
      have K1 := Lib.hid (J2.out.keep hb9 J2.out.2.1)
      have K2 := Lib.hid (D11.out.keep hb9 D11.out.lt)
      have hg11l := D11.out.lt
      have y0 := K2.out.cell0
      clear hb9 J1 J2 I3 I4 D14 HSR h0 C1 C2 C3 C4 C5 C6 HCK HRC HZS D11
      go_wp2_with fail
      go_loopw [17] (fun I wr => ∃ (k : Nat) (xs : List Value), I = .int .i64 k ∧ k ≤ T.length ∧ Hid (Spoil wr p1 T.length c1 a1 b1 xs) ∧ Hid (∀ j, k ≤ j → j < T.length → xs[j]? = some (.int .i64 (T.getD j 0))) ∧ Hid (Spoil wr p2 P.length c2 a2 b2 (P.map (Value.int .i64))) ∧ Hid (Box3 wr g11 24 (.slice p1 T.length c1) (.int .u8 s) (.int .u8 sh)) ∧ Below w4.heap.size w4 wr) (fun I _ => T.length - (intOf I).toNat)
      case atStart => exact ⟨0, _, rfl, Nat.zero_le _, HS, Lib.hid (row_get T), K1, K2, hb49⟩
      case round =>
        obtain ⟨k, xs, rfl, hk, hS, hxs, k1, k2, hbw⟩ := hrel
        clear HS hb49 y0 K1 K2
        have y0 := k2.out.cell0
        by_cases hklt : k < T.length
        · obtain ⟨g, hgp, hga, hgb, hc, hf, _⟩ := hS.out.at hklt
          rw [hxs.out k (Nat.le_refl _) hklt] at hc
          obtain ⟨z_, hz⟩ : ∃ z_, T.getD k 0 = z_ := ⟨_, rfl⟩
          rw [hz] at hc
          have hS2 := Lib.hid (fun m => spoil_put (hS.out.drewN m) hgp hklt (.int .i64 (wrap64 (z_ + 1))))
          have hxs2 := Lib.hid (row_set hxs.out (.int .i64 (wrap64 (z_ + 1))))
          have k12 := Lib.hid (fun m => (k1.out.drewN m).apart ⟨g, k, none⟩ (.int .i64 (wrap64 (z_ + 1))) (by show g < _ ∨ _ ≤ g; omega))
          have k22 := Lib.hid (fun m => box3set (k2.out) m (g := g) (show g11 ≠ g by omega) k (.int .i64 (wrap64 (z_ + 1))))
          have hb2 := Lib.hid (fun m => (below_drewN hbw m).setCell (p := ⟨g, k, none⟩) (show w4.heap.size ≤ g by omega) (.int .i64 (wrap64 (z_ + 1))))
          have hklI : (k : Int) < (T.length : Int) := by omega
          subst hgp
          clear hz hS hxs hbw k1 k2
          go_wp2_with fail
          go_region_with fail
          all_goals
            go_wp2
            exact ⟨⟨k + 1, _, by go_num, by omega, Lib.hid (hS2.out _), hxs2, Lib.hid (k12.out _), Lib.hid (k22.out _), hb2.out _⟩, by simp [intOf]; omega⟩
        · clear hS hxs
          obtain ⟨wS, hwS⟩ : ∃ wS, wr = wS := ⟨_, rfl⟩
          subst hwS
          have HS := k1
          have hbS := hbw
          clear k1 k2 hbw
          go_wp2_with fail
          go_loopw [18] (fun I wr => ∃ (k : Nat) (xs : List Value), I = .int .i64 k ∧ k ≤ P.length ∧ Hid (Spoil wr p2 P.length c2 a2 b2 xs) ∧ Hid (∀ j, k ≤ j → j < P.length → xs[j]? = some (.int .i64 ((P).getD j 0))) ∧ Below w4.heap.size w4 wr) (fun I _ => P.length - (intOf I).toNat)
          case atStart => exact ⟨0, _, rfl, Nat.zero_le _, HS, Lib.hid (row_get P), hbS⟩
          case round =>
            obtain ⟨k, xs, rfl, hk, hS, hxs, hbw⟩ := hrel
            clear HS hbS
            by_cases hklt : k < P.length
            · obtain ⟨g, hgp, hg1, hg2, hc, hf, hnext⟩ := hS.out.at hklt
              rw [hxs.out k (Nat.le_refl _) hklt] at hc
              obtain ⟨z_, hz⟩ : ∃ z_, (P).getD k 0 = z_ := ⟨_, rfl⟩
              rw [hz] at hc
              have hS2 := Lib.hid (hnext (.int .i64 (0)))
              have hxs2 := Lib.hid (row_set hxs.out (.int .i64 (0)))
              have hb2 := hbw.setCell (p := ⟨g, k, none⟩) (show w4.heap.size ≤ g by omega) (.int .i64 (0))
              subst hgp
              clear hz hS hxs hnext hbw 
              go_wp2
              exact ⟨⟨k + 1, _, by go_num, by omega, hS2, hxs2, hb2⟩, by simp [intOf]; omega⟩
            · clear hS hxs
              have X9 := E9.out.keep hbw E9.out.lt
              have X4 := E4.out.keep hbw E4.out.lt
              have k0 := X9.cell0
              have k1 := X9.cell1
              have k2 := X9.cell2
              have j0 := X4.cell0
              have j1 := X4.cell1
              have j2 := X4.cell2
              have hz4ww := HB4ww.out.size
              have G1 := Lib.hid (E9i.out.keep hbw (Nat.le_refl _))
              have G2 := Lib.hid (Ep.out.keep hbw hz4ww)
              have G3 := Lib.hid (E10.out.keep hbw (Nat.le_refl _))
              have G4 := Lib.hid (Eq.out.keep hbw hz4ww)
              have HBE := Lib.hid (HB4ww.out.trans (hbw.mono hz4ww))
              clear X9 X4 hbw
              go_wp2_with fail
              refine (ref_same13 l p9 p c9 c ls lsh hm1.out _ G1.out.ints G2.out.ints).mono ?_
              rintro e w10 ⟨rfl, hB10⟩
              have G5 := Lib.hid (G3.out.ints.keep hB10)
              have G6 := Lib.hid (G4.out.ints.keep hB10)
              have HBE2 := Lib.hid (HBE.out.trans (hB10.mono HBE.out.size))
              clear k0 k1 k2 j0 j1 j2 hB10
              go_wp2_with fail
              refine (ints_same p10 q lines c10 d _ G5.out G6.out hm2.out).mono ?_
              rintro e w11 ⟨rfl, n11, rfl⟩
              go_wp2
              go_ret
              exact ⟨rfl, below_drewN HBE2.out n11⟩
theorem lap_does (l lines : List Int) (p q : Option Addr) (c d : Nat) (ls lsh seq shape : Int) (w : World) (A0 : IsArg w p c l) (A1 : IsArg w q d lines) (cc0 : l.length ≤ c) (cc1 : lines.length ≤ d) (hs0 : 0 ≤ seq) (hsh0 : 0 ≤ lsh) (hsp0 : 0 ≤ shape) :
    Calls Try.prog 6 #[.agg #[.slice p l.length c, .int .u8 ls, .int .u8 lsh], .int .u8 seq, .int .u8 shape, .slice q lines.length d] w fun e w' => e = .returned (.bool true) ∧ Below w.heap.size w w' := by
  by_cases h0 : 1000 < l.length
  · exact lapdoes_long0 p q l.length c lines.length d ls lsh seq shape w h0
  by_cases h1 : 1000 < lines.length
  · exact lapdoes_long1 p q l.length c lines.length d ls lsh seq shape w (by omega) h1
  exact lapdoes_ok l lines p q c d ls lsh seq shape w A0 A1 cc0 cc1 (by omega) (by omega) hs0 hsh0 hsp0
end Go.Proofs.Ytcmbbmilldhnnaa
