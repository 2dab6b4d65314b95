/- LapBack: the walk. -/
import Derived.Test.YtcmbbmilldhnnaaBackStep
import Derived.Test.YtcmbbmilldhnnaaLapAlive
import Derived.Test.YtcmbbmilldhnnaaLapBad
import Derived.Test.YtcmbbmilldhnnaaOpenPath
import Derived.Deep.CutRange
import Derived.Deep.DeepCutAuto
import Derived.Deep.RegionHeld3
import Derived.Deep.RegionWith
set_option linter.unusedVariables false
set_option linter.unusedSimpArgs false
namespace Go.Proofs.Ytcmbbmilldhnnaa
open Go.ChangeShapes Go.WideShapes Go.ChangeAt Go.RowKit

abbrev LapC (a b c : Value) : Obj := .cells #[a, b, c] 24
theorem spoil_new {w : World} {g n : Nat} (h : w.ownsRow g 3 1 (.slice (some ⟨g, 0, none⟩) n n) n (List.replicate n (.int .i64 0))) (hlt : g < w.heap.size) : Spoil w (some ⟨g, 0, none⟩) n n g (g + 1) (List.replicate n (.int .i64 0)) :=
  ⟨by rw [List.length_replicate], hlt, fun _ => ⟨g, rfl, Nat.le_refl _, Nat.lt_succ_self _, h⟩⟩
theorem spoil_put1 {w : World} {p : Option Addr} {n c g k : Nat} {xs : List Value} (h : Spoil w p n c g (g + 1) xs) (hk : k < n) (u : Value) : Spoil (w.setCell ⟨g, k, none⟩ u) p n c g (g + 1) (xs.set k u) := by
  obtain ⟨g', _, h1, h2, _, _, hn⟩ := h.at hk
  obtain rfl : g' = g := by omega
  exact hn u
theorem fill_one {xs : List Value} {k n : Nat} {f : Nat → Int} (hn : xs.length = n) (hk : k < n) (h : ∀ j, j < k → xs[j]? = some (.int .i64 (f j))) {v : Int} (hv : f k = v) : ∀ j, j < k + 1 → (xs.set k (.int .i64 v))[j]? = some (.int .i64 (f j)) := fill_step hn hk h hv
theorem range_map (z : List Int) : (List.range z.length).map (fun j => z.getD j 0) = z := by
  apply List.ext_getElem?
  intro j
  by_cases hj : j < z.length
  · rw [List.getElem?_map, List.getElem?_range hj, List.getElem?_eq_getElem hj]; simp [List.getD_eq_getElem?_getD, hj]
  · rw [List.getElem?_eq_none (by rw [List.length_map, List.length_range]; omega), List.getElem?_eq_none (by omega)]
def RNew0 (w : World) (e : Ending) (w' : World) : Prop := ∃ g, e = .returned (.agg #[.slice (some ⟨g, 0, none⟩) 256 256, .int .u8 0, .int .u8 0]) ∧ w.heap.size ≤ g ∧ IsInts w' (some ⟨g, 0, none⟩) (zeroL 256) ∧ Below w.heap.size w w'
theorem new_row0 {w w' : World} {e : Ending} (h : ∃ g, e = .returned (.agg #[.slice (some ⟨g, 0, none⟩) 256 256, .int .u8 0, .int .u8 0]) ∧ w'.ownsRow w.heap.size 3 1 (.slice (some ⟨g, 0, none⟩) 256 256) 256 ((zeroL 256).map (Value.int .i64)) ∧ w.heap.size ≤ g ∧ g < w'.heap.size ∧ Below w.heap.size w w') : RNew0 w e w' := by
  obtain ⟨g, rfl, hO, h1, h2, hB⟩ := h
  refine ⟨g, rfl, h1, isInts_of h2 (fun j hj => ?_), hB⟩
  have hz := zero_len 256
  rw [hO.cellAt j (by omega)]
  exact row_get _ j (Nat.zero_le _) hj
theorem owns_anyx {w : World} {base : Nat} {v : Value} {l : List Int} (h : w.ownsRow base 3 1 v l.length (l.map (Value.int .i64))) : ∃ p cap, v = .slice p l.length cap ∧ IntsB w p l base w.heap.size ∧ l.length ≤ cap := by
  obtain ⟨p, cap, rfl, hI⟩ := owns_any h
  refine ⟨p, cap, rfl, hI, ?_⟩
  rcases h.2 with ⟨h', _⟩ | ⟨g', cap', cur, e', _, _, h2, _⟩
  · have h3 : p = none ∧ l = [] ∧ cap = 0 := by simpa using h'
    rw [h3.2.1]; exact Nat.zero_le _
  · have e3 : p = some ⟨g', 0, none⟩ ∧ cap = cap' := by simpa using e'
    rw [e3.2]; exact h2
/-- Lines, in new memory. -/
def RX (X : List Int) (w : World) (e : Ending) (w' : World) : Prop := ∃ pX cX, e = .returned (.tuple #[.slice pX 256 cX, .int .i64 0]) ∧ IntsB w' pX X w.heap.size w'.heap.size ∧ 256 ≤ cX ∧ Below w.heap.size w w'
theorem row_x {X : List Int} (hX : X.length = 256) {w : World} {e : Ending} {w' : World} (h : RRowE (X, 0) w e w') : RX X w e w' := by
  obtain ⟨v, rfl, hO, hB⟩ := h
  obtain ⟨p, cap, e1, hI, hc⟩ := owns_anyx hO
  simp only at e1 hI hc hO
  exact ⟨p, cap, by rw [e1, hX], hI, by omega, hB⟩
theorem box3drewB {W : World} {g : Nat} {t : TypeId} {a b c : Value} (h : Box3 W g t a b c) : Box3 W.drew g t a b c := h
theorem bx0 (w : World) : Below w.heap.size w w.drew := below_drewN (Below.refl _ w) 1
theorem bx1 (w : World) (o : Obj) : Below w.heap.size w (w.alloc o).drew := below_drewN ((Below.refl _ w).alloc (Nat.le_refl _) o) 1
theorem bxA {w w' : World} (h : Below w.drew.heap.size w.drew w') : Below w.heap.size w w' := (bx0 w).trans h
theorem bxB {w w' : World} {o : Obj} (h : Below ((w.alloc o).drew).heap.size (w.alloc o).drew w') : Below w.heap.size w w' := (bx1 w o).trans (h.mono (by show _ ≤ (w.alloc o).heap.size; simp))
theorem nx1 {w : World} {o : Obj} {g : Nat} (h : ((w.alloc o).drew).heap.size ≤ g) : w.heap.size < g := by
  have : (w.alloc o).heap.size ≤ g := h
  simp at this
  omega
theorem bx3 {w w' : World} (h : Below w.heap.size w w') (a b c : Value) : Below w.heap.size w (((w'.setCell ⟨w.heap.size, 0, none⟩ a).setCell ⟨w.heap.size, 1, none⟩ b).setCell ⟨w.heap.size, 2, none⟩ c) := ((h.setCell (p := ⟨w.heap.size, 0, none⟩) (Nat.le_refl _) a).setCell (p := ⟨w.heap.size, 1, none⟩) (Nat.le_refl _) b).setCell (p := ⟨w.heap.size, 2, none⟩) (Nat.le_refl _) c
theorem ix3 {W : World} {p : Nat} {l : List Int} (h : IsInts W (some ⟨p, 0, none⟩) l) {g : Nat} (hg : p ≠ g) (a b c : Value) : IsInts (((W.setCell ⟨g, 0, none⟩ a).setCell ⟨g, 1, none⟩ b).setCell ⟨g, 2, none⟩ c) (some ⟨p, 0, none⟩) l := ((h.setCell _ _ hg).setCell _ _ hg).setCell _ _ hg
theorem ibx3 {W : World} {p : Option Addr} {l : List Int} {lo hi : Nat} (h : IntsB W p l lo hi) {g : Nat} (hg : g < lo ∨ hi ≤ g) (a b c : Value) : IntsB (((W.setCell ⟨g, 0, none⟩ a).setCell ⟨g, 1, none⟩ b).setCell ⟨g, 2, none⟩ c) p l lo hi := ((h.setCell _ _ hg).setCell _ _ hg).setCell _ _ hg
theorem blx3 {W W0 : World} {n g : Nat} (h : Below n W0 W) (hg : n ≤ g) (a b c : Value) : Below n W0 (((W.setCell ⟨g, 0, none⟩ a).setCell ⟨g, 1, none⟩ b).setCell ⟨g, 2, none⟩ c) := ((h.setCell (p := ⟨g, 0, none⟩) hg a).setCell (p := ⟨g, 1, none⟩) hg b).setCell (p := ⟨g, 2, none⟩) hg c
def followsB (was now : Int) : Bool := decide (now ≤ 3) && decide (was ≤ 3) && (decide (was = 0 ∨ was = 3) == decide (now = 0 ∨ now = 1))
theorem follows_prop {was now : Int} (h : followsB was now = true) (h0 : 0 ≤ was) (h1 : 0 ≤ now) : FollowP was now ∧ now ≤ 3 := by
  unfold followsB at h
  simp only [Bool.and_eq_true, decide_eq_true_eq, beq_iff_eq, decide_eq_decide] at h
  unfold FollowP
  omega
theorem follows_ok (was now : Int) (h0 : 0 ≤ was) (h1 : 0 ≤ now) (w : World) : Calls Try.prog 11 #[.int .u8 was, .int .u8 now] w fun e w' => e = .returned (.bool (followsB was now)) ∧ w = w' := by
  by_cases c1 : 3 < now
  · have d1 : decide (now ≤ 3) = false := decide_eq_false (by omega)
    have hf : Hid (followsB was now = false) := by show _ = _; unfold followsB; rw [d1]; rfl
    clear c1
    rcases (show was = 0 ∨ was = 3 ∨ (was ≠ 0 ∧ was ≠ 3) by omega) with rfl | rfl | ⟨n0, n3⟩
    · go_enter Try.func11, Try.ntmps11
      go_wp2
      go_ret
      exact ⟨ret_bool hf.out.symm, rfl⟩
    · go_enter Try.func11, Try.ntmps11
      go_wp2
      go_ret
      exact ⟨ret_bool hf.out.symm, rfl⟩
    · have e0 : (was == 0) = false := beq_eq_false_iff_ne.2 n0
      have e3 : (was == 3) = false := beq_eq_false_iff_ne.2 n3
      clear n0 n3
      go_enter Try.func11, Try.ntmps11
      go_wp2
      go_ret
      exact ⟨ret_bool hf.out.symm, rfl⟩
  have d1 : decide (now ≤ 3) = true := decide_eq_true (by omega)
  by_cases c2 : 3 < was
  · have d2 : decide (was ≤ 3) = false := decide_eq_false (by omega)
    have e0 : (was == 0) = false := beq_eq_false_iff_ne.2 (by omega)
    have e3 : (was == 3) = false := beq_eq_false_iff_ne.2 (by omega)
    have hf : Hid (followsB was now = false) := by show _ = _; unfold followsB; rw [d1, d2]; rfl
    clear c1 c2
    go_enter Try.func11, Try.ntmps11
    go_wp2
    go_ret
    exact ⟨ret_bool hf.out.symm, rfl⟩
  rcases (show was = 0 ∨ was = 1 ∨ was = 2 ∨ was = 3 by omega) with rfl | rfl | rfl | rfl <;> rcases (show now = 0 ∨ now = 1 ∨ now = 2 ∨ now = 3 by omega) with rfl | rfl | rfl | rfl
  all_goals
    clear d1 c1 c2 h0 h1
    go_enter Try.func11, Try.ntmps11
    go_wp2
    go_ret
    exact ⟨rfl, rfl⟩
set_option maxRecDepth 100000 in
set_option maxHeartbeats 2000000 in
theorem lapback_bad (p q : Option Addr) (n m c d : Nat) (w : World) (hm : m ≤ 9223372036854775807) (hn : n ≤ 9223372036854775807) (h : Hid (m < 1 ∨ 1 ≤ m ∧ 6 < m ∨ 1 ≤ m ∧ m ≤ 6 ∧ n < 256 * (m + 1) ∨ 1 ≤ m ∧ m ≤ 6 ∧ 256 * (m + 1) ≤ n ∧ 4000 < n)) : Calls Try.prog 4 #[.slice p n c, .slice q m d] w fun e w' => e = .returned (.bool true) ∧ Below w.heap.size w w' := by
  rcases h.out with h1 | ⟨h1, h2⟩ | ⟨h1, h2, h3⟩ | ⟨h1, h2, h3, h4⟩
  all_goals
    clear h
    go_enter Try.func4, Try.ntmps4
    go_wp2_with fail
    refine (alive13 _).mono ?_
    rintro e w1 ⟨rfl, hB1⟩
    go_wp2
    go_ret
    exact ⟨rfl, hB1⟩
set_option maxRecDepth 100000 in
set_option maxHeartbeats 8000000 in
theorem lapback_ok (z : List Int) (L : List (Int × Int)) (p q : Option Addr) (c d : Nat) (w : World) (A0 : IsArgK .i16 w p c z) (A1 : IsPath w q L) (n1 : 1 ≤ L.length) (n2 : L.length ≤ 6) (n3 : 256 * (L.length + 1) ≤ z.length) (n4 : z.length ≤ 4000) :
    Calls Try.prog 4 #[.slice p z.length c, .slice q L.length d] w fun e w' => e = .returned (.bool true) ∧ Below w.heap.size w w' := by
  have HA0 := Lib.hid A0
  have HA1 := Lib.hid A1
  have HZR := Lib.hid (show ∀ j, -32768 ≤ z.getD j 0 ∧ z.getD j 0 ≤ 32767 from fun j => getD_range (fun x hx => bounds_i16 (A0.2.2.2 x hx)) (by omega) (by omega) j)
  have HNW := Lib.hid (fun W => (new_ok W).mono (fun e w' h => new_row0 h))
  unfold RNew0 at HNW
  have HST0 := Lib.hid (show ∀ T, T = zeroL 256 → LapSt z 0 T 0 0 from fun T hT => .inl ⟨rfl, hT, rfl, rfl⟩)
  obtain ⟨Z, hZ⟩ : ∃ Z, zeroL 256 = Z := ⟨_, rfl⟩
  rw [hZ] at HNW HST0
  have HZL := Lib.hid (show Z.length = 256 by rw [← hZ]; exact zero_len 256)
  clear A0 A1 hZ
  go_enter Try.func4, Try.ntmps4
  go_wp2_with fail
  refine (alive13 _).mono ?_
  rintro e w1 ⟨rfl, hB1⟩
  go_wp2_with (at_make; refine make_row rfl _ _ rfl z.length (by omega) rfl rfl ?_; intro w2 hz2 hown2 hB2)
  have HS2 := Lib.hid (spoil_new hown2 hz2)
  clear hown2
  go_loopw [7] (fun I wr => ∃ (k : Nat) (xs : List Value), I = .int .i64 k ∧ k ≤ z.length ∧ Hid (Spoil wr (some ⟨w1.heap.size, 0, none⟩) z.length z.length w1.heap.size (w1.heap.size + 1) xs) ∧ Hid (∀ j, j < k → xs[j]? = some (.int .i64 (z.getD j 0))) ∧ Below w1.heap.size w1 wr) (fun I _ => z.length - (intOf I).toNat)
  case atStart => exact ⟨0, _, rfl, Nat.zero_le _, HS2, Lib.hid (fun j hj => by omega), hB2⟩
  case round =>
    obtain ⟨k, xs, rfl, hk, hS, hxs, hb⟩ := hrel
    clear HS2 hB2 hz2
    by_cases hlt : k < z.length
    · obtain ⟨g, hgp, hga, hgb, hc, hf, _⟩ := hS.out.at hlt
      obtain rfl : g = w1.heap.size := by omega
      obtain ⟨bp, op, hp, _, h1⟩ := (HA0.out.keep (hB1.trans (hb.mono hB1.size))).at hlt
      obtain ⟨v0, hv0⟩ : ∃ v0, xs[k]? = some v0 := ⟨_, List.getElem?_eq_getElem (by rw [hS.out.1]; exact hlt)⟩
      rw [hv0] at hc
      have hr := HZR.out k
      obtain ⟨x, hx⟩ : ∃ x, z.getD k 0 = x := ⟨_, rfl⟩
      rw [hx] at h1 hr
      have t1 : IntKind.i64.wrap x = x := IntWalk.i64_in _ (by omega)
      have hS2 := Lib.hid (spoil_put1 hS.out hlt (.int .i64 x))
      have hxs2 := Lib.hid (fill_one (f := fun j => z.getD j 0) hS.out.1 hlt hxs.out hx)
      have hb2 := hb.setCell (p := ⟨w1.heap.size, k, none⟩) (Nat.le_refl _) (.int .i64 x)
      subst hp
      clear hx hv0 hS hxs hb hgp hga hgb
      go_wp2
      exact ⟨⟨k + 1, _, by go_num, by omega, hS2, hxs2, hb2⟩, by simp [intOf]; omega⟩
    · have hkN : k = z.length := by omega
      subst hkN
      have hfill := fill_eq (f := fun j => z.getD j 0) hS.out.1 hxs.out
      rw [range_map] at hfill
      have hS3 := hS.out
      rw [hfill] at hS3
      have HSI := Lib.hid hS3.ints
      have hbw := hB1.trans (hb.mono hB1.size)
      have hz1r := hb.size
      have hzs := hS3.2.1
      have hw1 := hB1.size
      clear hS hxs hfill hS3 hlt hb hB1
      go_wp2_with fail
      refine (HNW.out _).mono ?_
      rintro e w3 ⟨gZ, rfl, hgZ, IZ, hB3⟩
      have HSI3 := Lib.hid (HSI.out.keep hB3 hzs)
      have HIZ := Lib.hid IZ
      have hb3 := hbw.trans (hB3.mono hbw.size)
      have hz3 := hB3.size
      clear HSI IZ hbw hB3 HNW
      have B8 := Box3.new w3 24 (.slice (some ⟨gZ, 0, none⟩) 256 256) (.int .u8 0) (.int .u8 0) rfl
      have hb4 := hb3.alloc hb3.size (LapC (.slice (some ⟨gZ, 0, none⟩) 256 256) (.int .u8 0) (.int .u8 0))
      have SI4 := HSI3.out.alloc (LapC (.slice (some ⟨gZ, 0, none⟩) 256 256) (.int .u8 0) (.int .u8 0))
      have IZ4 := HIZ.out.alloc (LapC (.slice (some ⟨gZ, 0, none⟩) 256 256) (.int .u8 0) (.int .u8 0))
      have hsz4 : w3.heap.size < (w3.alloc (LapC (.slice (some ⟨gZ, 0, none⟩) 256 256) (.int .u8 0) (.int .u8 0))).heap.size := by simp
      go_upto_region 11 with fail
      obtain ⟨w4, hw4⟩ : ∃ w4, w3.alloc (LapC (.slice (some ⟨gZ, 0, none⟩) 256 256) (.int .u8 0) (.int .u8 0)) = w4 := ⟨_, rfl⟩
      rw [hw4] at B8 hb4 SI4 IZ4 hsz4
      rw [hw4]
      obtain ⟨g8, hg8⟩ : ∃ g, w3.heap.size = g := ⟨_, rfl⟩
      rw [hg8] at B8 hsz4
      rw [hg8]
      have hg8w : w1.heap.size + 1 ≤ g8 := by omega
      have hgZ8 : gZ < w4.heap.size := by
        rcases IZ4 with h | ⟨b, off, hp, hlt, _⟩
        · exact absurd h (by intro e; have := HZL.out; rw [e] at this; simp at this)
        · have : gZ = b := by cases hp; rfl
          omega
      have hgZne : gZ ≠ g8 := by
        intro e
        rcases HIZ.out with h | ⟨b, off, hp, hlt, _⟩
        · exact absurd h (by intro e; have := HZL.out; rw [e] at this; simp at this)
        · have : gZ = b := by cases hp; rfl
          omega
      have HB8 := Lib.hid B8
      have HSI4 := Lib.hid SI4
      have HIZ4 := Lib.hid IZ4
      obtain ⟨bq, oq, rfl, hbqw, _⟩ := HA1.out.at (j := 0) (by omega)
      obtain ⟨b', o', he, hbq, hcell⟩ := (HA1.out.keep hb4).at (j := 0) (by omega)
      obtain ⟨rfl, rfl⟩ : bq = b' ∧ oq = o' := by simpa using he
      have hbq8 : bq < g8 := by omega
      have hwg8 : w.heap.size ≤ g8 := by omega
      have e0 := (hcell 0 (by omega)).1
      simp only [Nat.zero_mul, Nat.add_zero] at e0
      obtain ⟨s0, hs0⟩ : ∃ s, (L.getD 0 (0, 0)).1 = s := ⟨_, rfl⟩
      rw [hs0] at e0
      clear hcell hs0 hw4 hg8 B8 SI4 IZ4 HSI3 HIZ hb3 hgZ hw1 hz1r hzs hz3 he hbqw
      rcases (show (s0 == 2) = true ∨ (s0 == 2) = false ∧ (s0 == 3) = true ∨ (s0 == 2) = false ∧ (s0 == 3) = false by cases (s0 == 2) <;> cases (s0 == 3) <;> simp) with e2 | ⟨e2, e3⟩ | ⟨e2, e3⟩
      all_goals
        go_wp2_with fail
        go_loopw [9, 10] (fun W9 I wr => ∃ (k : Nat) (wz : Int) (T : List Int) (gT cT : Nat) (sq sh : Int), W9 = .int .u8 wz ∧ I = .int .i64 k ∧ k ≤ L.length ∧ (0 ≤ wz ∧ wz ≤ 3) ∧ Hid ((0 < k → wz = sq) ∧ LapSt z k T sq sh ∧ 256 ≤ cT ∧ T.length = 256) ∧ Hid (Box3 wr g8 24 (.slice (some ⟨gT, 0, none⟩) 256 cT) (.int .u8 sq) (.int .u8 sh)) ∧ Hid (IsInts wr (some ⟨gT, 0, none⟩) T) ∧ gT ≠ g8 ∧ Hid (IntsB wr (some ⟨w1.heap.size, 0, none⟩) z w1.heap.size (w1.heap.size + 1)) ∧ Below w.heap.size w wr) (fun _ I _ => L.length - (intOf I).toNat)
        case atStart => exact ⟨0, _, Z, gZ, 256, 0, 0, rfl, rfl, Nat.zero_le _, by omega, Lib.hid ⟨fun h => by omega, HST0.out Z rfl, Nat.le_refl _, HZL.out⟩, HB8, HIZ4, hgZne, HSI4, hb4⟩
        case round =>
          obtain ⟨k, wz, T, gT, cT, sq, sh, rfl, rfl, hk, hwz, hst, hB8, hT, hgT, hSI, hb⟩ := hrel
          clear HB8 HIZ4 HSI4 hb4 hsz4 hgZ8 hgZne hbq
          by_cases hlt : k < L.length
          · obtain ⟨b', o', he, hbq, hcell⟩ := (HA1.out.keep hb).at hlt
            obtain ⟨rfl, rfl⟩ : bq = b' ∧ oq = o' := by simpa using he
            obtain ⟨c1, c2⟩ := hcell k hlt
            have hR := HA1.out.2 k hlt
            obtain ⟨b, hbE⟩ : ∃ b, (L.getD k (0, 0)).1 = b := ⟨_, rfl⟩
            obtain ⟨s', hsE⟩ : ∃ b, (L.getD k (0, 0)).2 = b := ⟨_, rfl⟩
            rw [hbE] at c1 hR
            rw [hsE] at c2 hR
            have hkI : (k : Int) < (L.length : Int) := by omega
            clear hcell he hbE hsE
            have FOL := Lib.hid (fun W => follows_ok wz b hwz.1 hR.1.1 W)
            by_cases hF : followsB wz b = true
            case neg =>
              have hF' : followsB wz b = false := by simpa using hF
              rw [hF'] at FOL
              clear hF hF'
              go_wp2_with fail
              refine (FOL.out _).mono ?_
              rintro e w5 ⟨rfl, rfl⟩
              go_wp2
              go_ret
              exact ⟨rfl, hb⟩
            case pos =>
              rw [hF] at FOL
              obtain ⟨hFP, hb3⟩ := follows_prop hF hwz.1 hR.1.1
              have HFP := Lib.hid hFP
              clear hF hFP
              by_cases hK : 1 < s'
              · have dK : decide (1 < s') = true := decide_eq_true hK
                go_wp2_with fail
                refine (FOL.out _).mono ?_
                rintro e w5 ⟨rfl, rfl⟩
                go_wp2
                go_ret
                exact ⟨rfl, hb⟩
              · have dK : decide (1 < s') = false := decide_eq_false hK
                have hN := st_next HZR.out (k := k) (T := T) (sq := sq) (sh := sh) (b := b) (sh' := s') (by omega) hst.out.2.1 (by omega) (by omega) (fun h => by rw [← hst.out.1 h]; exact HFP.out)
                obtain ⟨X, T', P, eA, eX, eN, eT', eP, hst', hmay', hnear⟩ := hN
                have hsh := (st_may HZR.out (k := k) (T := T) (sq := sq) (sh := sh) (by omega) hst.out.2.1)
                go_wp2_with fail
                refine (FOL.out _).mono ?_
                rintro e w5 ⟨rfl, rfl⟩
                go_upto_region 18 with fail
                have hlt8 := hB8.out.lt
                have HS := Lib.hid (fun (W : World) (h : Below wr.heap.size wr W) => show Below wr.heap.size wr W ∧ W.cell? ⟨bq, oq + k * 2, none⟩ = some (.int .u8 b) ∧ W.cell? ⟨bq, oq + k * 2 + 1, none⟩ = some (.int .u8 s') ∧ W.cell? ⟨g8, 0, none⟩ = some (.slice (some ⟨gT, 0, none⟩) 256 cT) ∧ W.cell? ⟨g8, 1, none⟩ = some (.int .u8 sq) ∧ W.cell? ⟨g8, 2, none⟩ = some (.int .u8 sh) from ⟨h, (h.cell (p := ⟨bq, _, none⟩) hbq).trans c1, (h.cell (p := ⟨bq, _, none⟩) hbq).trans c2, (hB8.out.keep h hlt8).cell0, (hB8.out.keep h hlt8).cell1, (hB8.out.keep h hlt8).cell2⟩)
                have h0 := Lib.hid (HS.out _ (bx0 wr))
                have HAN := Lib.hid (fun (W : World) (off c' : Nat) (ho : off = 256 * k) (hc : 512 ≤ c') (h : Below wr.heap.size wr W) => show Calls Try.prog 12 #[.int .u8 b, .int .u8 sh, .int .u8 s', .slice (some ⟨w1.heap.size, off, none⟩) 512 c'] W (RX X W) by
                  subst ho
                  have hcl := cutS_len (S := z) (k := k) (by omega)
                  have hI := ints_take (intsB_drop (hSI.out.keep h hSI.out.1) (256 * k)).ints 512
                  rw [Nat.zero_add] at hI
                  have hA := ana_any b sh s' hR.1.1 (by omega) hR.2.1 (cutS z k) (by rw [hcl]; omega) (some ⟨w1.heap.size, 256 * k, none⟩) c' (by rw [hcl]; exact hc) W hI
                  rw [hcl, eA] at hA
                  exact hA.mono (fun e w' h => row_x eX h))
                have HNX := Lib.hid (fun (W : World) (pX : Option Addr) (cX : Nat) (hc : 256 ≤ cX) (hJ : IsInts W pX X) (h : Below wr.heap.size wr W) => show Calls Try.prog 9 #[.agg #[.slice (some ⟨gT, 0, none⟩) 256 cT, .int .u8 sq, .int .u8 sh], .int .u8 b, .int .u8 s', .slice pX 256 cX] W (RNextOk T' P b s' W) by
                  have hTl := hst.out.2.2.2
                  have hN := next_any T sq sh b s' X hR.1.1 (by omega) hR.2.1 (by omega) (by omega) (some ⟨gT, 0, none⟩) pX cT cX (by have := hst.out.2.2.1; omega) (by omega) W (hT.out.keep h) hJ
                  rw [eN, hTl, eX] at hN
                  exact hN.mono (fun e w' h => next_row eT' eP h))
                have HCK := Lib.hid (fun (W : World) (g c' : Nat) (hI : IsInts W (some ⟨g, 0, none⟩) T') => show Calls Try.prog 13 #[.agg #[.slice (some ⟨g, 0, none⟩) 256 c', .int .u8 b, .int .u8 s']] W (fun e w' => e = .returned (.int .i64 0) ∧ Below W.heap.size W w') by
                  have hC := check_ok T' (some ⟨g, 0, none⟩) c' b s' (by omega) W hI
                  rw [if_pos hmay', eT'] at hC
                  exact hC)
                have HST := Lib.hid (show (0 < k + 1 → b = b) ∧ LapSt z (k + 1) T' b s' ∧ T'.length = 256 from ⟨fun _ => rfl, hst', eT'⟩)
                have HPL := Lib.hid eP
                have HNE := Lib.hid hnear
                have t1 : IntKind.i64.wrap (256 * (k : Int)) = 256 * (k : Int) := IntWalk.i64_in _ (by omega)
                have t2 : IntKind.i64.wrap (256 * (k : Int) + 512) = 256 * (k : Int) + 512 := IntWalk.i64_in _ (by omega)
                have t3 : (0 : Int) ≤ 256 * (k : Int) := by omega
                have t4 : 256 * (k : Int) ≤ 256 * (k : Int) + 512 := by omega
                have t5 : 256 * (k : Int) + 512 ≤ (z.length : Int) := by omega
                have t6 : (256 * (k : Int)).toNat = 256 * k := by omega
                have t7 : (256 * (k : Int) + 512).toNat = 256 * k + 512 := by omega
                have t8 : 256 * k + 512 - 256 * k = 512 := by omega
                have t8c : (z.length = 256 * k) = False := by simp; omega
                have hb3' : 0 ≤ b ∧ b ≤ 3 := ⟨hR.1.1, hb3⟩
                have hzN : 256 * k + 512 ≤ z.length := by omega
                have HSI := hSI
                have HB8 := hB8
                have hbr := hb
                clear eA eX eN eT' eP hst' hmay' hnear hsh c1 c2 hst hT hSI hB8 hb
                go_cut [11, 12] from 99 to 121 (fun s11 s12 wx => ∃ pX cX, s11 = .slice pX 256 cX ∧ s12 = .int .i64 0 ∧ 256 ≤ cX ∧ IntsB wx pX X wr.heap.size wx.heap.size ∧ Below wr.heap.size wr wx)
                case first =>
                  go_region_held3 (fun W => Below wr.heap.size wr W ∧ W.cell? ⟨bq, oq + k * 2, none⟩ = some (.int .u8 b) ∧ W.cell? ⟨bq, oq + k * 2 + 1, none⟩ = some (.int .u8 s') ∧ W.cell? ⟨g8, 0, none⟩ = some (.slice (some ⟨gT, 0, none⟩) 256 cT) ∧ W.cell? ⟨g8, 1, none⟩ = some (.int .u8 sq) ∧ W.cell? ⟨g8, 2, none⟩ = some (.int .u8 sh))
                    (first | assumption | exact h0.out | exact HS.out _ (bxA hBc))
                    (first | (go_at_call 12; ((with_reducible refine (HAN.out wr.drew (256 * k) (z.length - 256 * k) rfl (by omega) (bx0 wr)).mono ?_); rintro e w' ⟨pX, cX, rfl, hIX, hcX, hBc⟩)))
                  all_goals
                    go_wp2_with fail
                    go_meet
                    exact ⟨_, _, rfl, rfl, hcX, hIX, bxA hBc⟩
                case rest =>
                  obtain ⟨pX, cX, rfl, rfl, hcX, hIX, hb6⟩ := hcut
                  obtain ⟨w6, hw6⟩ : ∃ w6, wc = w6 := ⟨_, rfl⟩
                  subst hw6
                  have hz6 := hb6.size
                  have HIX := Lib.hid hIX
                  have HB6 := Lib.hid hb6
                  have HS6 := Lib.hid (fun (W : World) (h : Below wc.heap.size wc W) => HS.out W (hb6.trans (h.mono hz6)))
                  have h6 := Lib.hid (HS6.out _ (bx0 wc))
                  have hNew := Lib.hid (show Box3 (wc.alloc (LapC (.slice none 0 0) (.int .u8 0) (.int .u8 0))) wc.heap.size 24 (.slice none 0 0) (.int .u8 0) (.int .u8 0) from Box3.new _ _ _ _ _ rfl)
                  have HNA := Lib.hid (HNX.out wc.drew pX cX hcX (hIX.ints.keep (bx0 wc)) (hb6.trans ((bx0 wc).mono hz6)))
                  have HNB := Lib.hid (HNX.out (wc.alloc (LapC (.slice none 0 0) (.int .u8 0) (.int .u8 0))).drew pX cX hcX (hIX.ints.keep (bx1 wc _)) (hb6.trans ((bx1 wc _).mono hz6)))
                  have hg8c : g8 < wc.heap.size := Nat.lt_of_lt_of_le hlt8 hz6
                  clear h0 HAN HNX hIX hb6
                  go_upto_region 19 with fail
                  go_cut [13, 14, 15] from 122 to 138 (fun s13 s14 s15 wx => ∃ gm g1 d1 g2 d2, s13 = .pointer (some ⟨gm, 0, none⟩) ∧ s14 = .slice (some ⟨g2, 0, none⟩) 256 d2 ∧ s15 = .int .i64 0 ∧ 256 ≤ d1 ∧ Box3 wx gm 24 (.slice (some ⟨g1, 0, none⟩) 256 d1) (.int .u8 b) (.int .u8 s') ∧ (wc.heap.size ≤ g1 ∧ wc.heap.size ≤ gm) ∧ IsInts wx (some ⟨g1, 0, none⟩) T' ∧ IsInts wx (some ⟨g2, 0, none⟩) P ∧ Below wc.heap.size wc wx)
                  case first =>
                    go_region_held3 (fun W => Below wr.heap.size wr W ∧ W.cell? ⟨bq, oq + k * 2, none⟩ = some (.int .u8 b) ∧ W.cell? ⟨bq, oq + k * 2 + 1, none⟩ = some (.int .u8 s') ∧ W.cell? ⟨g8, 0, none⟩ = some (.slice (some ⟨gT, 0, none⟩) 256 cT) ∧ W.cell? ⟨g8, 1, none⟩ = some (.int .u8 sq) ∧ W.cell? ⟨g8, 2, none⟩ = some (.int .u8 sh))
                      (first | assumption | exact h6.out | exact HS6.out _ (bx1 wc _) | exact HS6.out _ (bxA hBc) | exact HS6.out _ ((bxA hBc).alloc (bxA hBc).size _) | exact HS6.out _ (bxB hBc) | exact HS6.out _ (bx3 (bxB hBc) _ _ _))
                      (first
                        | (go_at_call 9; ((with_reducible refine HNA.out.mono ?_); rintro e w' ⟨g1, d1, g2, d2, rfl, hd1, ⟨hg1, hg1', hI1⟩, ⟨hg2, hg2', hI2⟩, hBc⟩))
                        | (go_at_call 9; ((with_reducible refine HNB.out.mono ?_); rintro e w' ⟨g1, d1, g2, d2, rfl, hd1, ⟨hg1, hg1', hI1⟩, ⟨hg2, hg2', hI2⟩, hBc⟩; have zA := (box3drewB hNew.out).keep hBc hNew.out.lt; have z0 := zA.cell0; have z1 := zA.cell1; have z2 := zA.cell2; have zf0 := zA.frozen 0; have zf1 := zA.frozen 1; have zf2 := zA.frozen 2; have zl := zA.lt)))
                    all_goals
                      go_wp2_with fail
                      go_meet
                      first
                        | exact ⟨_, g1, d1, g2, d2, rfl, rfl, rfl, hd1, Box3.new _ _ _ _ _ rfl, ⟨hg1, hBc.size⟩, hI1.alloc _, hI2.alloc _, (bxA hBc).alloc (bxA hBc).size _⟩
                        | exact ⟨_, g1, d1, g2, d2, rfl, rfl, rfl, hd1, zA.all _ _ _, ⟨Nat.le_of_succ_le (nx1 hg1), Nat.le_refl _⟩, ix3 hI1 (Nat.ne_of_gt (nx1 hg1)) _ _ _, ix3 hI2 (Nat.ne_of_gt (nx1 hg2)) _ _ _, bx3 (bxB hBc) _ _ _⟩
                  case rest =>
                    obtain ⟨gm, g1, d1, g2, d2, rfl, rfl, rfl, hd1, BM, ⟨hg1, hgm⟩, I1, I2, hb7⟩ := hcut
                    have HBM := Lib.hid BM
                    have HI1 := Lib.hid I1
                    have HI2 := Lib.hid I2
                    have HB7 := Lib.hid hb7
                    have k0 := BM.cell0
                    have k1 := BM.cell1
                    have k2 := BM.cell2
                    have hz7 := hb7.size
                    clear BM I1 I2 hb7 HNA HNB hNew h6 HS6
                    go_wp2_with fail
                    refine (HCK.out _ g1 d1 HI1.out).mono ?_
                    rintro e w8 ⟨rfl, hB8'⟩
                    have HZ8 := Lib.hid (HB7.out.trans (hB8'.mono hz7))
                    have HM8 := Lib.hid (HBM.out.keep hB8' HBM.out.lt)
                    have HT8 := Lib.hid (HI1.out.keep hB8')
                    have HP8 := Lib.hid (HI2.out.keep hB8')
                    have hz8 := hB8'.size
                    have H8 := Lib.hid ((HB8.out.keep HB6.out hlt8).keep HZ8.out hg8c)
                    have HS8 := Lib.hid ((HSI.out.keep HB6.out HSI.out.1).keep HZ8.out (Nat.le_trans HSI.out.1 hz6))
                    have HW8 := Lib.hid ((hbr.trans (HB6.out.mono hbr.size)).trans (HZ8.out.mono (Nat.le_trans hbr.size hz6)))
                    have HR8 := Lib.hid (HB6.out.trans (HZ8.out.mono hz6))
                    clear k0 k1 k2 hB8' HBM HI1 HI2 HB7 HB8 HSI HB6 HIX
                    go_wp2_with fail
                    have c1' := ((HS.out w8 (HR8.out)).2).1
                    go_loopw [16] (fun I wq => ∃ n : Nat, I = .int .i64 n ∧ n ≤ 256 ∧ ∃ m, wq = w8.drewN m) (fun I _ => 256 - (intOf I).toNat)
                    case atStart => exact ⟨0, rfl, Nat.zero_le _, 0, rfl⟩
                    case round =>
                      obtain ⟨n, rfl, hn, m, rfl⟩ := hrel
                      by_cases hgo : 0 < k ∧ n < 256
                      · obtain ⟨hk0, hn2⟩ := hgo
                        have d5 : decide (0 < (k : Int)) = true := decide_eq_true (by omega)
                        have d6 : decide ((n : Int) < 256) = true := decide_eq_true (by omega)
                        obtain ⟨b2, o2, he2, _, q1⟩ := HP8.out.at (j := n) (by rw [HPL.out]; exact hn2)
                        obtain ⟨rfl, rfl⟩ : g2 = b2 ∧ 0 = o2 := by simpa using he2
                        have r1 := q1 n (by rw [HPL.out]; exact hn2)
                        obtain ⟨b3, o3, he3, r2⟩ := HS8.out.at (j := 256 * k + n) (by omega)
                        obtain ⟨rfl, rfl⟩ : w1.heap.size = b3 ∧ 0 = o3 := by simpa using he3
                        rw [Nat.zero_add] at r1 r2
                        have near := HNE.out hk0 n hn2
                        have rx := HZR.out (256 * k + n)
                        obtain ⟨o, ho⟩ : ∃ o, P.getD n 0 = o := ⟨_, rfl⟩
                        obtain ⟨x, hx⟩ : ∃ x, z.getD (256 * k + n) 0 = x := ⟨_, rfl⟩
                        rw [ho] at r1 near
                        rw [hx] at r2 near rx
                        have d7 : decide (2 < o - x) = false := decide_eq_false (by omega)
                        have d8 : decide (o - x < -2) = false := decide_eq_false (by omega)
                        have t9 : IntKind.i64.wrap (256 * (k : Int) + (n : Int)) = 256 * (k : Int) + (n : Int) := IntWalk.i64_in _ (by omega)
                        have t10 : IntKind.i64.wrap (o - x) = o - x := IntWalk.i64_in _ (by omega)
                        have t11 : (0 : Int) ≤ 256 * (k : Int) + (n : Int) := by omega
                        have t12 : 256 * (k : Int) + (n : Int) < (z.length : Int) := by omega
                        have t13 : (256 * (k : Int) + (n : Int)).toNat = 256 * k + n := by omega
                        have t14 : (n : Int) < 256 := by omega
                        clear q1 he2 he3 ho hx near c1'
                        go_wp2_with fail
                        go_quiet (fail)
                        go_wp2
                        exact ⟨⟨n + 1, by go_num, by omega, _, rfl⟩, by simp [intOf]; omega⟩
                      · have hd : (decide (0 < (k : Int)) = false ∧ decide (0 < k) = false) ∨ (decide (0 < (k : Int)) = true ∧ decide ((n : Int) < 256) = false) := by
                          rcases Nat.eq_zero_or_pos k with h | h
                          · exact .inl ⟨decide_eq_false (by omega), decide_eq_false (by omega)⟩
                          · exact .inr ⟨decide_eq_true (by omega), decide_eq_false (by omega)⟩
                        have k0 := HM8.out.cell0
                        have k1 := HM8.out.cell1
                        have k2 := HM8.out.cell2
                        have j0 := H8.out.cell0
                        have j1 := H8.out.cell1
                        have j2 := H8.out.cell2
                        have f0 := H8.out.frozen 0
                        have f1 := H8.out.frozen 1
                        have f2 := H8.out.frozen 2
                        have Q1 := Lib.hid (fun m => (show Box3 (w8.drewN m) g8 _ _ _ _ from H8.out).all (.slice (some ⟨g1, 0, none⟩) 256 d1) (.int .u8 b) (.int .u8 s'))
                        have Q2 := Lib.hid (fun m => ix3 (HT8.out.drewN m) (show g1 ≠ g8 by omega) (.slice (some ⟨g1, 0, none⟩) 256 d1) (.int .u8 b) (.int .u8 s'))
                        have Q3 := Lib.hid (fun m => ibx3 (HS8.out.drewN m) (g := g8) (.inr hg8w) (.slice (some ⟨g1, 0, none⟩) 256 d1) (.int .u8 b) (.int .u8 s'))
                        have Q4 := Lib.hid (fun m => blx3 (below_drewN HW8.out m) hwg8 (.slice (some ⟨g1, 0, none⟩) 256 d1) (.int .u8 b) (.int .u8 s'))
                        have hne8 : bq ≠ g8 := by omega
                        clear hgo
                        rcases hd with ⟨d5, d5n⟩ | ⟨d5, d6⟩
                        all_goals
                          go_wp2
                          all_goals exact ⟨⟨k + 1, b, T', g1, d1, b, s', rfl, by go_num, by omega, hb3', Lib.hid ⟨fun _ => rfl, HST.out.2.1, hd1, HST.out.2.2⟩, Lib.hid (Q1.out _), Lib.hid (Q2.out _), by omega, Lib.hid (Q3.out _), Q4.out _⟩, by simp [intOf]; omega⟩
          · have hkM : k = L.length := by omega
            subst hkM
            clear hlt
            go_wp2
            go_ret
            exact ⟨rfl, hb⟩
theorem lap_backs (z : List Int) (L : List (Int × Int)) (p q : Option Addr) (c d : Nat) (w : World) (A0 : IsArgK .i16 w p c z) (A1 : IsPath w q L) (h1 : z.length ≤ 9223372036854775807) (h2 : L.length ≤ 9223372036854775807) :
    Calls Try.prog 4 #[.slice p z.length c, .slice q L.length d] w fun e w' => e = .returned (.bool true) ∧ Below w.heap.size w w' := by
  by_cases hb : L.length < 1 ∨ 1 ≤ L.length ∧ 6 < L.length ∨ 1 ≤ L.length ∧ L.length ≤ 6 ∧ z.length < 256 * (L.length + 1) ∨ 1 ≤ L.length ∧ L.length ≤ 6 ∧ 256 * (L.length + 1) ≤ z.length ∧ 4000 < z.length
  · exact lapback_bad p q z.length L.length c d w h2 h1 (Lib.hid hb)
  · exact lapback_ok z L p q c d w A0 A1 (by omega) (by omega) (by omega) (by omega)
end Go.Proofs.Ytcmbbmilldhnnaa
