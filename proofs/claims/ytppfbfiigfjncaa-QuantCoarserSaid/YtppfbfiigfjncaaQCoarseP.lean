/- QuantCoarser: greater steps, and lines that are turned over, in plain numbers. -/
import Derived.Test.YtppfbfiigfjncaaQBackP
set_option linter.unusedVariables false
set_option linter.unusedSimpArgs false
namespace Go.Proofs.Ytppfbfiigfjncaa
open Go.ChangeShapes Go.WideShapes Go.ChangeAt Go.RowKit
theorem lineN_steps (q s : Nat) (h : q ≤ 8191) : ∀ d, lineN q s ≤ lineN q (s + d)
  | 0 => Int.le_refl _
  | d + 1 => Int.le_trans (lineN_steps q s h d) (step_mono q (s + d) h)
theorem lineN_step_le {q s t : Nat} (h : q ≤ 8191) (hs : s ≤ t) : lineN q s ≤ lineN q t := by
  have := lineN_steps q s h (t - s)
  rwa [show s + (t - s) = t by omega] at this
theorem quantN_step (x : Int) {s t : Nat} (hs : s ≤ t) : quantN x t ≤ quantN x s := by
  obtain ⟨a1, b1, c1⟩ := quantN_spec x s
  obtain ⟨a2, b2, c2⟩ := quantN_spec x t
  generalize quantN x s = k at *
  generalize quantN x t = m at *
  rcases Nat.lt_or_ge k m with h | h
  · exfalso
    have h1 := b1 (by omega)
    have h2 := c2 k h
    have h3 := lineN_step_le (q := k) (by omega) hs
    have h4 := lineN_step_le (q := k + 1) (by omega) hs
    omega
  · exact h
theorem far_zero (a : Int) : farI a 0 = max a (-a) := by unfold farI; omega
theorem quantL_step (x : Int) {s t : Nat} (hs : s ≤ t) : farI (quantL x t) 0 ≤ farI (quantL x s) 0 := by
  rw [far_zero, far_zero]
  unfold quantL
  split
  · have := quantN_step (-x) hs; omega
  · have := quantN_step x hs; omega
theorem lineL_step' {q : Int} {s t : Nat} (h0 : -8191 ≤ q) (h1 : q ≤ 8191) (hs : s ≤ t) : farI (lineL q s) 0 ≤ farI (lineL q t) 0 := by
  rw [far_zero, far_zero]
  unfold lineL
  split
  · have := lineN_step_le (q := (-q).toNat) (by omega) hs
    have := (lineN_range (-q).toNat s (by omega)).1
    omega
  · have := lineN_step_le (q := q.toNat) (by omega) hs
    have := (lineN_range q.toNat s (by omega)).1
    omega
theorem quantN_zero (s : Nat) : quantN 0 s = 0 := by
  obtain ⟨a, b, c⟩ := quantN_spec 0 s
  rcases Nat.eq_zero_or_pos (quantN 0 s) with h | h
  · exact h
  · have := c 0 h
    have h1 := (lineN_range 0 s (by decide)).1
    have h2 := (lineN_range (0 + 1) s (by decide)).1
    omega
theorem quantL_neg (x : Int) (s : Nat) : quantL (-x) s = -quantL x s := by
  unfold quantL
  rcases Int.lt_trichotomy x 0 with h | h | h
  · rw [if_neg (by omega), if_pos h, Int.neg_neg]
  · subst h; rw [if_neg (by decide), if_neg (by decide)]; simp [quantN_zero]
  · rw [if_pos (by omega), if_neg (by omega), Int.neg_neg]
/-- A greater step. -/
def coarV (m s : Int) : Int := if 255 < s then s else min (IntKind.i64.wrap (s + m)) 255
theorem coarV_sent {m s : Int} (hm0 : 0 ≤ m) (hm1 : m ≤ 255) (h0 : 0 ≤ s) (h1 : s ≤ 255) : coarV m s = min (s + m) 255 := by
  unfold coarV
  rw [if_neg (by omega), IntWalk.i64_in _ (by omega)]
theorem coar_ways (s z : Int) : (¬ 255 < s ∧ ¬ 255 < z ∧ (if 255 < s then s else min z 255) = z) ∨ (¬ 255 < s ∧ 255 < z ∧ (if 255 < s then s else min z 255) = 255) ∨ (255 < s ∧ ¬ 255 < z ∧ (if 255 < s then s else min z 255) = s) ∨ (255 < s ∧ 255 < z ∧ (if 255 < s then s else min z 255) = s) := by
  by_cases e : 255 < s
  · by_cases f : 255 < z
    · exact .inr (.inr (.inr ⟨e, f, if_pos e⟩))
    · exact .inr (.inr (.inl ⟨e, f, if_pos e⟩))
  · by_cases f : 255 < z
    · exact .inr (.inl ⟨e, f, by rw [if_neg e]; omega⟩)
    · exact .inl ⟨e, f, by rw [if_neg e]; omega⟩
def coarL (m : Int) (l : List Int) : List Int := l.map (coarV m)
theorem coarL_get (m : Int) (l : List Int) {j : Nat} (hj : j < l.length) : (coarL m l).getD j 0 = coarV m (l.getD j 0) := by
  unfold coarL
  rw [List.getD_eq_getElem?_getD, List.getElem?_map, List.getElem?_eq_getElem hj, List.getD_eq_getElem?_getD, List.getElem?_eq_getElem hj]
  rfl
/-- Rows of greater steps. -/
def IsCoar (m : Int) (St St2 : List RV) : Prop := St2.length = St.length ∧ ∀ g, g < St.length → (St2.getD g default).l = coarL m (St.getD g default).l
section
variable {most rate seq shape max m : Int} {G : List Int} {Bk St St2 : List RV} {x : List Int}
theorem coar_good (h : QGood most rate seq shape max G Bk St x) (hm : 0 ≤ m ∧ m ≤ 255) (hc : IsCoar m St St2) : QGood most rate seq shape max G Bk St2 x := by
  have hsl := h.sl
  refine ⟨h.info, h.r0, h.r1, h.may, h.m0, h.m1, h.bl, by rw [hc.1]; exact hsl, h.br, fun g hg => ?_, fun g j hg hj => ?_, h.xl, h.xb⟩
  · rw [hc.2 g (by omega)]
    have := h.sr g hg
    unfold coarL
    rwa [List.length_map]
  · have h1 := h.ok g j hg hj
    have h2 := h.sr g hg
    rw [hc.2 g (by omega), coarL_get _ _ (by omega)]
    generalize (Bk.getD g default).l.getD j 0 = kk at *
    generalize (St.getD g default).l.getD j 0 = ss at *
    unfold badK at *
    cases hs : sentB kk with
    | false => rw [hs] at h1; simpa using h1
    | true =>
      rw [hs] at h1
      simp at h1
      obtain ⟨a, b, c, d⟩ := h1
      rw [coarV_sent hm.1 hm.2 (by omega) (by omega)]
      simp
      omega
theorem coar_cases (h : QGood most rate seq shape max G Bk St x) (hm : 0 ≤ m ∧ m ≤ 255) (hc : IsCoar m St St2) (j : Nat) (hj : j < 256) :
    ((∀ F y, (rowQ F rate seq max G Bk St y).getD j 0 = 0) ∧ ∀ F y, (rowQ F rate seq max G Bk St2 y).getD j 0 = 0) ∨
    ∃ s t : Nat, s ≤ t ∧ t ≤ 255 ∧ (∀ F y, (rowQ F rate seq max G Bk St y).getD j 0 = F (y.getD j 0) s) ∧ ∀ F y, (rowQ F rate seq max G Bk St2 y).getD j 0 = F (y.getD j 0) t := by
  cases hp : placeAt (plsQ rate seq max G) j with
  | none => left; exact ⟨fun F y => by rw [rowQ_at h F St y hj, hp]; rfl, fun F y => by rw [rowQ_at h F St2 y hj, hp]; rfl⟩
  | some p =>
    obtain ⟨h1, h2⟩ := place_in h hp
    have hb := h.ok p.g p.b h1 h2
    cases hs : sentB (bookOf (rowsOf Bk) p) with
    | false => left; exact ⟨fun F y => by rw [rowQ_at h F St y hj, hp]; simp only [valQ, hs]; rfl, fun F y => by rw [rowQ_at h F St2 y hj, hp]; simp only [valQ, hs]; rfl⟩
    | true =>
      right
      have hs' := hs
      rw [bookOf_get] at hs'
      have hr := sent_step hb hs'
      have hsr := h.sr p.g h1
      have e2 : bookOf (rowsOf St2) p = coarV m ((St.getD p.g default).l.getD p.b 0) := by
        rw [bookOf_get, hc.2 p.g (by have := h.sl; omega), coarL_get _ _ (by omega)]
      have e1 : bookOf (rowsOf St) p = (St.getD p.g default).l.getD p.b 0 := bookOf_get St p
      have hv : (St.getD p.g default).l.getD p.b 0 ≤ coarV m ((St.getD p.g default).l.getD p.b 0) ∧ coarV m ((St.getD p.g default).l.getD p.b 0) ≤ 255 := by
        rw [coarV_sent hm.1 hm.2 hr.1 hr.2]; omega
      refine ⟨(bookOf (rowsOf St) p).toNat, (bookOf (rowsOf St2) p).toNat, by rw [e1, e2]; omega, by rw [e2]; omega, fun F y => ?_, fun F y => ?_⟩
      · rw [rowQ_at h F St y hj, hp]
        simp only [valQ, hs, if_true]
        rw [Int.toNat_of_nonneg (by rw [e1]; exact hr.1)]
      · rw [rowQ_at h F St2 y hj, hp]
        simp only [valQ, hs, if_true]
        rw [Int.toNat_of_nonneg (by rw [e2]; omega)]
theorem coar_quant (h : QGood most rate seq shape max G Bk St x) (hm : 0 ≤ m ∧ m ≤ 255) (hc : IsCoar m St St2) (hx : QGood 268435455 rate seq shape max G Bk St x) (j : Nat) (hj : j < 256) :
    farI ((rowQ quanF rate seq max G Bk St2 x).getD j 0) 0 ≤ farI ((rowQ quanF rate seq max G Bk St x).getD j 0) 0 := by
  rcases coar_cases h hm hc j hj with ⟨e, e'⟩ | ⟨s, t, hst, ht, e, e'⟩
  · rw [e, e']; exact Int.le_refl _
  · have b := hx.xb j
    rw [e, e', quanF_eq (s := s) b.1 b.2 (by omega), quanF_eq (s := t) b.1 b.2 ht]
    exact quantL_step _ hst
theorem coar_line {q : List Int} (h : QGood most rate seq shape max G Bk St x) (hm : 0 ≤ m ∧ m ≤ 255) (hc : IsCoar m St St2) (hq : QGood 8191 rate seq shape max G Bk St q) (j : Nat) (hj : j < 256) :
    farI ((rowQ lineF rate seq max G Bk St q).getD j 0) 0 ≤ farI ((rowQ lineF rate seq max G Bk St2 q).getD j 0) 0 := by
  rcases coar_cases h hm hc j hj with ⟨e, e'⟩ | ⟨s, t, hst, ht, e, e'⟩
  · rw [e, e']; exact Int.le_refl _
  · have b := hq.xb j
    rw [e, e', lineF_eq (s := s) b.1 b.2 (by omega), lineF_eq (s := t) b.1 b.2 ht]
    exact lineL_step' b.1 b.2 hst
/-- Lines turned over. -/
def negL (x : List Int) : List Int := (List.range 256).map (fun j => -x.getD j 0)
theorem neg_len (x : List Int) : (negL x).length = 256 := by simp [negL]
theorem neg_at (x : List Int) {j : Nat} (hj : j < 256) : (negL x).getD j 0 = -x.getD j 0 := by
  unfold negL
  rw [List.getD_eq_getElem?_getD, List.getElem?_map, List.getElem?_range hj]; rfl
theorem neg_good (h : QGood most rate seq shape max G Bk St x) (hx : QGood 268435455 rate seq shape max G Bk St x) : QGood 268435455 rate seq shape max G Bk St (negL x) :=
  h.with (neg_len _) (fun j hj => by rw [neg_at _ hj]; have := hx.xb j; omega) (by decide)
theorem neg_quant (h : QGood most rate seq shape max G Bk St x) (hx : QGood 268435455 rate seq shape max G Bk St x) (j : Nat) (hj : j < 256) :
    (rowQ quanF rate seq max G Bk St (negL x)).getD j 0 = -(rowQ quanF rate seq max G Bk St x).getD j 0 := by
  rcases cell_cases h j hj with e | ⟨s, hs, e⟩
  · rw [e, e]; rfl
  · have b := hx.xb j
    rw [e, e, neg_at _ hj, quanF_eq (by omega) (by omega) hs, quanF_eq b.1 b.2 hs, quantL_neg]
end
end Go.Proofs.Ytppfbfiigfjncaa
