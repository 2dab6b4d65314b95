/- What quant.Lines and quant.Quantise answer, line by line, in plain numbers. -/
import Derived.Test.YtppfbfiigfjncaaQuantRun
import Derived.Test.YtppfbfiigfjncaaNearPlain
import Derived.Test.YtppfbfiigfjncaaGrpLt
set_option linter.unusedVariables false
namespace Go.Proofs.Ytppfbfiigfjncaa

theorem lineF_eq {q : Int} {s : Nat} (h0 : -8191 ≤ q) (h1 : q ≤ 8191) (hs : s ≤ 255) : lineF q s = lineL q s := by
  unfold lineF lineV
  rw [if_neg (by unfold BadQ; omega), Int.toNat_natCast]
theorem quanF_eq {x : Int} {s : Nat} (h0 : -268435455 ≤ x) (h1 : x ≤ 268435455) (hs : s ≤ 255) : quanF x s = quantL x s := by
  unfold quanF quantV
  rw [if_neg (by unfold BadQ; omega), Int.toNat_natCast]
theorem line_err {q : Int} {s : Nat} (h0 : -8191 ≤ q) (h1 : q ≤ 8191) (hs : s ≤ 255) : (lineV q s).2 = 0 := by
  unfold lineV; rw [if_neg (by unfold BadQ; omega)]
theorem quant_err {x : Int} {s : Nat} (h0 : -268435455 ≤ x) (h1 : x ≤ 268435455) (hs : s ≤ 255) : (quantV x s).2 = 0 := by
  unfold quantV; rw [if_neg (by unfold BadQ; omega)]
/-- The places of a record's lines. -/
def plsQ (rate seq max : Int) (G : List Int) : List Pl := allPl (bandL rate (seq == 2)) G max.toNat (winN seq)
/-- All lines of one sort. -/
def rowQ (F : Int → Int → Int) (rate seq max : Int) (G : List Int) (Bk St : List RV) (x : List Int) : List Int := runQ F (rowsOf Bk) (rowsOf St) x (plsQ rate seq max G) (List.replicate 256 0)
theorem rowQ_len (F : Int → Int → Int) (rate seq max : Int) (G : List Int) (Bk St : List RV) (x : List Int) : (rowQ F rate seq max G Bk St x).length = 256 := row_len _ _ _ _ _
theorem quantR_good {F : Int → Int → Int} {most rate seq shape max : Int} {G : List Int} {Bk St : List RV} {x : List Int} (h : QGood most rate seq shape max G Bk St x) : quantR F most rate seq shape max G Bk St x = (rowQ F rate seq max G Bk St x, 0) := by
  unfold quantR
  rw [readyQ_ok h, if_pos rfl]
  rfl
theorem quantR_bad {F : Int → Int → Int} {most rate seq shape max : Int} {G : List Int} {Bk St : List RV} {x : List Int} (h : readyQ most rate seq shape max G Bk St x ≠ 0) : quantR F most rate seq shape max G Bk St x = ([], readyQ most rate seq shape max G Bk St x) := by
  unfold quantR
  rw [if_neg h]
theorem QGood.offs {most rate seq shape max : Int} {G : List Int} {Bk St : List RV} {x : List Int} (h : QGood most rate seq shape max G Bk St x) : OffsQ (bandL rate (seq == 2)) max.toNat (winN seq) := offsQ rate seq h.r0 h.r1 h.m1
theorem rowQ_at {most rate seq shape max : Int} {G : List Int} {Bk St : List RV} {x : List Int} (h : QGood most rate seq shape max G Bk St x) (F : Int → Int → Int) (St' : List RV) (y : List Int) {j : Nat} (hj : j < 256) :
    (rowQ F rate seq max G Bk St' y).getD j 0 = valQ F (rowsOf Bk) (rowsOf St') y j (placeAt (plsQ rate seq max G) j) := runQ_all F _ _ y h.offs j hj
/-- A line's group and band are such as there are. -/
theorem place_in {most rate seq shape max : Int} {G : List Int} {Bk St : List RV} {x : List Int} (h : QGood most rate seq shape max G Bk St x) {j : Nat} {p : Pl} (hp : placeAt (plsQ rate seq max G) j = some p) : p.g < G.length ∧ (p.b : Int) < max := by
  have hm := List.mem_of_find?_eq_some hp
  obtain ⟨_, h2, w, hw, h3⟩ := h.offs.place hm
  refine ⟨?_, by have := h.m0; omega⟩
  rw [h3]
  exact grp_lt (may_most h.r0 h.r1 h.may) hw
theorem sent_step {k s : Int} (h : badK k s = false) (hk : sentB k = true) : 0 ≤ s ∧ s ≤ 255 := by
  unfold badK at h
  rw [hk] at h
  simp at h
  omega
theorem bookOf_get (Bk : List RV) (p : Pl) : bookOf (rowsOf Bk) p = (Bk.getD p.g default).l.getD p.b 0 := by
  unfold bookOf
  rw [rowsOf_get]
/-- Of one line: no number at all, or that of its step, whatever the sort. -/
theorem cell_cases {most rate seq shape max : Int} {G : List Int} {Bk St : List RV} {x : List Int} (h : QGood most rate seq shape max G Bk St x) (j : Nat) (hj : j < 256) :
    (∀ F y, (rowQ F rate seq max G Bk St y).getD j 0 = 0) ∨ ∃ s : Nat, s ≤ 255 ∧ ∀ F y, (rowQ F rate seq max G Bk St y).getD j 0 = F (y.getD j 0) s := by
  cases hp : placeAt (plsQ rate seq max G) j with
  | none => left; intro F y; rw [rowQ_at h F St y hj, hp]; rfl
  | some p =>
    obtain ⟨h1, h2⟩ := place_in h hp
    have hb := h.ok p.g p.b h1 h2
    cases hs : sentB (bookOf (rowsOf Bk) p) with
    | false => left; intro F y; rw [rowQ_at h F St y hj, hp]; simp only [valQ, hs]; rfl
    | true =>
      right
      have hs' := hs
      rw [bookOf_get] at hs'
      have hr := sent_step hb hs'
      refine ⟨(bookOf (rowsOf St) p).toNat, by rw [bookOf_get]; omega, fun F y => ?_⟩
      rw [rowQ_at h F St y hj, hp]
      simp only [valQ, hs, if_true]
      rw [Int.toNat_of_nonneg (by rw [bookOf_get]; exact hr.1)]
/-- The same record with other lines. -/
theorem QGood.with {most most' rate seq shape max : Int} {G : List Int} {Bk St : List RV} {x y : List Int} (h : QGood most rate seq shape max G Bk St x) (hl : y.length = 256) (hb : ∀ j, j < 256 → -most' ≤ y.getD j 0 ∧ y.getD j 0 ≤ most') (hm : 0 ≤ most') : QGood most' rate seq shape max G Bk St y :=
  ⟨h.info, h.r0, h.r1, h.may, h.m0, h.m1, h.bl, h.sl, h.br, h.sr, h.ok, hl, fun j => by
    by_cases hj : j < 256
    · exact hb j hj
    · rw [List.getD_eq_getElem?_getD, List.getElem?_eq_none (by omega)]
      simp only [Option.getD_none]
      omega⟩
theorem lines_good {most rate seq shape max : Int} {G : List Int} {Bk St : List RV} {x y : List Int} (h : QGood most rate seq shape max G Bk St x) (hy : QGood 8191 rate seq shape max G Bk St y) : QGood 268435455 rate seq shape max G Bk St (rowQ lineF rate seq max G Bk St y) := by
  refine h.with (rowQ_len _ _ _ _ _ _ _ _) (fun j hj => ?_) (by decide)
  rcases cell_cases h j hj with e | ⟨s, hs, e⟩
  · rw [e]; omega
  · have b := hy.xb j
    rw [e, lineF_eq b.1 b.2 hs]
    exact lineL_range _ s b.1 b.2
theorem quan_good {most rate seq shape max : Int} {G : List Int} {Bk St : List RV} {x y : List Int} (h : QGood most rate seq shape max G Bk St x) (hy : QGood 268435455 rate seq shape max G Bk St y) : QGood 8191 rate seq shape max G Bk St (rowQ quanF rate seq max G Bk St y) := by
  refine h.with (rowQ_len _ _ _ _ _ _ _ _) (fun j hj => ?_) (by decide)
  rcases cell_cases h j hj with e | ⟨s, hs, e⟩
  · rw [e]; omega
  · have b := hy.xb j
    rw [e, quanF_eq b.1 b.2 hs]
    exact quantL_range _ s
/-- What is quantised, made lines, and quantised again, has the same lines again. -/
theorem back_same {most rate seq shape max : Int} {G : List Int} {Bk St : List RV} {x y : List Int} (h : QGood most rate seq shape max G Bk St x) (hy : QGood 8191 rate seq shape max G Bk St y) (j : Nat) (hj : j < 256) :
    (rowQ lineF rate seq max G Bk St (rowQ quanF rate seq max G Bk St (rowQ lineF rate seq max G Bk St y))).getD j 0 = (rowQ lineF rate seq max G Bk St y).getD j 0 := by
  rcases cell_cases h j hj with e | ⟨s, hs, e⟩
  · rw [e, e]
  · have b := hy.xb j
    have c := lineL_range _ s b.1 b.2
    have d := quantL_range (lineL (y.getD j 0) s) s
    rw [e, e, e, lineF_eq b.1 b.2 hs, quanF_eq c.1 c.2 hs, lineF_eq d.1 d.2 hs, back_int _ s b.1 b.2]
/-- No line is nearer. -/
theorem back_near {most rate seq shape max : Int} {G : List Int} {Bk St : List RV} {x z : List Int} (h : QGood most rate seq shape max G Bk St x) (hx : QGood 268435455 rate seq shape max G Bk St x) (hz : QGood 8191 rate seq shape max G Bk St z) (j : Nat) (hj : j < 256) :
    farI (x.getD j 0) ((rowQ lineF rate seq max G Bk St (rowQ quanF rate seq max G Bk St x)).getD j 0) ≤ farI (x.getD j 0) ((rowQ lineF rate seq max G Bk St z).getD j 0) := by
  rcases cell_cases h j hj with e | ⟨s, hs, e⟩
  · rw [e, e]; exact Int.le_refl _
  · have b := hx.xb j
    have c := hz.xb j
    have d := quantL_range (x.getD j 0) s
    rw [e, e, e, quanF_eq b.1 b.2 hs, lineF_eq d.1 d.2 hs, lineF_eq c.1 c.2 hs]
    exact near_int _ s _ c.1 c.2
end Go.Proofs.Ytppfbfiigfjncaa
