/- A line hangs on itself, its book and step: in plain numbers. -/
import Derived.Test.YtppfbfiigfjncaaQuantVal
import Derived.Test.YtppfbfiigfjncaaBandOf
set_option linter.unusedVariables false
set_option linter.unusedSimpArgs false
namespace Go.Proofs.Ytppfbfiigfjncaa
open Go.ChangeShapes Go.WideShapes Go.ChangeAt Go.RowKit
theorem own_cell {most rate seq shape max : Int} {G : List Int} {Bk St : List RV} {x : List Int} (h : QGood most rate seq shape max G Bk St x) (F : Int → Int → Int) {W n b : Nat} (hW : W < winN seq) (hn : n < 256 / winN seq) (hb : InBand rate (seq == 2) n b) :
    (rowQ F rate seq max G Bk St x).getD (32 * W + n) 0 = if (b : Int) < max ∧ sentB ((Bk.getD (grpOf G W) default).l.getD b 0) = true then F (x.getD (32 * W + n) 0) ((St.getD (grpOf G W) default).l.getD b 0) else 0 := by
  have hj : 32 * W + n < 256 := by
    unfold winN at *
    split at hW <;> simp_all <;> omega
  rw [rowQ_at h F St x hj]
  unfold plsQ
  rw [place_of h.offs hW hn hb.1 hb.2.1 hb.2.2]
  have hm := h.m0
  by_cases hbm : b < max.toNat
  · rw [if_pos hbm]
    simp only [valQ, bookOf_get, show ((b : Int) < max) = True by simp; omega, true_and]
  · rw [if_neg hbm, if_neg (fun h => by omega)]
    rfl
theorem ready_less {rate seq shape max : Int} {G : List Int} {Bk St : List RV} {x : List Int} (h : readyQ 8191 rate seq shape max G Bk St x = 0) : readyQ 268435455 rate seq shape max G Bk St x = 0 := by
  have hg := qgood (by decide) h
  exact readyQ_ok (hg.with hg.xl (fun j hj => by have := hg.xb j; omega) (by decide))
theorem of_any (rate : Int) (short : Bool) (x : Int) (w : World) :
    Calls Try.prog 20 #[.int .i64 rate, .bool short, .int .i64 x] w fun e w' => ∃ a b : Int, e = .returned (.tuple #[.int .i64 a, .int .i64 b]) ∧ Below w.heap.size w w' := by
  by_cases h : rate < 0 ∨ 11 < rate
  · exact (of_bad rate short x h w).mono (fun e w' h => ⟨_, _, h.1, by rw [← h.2]; exact Below.refl _ _⟩)
  · by_cases hx : x < 0 ∨ linesOf short ≤ x
    · exact (of_out rate short x (by omega) (by omega) hx w).mono (fun e w' h => ⟨_, _, h.1, h.2⟩)
    · exact (of_ok rate short x (by omega) (by omega) (by omega) (by omega) w).mono (fun e w' ⟨j, _, h, hb⟩ => ⟨_, _, h, hb⟩)
/-- What came in. -/
structure QArg (w : World) (G : List Int) (pg : Option Addr) (Bk : List RV) (qb : Option Addr) (St : List RV) (qs : Option Addr) (x : List Int) (px : Option Addr) : Prop where
  g : IsInts w pg G
  b : IsRows w qb Bk
  s : IsRows w qs St
  x : IsInts w px x
  lb : ∀ j, j < Bk.length → (Bk.getD j default).l.length ≤ maxLen
  ls : ∀ j, j < St.length → (St.getD j default).l.length ≤ maxLen
theorem QArg.keep {w w' : World} {G : List Int} {pg : Option Addr} {Bk : List RV} {qb : Option Addr} {St : List RV} {qs : Option Addr} {x : List Int} {px : Option Addr} (h : QArg w G pg Bk qb St qs x px) (hb : Below w.heap.size w w') : QArg w' G pg Bk qb St qs x px := ⟨h.g.keep hb, h.b.keep hb, h.s.keep hb, h.x.keep hb, h.lb, h.ls⟩
end Go.Proofs.Ytppfbfiigfjncaa
