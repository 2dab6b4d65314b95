/- What is answered hangs on the rows' numbers alone. -/
import Derived.Test.YtppfbfiigfjncaaQOwnP
import Derived.Test.YtppfbfiigfjncaaArgs
set_option linter.unusedVariables false
set_option linter.unusedSimpArgs false
namespace Go.Proofs.Ytppfbfiigfjncaa
open Go.ChangeShapes Go.WideShapes Go.ChangeAt Go.RowKit
theorem rowsOf_eq {A B : List RV} (hl : A.length = B.length) (h : ∀ j, j < B.length → (A.getD j default).l = (B.getD j default).l) : rowsOf A = rowsOf B := by
  unfold rowsOf
  apply List.ext_getElem (by rw [List.length_map, List.length_map, hl])
  intro j h1 h2
  have h1' : j < A.length := by rwa [List.length_map] at h1
  have h2' : j < B.length := by rwa [List.length_map] at h2
  have := h j h2'
  rw [List.getD_eq_getElem?_getD, List.getElem?_eq_getElem h1', List.getD_eq_getElem?_getD, List.getElem?_eq_getElem h2'] at this
  rw [List.getElem_map, List.getElem_map]
  exact this
theorem any_short_rows (m : Int) : ∀ A : List RV, A.any (shortB m) = (rowsOf A).any (fun l => !decide ((l.length : Int) = m))
  | [] => rfl
  | r :: A => by
    show (shortB m r || A.any (shortB m)) = (shortB m r || (rowsOf A).any _)
    rw [any_short_rows m A]
theorem badG_rows (A S : List RV) : badG A S = (List.range (rowsOf A).length).any (fun g => badR ((rowsOf A).getD g []) ((rowsOf S).getD g [])) := by
  unfold badG
  rw [rowsOf_len]
  congr 1
  funext g
  rw [rowsOf_get, rowsOf_get]
theorem manyB_rows (max : Int) (G : List Int) (A S : List RV) : manyB max G A S = (!decide ((rowsOf A).length = G.length) || (!decide ((rowsOf S).length = G.length) || ((rowsOf A).any (fun l => !decide ((l.length : Int) = max)) || (rowsOf S).any (fun l => !decide ((l.length : Int) = max))))) := by
  unfold manyB
  rw [rowsOf_len, rowsOf_len, any_short_rows, any_short_rows]
theorem readyQ_rows {most rate seq shape max : Int} {G : List Int} {A B S T : List RV} {x : List Int} (h1 : rowsOf A = rowsOf B) (h2 : rowsOf S = rowsOf T) : readyQ most rate seq shape max G A S x = readyQ most rate seq shape max G B T x := by
  unfold readyQ
  rw [manyB_rows, badG_rows, h1, h2, ← manyB_rows, ← badG_rows]
theorem quantR_rows {F : Int → Int → Int} {most rate seq shape max : Int} {G : List Int} {A B S T : List RV} {x : List Int} (h1 : rowsOf A = rowsOf B) (h2 : rowsOf S = rowsOf T) : quantR F most rate seq shape max G A S x = quantR F most rate seq shape max G B T x := by
  unfold quantR
  rw [readyQ_rows h1 h2, h1, h2]
/-- What came in, with its room. -/
structure QIn (w : World) (G : List Int) (pg : Option Addr) (cg : Nat) (Bk : List RV) (qb : Option Addr) (St : List RV) (qs : Option Addr) (x : List Int) (px : Option Addr) (cx : Nat) : Prop where
  g : IsArg w pg cg G
  b : IsRows w qb Bk
  s : IsRows w qs St
  x : IsArg w px cx x
  ab : ∀ j, j < Bk.length → IsArg w (Bk.getD j default).q (Bk.getD j default).c (Bk.getD j default).l
  as_ : ∀ j, j < St.length → IsArg w (St.getD j default).q (St.getD j default).c (St.getD j default).l
  nb : ∀ j, j < Bk.length → (Bk.getD j default).l.length * 8 ≤ 140737488355328
  ns : ∀ j, j < St.length → (St.getD j default).l.length * 8 ≤ 140737488355328
theorem QIn.keep {w w' : World} {G : List Int} {pg : Option Addr} {cg : Nat} {Bk : List RV} {qb : Option Addr} {St : List RV} {qs : Option Addr} {x : List Int} {px : Option Addr} {cx : Nat} (h : QIn w G pg cg Bk qb St qs x px cx) (hb : Below w.heap.size w w') : QIn w' G pg cg Bk qb St qs x px cx :=
  ⟨h.g.keep hb, h.b.keep hb, h.s.keep hb, h.x.keep hb, fun j hj => (h.ab j hj).keep hb, fun j hj => (h.as_ j hj).keep hb, h.nb, h.ns⟩
end Go.Proofs.Ytppfbfiigfjncaa
