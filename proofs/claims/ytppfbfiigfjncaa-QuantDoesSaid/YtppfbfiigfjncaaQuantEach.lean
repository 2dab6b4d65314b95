/- quant.each: what it answers. -/
import Derived.Test.YtppfbfiigfjncaaQuantIter
import Derived.Test.YtppfbfiigfjncaaOrderAny
import Derived.Test.YtppfbfiigfjncaaLoopAll3
import Derived.Test.YtppfbfiigfjncaaMakeRow
import Derived.Test.YtppfbfiigfjncaaGrpLt
import Derived.WalkKit
import Derived.OwnWalkIn
import Derived.TacticsInMore
import Derived.LoopNIn
import Derived.LoopIn
set_option linter.unusedVariables false
set_option linter.unusedSimpArgs false
namespace Go.Proofs.Ytppfbfiigfjncaa
open Go.ChangeShapes Go.WideShapes Go.ChangeAt Go.RowKit
attribute [local go_sem] Oper.semAt_some

/-- A row of the call's own whose block lies as it lay. -/
theorem owns_away2 {w w' : World} {base : Nat} {e : TypeId} {size : Nat} {g m c n : Nat} {xs : List Value} (h : w.ownsRow base e size (.slice (some ⟨g, 0, none⟩) m c) n xs) (hb : w'.heap[g]? = w.heap[g]?) : w'.ownsRow base e size (.slice (some ⟨g, 0, none⟩) m c) n xs := by
  refine ⟨h.1, ?_⟩
  rcases h.2 with hn | ⟨g', cap, cur, e', hg, hgg, rest⟩
  · exact .inl hn
  · obtain ⟨rfl, rfl, rfl⟩ : g = g' ∧ m = n ∧ c = cap := by simpa using e'
    exact .inr ⟨g, c, cur, rfl, hg, hb.trans hgg, rest⟩
/-- make, in a fence. -/
theorem makeIn_full {F : Fence} {n : Nat} {w : World} {ops : Array Oper} {rest : List Oper} {o : Oper} {a : Act} {Q : Exit → Act → World → Prop} (hgd : o.guard = none) (l c : Operand)
    (ho : o.op = Op.makeSlice 22 l c) (m : Nat) (hm : m ≤ 4096) (hl : a.eval l = .int .i64 m) (hc : a.eval c = .int .i64 m)
    (h : ∀ w', w.heap.size < w'.heap.size → w'.ownsRow w.heap.size 3 1 (.slice (some ⟨w.heap.size, 0, none⟩) m m) m (List.replicate m (.int .i64 0)) → Below w.heap.size w w' → wpListIn F n Try.prog ops Q rest (a.put o.dst (.slice (some ⟨w.heap.size, 0, none⟩) m m)) w') : wpListIn F n Try.prog ops Q (o :: rest) a w := by
  obtain ⟨i0, hi, hz0, hz1, hz2⟩ := info_parts Try.infoInt
  refine wpListIn_plain hgd fun K hK' => ?_
  obtain ⟨w', hrun, r1, r2⟩ := run_make_full (P := Try.prog) w w.heap.size 22 3 i0 (.int .i64 0) 1 Try.underlying22 hi hz0 hz1 .i64 .i64 m (by rw [hz2]; omega) (by unfold maxLen; omega) (Nat.le_refl _)
  have e := toList_madeCells_one (.int .i64 0) m
  have r1' : w'.ownsRow w.heap.size 3 1 (.slice (some ⟨w.heap.size, 0, none⟩) m m) m (List.replicate m (.int .i64 0)) := by rw [← e]; rw [Nat.mul_one] at r1; exact r1
  unfold Oper.wpIn
  refine ⟨?_, ?_⟩
  · simp [Oper.about, ho]
  · rw [Oper.semAt_plain F _ _ (by rw [ho]; intro c hc'; cases hc')]
    simp [execOp, ho, hl, hc, hrun, Result.andThen]
    exact hK' _ _ (h w' (r1'.lt _ rfl).2 r1' ((Below.refl _ _).grown r2 (Nat.le_refl _) (fun _ e => by cases e)))
/-- Whatever lay below M lies as it lay, but for block B. -/
structure Still (B M : Nat) (w w' : World) : Prop where
  os : w'.os = w.os
  tape : w'.tape = w.tape
  output : w'.output = w.output
  size : w.heap.size ≤ w'.heap.size
  block : ∀ k, k < M → k ≠ B → w'.heap[k]? = w.heap[k]?
theorem Still.refl (B M : Nat) (w : World) : Still B M w w := ⟨rfl, rfl, rfl, Nat.le_refl _, fun _ _ _ => rfl⟩
theorem Still.of {B M : Nat} {w w' : World} (h : Below M w w') : Still B M w w' := ⟨h.os, h.tape, h.output, h.size, fun k hk _ => h.block k hk⟩
theorem Still.trans {B M : Nat} {x y z : World} (h : Still B M x y) (k : Still B M y z) : Still B M x z :=
  ⟨k.os.trans h.os, k.tape.trans h.tape, k.output.trans h.output, Nat.le_trans h.size k.size, fun i hi hn => (k.block i hi hn).trans (h.block i hi hn)⟩
theorem Still.set {B M : Nat} (w : World) (i : Nat) (v : Value) : Still B M w (w.setCell ⟨B, i, none⟩ v) := ⟨rfl, rfl, rfl, by simp [World.setCell], fun k _ hk => Below.heap_setCell _ _ _ _ hk⟩
theorem Still.below {B M n : Nat} {w0 w w' : World} (h : Still B M w w') (hb : Below n w0 w) (h1 : n ≤ M) (h2 : n ≤ B) : Below n w0 w' := hb.trans ⟨h.os, h.tape, h.output, h.size, fun k hk => h.block k (by omega) (by omega)⟩
theorem Still.cell {B M : Nat} {w w' : World} (h : Still B M w w') {a : Addr} (h1 : a.block < M) (h2 : a.block ≠ B) : w'.cell? a = w.cell? a := World.cell?_of_block (h.block _ h1 h2)
/-- A box of whatever type. -/
def Bx (w : World) (b : Nat) (cs : Array Value) : Prop := ∃ t, CellsAt w b t cs
theorem Bx.lt {w : World} {b : Nat} {cs : Array Value} (h : Bx w b cs) : b < w.heap.size := h.choose_spec.lt
theorem Bx.cell {w : World} {b : Nat} {cs : Array Value} (h : Bx w b cs) (j : Nat) : w.cell? ⟨b, j, none⟩ = cs[j]? := h.choose_spec.cell j
theorem Bx.same {w w' : World} {b : Nat} {cs : Array Value} (h : Bx w b cs) (e : w'.heap[b]? = w.heap[b]?) : Bx w' b cs := by
  obtain ⟨t, h⟩ := h
  exact ⟨t, e.trans h⟩
theorem Bx.alloc {w : World} {b : Nat} {cs : Array Value} (h : Bx w b cs) (o : Obj) : Bx (w.alloc o) b cs := by
  obtain ⟨t, h⟩ := h
  exact ⟨t, h.alloc o⟩
theorem Bx.new (w : World) (t : TypeId) (cs : Array Value) {b : Nat} (hb : w.heap.size = b) : Bx (w.alloc (.cells cs t)) b cs := ⟨t, CellsAt.new w t cs hb⟩
def placesV (b : Nat) : Value := .func (.func 60) #[] #[.pointer (some ⟨b + 1, 0, none⟩), .pointer (some ⟨b, 0, none⟩)]
theorem places_ok (rate : Int) (cs : Array Value) (w : World) : Calls Try.prog 44 #[.int .i64 rate, .agg cs] w (fun e w' => e = .returned (placesV w.heap.size) ∧ w' = (w.alloc (.cells #[.int .i64 rate] 3)).alloc (.cells cs 27)) := by
  go_enter Try.func44, Try.ntmps44
  go_wp2
  go_ret
  exact ⟨by unfold placesV; simp, rfl⟩
/-- What holds from round to round. -/
structure IQ (w : World) (M : Nat) (bk st ll : Value) (ff : Value) (R : List Int) (W : World) : Prop where
  k8 : Bx W (w.heap.size + 1) #[bk]
  k9 : Bx W (w.heap.size + 2) #[st]
  k10 : Bx W (w.heap.size + 3) #[ll]
  k11 : Bx W (w.heap.size + 4) #[ff]
  k13 : Bx W M #[.slice (some ⟨w.heap.size + 5, 0, none⟩) 256 256]
  bel : Below w.heap.size w W
  row : W.ownsRow (w.heap.size + 5) 3 1 (.slice (some ⟨w.heap.size + 5, 0, none⟩) 256 256) 256 (R.map (Value.int .i64))
theorem IQ.apart {w : World} {M N : Nat} {bk st ll ff : Value} {R : List Int} {A B : World} (h : IQ w M bk st ll ff R A) (ha : Apart N A B) (hM : M < N) (h5 : w.heap.size + 5 < N) : IQ w M bk st ll ff R B := by
  have hz : w.heap.size + 5 < A.heap.size := (h.row.lt _ rfl).2
  exact ⟨h.k8.same (ha.block _ h.k8.lt (by omega) (by omega)), h.k9.same (ha.block _ h.k9.lt (by omega) (by omega)), h.k10.same (ha.block _ h.k10.lt (by omega) (by omega)), h.k11.same (ha.block _ h.k11.lt (by omega) (by omega)),
    h.k13.same (ha.block _ h.k13.lt (by omega) (by omega)), ha.below h.bel (by omega) (by have := h.bel.size; omega), owns_away2 h.row (ha.block _ hz (by omega) (by omega))⟩
theorem five {w W : World} {c0 c1 c2 c3 c4 : Array Value} {t0 t1 t2 t3 t4 : TypeId} (h : Below (((((w.alloc (.cells c0 t0)).alloc (.cells c1 t1)).alloc (.cells c2 t2)).alloc (.cells c3 t3)).alloc (.cells c4 t4)).heap.size (((((w.alloc (.cells c0 t0)).alloc (.cells c1 t1)).alloc (.cells c2 t2)).alloc (.cells c3 t3)).alloc (.cells c4 t4)) W) :
    (((((w.alloc (.cells c0 t0)).alloc (.cells c1 t1)).alloc (.cells c2 t2)).alloc (.cells c3 t3)).alloc (.cells c4 t4)).heap.size = w.heap.size + 5 ∧ Below w.heap.size w W ∧ Bx W w.heap.size c0 ∧ Bx W (w.heap.size + 1) c1 ∧ Bx W (w.heap.size + 2) c2 ∧ Bx W (w.heap.size + 3) c3 ∧ Bx W (w.heap.size + 4) c4 := by
  obtain ⟨W0, hW0⟩ : ∃ W0, ((((w.alloc (.cells c0 t0)).alloc (.cells c1 t1)).alloc (.cells c2 t2)).alloc (.cells c3 t3)).alloc (.cells c4 t4) = W0 := ⟨_, rfl⟩
  rw [hW0] at h ⊢
  have hz : W0.heap.size = w.heap.size + 5 := by rw [← hW0]; simp
  have k : ∀ {b : Nat} {cs : Array Value}, Bx W0 b cs → Bx W b cs := fun hb => hb.same (h.block _ hb.lt)
  refine ⟨hz, ?_, k ?_, k ?_, k ?_, k ?_, k ?_⟩
  · refine Below.trans ?_ (h.mono (by omega))
    rw [← hW0]
    exact (((((Below.refl _ w).alloc (Nat.le_refl _) _).alloc (by simp) _).alloc (by simp; omega) _).alloc (by simp; omega) _).alloc (by simp; omega) _
  · rw [← hW0]; exact ((((Bx.new w _ _ rfl).alloc _).alloc _).alloc _).alloc _
  · rw [← hW0]; exact (((Bx.new _ _ _ (by simp)).alloc _).alloc _).alloc _
  · rw [← hW0]; exact ((Bx.new _ _ _ (by simp)).alloc _).alloc _
  · rw [← hW0]; exact (Bx.new _ _ _ (by simp)).alloc _
  · rw [← hW0]; exact Bx.new _ _ _ (by simp)
theorem wpIn_value {l n : Nat} {P : Program} {o : Oper} {a : Act} {w w' : World} {v : Value} {K : Act → World → Prop} {Q : Exit → Act → World → Prop} (hd : ∀ c, o.op ≠ .defer c) (hrun : (execOp a.eval o).run P w = .ok (.value v) w') (hk : K (a.put o.dst v) w') : Oper.wpIn (Fence.wide.inRound l) n P o a w K Q := by
  unfold Oper.wpIn
  refine ⟨fun _ _ => trivial, ?_⟩
  rw [show (Fence.wide.inRound l).round = some l from rfl, Oper.semAt_some _ _ _ hd, hrun]
  exact hk
theorem wpIn_skipped {l n : Nat} {P : Program} {o : Oper} {a : Act} {w w' : World} {K : Act → World → Prop} {Q : Exit → Act → World → Prop} (hd : ∀ c, o.op ≠ .defer c) (hrun : (execOp a.eval o).run P w = .ok .skip w') (hk : K (a.put o.dst undef) w') : Oper.wpIn (Fence.wide.inRound l) n P o a w K Q := by
  unfold Oper.wpIn
  refine ⟨fun _ _ => trivial, ?_⟩
  rw [show (Fence.wide.inRound l).round = some l from rfl, Oper.semAt_some _ _ _ hd, hrun]
  exact hk
theorem wpIn_enter {l n : Nat} {P : Program} {o : Oper} {a : Act} {w : World} {f : FuncId} {args : Array Value} {K : Act → World → Prop} {Q : Exit → Act → World → Prop} (hd : ∀ c, o.op ≠ .defer c) (hrun : (execOp a.eval o).run P w = .ok (.enter f args) w) (hc : CallsIn (Fence.wide.inRound l) (n - 1) P f args w (fun e w'' => ∃ v, e = .returned v ∧ K (a.put o.dst v) w'')) : Oper.wpIn (Fence.wide.inRound l) n P o a w K Q := by
  unfold Oper.wpIn
  refine ⟨fun _ _ => trivial, ?_⟩
  rw [show (Fence.wide.inRound l).round = some l from rfl, Oper.semAt_some _ _ _ hd, hrun, Oper.uponIn_enter]
  refine ⟨fun h => (by cases h), hc.mono ?_⟩
  rintro e w'' ⟨v, rfl, hk⟩
  exact hk
def REach (R : List Int) (w : World) (e : Ending) (w' : World) : Prop := ∃ v, e = .returned v ∧ w'.ownsRow w.heap.size 3 1 v 256 (R.map (Value.int .i64)) ∧ Below w.heap.size w w'
set_option maxRecDepth 100000 in
set_option maxHeartbeats 4000000 in
theorem each_ok (fp : Nat) (F Er : Int → Int → Int) (hF : ∀ q s W, Calls Try.prog fp #[.int .i64 q, .int .i64 s] W (fun e w' => e = .returned (.tuple #[.int .i64 (F q s), .int .i64 (Er q s)]) ∧ Below W.heap.size W w'))
    (hEn : ∀ args w, (callFunc fp args).run Try.prog w = .ok (.enter fp args) w)
    (rate seq shape max : Int) (h0 : 0 ≤ rate) (h1 : rate ≤ 11) (G : List Int) (pg : Option Addr) (cg : Nat) (hGl : G.length ≤ 100) (hm : mayB 11 seq shape max G = true) (mx : Nat) (hmax : max = mx) (hmx : mx < (bandL rate (seq == 2)).length)
    (Bk St : List RV) (qb qs : Option Addr) (cb cs : Nat) (hbl : Bk.length = G.length) (hsl : St.length = G.length) (hbr : ∀ g, g < G.length → (Bk.getD g default).l.length = mx) (hsr : ∀ g, g < G.length → (St.getD g default).l.length = mx)
    (L : List Int) (ql : Option Addr) (cl : Nat) (hL : L.length = 256) (w : World) (hG : IsInts w pg G) (hB : IsRows w qb Bk) (hS : IsRows w qs St) (hLI : IsInts w ql L) :
    Calls Try.prog 25 #[.int .i64 rate, .agg (infoC seq shape max pg G.length cg), .slice qb Bk.length cb, .slice qs St.length cs, .slice ql 256 cl, .func (.func fp) #[] #[]] w
      (REach (runQ F (rowsOf Bk) (rowsOf St) L (allPl (bandL rate (seq == 2)) G mx (winN seq)) (List.replicate 256 0)) w) := by
  obtain ⟨Rf, hRf⟩ : ∃ R, runQ F (rowsOf Bk) (rowsOf St) L (allPl (bandL rate (seq == 2)) G mx (winN seq)) (List.replicate 256 0) = R := ⟨_, rfl⟩
  rw [hRf]
  have HRF := Lib.hid hRf
  clear hRf
  subst hmax
  rw [hbl, hsl]
  have HBL := Lib.hid hbl
  have HSL := Lib.hid hsl
  have HBR := Lib.hid hbr
  have HSR := Lib.hid hsr
  have HBk := Lib.hid hB
  have HSt := Lib.hid hS
  have HLI := Lib.hid hLI
  have HLL := Lib.hid hL
  have HF := Lib.hid hF
  have HG := Lib.hid hG
  have HE := Lib.hid hEn
  clear hbl hsl hbr hsr hB hS hLI hL hF hG hEn
  refine (callsIn_wide (n := 3)).1 ?_
  refine callsIn_of_wp_marks Try.func25 rfl trivial ?_ rfl
  simp only [Try.ntmps25, List.size_toArray, List.length_cons, List.length_nil, Nat.reduceAdd, Nat.reduceSub, Array.replicate_succ, Array.replicate_zero, List.push_toArray, List.append_toArray, List.nil_append, List.cons_append]
  gi_wp2_with (gi_at_make; refine makeIn_full rfl _ _ rfl 256 (by omega) rfl rfl ?_; intro W1 hlt1 hO1 hB1; obtain ⟨hz0, hB01, B7, B8, B9, B10, B11⟩ := five hB1; have kx0 := fun o => (B7.alloc o).cell 0; have kx1 := fun o => (B7.alloc o).cell 1; have kx2 := fun o => (B7.alloc o).cell 2; have kx3 := fun o => (B7.alloc o).cell 3; simp only [infoC, List.getElem?_toArray, List.getElem?_cons_zero, List.getElem?_cons_succ] at kx0 kx1 kx2 kx3; rw [hz0] at hlt1 hO1; have HO1 := Lib.hid hO1; have HB8 := Lib.hid B8; have HB9 := Lib.hid B9; have HB10 := Lib.hid B10; have HB11 := Lib.hid B11; have HB01 := Lib.hid hB01; clear hB1 hO1 B7 B8 B9 B10 B11 hB01)
  refine ⟨trivial, ?_⟩
  refine (callsIn_wide.2 (places_ok rate _ _)).mono ?_
  rintro e w1 ⟨rfl, rfl⟩
  simp only [World.size_alloc, placesV]
  obtain ⟨W2, hW2⟩ : ∃ W2, ((W1.alloc (.cells #[.slice (some ⟨w.heap.size + 5, 0, none⟩) 256 256] 22)).alloc (.cells #[.int .i64 rate] 3)).alloc (.cells (infoC seq shape mx pg G.length cg) 27) = W2 := ⟨_, rfl⟩
  have hsz : W2.heap.size = W1.heap.size + 3 := by rw [← hW2]; simp
  have hB12 : Below W1.heap.size W1 W2 := by rw [← hW2]; exact (((Below.refl _ W1).alloc (Nat.le_refl _) _).alloc (by simp) _).alloc (by simp; omega) _
  have hb13 : Bx W2 W1.heap.size #[.slice (some ⟨w.heap.size + 5, 0, none⟩) 256 256] := by rw [← hW2]; exact ((Bx.new _ _ _ rfl).alloc _).alloc _
  have hba : W2.cell? ⟨W1.heap.size + 1, 0, none⟩ = some (.int .i64 rate) := by rw [← hW2]; exact ((Bx.new _ _ _ (by simp)).alloc _).cell 0
  have hbb : CellsAt W2 (W1.heap.size + 1 + 1) 27 (infoC seq shape mx pg G.length cg) := by rw [← hW2]; exact CellsAt.new _ _ _ (by simp)
  have hcarry : ∀ {b : Nat} {cs : Array Value}, Bx W1 b cs → Bx W2 b cs := fun h => h.same (hB12.block _ h.lt)
  have hB02 : Below w.heap.size w W2 := HB01.out.trans (hB12.mono (by omega))
  have hO2 : W2.ownsRow (w.heap.size + 5) 3 1 (.slice (some ⟨w.heap.size + 5, 0, none⟩) 256 256) 256 ((List.replicate 256 (0 : Int)).map (Value.int .i64)) := by
    rw [List.map_replicate]
    exact owns_away2 HO1.out (hB12.block _ hlt1)
  have IQ0 : IQ w W1.heap.size (.slice qb G.length cb) (.slice qs G.length cs) (.slice ql 256 cl) (.func (.func fp) #[] #[]) (List.replicate 256 0) W2 := ⟨hcarry HB8.out, hcarry HB9.out, hcarry HB10.out, hcarry HB11.out, hb13, hB02, hO2⟩
  have hGB : IntsB W2 pg G 0 (w.heap.size + 5) := by
    have h := HG.out.inB.keep hB02 (Nat.le_refl _)
    refine ⟨by omega, ?_⟩
    rcases h.2 with h | ⟨b, off, hp, a1, a2, hc⟩
    · exact .inl h
    · exact .inr ⟨b, off, hp, a1, by omega, hc⟩
  have hseq := places_all rate seq shape mx h0 h1 G pg cg W2 (W1.heap.size + 1) (w.heap.size + 5) (by omega) (by omega) hGB hGl hm mx rfl _ rfl hmx _ rfl hba hbb
  have HOQ := Lib.hid (offsQ rate seq h0 h1 hmx)
  obtain ⟨offs, hoffs⟩ : ∃ o, bandL rate (seq == 2) = o := ⟨_, rfl⟩
  rw [hoffs] at hseq HOQ HRF
  obtain ⟨many, hmany⟩ : ∃ o, winN seq = o := ⟨_, rfl⟩
  have HGR := Lib.hid (fun (v : Nat) (hv : v < winN seq) => grp_lt hm hv)
  have HMN := Lib.hid hmany
  rw [hmany] at hseq HOQ HRF
  obtain ⟨ps, hps⟩ : ∃ l, allPl offs G mx many = l := ⟨_, rfl⟩
  have HPM := Lib.hid (fun (x : Pl) (hx : x ∈ allPl offs G mx many) => HOQ.out.place hx)
  rw [hps] at hseq HRF HPM
  have HPS := Lib.hid hps
  clear HB01 HO1 HB8 HB9 HB10 HB11 HG kx0 kx1 kx2 kx3 hcarry hba hbb hGB hps hoffs hmany hmx h0 h1 hm hGl hO2 hB02 hb13
  gi_wp2_with fail
  rw [hW2]
  clear hW2
  refine range_all3 (gf := 60) (lb := #[.pointer (some ⟨W1.heap.size + 1 + 1, 0, none⟩), .pointer (some ⟨W1.heap.size + 1, 0, none⟩)]) rfl (enters_of Try.func60 (by kernel_rfl) rfl) hseq
    ?hK (fun _ => rfl) (fun pre W => IQ w W1.heap.size (.slice qb G.length cb) (.slice qs G.length cs) (.slice ql 256 cl) (.func (.func fp) #[] #[]) (runQ F (rowsOf Bk) (rowsOf St) L pre (List.replicate 256 0)) W) ?hI ?hPx ?h0 ?hround ?hdone
  case hK =>
    intro A A' B B' g1 g2 g3 g k k1 k2 k3
    exact (g3 k k3).symm.symm.trans ((g k (by omega) k2 k3).trans (g1 k k3))
  case hI =>
    intro s A B hi hz ha
    exact hi.apart ha (by omega) (by omega)
  case hPx =>
    intro s x A B hx hz ha
    exact hx
  case h0 => exact IQ0
  case hround =>
    rintro l pre x W ob hA2 HI hx K' hK'
    have HI0 := HI.bel
    have HK := Lib.hid hK'
    clear hK'
    dsimp only [encP]
    gi_wp2
    have hWz : W.heap.size ≤ (W.alloc (Obj.cells #[.int .i64 x.g, .int .i64 x.b] 69)).heap.size := by simp
    refine HK.out _ _ hWz ((Below.refl _ W).alloc (Nat.le_refl _) _ |>.block _ (by omega)) ((Below.refl _ W).alloc (Nat.le_refl _) _ |>.block _ (by omega)) ?_
    clear HK K'
    obtain ⟨V, hV⟩ : ∃ V, (W.alloc (Obj.cells #[.int .i64 x.g, .int .i64 x.b] 69)).putObj (W2.heap.size + 1) ob = V := ⟨_, rfl⟩
    obtain ⟨V0, hV0⟩ : ∃ V0, W.putObj (W2.heap.size + 1) ob = V0 := ⟨_, rfl⟩
    rw [hV, hV0]
    have hVz : V.heap.size = W.heap.size + 1 := by rw [← hV]; simp
    have XP := Lib.hid (show CellsAt V W.heap.size 69 #[.int .i64 x.g, .int .i64 x.b] by rw [← hV]; exact (World.putObj_heap_other (by omega)).trans (CellsAt.new W _ _ rfl))
    have HIV := Lib.hid (show IQ w W1.heap.size (.slice qb G.length cb) (.slice qs G.length cs) (.slice ql 256 cl) (.func (.func fp) #[] #[]) (runQ F (rowsOf Bk) (rowsOf St) L pre (List.replicate 256 0)) V by
      refine HI.apart (N := W2.heap.size) ?_ (by omega) (by omega)
      rw [← hV]
      have h1 := Apart.of_below (L := W2.heap.size) ((Below.refl W.heap.size W).alloc (Nat.le_refl _) (Obj.cells #[.int .i64 x.g, .int .i64 x.b] 69))
      have h2 := Apart.put1 (L := W2.heap.size) (W.alloc (Obj.cells #[.int .i64 x.g, .int .i64 x.b] 69)) ob
      exact ⟨h2.os.trans h1.os, h2.tape.trans h1.tape, h2.output.trans h1.output, Nat.le_trans h1.size h2.size, fun k k1 k2 k3 => (h2.block k (by have := h1.size; omega) k2 k3).trans (h1.block k k1 k2 k3)⟩)
    have HPO := Lib.hid (fun (a' : Act) (V' : World) (hs : Still (w.heap.size + 5) W.heap.size V V') (hi : IQ w W1.heap.size (.slice qb G.length cb) (.slice qs G.length cs) (.slice ql 256 cl) (.func (.func fp) #[] #[]) (runQ F (rowsOf Bk) (rowsOf St) L (pre ++ [x]) (List.replicate 256 0)) V') =>
      show allPost W2.heap.size (KP (w.heap.size + 5) W2.heap.size) (fun pre W => IQ w W1.heap.size (.slice qb G.length cb) (.slice qs G.length cs) (.slice ql 256 cl) (.func (.func fp) #[] #[]) (runQ F (rowsOf Bk) (rowsOf St) L pre (List.replicate 256 0)) W) (pre ++ [x]) V0 .normal a' V' from by
        have hk : ∀ k, k < W.heap.size → k ≠ w.heap.size + 5 → V'.heap[k]? = V0.heap[k]? := by
          intro k k1 k2
          refine (hs.block k k1 k2).trans ?_
          rw [← hV, ← hV0]
          by_cases e : k = W2.heap.size + 1
          · subst e; rw [World.putObj_heap_same (by first | omega | (rw [World.size_alloc]; omega)), World.putObj_heap_same (by first | omega | (rw [World.size_alloc]; omega))]
          · rw [World.putObj_heap_other (fun h => e h), World.putObj_heap_other (fun h => e h)]
            exact (Below.refl _ W).alloc (Nat.le_refl _) _ |>.block _ k1
        have hz0 : V0.heap.size = W.heap.size := by rw [← hV0]; simp
        exact ⟨⟨by have := hs.size; omega, hk _ (by omega) (by omega), hk _ (by omega) (by omega)⟩, fun k k1 k2 k3 => hk k (by omega) k2, hi⟩)
    clear hV hV0
    obtain ⟨Q, hQ⟩ : ∃ Q, allPost W2.heap.size (KP (w.heap.size + 5) W2.heap.size) (fun pre W => IQ w W1.heap.size (.slice qb G.length cb) (.slice qs G.length cs) (.slice ql 256 cl) (.func (.func fp) #[] #[]) (runQ F (rowsOf Bk) (rowsOf St) L pre (List.replicate 256 0)) W) (pre ++ [x]) V0 = Q := ⟨_, rfl⟩
    rw [hQ] at HPO ⊢
    obtain ⟨Rn, hRn⟩ : ∃ Rn, runQ F (rowsOf Bk) (rowsOf St) L (pre ++ [x]) (List.replicate 256 0) = Rn := ⟨_, rfl⟩
    obtain ⟨Ro, hRo⟩ : ∃ Ro, runQ F (rowsOf Bk) (rowsOf St) L pre (List.replicate 256 0) = Ro := ⟨_, rfl⟩
    rw [hRn] at HPO
    rw [hRo] at HIV
    have HSN := Lib.hid (show Rn = stepQ F (rowsOf Bk) (rowsOf St) L Ro x by rw [← hRn, ← hRo]; exact runQ_snoc _ _ _ _ _ _ _)
    have HRL := Lib.hid (show Ro.length = 256 by rw [← hRo, runQ_len, List.length_replicate])
    obtain ⟨hn, hb, wi, hwi, hg⟩ := HPM.out x hx
    have hgl : x.g < G.length := by rw [hg]; exact HGR.out wi (by rw [HMN.out]; exact hwi)
    have hpn : w.heap.size + 5 < W.heap.size := by omega
    clear hQ hRn hRo HPM HGR HMN HPS HRF IQ0 hseq HI hx hg HOQ hB12 hz0 hA2 hWz
    obtain ⟨p, hp⟩ : ∃ p, W.heap.size = p := ⟨_, rfl⟩
    rw [hp] at hVz XP HPO hpn ⊢
    clear hp
    have hbk : Bk.length = G.length := HBL.out
    have hst : St.length = G.length := HSL.out
    have hbV := HIV.out.bel
    have HB1 := (HBk.out.keep hbV).at (show x.g < Bk.length by omega)
    obtain ⟨b1, o1, rfl, hb1, c1, i1⟩ := HB1
    have hr1 := HBR.out x.g hgl
    obtain ⟨rq, rc, rl, hRV⟩ : ∃ q c l, Bk.getD x.g default = ⟨q, c, l⟩ := ⟨_, _, _, rfl⟩
    rw [hRV] at c1 i1 hr1
    dsimp only at c1 i1 hr1
    obtain ⟨b2, o2, rfl, hb2, c2⟩ := i1.at (show x.b < rl.length by omega)
    have c2 := c2 x.b (by omega)
    rw [hr1] at c1
    have HKB := Lib.hid (show bookOf (rowsOf Bk) x = rl.getD x.b 0 by unfold bookOf; rw [rowsOf_get, hRV])
    obtain ⟨kk, hkk⟩ : ∃ k, rl.getD x.b 0 = k := ⟨_, rfl⟩
    rw [hkk] at c2 HKB
    refine wpIn_block ?_
    refine wpIn_seq_k (fun K1 HK1 => ?_)
    have HK1 := Lib.hid HK1
    have d8 := HIV.out.k8.cell 0
    have f0 := XP.out.cell 0
    have f1 := XP.out.cell 1
    simp only [List.getElem?_toArray, List.getElem?_cons_zero, List.getElem?_cons_succ] at d8 f0 f1
    obtain ⟨U, hU⟩ : ∃ U, V.drew = U := ⟨_, rfl⟩
    have e8 : U.cell? ⟨w.heap.size + 1, 0, none⟩ = some (.slice (some ⟨b1, o1, none⟩) G.length cb) := by rw [← hU]; exact d8
    have e0 : U.cell? ⟨p, 0, none⟩ = some (.int .i64 x.g) := by rw [← hU]; exact f0
    have e1 : U.cell? ⟨p, 1, none⟩ = some (.int .i64 x.b) := by rw [← hU]; exact f1
    have e2 : U.cell? ⟨b1, o1 + x.g, none⟩ = some (.slice (some ⟨b2, o2, none⟩) mx rc) := by rw [← hU]; exact c1
    have e3 : U.cell? ⟨b2, o2 + x.b, none⟩ = some (.int .i64 kk) := by rw [← hU]; exact c2
    refine region_orders (by kernel_rfl)
      [(8, .pointer (some ⟨w.heap.size + 1, 0, none⟩)), (9, .pointer (some ⟨w.heap.size + 2, 0, none⟩)), (10, .pointer (some ⟨w.heap.size + 3, 0, none⟩)), (11, .pointer (some ⟨w.heap.size + 4, 0, none⟩)), (13, .pointer (some ⟨W1.heap.size, 0, none⟩)), (14, .int .i64 x.n), (15, .pointer (some ⟨p, 0, none⟩))]
      (fun j => match j with | 0 => .slice (some ⟨b1, o1, none⟩) G.length cb | 1 => .pointer (some ⟨p, 0, none⟩) | 2 => .int .i64 x.g | 3 => .pointer (some ⟨b1, o1 + x.g, none⟩) | 4 => .slice (some ⟨b2, o2, none⟩) mx rc | 5 => .pointer (some ⟨p, 1, none⟩) | 6 => .int .i64 x.b | 7 => .pointer (some ⟨b2, o2 + x.b, none⟩) | 8 => .int .i64 kk | _ => .bool (sentB kk))
      (fun j => match j with | 2 => [1] | 3 => [0, 2] | 4 => [3] | 6 => [5] | 7 => [4, 6] | 8 => [7] | 9 => [8] | _ => [])
      0 (of_decide_eq_true rfl) 54 rfl (by kernel_rfl) ?hbase (fun _ w' => w' = U) hU ?hop ?hend
    case hbase =>
      intro q hq
      simp only [List.mem_cons, List.not_mem_nil, or_false] at hq
      rcases hq with rfl | rfl | rfl | rfl | rfl | rfl | rfl <;> rfl
    case hop =>
      intro i hi a w' b hbs hdp hw hst' K hK
      obtain rfl : w' = U := hw
      have b8 := hbs _ (.head _)
      have b15 := hbs (15, .pointer (some ⟨p, 0, none⟩)) (by simp)
      dsimp only at b8 b15
      clear hbs hst'
      match i, hi with
      | 0, _ =>
        refine wpIn_value (v := (.slice (some ⟨b1, o1, none⟩) G.length cb)) (fun c h => by cases h) ?_ (hK _ rfl)
        clear hdp hK
        generalize a.eval = ρ at *
        go_simp
      | 1, _ =>
        refine wpIn_value (v := (.pointer (some ⟨p, 0, none⟩))) (fun c h => by cases h) ?_ (hK _ rfl)
        clear hdp hK
        generalize a.eval = ρ at *
        go_simp
      | 2, _ =>
        have y1 : a.eval (.tmp 23) = (.pointer (some ⟨p, 0, none⟩)) := hdp 1 (by simp) 23 rfl
        refine wpIn_value (v := (.int .i64 x.g)) (fun c h => by cases h) ?_ (hK _ rfl)
        clear hdp hK
        generalize a.eval = ρ at *
        go_simp
      | 3, _ =>
        have y0 : a.eval (.tmp 22) = (.slice (some ⟨b1, o1, none⟩) G.length cb) := hdp 0 (by simp) 22 rfl
        have y2 : a.eval (.tmp 24) = (.int .i64 x.g) := hdp 2 (by simp) 24 rfl
        refine wpIn_value (v := (.pointer (some ⟨b1, o1 + x.g, none⟩))) (fun c h => by cases h) ?_ (hK _ rfl)
        clear hdp hK
        generalize a.eval = ρ at *
        go_simp
      | 4, _ =>
        have y3 : a.eval (.tmp 25) = (.pointer (some ⟨b1, o1 + x.g, none⟩)) := hdp 3 (by simp) 25 rfl
        refine wpIn_value (v := (.slice (some ⟨b2, o2, none⟩) mx rc)) (fun c h => by cases h) ?_ (hK _ rfl)
        clear hdp hK
        generalize a.eval = ρ at *
        go_simp
      | 5, _ =>
        refine wpIn_value (v := (.pointer (some ⟨p, 1, none⟩))) (fun c h => by cases h) ?_ (hK _ rfl)
        clear hdp hK
        generalize a.eval = ρ at *
        go_simp
      | 6, _ =>
        have y5 : a.eval (.tmp 27) = (.pointer (some ⟨p, 1, none⟩)) := hdp 5 (by simp) 27 rfl
        refine wpIn_value (v := (.int .i64 x.b)) (fun c h => by cases h) ?_ (hK _ rfl)
        clear hdp hK
        generalize a.eval = ρ at *
        go_simp
      | 7, _ =>
        have y4 : a.eval (.tmp 26) = (.slice (some ⟨b2, o2, none⟩) mx rc) := hdp 4 (by simp) 26 rfl
        have y6 : a.eval (.tmp 28) = (.int .i64 x.b) := hdp 6 (by simp) 28 rfl
        refine wpIn_value (v := (.pointer (some ⟨b2, o2 + x.b, none⟩))) (fun c h => by cases h) ?_ (hK _ rfl)
        clear hdp hK
        generalize a.eval = ρ at *
        go_simp
      | 8, _ =>
        have y7 : a.eval (.tmp 29) = (.pointer (some ⟨b2, o2 + x.b, none⟩)) := hdp 7 (by simp) 29 rfl
        refine wpIn_value (v := (.int .i64 kk)) (fun c h => by cases h) ?_ (hK _ rfl)
        clear hdp hK
        generalize a.eval = ρ at *
        go_simp
      | 9, _ =>
        have y8 : a.eval (.tmp 30) = (.int .i64 kk) := hdp 8 (by simp) 30 rfl
        refine wpIn_enter (f := 42) (args := #[.int .i64 kk]) (fun c h => by cases h) ?_ ((CallsIn.inRound l (callsIn_wide.2 (q_sent kk w'))).mono ?_)
        · clear hdp hK
          have en := enters_of Try.func42 (by kernel_rfl) rfl
          have yf : a.eval (.func 42) = .func (.func 42) #[] #[] := rfl
          generalize a.eval = ρ at *
          go_simp
        · rintro e w'' ⟨rfl, rfl⟩
          exact ⟨_, rfl, hK _ rfl⟩
      | i + 10, h => exact absurd h (by simp)
    case hend =>
      intro a w' hsz' hdf hbs hys hw
      obtain rfl : w' = U := hw
      show K1 a w'
      refine HK1.out _ _ ?_
      clear HK1
      have hz31 : a.eval (.tmp 31) = .bool (sentB kk) := hys 9 (by simp) 31 rfl
      have HIU := Lib.hid (show IQ w W1.heap.size (.slice (some ⟨b1, o1, none⟩) G.length cb) (.slice qs G.length cs) (.slice ql 256 cl) (.func (.func fp) #[] #[]) Ro w' by rw [← hU]; exact ⟨HIV.out.k8, HIV.out.k9, HIV.out.k10, HIV.out.k11, HIV.out.k13, HIV.out.bel.drew, HIV.out.row⟩)
      have hSU : Still (w.heap.size + 5) p V w' := by rw [← hU]; exact ⟨rfl, rfl, rfl, Nat.le_refl _, fun _ _ _ => rfl⟩
      have hUz : w'.heap.size = p + 1 := by rw [← hU]; exact hVz
      cases hsn : sentB kk with
      | false =>
        rw [hsn] at hz31
        refine wpIn_cond_false hz31 (wpIn_skip ?_)
        refine HPO.out a w' hSU ?_
        rw [HSN.out]
        unfold stepQ
        rw [HKB.out, hsn]
        exact HIU.out
      | true =>
        rw [hsn] at hz31
        refine wpIn_cond_true hz31 ?_
        have hbU := HIU.out.bel
        obtain ⟨b3, o3, rfl, hb3, c3⟩ := HLI.out.at (show x.n < L.length by rw [HLL.out]; omega)
        have c3 := (hbU.cell (p := ⟨b3, _, none⟩) hb3).trans (c3 x.n (by rw [HLL.out]; omega))
        obtain ⟨b4, o4, rfl, hb4, c4, i4⟩ := HSt.out.at (show x.g < St.length by omega)
        have c4 := (hbU.cell (p := ⟨b4, _, none⟩) hb4).trans c4
        have hr4 := HSR.out x.g hgl
        obtain ⟨sq, sc, sl, hSV⟩ : ∃ q c l, St.getD x.g default = ⟨q, c, l⟩ := ⟨_, _, _, rfl⟩
        rw [hSV] at c4 i4 hr4
        dsimp only at c4 i4 hr4
        obtain ⟨b5, o5, rfl, hb5, c5⟩ := i4.at (show x.b < sl.length by omega)
        have c5 := (hbU.cell (p := ⟨b5, _, none⟩) hb5).trans (c5 x.b (by omega))
        have hbz := hbU.size
        rw [hr4] at c4
        have HSK := Lib.hid (show bookOf (rowsOf St) x = sl.getD x.b 0 by unfold bookOf; rw [rowsOf_get, hSV])
        obtain ⟨sv, hsv⟩ : ∃ k, sl.getD x.b 0 = k := ⟨_, rfl⟩
        obtain ⟨lv, hlv⟩ : ∃ k, L.getD x.n 0 = k := ⟨_, rfl⟩
        rw [hsv] at c5 HSK
        rw [hlv] at c3
        have HRN := Lib.hid (show Rn = Ro.set x.n (F lv sv) by rw [HSN.out]; unfold stepQ; rw [HKB.out, HSK.out, hsn, hlv]; rfl)
        have d9 := HIU.out.k9.cell 0
        have d10 := HIU.out.k10.cell 0
        have d11 := HIU.out.k11.cell 0
        have d13 := HIU.out.k13.cell 0
        simp only [List.getElem?_toArray, List.getElem?_cons_zero, List.getElem?_cons_succ] at d9 d10 d11 d13
        have hM1 := HIU.out.k13.lt
        have HC := Lib.hid (fun (W' : World) (hS : Still (w.heap.size + 5) w'.heap.size w'.drew W') => show (W'.cell? ⟨w.heap.size + 2, 0, none⟩ = some (.slice (some ⟨b4, o4, none⟩) G.length cs) ∧ W'.cell? ⟨w.heap.size + 3, 0, none⟩ = some (.slice (some ⟨b3, o3, none⟩) 256 cl) ∧ W'.cell? ⟨w.heap.size + 4, 0, none⟩ = some (.func (.func fp) #[] #[]) ∧ W'.cell? ⟨W1.heap.size, 0, none⟩ = some (.slice (some ⟨w.heap.size + 5, 0, none⟩) 256 256)) ∧
            (W'.cell? ⟨p, 0, none⟩ = some (.int .i64 x.g) ∧ W'.cell? ⟨p, 1, none⟩ = some (.int .i64 x.b) ∧ W'.cell? ⟨b3, o3 + x.n, none⟩ = some (.int .i64 lv) ∧ W'.cell? ⟨b4, o4 + x.g, none⟩ = some (.slice (some ⟨b5, o5, none⟩) mx sc) ∧ W'.cell? ⟨b5, o5 + x.b, none⟩ = some (.int .i64 sv)) from
          ⟨⟨(hS.cell (a := ⟨_, _, none⟩) (by show _ + 2 < _; omega) (by show _ + 2 ≠ _; omega)).trans d9, (hS.cell (a := ⟨_, _, none⟩) (by show _ + 3 < _; omega) (by show _ + 3 ≠ _; omega)).trans d10, (hS.cell (a := ⟨_, _, none⟩) (by show _ + 4 < _; omega) (by show _ + 4 ≠ _; omega)).trans d11, (hS.cell (a := ⟨_, _, none⟩) hM1 (by show W1.heap.size ≠ _; omega)).trans d13⟩,
           (hS.cell (a := ⟨_, _, none⟩) (by show p < _; omega) (by show p ≠ _; omega)).trans e0, (hS.cell (a := ⟨_, _, none⟩) (by show p < _; omega) (by show p ≠ _; omega)).trans e1, (hS.cell (a := ⟨_, _, none⟩) (by show b3 < _; omega) (by show b3 ≠ _; omega)).trans c3, (hS.cell (a := ⟨_, _, none⟩) (by show b4 < _; omega) (by show b4 ≠ _; omega)).trans c4, (hS.cell (a := ⟨_, _, none⟩) (by show b5 < _; omega) (by show b5 ≠ _; omega)).trans c5⟩)
        have hOU := HIU.out.row
        clear c3 c4 c5 i4 d9 d10 d11 d13 e8 e0 e1 e2 e3 c1 c2 i1 f0 f1 d8 hys hz31 hsv hlv hSV hRV hkk
        refine region_orders (by kernel_rfl)
          [(8, .pointer (some ⟨w.heap.size + 1, 0, none⟩)), (9, .pointer (some ⟨w.heap.size + 2, 0, none⟩)), (10, .pointer (some ⟨w.heap.size + 3, 0, none⟩)), (11, .pointer (some ⟨w.heap.size + 4, 0, none⟩)), (13, .pointer (some ⟨W1.heap.size, 0, none⟩)), (14, .int .i64 x.n), (15, .pointer (some ⟨p, 0, none⟩))]
          (fun j => match j with | 0 => (.slice (some ⟨w.heap.size + 5, 0, none⟩) 256 256) | 1 => (.int .i64 x.n) | 2 => (.func (.func fp) #[] #[]) | 3 => (.slice (some ⟨b3, o3, none⟩) 256 cl) | 4 => (.int .i64 x.n) | 5 => (.pointer (some ⟨b3, o3 + x.n, none⟩)) | 6 => (.int .i64 lv) | 7 => (.slice (some ⟨b4, o4, none⟩) G.length cs) | 8 => (.pointer (some ⟨p, 0, none⟩)) | 9 => (.int .i64 x.g) | 10 => (.pointer (some ⟨b4, o4 + x.g, none⟩)) | 11 => (.slice (some ⟨b5, o5, none⟩) mx sc) | 12 => (.pointer (some ⟨p, 1, none⟩)) | 13 => (.int .i64 x.b) | 14 => (.pointer (some ⟨b5, o5 + x.b, none⟩)) | 15 => (.int .i64 sv) | 16 => (.tuple #[.int .i64 (F lv sv), .int .i64 (Er lv sv)]) | 17 => (.tuple #[.int .i64 (F lv sv), .int .i64 (Er lv sv)]) | 18 => (.int .i64 (F lv sv)) | 19 => (.int .i64 (Er lv sv)) | 20 => (.pointer (some ⟨w.heap.size + 5, x.n, none⟩)) | _ => undef)
          (fun j => match j with | 5 => [3, 4] | 6 => [5] | 9 => [8] | 10 => [7, 9] | 11 => [10] | 13 => [12] | 14 => [11, 13] | 15 => [14] | 16 => [2, 6, 15] | 17 => [16] | 18 => [17] | 19 => [17] | 20 => [0, 1] | 21 => [18, 20] | _ => [])
          21 (of_decide_eq_true rfl) 54 hsz' (by kernel_rfl) hbs (fun b W' => Still (w.heap.size + 5) w'.heap.size w'.drew W' ∧ W'.ownsRow (w.heap.size + 5) 3 1 (.slice (some ⟨w.heap.size + 5, 0, none⟩) 256 256) 256 ((if b = true then Rn else Ro).map (Value.int .i64))) ⟨Still.refl _ _ _, hOU⟩ ?hop6 ?hend6
        case hop6 =>
          clear hbs
          intro i hi a W' b hbs hdp hw hst' K hK
          obtain ⟨hS, hO⟩ := hw
          obtain ⟨⟨z2, z3, z4, zM⟩, z5, z6, z7, z8, z9⟩ := HC.out W' hS
          have b9 := hbs (9, .pointer (some ⟨w.heap.size + 2, 0, none⟩)) (by simp)
          have b10 := hbs (10, .pointer (some ⟨w.heap.size + 3, 0, none⟩)) (by simp)
          have b11 := hbs (11, .pointer (some ⟨w.heap.size + 4, 0, none⟩)) (by simp)
          have b13 := hbs (13, .pointer (some ⟨W1.heap.size, 0, none⟩)) (by simp)
          have b14 := hbs (14, .int .i64 x.n) (by simp)
          have b15 := hbs (15, .pointer (some ⟨p, 0, none⟩)) (by simp)
          dsimp only at b9 b10 b11 b13 b14 b15
          clear hbs
          have hn1 : ((256 : Int) ≤ (x.n : Int)) = False := by simp; omega
          have hn2 : ((x.n : Int) < 256) = True := by simp; omega
          match i, hi with
          | 0, _ =>
            refine wpIn_value (v := (.slice (some ⟨w.heap.size + 5, 0, none⟩) 256 256)) (fun c h => by cases h) ?_ (hK _ ⟨hS, by rw [show (b || decide (0 = 21)) = b by simp]; exact hO⟩)
            clear hdp hK hS hO
            generalize a.eval = ρ at *
            go_simp
          | 1, _ =>
            refine wpIn_value (v := (.int .i64 x.n)) (fun c h => by cases h) ?_ (hK _ ⟨hS, by rw [show (b || decide (1 = 21)) = b by simp]; exact hO⟩)
            clear hdp hK hS hO
            generalize a.eval = ρ at *
            go_simp
          | 2, _ =>
            refine wpIn_value (v := (.func (.func fp) #[] #[])) (fun c h => by cases h) ?_ (hK _ ⟨hS, by rw [show (b || decide (2 = 21)) = b by simp]; exact hO⟩)
            clear hdp hK hS hO
            generalize a.eval = ρ at *
            go_simp
          | 3, _ =>
            refine wpIn_value (v := (.slice (some ⟨b3, o3, none⟩) 256 cl)) (fun c h => by cases h) ?_ (hK _ ⟨hS, by rw [show (b || decide (3 = 21)) = b by simp]; exact hO⟩)
            clear hdp hK hS hO
            generalize a.eval = ρ at *
            go_simp
          | 4, _ =>
            refine wpIn_value (v := (.int .i64 x.n)) (fun c h => by cases h) ?_ (hK _ ⟨hS, by rw [show (b || decide (4 = 21)) = b by simp]; exact hO⟩)
            clear hdp hK hS hO
            generalize a.eval = ρ at *
            go_simp
          | 5, _ =>
            have y3 : a.eval (.tmp 36) = (.slice (some ⟨b3, o3, none⟩) 256 cl) := hdp 3 (by simp) 36 rfl
            have y4 : a.eval (.tmp 37) = (.int .i64 x.n) := hdp 4 (by simp) 37 rfl
            refine wpIn_value (v := (.pointer (some ⟨b3, o3 + x.n, none⟩))) (fun c h => by cases h) ?_ (hK _ ⟨hS, by rw [show (b || decide (5 = 21)) = b by simp]; exact hO⟩)
            clear hdp hK hS hO
            generalize a.eval = ρ at *
            go_simp
          | 6, _ =>
            have y5 : a.eval (.tmp 38) = (.pointer (some ⟨b3, o3 + x.n, none⟩)) := hdp 5 (by simp) 38 rfl
            refine wpIn_value (v := (.int .i64 lv)) (fun c h => by cases h) ?_ (hK _ ⟨hS, by rw [show (b || decide (6 = 21)) = b by simp]; exact hO⟩)
            clear hdp hK hS hO
            generalize a.eval = ρ at *
            go_simp
          | 7, _ =>
            refine wpIn_value (v := (.slice (some ⟨b4, o4, none⟩) G.length cs)) (fun c h => by cases h) ?_ (hK _ ⟨hS, by rw [show (b || decide (7 = 21)) = b by simp]; exact hO⟩)
            clear hdp hK hS hO
            generalize a.eval = ρ at *
            go_simp
          | 8, _ =>
            refine wpIn_value (v := (.pointer (some ⟨p, 0, none⟩))) (fun c h => by cases h) ?_ (hK _ ⟨hS, by rw [show (b || decide (8 = 21)) = b by simp]; exact hO⟩)
            clear hdp hK hS hO
            generalize a.eval = ρ at *
            go_simp
          | 9, _ =>
            have y8 : a.eval (.tmp 41) = (.pointer (some ⟨p, 0, none⟩)) := hdp 8 (by simp) 41 rfl
            refine wpIn_value (v := (.int .i64 x.g)) (fun c h => by cases h) ?_ (hK _ ⟨hS, by rw [show (b || decide (9 = 21)) = b by simp]; exact hO⟩)
            clear hdp hK hS hO
            generalize a.eval = ρ at *
            go_simp
          | 10, _ =>
            have y7 : a.eval (.tmp 40) = (.slice (some ⟨b4, o4, none⟩) G.length cs) := hdp 7 (by simp) 40 rfl
            have y9 : a.eval (.tmp 42) = (.int .i64 x.g) := hdp 9 (by simp) 42 rfl
            refine wpIn_value (v := (.pointer (some ⟨b4, o4 + x.g, none⟩))) (fun c h => by cases h) ?_ (hK _ ⟨hS, by rw [show (b || decide (10 = 21)) = b by simp]; exact hO⟩)
            clear hdp hK hS hO
            generalize a.eval = ρ at *
            go_simp
          | 11, _ =>
            have y10 : a.eval (.tmp 43) = (.pointer (some ⟨b4, o4 + x.g, none⟩)) := hdp 10 (by simp) 43 rfl
            refine wpIn_value (v := (.slice (some ⟨b5, o5, none⟩) mx sc)) (fun c h => by cases h) ?_ (hK _ ⟨hS, by rw [show (b || decide (11 = 21)) = b by simp]; exact hO⟩)
            clear hdp hK hS hO
            generalize a.eval = ρ at *
            go_simp
          | 12, _ =>
            refine wpIn_value (v := (.pointer (some ⟨p, 1, none⟩))) (fun c h => by cases h) ?_ (hK _ ⟨hS, by rw [show (b || decide (12 = 21)) = b by simp]; exact hO⟩)
            clear hdp hK hS hO
            generalize a.eval = ρ at *
            go_simp
          | 13, _ =>
            have y12 : a.eval (.tmp 45) = (.pointer (some ⟨p, 1, none⟩)) := hdp 12 (by simp) 45 rfl
            refine wpIn_value (v := (.int .i64 x.b)) (fun c h => by cases h) ?_ (hK _ ⟨hS, by rw [show (b || decide (13 = 21)) = b by simp]; exact hO⟩)
            clear hdp hK hS hO
            generalize a.eval = ρ at *
            go_simp
          | 14, _ =>
            have y11 : a.eval (.tmp 44) = (.slice (some ⟨b5, o5, none⟩) mx sc) := hdp 11 (by simp) 44 rfl
            have y13 : a.eval (.tmp 46) = (.int .i64 x.b) := hdp 13 (by simp) 46 rfl
            refine wpIn_value (v := (.pointer (some ⟨b5, o5 + x.b, none⟩))) (fun c h => by cases h) ?_ (hK _ ⟨hS, by rw [show (b || decide (14 = 21)) = b by simp]; exact hO⟩)
            clear hdp hK hS hO
            generalize a.eval = ρ at *
            go_simp
          | 15, _ =>
            have y14 : a.eval (.tmp 47) = (.pointer (some ⟨b5, o5 + x.b, none⟩)) := hdp 14 (by simp) 47 rfl
            refine wpIn_value (v := (.int .i64 sv)) (fun c h => by cases h) ?_ (hK _ ⟨hS, by rw [show (b || decide (15 = 21)) = b by simp]; exact hO⟩)
            clear hdp hK hS hO
            generalize a.eval = ρ at *
            go_simp
          | 16, _ =>
            have y2 : a.eval (.tmp 35) = (.func (.func fp) #[] #[]) := hdp 2 (by simp) 35 rfl
            have y6 : a.eval (.tmp 39) = (.int .i64 lv) := hdp 6 (by simp) 39 rfl
            have y15 : a.eval (.tmp 48) = (.int .i64 sv) := hdp 15 (by simp) 48 rfl
            refine wpIn_enter (f := fp) (args := #[.int .i64 lv, .int .i64 sv]) (fun c h => by cases h) ?_ ((CallsIn.inRound l (callsIn_wide.2 (HF.out lv sv W'))).mono ?_)
            · clear hdp hK hS hO
              have en := HE.out
              generalize a.eval = ρ at *
              go_simp
            · rintro e w'' ⟨rfl, hb'⟩
              exact ⟨_, rfl, hK _ ⟨hS.trans (Still.of (hb'.mono hS.size)), by rw [show (b || decide (16 = 21)) = b by simp]; exact owns_away2 hO (hb'.block _ (hO.lt _ rfl).2)⟩⟩
          | 17, _ =>
            have y16 : a.eval (.tmp 49) = (.tuple #[.int .i64 (F lv sv), .int .i64 (Er lv sv)]) := hdp 16 (by simp) 49 rfl
            refine wpIn_value (v := (.tuple #[.int .i64 (F lv sv), .int .i64 (Er lv sv)])) (fun c h => by cases h) ?_ (hK _ ⟨hS, by rw [show (b || decide (17 = 21)) = b by simp]; exact hO⟩)
            clear hdp hK hS hO
            generalize a.eval = ρ at *
            go_simp
          | 18, _ =>
            have y17 : a.eval (.tmp 32) = (.tuple #[.int .i64 (F lv sv), .int .i64 (Er lv sv)]) := hdp 17 (by simp) 32 rfl
            refine wpIn_value (v := (.int .i64 (F lv sv))) (fun c h => by cases h) ?_ (hK _ ⟨hS, by rw [show (b || decide (18 = 21)) = b by simp]; exact hO⟩)
            clear hdp hK hS hO
            generalize a.eval = ρ at *
            go_simp
          | 19, _ =>
            have y17 : a.eval (.tmp 32) = (.tuple #[.int .i64 (F lv sv), .int .i64 (Er lv sv)]) := hdp 17 (by simp) 32 rfl
            refine wpIn_value (v := (.int .i64 (Er lv sv))) (fun c h => by cases h) ?_ (hK _ ⟨hS, by rw [show (b || decide (19 = 21)) = b by simp]; exact hO⟩)
            clear hdp hK hS hO
            generalize a.eval = ρ at *
            go_simp
          | 20, _ =>
            have y0 : a.eval (.tmp 33) = (.slice (some ⟨w.heap.size + 5, 0, none⟩) 256 256) := hdp 0 (by simp) 33 rfl
            have y1 : a.eval (.tmp 34) = (.int .i64 x.n) := hdp 1 (by simp) 34 rfl
            refine wpIn_value (v := (.pointer (some ⟨w.heap.size + 5, x.n, none⟩))) (fun c h => by cases h) ?_ (hK _ ⟨hS, by rw [show (b || decide (20 = 21)) = b by simp]; exact hO⟩)
            clear hdp hK hS hO
            generalize a.eval = ρ at *
            go_simp
          | 21, _ =>
            have y18 : a.eval (.tmp 50) = (.int .i64 (F lv sv)) := hdp 18 (by simp) 50 rfl
            have y20 : a.eval (.tmp 52) = (.pointer (some ⟨w.heap.size + 5, x.n, none⟩)) := hdp 20 (by simp) 52 rfl
            obtain rfl : b = false := hst' rfl
            rw [if_neg (by simp)] at hO
            have q1 := hO.cellAt x.n (by omega)
            have q2 := hO.frozenAt x.n
            rw [row_get Ro x.n (Nat.zero_le _) (by have := HRL.out; omega)] at q1
            have hO' := hO.stored x.n (.int .i64 (F lv sv))
            refine wpIn_skipped (w' := W'.setCell ⟨w.heap.size + 5, x.n, none⟩ (.int .i64 (F lv sv))) (fun c h => by cases h) ?_ (hK _ ⟨hS.trans (Still.set _ _ _), ?_⟩)
            · clear hdp hK hS hO hO'
              generalize a.eval = ρ at *
              go_simp
            · rw [if_pos (by simp), HRN.out, List.map_set]
              exact hO'.1
          | i + 22, h => exact absurd h (by simp)
        case hend6 =>
          intro a W' _ _ _ _ hw
          obtain ⟨hS, hO⟩ := hw
          rw [if_pos rfl] at hO
          have hS2 : Still (w.heap.size + 5) w'.heap.size w' W' := ⟨hS.os, hS.tape, hS.output, hS.size, hS.block⟩
          refine HPO.out a W' (hSU.trans ⟨hS2.os, hS2.tape, hS2.output, hS2.size, fun k k1 k2 => hS2.block k (by omega) k2⟩) ?_
          have h := HIU.out
          have kk : ∀ {b : Nat} {cs : Array Value}, b ≠ w.heap.size + 5 → Bx w' b cs → Bx W' b cs := fun hn hb => hb.same (hS2.block _ hb.lt hn)
          exact ⟨kk (by omega) h.k8, kk (by omega) h.k9, kk (by omega) h.k10, kk (by omega) h.k11, kk (by omega) h.k13, hS2.below h.bel (by omega) (by omega), hO⟩
  case hdone =>
    rintro xs W hz rfl HI hK
    have d13 := HI.k13.cell 0
    have f13 := HI.k13.choose_spec.frozen 0
    simp only [List.getElem?_toArray, List.getElem?_cons_zero, List.getElem?_cons_succ] at d13
    have HO := Lib.hid (HRF.out ▸ HI.row)
    have HBL := Lib.hid HI.bel
    have HK := Lib.hid hK
    clear hseq HI hK IQ0 HPM
    gi_wp2
    have hK8 := HK.out
    refine ⟨by simp, .inl ⟨_, _, rfl, run_takeDeferred hK8, ?_⟩⟩
    refine ⟨.slice (some ⟨w.heap.size + 5, 0, none⟩) 256 256, ?_, _, rfl, ?_, HBL.out.trans (belowK_b (w := w) (Nat.le_refl _) W W2.heap.size _ _ (by have := HBL.out.size; omega) hK8 rfl rfl)⟩
    · simp [results, Try.f25, go_sem]
    · exact ownsRow_putObj (owns_lower HO.out (by omega)) _ hK8 rfl
end Go.Proofs.Ytppfbfiigfjncaa
