/- block.Synth: what each call answers. -/
import Derived.Test.YtclbbfpagkhonaaAnalyse
import Derived.Test.YtclbbfpagkhonaaSynPlain
set_option linter.unusedVariables false
namespace Go.Proofs.Ytclbbfpagkhonaa
open Go.ChangeShapes Go.WideShapes Go.ChangeAt Go.RowKit
attribute [local go_sem] Oper.semAt_some

/-- Whatever lay below M lies as it lay, but for blocks B and C. -/
structure Still2 (B C M : Nat) (w w' : World) : Prop where
  os : w'.os = w.os
  tape : w'.tape = w.tape
  output : w'.output = w.output
  size : w.heap.size ≤ w'.heap.size
  block : ∀ k, k < M → k ≠ B → k ≠ C → w'.heap[k]? = w.heap[k]?
theorem Still2.of {B C M : Nat} {w w' : World} (h : Below M w w') : Still2 B C M w w' := ⟨h.os, h.tape, h.output, h.size, fun k hk _ _ => h.block k hk⟩
theorem Still2.trans {B C M : Nat} {x y z : World} (h : Still2 B C M x y) (k : Still2 B C M y z) : Still2 B C M x z :=
  ⟨k.os.trans h.os, k.tape.trans h.tape, k.output.trans h.output, Nat.le_trans h.size k.size, fun i hi hn hm => (k.block i hi hn hm).trans (h.block i hi hn hm)⟩
theorem Still2.set {B C M : Nat} (w : World) (i : Nat) (v : Value) : Still2 B C M w (w.setCell ⟨B, i, none⟩ v) := ⟨rfl, rfl, rfl, by simp [World.setCell], fun k _ hk _ => Below.heap_setCell _ _ _ _ hk⟩
theorem Still2.boxed {B C M b : Nat} {w w' : World} {t : TypeId} {v : Value} (h : Still2 B C M w w') (hb : Boxed w b t v) (h1 : b < M) (h2 : b ≠ B) (h3 : b ≠ C) : Boxed w' b t v := (h.block b h1 h2 h3).trans hb
theorem Still2.below {B C M n : Nat} {w0 w w' : World} (h : Still2 B C M w w') (hb : Below n w0 w) (h1 : n ≤ M) (h2 : n ≤ B) (h3 : n ≤ C) : Below n w0 w' := hb.trans ⟨h.os, h.tape, h.output, h.size, fun k hk => h.block k (by omega) (by omega) (by omega)⟩
/-- All but block B lies as it lay. -/
structure Only (B : Nat) (w w' : World) : Prop where
  os : w'.os = w.os
  tape : w'.tape = w.tape
  output : w'.output = w.output
  size : w'.heap.size = w.heap.size
  block : ∀ k, k ≠ B → w'.heap[k]? = w.heap[k]?
theorem Only.refl (B : Nat) (w : World) : Only B w w := ⟨rfl, rfl, rfl, rfl, fun _ _ => rfl⟩
theorem Only.set {B : Nat} {w w' : World} (h : Only B w w') (i : Nat) (v : Value) : Only B w (w'.setCell ⟨B, i, none⟩ v) := ⟨h.os, h.tape, h.output, by simpa [World.setCell] using h.size, fun k hk => (Below.heap_setCell _ _ _ _ hk).trans (h.block k hk)⟩
theorem Only.still {B C M : Nat} {w w' : World} (h : Only C w w') : Still2 B C M w w' := ⟨h.os, h.tape, h.output, by rw [h.size]; exact Nat.le_refl _, fun k _ _ hk => h.block k hk⟩
theorem Only.still' {B C M : Nat} {w w' : World} (h : Only B w w') : Still2 B C M w w' := ⟨h.os, h.tape, h.output, by rw [h.size]; exact Nat.le_refl _, fun k _ hk _ => h.block k hk⟩
theorem Only.ints {B g : Nat} {w w' : World} {l : List Int} (h : Only B w w') (hI : IsInts w (some ⟨g, 0, none⟩) l) (hg : g ≠ B) : IsInts w' (some ⟨g, 0, none⟩) l := by
  rcases hI with h' | ⟨b, off, hp, hlt, hc⟩
  · exact .inl h'
  · obtain ⟨rfl, rfl⟩ : g = b ∧ 0 = off := by simpa using hp
    exact .inr ⟨g, 0, rfl, by rw [h.size]; exact hlt, fun j hj => (World.cell?_of_block (a := ⟨g, 0 + j, none⟩) (h.block g hg)).trans (hc j hj)⟩
theorem owns_away2 {L : Nat} {w w' : World} {base : Nat} {e : TypeId} {size : Nat} {g m c n : Nat} {xs : List Value} (h : w.ownsRow base e size (.slice (some ⟨g, 0, none⟩) m c) n xs) (hb : w'.heap[g]? = w.heap[g]?) : w'.ownsRow base e size (.slice (some ⟨g, 0, none⟩) m c) n xs := by
  refine ⟨h.1, ?_⟩
  rcases h.2 with hn | ⟨g', cap, cur, e', hg, hgg, rest⟩
  · exact .inl hn
  · obtain ⟨rfl, rfl, rfl⟩ : g = g' ∧ m = n ∧ c = cap := by simpa using e'
    exact .inr ⟨g, c, cur, rfl, hg, hb.trans hgg, rest⟩
/-- make, in a fence. -/
theorem makeIn_full {F : Fence} {n : Nat} {w : World} {ops : Array Oper} {rest : List Oper} {o : Oper} {a : Act} {Q : Exit → Act → World → Prop} (hgd : o.guard = none) (l c : Operand)
    (ho : o.op = Op.makeSlice 23 l c) (m : Nat) (hm : m ≤ 4096) (hl : a.eval l = .int .i64 m) (hc : a.eval c = .int .i64 m)
    (h : ∀ w', w.heap.size < w'.heap.size → w'.ownsRow w.heap.size 3 1 (.slice (some ⟨w.heap.size, 0, none⟩) m m) m (List.replicate m (.int .i64 0)) → Below w.heap.size w w' → wpListIn F n Try.prog ops Q rest (a.put o.dst (.slice (some ⟨w.heap.size, 0, none⟩) m m)) w') : wpListIn F n Try.prog ops Q (o :: rest) a w := by
  obtain ⟨i0, hi, hz0, hz1, hz2⟩ := info_parts Try.infoInt
  refine wpListIn_plain hgd fun K hK' => ?_
  obtain ⟨w', hrun, r1, r2⟩ := run_make_full (P := Try.prog) w w.heap.size 23 3 i0 (.int .i64 0) 1 Try.underlying23 hi hz0 hz1 .i64 .i64 m (by rw [hz2]; omega) (by unfold maxLen; omega) (Nat.le_refl _)
  have e := toList_madeCells_one (.int .i64 0) m
  have r1' : w'.ownsRow w.heap.size 3 1 (.slice (some ⟨w.heap.size, 0, none⟩) m m) m (List.replicate m (.int .i64 0)) := by rw [← e]; rw [Nat.mul_one] at r1; exact r1
  unfold Oper.wpIn
  refine ⟨?_, ?_⟩
  · simp [Oper.about, ho]
  · rw [Oper.semAt_plain F _ _ (by rw [ho]; intro c hc'; cases hc')]
    simp [execOp, ho, hl, hc, hrun, Result.andThen]
    exact hK' _ _ (h w' (r1'.lt _ rfl).2 r1' ((Below.refl _ _).grown r2 (Nat.le_refl _) (fun _ e => by cases e)))
theorem ints_take {w : World} {b off : Nat} {l : List Int} (h : IsInts w (some ⟨b, off, none⟩) l) (n : Nat) : IsInts w (some ⟨b, off, none⟩) (l.take n) := by
  have := ints_cut h 0 n
  rwa [Nat.add_zero, List.drop_zero] at this
theorem intsB_drop {w : World} {b off lo hi : Nat} {l : List Int} (h : IntsB w (some ⟨b, off, none⟩) l lo hi) (n : Nat) : IntsB w (some ⟨b, off + n, none⟩) (l.drop n) lo hi := by
  obtain ⟨h0, h⟩ := h
  refine ⟨h0, ?_⟩
  rcases h with h | ⟨b', off', hp, h1, h2, hc⟩
  · subst h; exact .inl (by simp)
  · obtain ⟨rfl, rfl⟩ : b = b' ∧ off = off' := by simpa using hp
    refine .inr ⟨b, off + n, rfl, h1, h2, fun j hj => ?_⟩
    rw [List.length_drop] at hj
    rw [Nat.add_assoc, hc (n + j) (by omega)]
    congr 2
    rw [List.getD_eq_getElem?_getD, List.getD_eq_getElem?_getD, List.getElem?_drop]
def outV (lines : List Int) (pre : List WinX) : List Value := ((List.range 512).map (synP (pre.map keyW) lines).1).map (Value.int .i64)
def ISyn (w : World) (M H : Nat) (lines : List Int) (pre : List WinX) (W : World) : Prop :=
  Boxed W (w.heap.size + 1) 23 (.slice none 0 0) ∧ Boxed W (w.heap.size + 2) 24 (.int .i64 0) ∧ Boxed W M 23 (.slice (some ⟨w.heap.size + 3, 0, none⟩) 512 512) ∧ Below w.heap.size w W ∧
  W.ownsRow (w.heap.size + 3) 3 1 (.slice (some ⟨w.heap.size + 3, 0, none⟩) 512 512) 512 (outV lines pre) ∧
  (∃ q c, Boxed W w.heap.size 23 (.slice q (lines.drop (H * pre.length)).length c) ∧ (lines.drop (H * pre.length)).length ≤ c ∧ IntsB W q (lines.drop (H * pre.length)) 0 w.heap.size) ∧
  (synP (pre.map keyW) lines).2 = lines.drop (H * pre.length) ∧ ∀ n, -(4294967296 * (pre.length : Int)) ≤ (synP (pre.map keyW) lines).1 n ∧ (synP (pre.map keyW) lines).1 n ≤ 4294967296 * (pre.length : Int)
theorem ISyn.apart {w : World} {M H : Nat} {lines : List Int} (pre : List WinX) (A B : World) (h : ISyn w M H lines pre A) (ha : Apart (M + 4) A B) (hM : w.heap.size + 3 < M) (hs : M + 4 ≤ A.heap.size) : ISyn w M H lines pre B := by
  obtain ⟨h1, h2, h3, h4, h5, ⟨q, c, h6, h7, h8⟩, h9, h10⟩ := h
  exact ⟨ha.boxed h1 (by omega), ha.boxed h2 (by omega), ha.boxed h3 (by omega), ha.below h4 (by omega) (by omega), owns_away2 (L := 0) h5 (ha.block _ (by omega) (by omega) (by omega)), ⟨q, c, ha.boxed h6 (by omega), h7, h8.keep (ha.below (Below.refl w.heap.size A) (by omega) (by omega)) (Nat.le_refl _)⟩, h9, h10⟩
set_option maxRecDepth 100000 in
set_option maxHeartbeats 4000000 in
theorem syn_ok (seq was shape : Int) (hs : seq = 0 ∨ seq = 1 ∨ seq = 2 ∨ seq = 3) (h0 : was = 0 ∨ was = 1) (h1 : shape = 0 ∨ shape = 1) (lines : List Int) (hl : lines.length = 256) (hm : ∀ j, -268435455 ≤ lines.getD j 0 ∧ lines.getD j 0 ≤ 268435455)
    (p : Option Addr) (c : Nat) (hc : 256 ≤ c) (w : World) (hI : IsInts w p lines) (hA : askedE seq was shape lines 256 (-268435455) 268435455 = 0) :
    Calls Try.prog 10 #[.int .u8 seq, .int .u8 was, .int .u8 shape, .slice p 256 c] w (RRowE (synL (winsL seq was shape) lines, 0) w) := by
  obtain ⟨pb, off, rfl, hpb, _⟩ := hI.at (j := 0) (by omega)
  have HAS := Lib.hid (show ∀ W, IsInts W (some ⟨pb, off, none⟩) lines → Calls Try.prog 22 #[.int .u8 seq, .int .u8 was, .int .u8 shape, .slice (some ⟨pb, off, none⟩) 256 c, .int .i64 256, .int .i64 (-268435455), .int .i64 268435455] W (RAsked 0 W) from fun W hW => by
    have := asked_ok seq was shape (some ⟨pb, off, none⟩) c lines 256 (by omega) (by omega) (-268435455) 268435455 W hW
    rw [hl, hA] at this
    exact this)
  unfold RAsked at HAS
  have HIB := Lib.hid hI.inB
  have HM := Lib.hid hm
  have HL := Lib.hid hl
  refine (callsIn_wide (n := 3)).1 ?_
  refine callsIn_of_wp_marks Try.func10 rfl trivial ?_ rfl
  simp only [Try.ntmps10, List.size_toArray, List.length_cons, List.length_nil, Nat.reduceAdd, Nat.reduceSub, Array.replicate_succ, Array.replicate_zero, List.push_toArray, List.append_toArray, List.nil_append, List.cons_append]
  gi_wp2_with fail
  refine ⟨trivial, ?_⟩
  refine (callsIn_wide.2 (HAS.out _ ?_)).mono ?_
  · exact HIB.out.ints.keep ((((Below.refl _ w).alloc (Nat.le_refl _) _).alloc (by simp) _).alloc (by simp; omega) _)
  rintro e w1 ⟨rfl, hw⟩
  rw [← hw]
  clear hw w1
  obtain ⟨W0, hW0⟩ : ∃ W0, ((w.alloc (.cells #[.slice (some ⟨pb, off, none⟩) 256 c] 23)).alloc (.cells #[.slice none 0 0] 23)).alloc (.cells #[.int .i64 0] 24) = W0 := ⟨_, rfl⟩
  have hsz0 : W0.heap.size = w.heap.size + 3 := by rw [← hW0]; simp
  have hB0 : Below w.heap.size w W0 := by rw [← hW0]; exact (((Below.refl _ w).alloc (Nat.le_refl _) _).alloc (by simp) _).alloc (by simp; omega) _
  have hb7 : Boxed W0 w.heap.size 23 (.slice (some ⟨pb, off, none⟩) 256 c) := by rw [← hW0]; exact ((box_new w _ _ rfl).alloc _).alloc _
  have hb8 : Boxed W0 (w.heap.size + 1) 23 (.slice none 0 0) := by rw [← hW0]; exact (box_new _ _ _ (by simp)).alloc _
  have hb9 : Boxed W0 (w.heap.size + 2) 24 (.int .i64 0) := by rw [← hW0]; exact box_new _ _ _ (by simp)
  rw [hW0]
  clear hW0
  gi_wp2_with (gi_at_make; refine makeIn_full rfl _ _ rfl 512 (by omega) rfl rfl ?_; intro W1 hlt1 hO1 hB1)
  refine ⟨trivial, ?_⟩
  refine (callsIn_wide.2 (windows_ok seq was shape _)).mono ?_
  rintro e w1 ⟨rfl, rfl⟩
  simp only [World.size_alloc, windowsV]
  obtain ⟨W2, hW2⟩ : ∃ W2, (((W1.alloc (.cells #[.slice (some ⟨w.heap.size + 3, 0, none⟩) 512 512] 23)).alloc (.cells #[.int .u8 seq] 5)).alloc (.cells #[.int .u8 was] 5)).alloc (.cells #[.int .u8 shape] 5) = W2 := ⟨_, rfl⟩
  rw [hsz0] at hlt1 hO1
  have hsz : W2.heap.size = W1.heap.size + 4 := by rw [← hW2]; simp
  have hB12 : Below W1.heap.size W1 W2 := by rw [← hW2]; exact ((((Below.refl _ W1).alloc (Nat.le_refl _) _).alloc (by simp) _).alloc (by simp; omega) _).alloc (by simp; omega) _
  have hb11 : Boxed W2 W1.heap.size 23 (.slice (some ⟨w.heap.size + 3, 0, none⟩) 512 512) := by rw [← hW2]; exact (((box_new _ _ _ rfl).alloc _).alloc _).alloc _
  have hba : Boxed W2 (W1.heap.size + 1) 5 (.int .u8 seq) := by rw [← hW2]; exact ((box_new _ _ _ (by simp)).alloc _).alloc _
  have hbb : Boxed W2 (W1.heap.size + 2) 5 (.int .u8 was) := by rw [← hW2]; exact (box_new _ _ _ (by simp)).alloc _
  have hbc : Boxed W2 (W1.heap.size + 3) 5 (.int .u8 shape) := by rw [← hW2]; exact box_new _ _ _ (by simp)
  have hB01 : Below w.heap.size W0 W2 := (hB1.trans (hB12.mono (by omega))).mono (by omega)
  have hcarry : ∀ {b : Nat} {t : TypeId} {v : Value}, Boxed W0 b t v → Boxed W2 b t v := fun {b t v} h => ((hB1.trans (hB12.mono (by omega))).block b h.lt).trans h
  have kb7 := hcarry hb7
  have kb8 := hcarry hb8
  have kb9 := hcarry hb9
  have hB02 : Below w.heap.size w W2 := hB0.trans hB01
  have hO2 : W2.ownsRow (w.heap.size + 3) 3 1 (.slice (some ⟨w.heap.size + 3, 0, none⟩) 512 512) 512 (outV lines []) := by
    have e : outV lines [] = List.replicate 512 (.int .i64 0) := by
      unfold outV
      rw [List.map_map]
      apply List.ext_getElem?
      intro j
      by_cases hj : j < 512
      · rw [List.getElem?_map, List.getElem?_range hj, List.getElem?_replicate_of_lt hj]; rfl
      · rw [List.getElem?_eq_none (by simp; omega), List.getElem?_eq_none (by simp; omega)]
    rw [e]
    exact owns_keep hO1 hB12
  gi_wp2_with fail
  rw [hW2]
  clear hW2 hcarry hb7 hb8 hb9 hO1
  have hseq : SeqAll Try.prog 36 #[.pointer (some ⟨W1.heap.size + 1, 0, none⟩), .pointer (some ⟨W1.heap.size + 1 + 1, 0, none⟩), .pointer (some ⟨W1.heap.size + 1 + 2, 0, none⟩)] encW (PxW seq was shape W2.heap.size) (SW seq was shape) (KW (W1.heap.size + 1)) W2 := by
    by_cases h2 : seq = 2
    · subst h2; exact windows_all2 was shape h0 h1 W2 (W1.heap.size + 1) (by omega) hba.cell hbb.cell hbc.cell
    · exact windows_all1 seq was shape (by omega) h0 h1 W2 (W1.heap.size + 1) (by omega) hba.cell hbb.cell hbc.cell
  obtain ⟨H, hH, hWF⟩ := wins_uni seq was shape hs h0 h1
  have HWF := Lib.hid hWF
  have HPX := Lib.hid (fun s x A B => PxW.apart (seq := seq) (was := was) (shape := shape) (L := W2.heap.size) s x A B)
  unfold PxW at HPX
  unfold SW PxW at hseq
  generalize winsL seq was shape = ws at *
  have h00 : ISyn w W1.heap.size H lines [] W2 := ⟨kb8, kb9, hb11, hB02, hO2, ⟨some ⟨pb, off, none⟩, c, by rw [List.length_nil, Nat.mul_zero, List.drop_zero, hl]; exact kb7, by rw [List.length_nil, Nat.mul_zero, List.drop_zero, hl]; exact hc, by rw [List.length_nil, Nat.mul_zero, List.drop_zero]; exact HIB.out.keep hB02 (Nat.le_refl _)⟩, rfl, fun n => by simp [synP]⟩
  clear hs h0 h1 hA HAS hba hbb hbc hm hWF kb7 kb8 kb9 hB01 hO2
  refine range_all (gf := 36) (lb := #[.pointer (some ⟨W1.heap.size + 1, 0, none⟩), .pointer (some ⟨W1.heap.size + 1 + 1, 0, none⟩), .pointer (some ⟨W1.heap.size + 1 + 2, 0, none⟩)]) rfl (enters_of Try.func36 (by kernel_rfl) rfl) hseq
    ?hK (fun _ => rfl) (ISyn w W1.heap.size H lines) ?hI ?hPx h00 ?hround ?hdone
  case hK =>
    intro A A' B B' g1 g2 g k k1 k2
    exact (g2 k (by omega)).trans ((g k k1 k2).trans (g1 k (by omega)))
  case hI =>
    intro s A B hi hz ha
    exact hi.apart s A B (by rw [← hsz]; exact ha) (by omega) (by omega)
  case hPx =>
    intro s x A B hx hz ha
    exact HPX.out s x A B hx hz ha
  case hround =>
    rintro l pre x W W3 hA2 ⟨k8, k9, k11, kB, hown, ⟨q, c7, k7, hc7, hIB7⟩, hst, hbd⟩ ⟨hx1, hx2, hx3, hx4⟩ K' hK'
    have HK := Lib.hid hK'
    clear hK'
    gi_wp2
    refine HK.out _ ?_
    clear HK K'
    obtain ⟨hf, hpl, hk⟩ := HWF.out _ _ hx1
    have hpl' : x.l.length = 2 * H := hpl
    obtain ⟨k, hkk⟩ : ∃ k, pre.length = k := ⟨_, rfl⟩
    rw [hkk] at hx1 hf hk k7 hc7 hIB7 hst hbd
    obtain ⟨S, hS⟩ : ∃ S, lines.drop (H * k) = S := ⟨_, rfl⟩
    have hSl : S.length = 256 - H * k := by rw [← hS, List.length_drop, hl]
    have hHk : H * k + H ≤ 256 := by rw [Nat.mul_add] at hk; omega
    have hSm : ∀ n j, -268435455 ≤ (S.take n).getD j 0 ∧ (S.take n).getD j 0 ≤ 268435455 := fun n j => by rw [← hS]; exact getD_take_drop lines _ _ HM.out j
    have hfit := stepS_fit (st := synP (pre.map keyW) lines) hf hH hpl hk hl HM.out hst hbd
    rw [hS] at hIB7 hc7 k7 hst
    obtain ⟨b1, o1, rfl, _⟩ := hIB7.at (j := 0) (by omega)
    obtain ⟨at_, hat⟩ : ∃ a : Nat, x.pos = (a : Int) := ⟨x.pos.toNat, by rcases hf.1 with ⟨_, h1, _⟩ | ⟨_, h1, _⟩ <;> (simp only at h1; omega)⟩
    have hq : at_ + 2 * H ≤ 512 := by
      rcases hf.1 with ⟨_, h1, h2⟩ | ⟨_, h1, h2⟩ <;> (simp only at h1 h2; omega)
    have hYl : (S.take H).length = H := by rw [List.length_take]; omega
    have hYm := fun j => hSm H j
    have HIN := Lib.hid (fun (W : World) (c' : Nat) (hI : IsInts W (some ⟨b1, o1, none⟩) (S.take H)) => show Calls Try.prog 24 #[.slice (some ⟨b1, o1, none⟩) H c'] W (RRowE (linesI (S.take H), 0) W) by
      have h := inv_any (S.take H) (some ⟨b1, o1, none⟩) c' (by omega) W hI
      have e : invN (S.take H) = (linesI (S.take H), 0) := by
        unfold invN
        rw [if_neg (by omega), if_neg]
        intro ho
        obtain ⟨y, hy, hyo⟩ := List.any_eq_true.1 ho
        obtain ⟨i, hi, rfl⟩ := List.getElem_of_mem hy
        have r := hYm i
        rw [List.getD_eq_getElem?_getD, List.getElem?_eq_getElem hi] at r
        simp only [Option.getD_some] at r
        unfold oddP at hyo
        simp only [Bool.or_eq_true, decide_eq_true_eq] at hyo
        omega
      rw [e, hYl] at h
      exact h)
    have HTT := Lib.hid (fun (W : World) (g cg : Nat) (hI : IsInts W (some ⟨g, 0, none⟩) (linesI (S.take H))) (hV : IsInts W (some ⟨x.b, 0, none⟩) x.l) => show Calls Try.prog 25 #[.slice (some ⟨g, 0, none⟩) (2 * H) cg, .slice (some ⟨x.b, 0, none⟩) (2 * H) x.c, .int .i64 26] W (RRowF (partS (keyW x) (S.take H)) W) by
      have e : (linesI (S.take H)).length = 2 * H := by rw [linesI_len, hYl]
      have h := times_ok (linesI (S.take H)) x.l 26 (by omega) (some ⟨g, 0, none⟩) (some ⟨x.b, 0, none⟩) cg x.c (2 * H) W hI hV hpl' (by omega) (by omega) (fun j hj => by
        have a := linesI_any (y := S.take H) (by omega) hYm j
        have b := getD_range (l := x.l) hf.2 (by omega) (by omega) j
        have := mul_fit a.1 a.2 b.1 b.2
        omega)
      rw [e] at h
      exact h)
    have hPl : (partS (keyW x) (S.take H)).length = 2 * H := by rw [part_len, hYl]
    have hPm := fun j => part_any (p := (x.pos, x.l)) hf (y := S.take H) (by omega) hYm j
    have HX4 := Lib.hid hx4
    dsimp only [encW]
    rw [hat, hpl']
    obtain ⟨m, hm⟩ : ∃ m, 2 * H = m := ⟨_, rfl⟩
    rw [hm] at HTT hPl ⊢
    have hc7' := k7.cell
    have hf7 := k7.frozen
    have hc11 := k11.cell
    have hw0 : (m : Int).tdiv 2 = H := by rw [Int.tdiv_eq_ediv_of_nonneg (by omega)]; omega
    have hw1 : IntKind.i64.wrap (H : Int) = H := by rw [IntKind.wrap_i64]; omega
    obtain ⟨s, hs⟩ : ∃ s, S.length = s := ⟨_, rfl⟩
    rw [hs] at hc7' hc7 k7
    have hsH : H ≤ s := by omega
    have HSN := Lib.hid (show ∀ j, (synP ((pre ++ [x]).map keyW) lines).1 j = (synP (pre.map keyW) lines).1 j + (if at_ ≤ j ∧ j < at_ + m then (partS (keyW x) (S.take H)).getD (j - at_) 0 else 0) from fun j => by
      rw [List.map_append, show [x].map keyW = [keyW x] from rfl, synP_snoc]
      show _ + addS (keyW x) ((synP (pre.map keyW) lines).2.take ((keyW x).2.length / 2)) j = _
      unfold addS
      rw [hst, show (keyW x).2.length = m by rw [← hm]; exact hpl', show m / 2 = H by omega, show (keyW x).1.toNat = at_ by show x.pos.toNat = at_; rw [hat]; rfl])
    have hfit' : (synP ((pre ++ [x]).map keyW) lines).2 = lines.drop (H * (k + 1)) ∧ ∀ n, -(4294967296 * ((k + 1 : Nat) : Int)) ≤ (synP ((pre ++ [x]).map keyW) lines).1 n ∧ (synP ((pre ++ [x]).map keyW) lines).1 n ≤ 4294967296 * ((k + 1 : Nat) : Int) := by
      rw [List.map_append, show [x].map keyW = [keyW x] from rfl, synP_snoc]; exact hfit
    have HFIT := Lib.hid hfit'
    have HRO := Lib.hid hown
    have HO9 := Lib.hid (show outV lines pre = ((List.range 512).map (synP (pre.map keyW) lines).1).map (Value.int .i64) from rfl)
    have hk8 : k < 8 := by rcases hH with rfl | rfl <;> omega
    have HBD := Lib.hid (show ∀ j, -34359738368 ≤ (synP (pre.map keyW) lines).1 j ∧ (synP (pre.map keyW) lines).1 j ≤ 34359738368 from fun j => by have := hbd j; omega)
    have HI3 := Lib.hid (ints_take hIB7.ints H)
    have HDB := Lib.hid hIB7
    have hx2' : W2.heap.size + 2 ≤ x.b := hx2
    have hLIl : (linesI (S.take H)).length = m := by rw [linesI_len, hYl]; exact hm
    obtain ⟨fV, hfV⟩ : ∃ fV, (synP (pre.map keyW) lines).1 = fV := ⟨_, rfl⟩
    rw [hfV] at HSN HO9 HBD
    obtain ⟨PS, hPS⟩ : ∃ PS, partS (keyW x) (S.take H) = PS := ⟨_, rfl⟩
    rw [hPS] at HTT HSN hPl
    have HPM := Lib.hid (show ∀ j, -4294967296 ≤ PS.getD j 0 ∧ PS.getD j 0 ≤ 4294967296 from fun j => by rw [← hPS]; exact hPm j)
    unfold RRowE at HIN
    dsimp only at HIN
    unfold RRowF at HTT
    rw [hPl] at HTT
    obtain ⟨LI, hLI⟩ : ∃ LI, linesI (S.take H) = LI := ⟨_, rfl⟩
    rw [hLI] at HIN HTT hLIl
    rw [hLIl] at HIN
    have HLI := Lib.hid hLIl
    have HPL := Lib.hid hPl
    clear hown hx4 hIB7 hst hbd hfit hfit' hYm hSm hPm hPl hfV hPS hLI hLIl hx2
    gi_wp2_with fail
    refine ⟨trivial, ?_⟩
    refine (CallsIn.inRound l (callsIn_wide.2 (HIN.out _ _ HI3.out))).mono ?_
    rintro e W4 ⟨v4, rfl, hO4, hB4⟩
    rw [← HLI.out] at hO4
    obtain ⟨g4, cap4, rfl, hg4, hlt4, hc4⟩ := owns_at hO4 (by intro e; have := HLI.out; rw [e] at this; simp only [List.length_nil] at this; omega)
    have HI4 := Lib.hid (isInts_of hlt4 hc4)
    rw [HLI.out]
    have hz4 := hB4.size
    have j7 : Boxed W4 w.heap.size 23 (.slice (some ⟨b1, o1, none⟩) s c7) := (hB4.block _ (by omega)).trans k7
    have hc4' := j7.cell
    have hf4' := j7.frozen
    have HB4 := Lib.hid hB4
    clear hO4 hc4 HIN hc7' hf7 hB4 hc11
    gi_wp2_with fail
    all_goals
      first
      | (obtain ⟨W5, hW5⟩ : ∃ W5, W4.setCell ⟨w.heap.size, 0, none⟩ (.slice (some ⟨b1, o1 + H, none⟩) (s - H) (c7 - H)) = W5 := ⟨_, rfl⟩
         rw [hW5]
         have S5 : Only w.heap.size W4 W5 := by rw [← hW5]; exact (Only.refl _ _).set _ _
         have k5 : ∃ q' c', Boxed W5 w.heap.size 23 (.slice q' (s - H) c') ∧ s - H ≤ c' ∧ IntsB W3 q' (S.drop H) 0 w.heap.size := ⟨_, _, by rw [← hW5]; exact j7.set _, by omega, intsB_drop HDB.out H⟩
         have I5 : ∀ g l, IsInts W4 (some ⟨g, 0, none⟩) l → g ≠ w.heap.size → IsInts W5 (some ⟨g, 0, none⟩) l := fun g l h hn => by rw [← hW5]; exact h.setCell _ _ hn
         have z5 : W5.heap.size = W4.heap.size := by rw [← hW5]; simp [World.setCell]
         clear hW5)
      | (obtain ⟨W5, hW5⟩ : ∃ W5, W4.setCell ⟨w.heap.size, 0, none⟩ (.slice (some ⟨b1, o1, none⟩) (s - H) 0) = W5 := ⟨_, rfl⟩
         rw [hW5]
         have S5 : Only w.heap.size W4 W5 := by rw [← hW5]; exact (Only.refl _ _).set _ _
         have k5 : ∃ q' c', Boxed W5 w.heap.size 23 (.slice q' (s - H) c') ∧ s - H ≤ c' ∧ IntsB W3 q' (S.drop H) 0 w.heap.size := ⟨_, _, by rw [← hW5]; exact j7.set _, by omega, HDB.out.1, .inl (List.eq_nil_of_length_eq_zero (by rw [List.length_drop]; omega))⟩
         have I5 : ∀ g l, IsInts W4 (some ⟨g, 0, none⟩) l → g ≠ w.heap.size → IsInts W5 (some ⟨g, 0, none⟩) l := fun g l h hn => by rw [← hW5]; exact h.setCell _ _ hn
         have z5 : W5.heap.size = W4.heap.size := by rw [← hW5]; simp [World.setCell]
         clear hW5)
      have K5 := Lib.hid k5
      clear k5
      refine ⟨trivial, ?_⟩
      refine (CallsIn.inRound l (callsIn_wide.2 (HTT.out W5 g4 cap4 (I5 _ _ HI4.out (by omega)) (I5 _ _ (HX4.out.keep HB4.out) (by omega))))).mono ?_
      rintro e W6 ⟨g6, rfl, hO6, hg6, hlt6, hB6⟩
      have hz6 := hB6.size
      have HI6 := Lib.hid (full_ints hO6 HPL.out hlt6)
      have hR6 : W6.ownsRow (w.heap.size + 3) 3 1 (.slice (some ⟨w.heap.size + 3, 0, none⟩) 512 512) 512 (outV lines pre) :=
        owns_away2 (L := 0) HRO.out ((hB6.block (w.heap.size + 3) (by omega)).trans ((S5.block (w.heap.size + 3) (by omega)).trans (HB4.out.block (w.heap.size + 3) (by omega))))
      have k116 : Boxed W6 W1.heap.size 23 (.slice (some ⟨w.heap.size + 3, 0, none⟩) 512 512) := (hB6.block W1.heap.size (by omega)).trans ((S5.block W1.heap.size (by omega)).trans ((HB4.out.block W1.heap.size (by omega)).trans k11))
      have HR6 := Lib.hid hR6
      have HB6 := Lib.hid hB6
      have K11 := Lib.hid k116
      clear hO6 HTT hR6 hB6 k116 I5 hc4' hf4'
      gi_wp2_with fail
      gi_loopw [54] (fun I wr => ∃ (i : Nat) (xs : List Value), I = .int .i64 i ∧ i ≤ m ∧ Hid (wr.ownsRow (w.heap.size + 3) 3 1 (.slice (some ⟨w.heap.size + 3, 0, none⟩) 512 512) 512 xs) ∧ Hid (xs.length = 512) ∧ Hid (∀ j, j < 512 → xs[j]? = some (.int .i64 (fV j + (if at_ ≤ j ∧ j < at_ + i then PS.getD (j - at_) 0 else 0)))) ∧ Hid (Only (w.heap.size + 3) W6 wr)) (fun I _ => m - (intOf I).toNat)
      case atStart => exact ⟨0, _, rfl, Nat.zero_le _, HR6, Lib.hid (by unfold outV; simp), Lib.hid (fun j hj => by rw [HO9.out, List.map_map, List.getElem?_map, List.getElem?_range hj, if_neg (by omega), Int.add_zero]; rfl), Lib.hid (Only.refl _ _)⟩
      case round =>
        obtain ⟨i, xs, rfl, hi, hO, hlx, hxs, hOn⟩ := hrel
        clear HR6
        by_cases hlt : i < m
        · have hd : decide ((i : Int) < (m : Int)) = true := decide_eq_true (by omega)
          obtain ⟨b2, o2, e2, _, hc2⟩ := (hOn.out.ints HI6.out (by omega)).at (j := i) (by rw [HPL.out]; exact hlt)
          obtain ⟨rfl, rfl⟩ : g6 = b2 ∧ 0 = o2 := by simpa using e2
          have hcP := hc2 i (by rw [HPL.out]; exact hlt)
          rw [Nat.zero_add] at hcP
          have k11r := (K11.out : Boxed W6 W1.heap.size _ _)
          have hc11 : wr.cell? ⟨W1.heap.size, 0, none⟩ = some (.slice (some ⟨w.heap.size + 3, 0, none⟩) 512 512) := (show Boxed wr W1.heap.size 23 _ from (hOn.out.block _ (by omega)).trans k11r).cell
          have hcO := hO.out.cellAt (at_ + i) (by omega)
          have hfO := hO.out.frozenAt (at_ + i)
          have hx0 := hxs.out (at_ + i) (by omega)
          rw [if_neg (by omega), Int.add_zero] at hx0
          rw [hx0] at hcO
          have r1 := HBD.out (at_ + i)
          have r2 := HPM.out i
          have T1 := Lib.hid (show PS.getD i 0 = PS.getD (at_ + i - at_) 0 by congr 1; omega)
          obtain ⟨y, hy⟩ : ∃ y, PS.getD i 0 = y := ⟨_, rfl⟩
          obtain ⟨z, hz⟩ : ∃ z, fV (at_ + i) = z := ⟨_, rfl⟩
          rw [hy] at hcP r2
          rw [hz] at hcO r1
          have hw5 : IntKind.i64.wrap ((at_ : Int) + (i : Int)) = ((at_ + i : Nat) : Int) := by rw [IntKind.wrap_i64]; omega
          have hw6 : IntKind.i64.wrap (z + y) = z + y := by rw [IntKind.wrap_i64]; omega
          have hai : at_ + i < 512 := by omega
          have hS := hO.out.stored (at_ + i) (.int .i64 (z + y))
          have hO2 := Lib.hid hS.1
          have hl2 := Lib.hid (show (xs.set (at_ + i) (.int .i64 (z + y))).length = 512 by simp [hlx.out])
          have hx2 := Lib.hid (show ∀ j, j < 512 → (xs.set (at_ + i) (.int .i64 (z + y)))[j]? = some (.int .i64 (fV j + (if at_ ≤ j ∧ j < at_ + (i + 1) then PS.getD (j - at_) 0 else 0))) from fun j hj => by
            by_cases e : j = at_ + i
            · subst e
              rw [List.getElem?_set_self (by rw [hlx.out]; omega), if_pos (by omega), ← T1.out, hz, hy]
            · rw [List.getElem?_set_ne (by omega), hxs.out j hj]
              by_cases e2 : at_ ≤ j ∧ j < at_ + i
              · rw [if_pos e2, if_pos (by omega)]
              · rw [if_neg e2, if_neg (by omega)])
          have hOn2 := Lib.hid (hOn.out.set (at_ + i) (.int .i64 (z + y)))
          clear hS hxs hO hlx hOn hx0 hc2 e2
          gi_wp2
          all_goals exact ⟨⟨i + 1, _, by go_num, by omega, hO2, hl2, hx2, hOn2⟩, by simp [intOf]; omega⟩
        · have hd : decide ((i : Int) < (m : Int)) = false := decide_eq_false (by omega)
          have him := Lib.hid (show i = m by omega)
          gi_wp2
          have hSt : Still2 w.heap.size (w.heap.size + 3) (W1.heap.size + 6) W3 wr := (((Still2.of (HB4.out.mono (by omega))).trans S5.still').trans (Still2.of (HB6.out.mono (by omega)))).trans hOn.out.still
          have hlen : (pre ++ [x]).length = k + 1 := by rw [List.length_append, hkk]; rfl
          have hdr : lines.drop (H * (k + 1)) = S.drop H := by rw [← hS, List.drop_drop, Nat.mul_add, Nat.mul_one]
          have hdl : (S.drop H).length = s - H := by rw [List.length_drop, hs]
          obtain ⟨q', c', b5, hc', hib⟩ := K5.out
          refine ⟨⟨hSt.size, hSt.block _ (by omega) (by omega) (by omega), hSt.block _ (by omega) (by omega) (by omega)⟩, fun j j1 j2 => hSt.block j (by omega) (by omega) (by omega), hSt.boxed k8 (by omega) (by omega) (by omega), hSt.boxed k9 (by omega) (by omega) (by omega), hSt.boxed k11 (by omega) (by omega) (by omega), hSt.below kB (by omega) (by omega) (by omega), ?_, ⟨q', c', ?_, ?_, ?_⟩, ?_, ?_⟩
          · have e := fill_eq (f := fun j => fV j + (if at_ ≤ j ∧ j < at_ + m then PS.getD (j - at_) 0 else 0)) hlx.out (by rw [← him.out]; exact hxs.out)
            have e2 : outV lines (pre ++ [x]) = xs := by
              rw [e]; unfold outV
              congr 1
              exact List.map_congr_left (fun j _ => HSN.out j)
            rw [e2]; exact hO.out
          · rw [hlen, hdr, hdl]
            exact (hOn.out.block w.heap.size (by omega)).trans ((HB6.out.block w.heap.size (by omega)).trans b5)
          · rw [hlen, hdr, hdl]; exact hc'
          · rw [hlen, hdr]
            exact hib.keep (hSt.below (Below.refl w.heap.size W3) (by omega) (Nat.le_refl _) (by omega)) (Nat.le_refl _)
          · rw [hlen]; exact HFIT.out.1
          · rw [hlen]; exact HFIT.out.2
  case hdone =>
    rintro xs W hz hS ⟨k8, k9, k11, kB, hown, _, _, _⟩ hK
    have e1 : xs.map keyW = ws := hS
    have hLL : outV lines xs = (synL ws lines).map (Value.int .i64) := by unfold outV synL; rw [e1]
    rw [hLL] at hown
    have hll : (synL ws lines).length = 512 := by unfold synL; simp
    have HLL := Lib.hid hll
    have HO := Lib.hid hown
    have hc11 := k11.cell
    have hc8 := k8.cell
    have hc9 := k9.cell
    have hf8 := k8.frozen
    have hf9 := k9.frozen
    generalize synL ws lines = LL at *
    clear hown hLL hll e1 hS
    gi_wp2
    rw [hsz] at hK hz
    obtain ⟨W8, hW8⟩ : ∃ W8, (W.setCell ⟨w.heap.size + 1, 0, none⟩ (.slice (some ⟨w.heap.size + 3, 0, none⟩) 512 512)).setCell ⟨w.heap.size + 1 + 1, 0, none⟩ (.int .i64 0) = W8 := ⟨_, rfl⟩
    have j8 : Boxed W8 (w.heap.size + 1) 23 (.slice (some ⟨w.heap.size + 3, 0, none⟩) 512 512) := by rw [← hW8]; exact (k8.set _).other (by omega) _
    have j9 : Boxed W8 (w.heap.size + 2) 24 (.int .i64 0) := by rw [← hW8]; exact (k9.other (by omega) _).set _
    have hK8 : W8.heap[W1.heap.size + 4]? = some (.deferred (some [])) := by
      rw [← hW8]
      exact (Below.heap_setCell _ _ _ _ (by show _ ≠ w.heap.size + 1 + 1; omega)).trans ((Below.heap_setCell _ _ _ _ (by show _ ≠ w.heap.size + 1; omega)).trans hK)
    have hB8 : Below w.heap.size w W8 := by rw [← hW8]; exact (kB.setCell (p := ⟨w.heap.size + 1, 0, none⟩) (by show _ ≤ w.heap.size + 1; omega) _).setCell (p := ⟨w.heap.size + 1 + 1, 0, none⟩) (by show _ ≤ w.heap.size + 1 + 1; omega) _
    have hO8 : W8.ownsRow (w.heap.size + 3) 3 1 (.slice (some ⟨w.heap.size + 3, 0, none⟩) 512 512) 512 (LL.map (Value.int .i64)) := by
      rw [← hW8]
      exact (HO.out.kept (grownBy_setCell' _ _ _) (.inr (by simp [Value.ownBlock]))).kept (grownBy_setCell' _ _ _) (.inr (by simp [Value.ownBlock]))
    rw [hW8, hsz]
    clear hW8 HO hf8 hf9 hc8 hc9
    refine ⟨by simp, .inl ⟨_, _, rfl, run_takeDeferred hK8, ?_⟩⟩
    have q8 := (j8.kept (grownBy_putObj' W8 (W1.heap.size + 4) (.deferred none)) (by simp; omega)).cell
    have q9 := (j9.kept (grownBy_putObj' W8 (W1.heap.size + 4) (.deferred none)) (by simp; omega)).cell
    refine ⟨.tuple #[.slice (some ⟨w.heap.size + 3, 0, none⟩) 512 512, .int .i64 0], ?_, _, rfl, ?_, hB8.trans (belowK_b (w := w) (Nat.le_refl _) W8 (W1.heap.size + 4) _ _ (by omega) hK8 rfl rfl)⟩
    · simp [results, Try.f10, go_sem, q8, q9]
    · show World.ownsRow _ _ _ _ _ LL.length _
      rw [HLL.out]
      exact ownsRow_putObj (owns_lower hO8 (by omega)) _ hK8 rfl
end Go.Proofs.Ytclbbfpagkhonaa
