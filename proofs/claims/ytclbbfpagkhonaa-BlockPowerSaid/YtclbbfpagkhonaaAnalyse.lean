/- block.Analyse: what each call answers. -/
import Derived.Test.YtclbbfpagkhonaaIter
import Derived.Test.YtclbbfpagkhonaaBlockPlain
set_option linter.unusedVariables false
namespace Go.Proofs.Ytclbbfpagkhonaa
open Go.ChangeShapes Go.WideShapes Go.ChangeAt Go.RowKit
attribute [local go_sem] Oper.semAt_some

/-- Whatever lay below M lies as it lay, but for block B. -/
structure Still (B M : Nat) (w w' : World) : Prop where
  os : w'.os = w.os
  tape : w'.tape = w.tape
  output : w'.output = w.output
  size : w.heap.size ≤ w'.heap.size
  block : ∀ k, k < M → k ≠ B → w'.heap[k]? = w.heap[k]?
theorem Still.of {B M : Nat} {w w' : World} (h : Below M w w') : Still B M w w' := ⟨h.os, h.tape, h.output, h.size, fun k hk _ => h.block k hk⟩
theorem Still.trans {B M : Nat} {x y z : World} (h : Still B M x y) (k : Still B M y z) : Still B M x z :=
  ⟨k.os.trans h.os, k.tape.trans h.tape, k.output.trans h.output, Nat.le_trans h.size k.size, fun i hi hn => (k.block i hi hn).trans (h.block i hi hn)⟩
theorem Still.set {B M : Nat} (w : World) (i : Nat) (v : Value) : Still B M w (w.setCell ⟨B, i, none⟩ v) := ⟨rfl, rfl, rfl, by simp [World.setCell], fun k _ hk => Below.heap_setCell _ _ _ _ hk⟩
theorem Still.boxed {B M b : Nat} {w w' : World} {t : TypeId} {v : Value} (h : Still B M w w') (hb : Boxed w b t v) (h1 : b < M) (h2 : b ≠ B) : Boxed w' b t v := (h.block b h1 h2).trans hb
theorem Still.below {B M n : Nat} {w0 w w' : World} (h : Still B M w w') (hb : Below n w0 w) (h1 : n ≤ M) (h2 : n ≤ B) : Below n w0 w' := hb.trans ⟨h.os, h.tape, h.output, h.size, fun k hk => h.block k (by omega) (by omega)⟩
theorem Apart.boxed {L b : Nat} {w w' : World} {t : TypeId} {v : Value} (h : Apart L w w') (hb : Boxed w b t v) (h1 : b < L) : Boxed w' b t v := (h.block b hb.lt (by omega) (by omega)).trans hb
theorem owns_away {L : Nat} {w w' : World} {base : Nat} {e : TypeId} {size : Nat} {v : Value} {n : Nat} {xs : List Value} (h : w.ownsRow base e size v n xs) (ha : Apart L w w') (hb : L + 2 ≤ base) : w'.ownsRow base e size v n xs := by
  refine ⟨h.1, ?_⟩
  rcases h.2 with hn | ⟨g, cap, cur, rfl, hg, hgg, rest⟩
  · exact .inl hn
  · exact .inr ⟨g, cap, cur, rfl, hg, (ha.block g (Array.getElem?_eq_some_iff.1 hgg).1 (by omega) (by omega)).trans hgg, rest⟩
theorem box_new (w : World) (t : TypeId) (v : Value) {b : Nat} (hb : w.heap.size = b) : Boxed (w.alloc (.cells #[v] t)) b t v := by subst hb; exact Boxed.new w t v
/-- A row of the call's own, and another behind it, in a round. -/
theorem appendIn_row {F : Fence} {n : Nat} {w : World} {ops : Array Oper} {rest : List Oper} {o : Oper} {a : Act} {Q : Exit → Act → World → Prop} (hgd : o.guard = none) (s x : Operand)
    (ho : o.op = .call { callee := .builtin .append, args := #[s, x], argTypes := #[23, 23] })
    (base : Nat) (v : Value) (L0 : List Int) (hs : a.eval s = v) (hown : w.ownsRow base 3 1 v L0.length (L0.map (Value.int .i64)))
    (p : Addr) (m c : Nat) (l : List Int) (hx : a.eval x = .slice (some p) m c) (hI : IsInts w (some p) l) (hm : l.length = m) (hp : 0 < l.length) (hL0 : L0.length ≤ 4096) (hl : l.length ≤ 4096) (hbase : base ≤ w.heap.size)
    (h : ∀ g' c' w', g' < w'.heap.size → base ≤ g' → w'.ownsRow base 3 1 (.slice (some ⟨g', 0, none⟩) (L0 ++ l).length c') (L0 ++ l).length ((L0 ++ l).map (Value.int .i64)) → Below base w w' → wpListIn F n Try.prog ops Q rest (a.put o.dst (.slice (some ⟨g', 0, none⟩) (L0 ++ l).length c')) w') : wpListIn F n Try.prog ops Q (o :: rest) a w := by
  obtain ⟨i0, hi, hz0, hz1, hz2⟩ := info_parts Try.infoInt
  have hl0 := hown.lt
  refine wpListIn_append_own w hgd s x _ ho base 3 i0 (.int .i64 0) 1 8 Try.underlying23 hi hz0 hz1 hz2 rfl (by decide) v L0.length (L0.map (Value.int .i64)) hs hown p m c (l.map (Value.int .i64)) hx (by simp [hm]) ?_ (by simp [Value.oneCell']) (by unfold maxLen; omega) (by omega) hbase ?_
  · intro j u hu
    have hj : j < l.length := by
      rcases Nat.lt_or_ge j l.length with h | h
      · exact h
      · rw [List.getElem?_eq_none (by simp; omega)] at hu; cases hu
    obtain ⟨b, off, hpp, _, hc⟩ := hI.at hj
    obtain rfl : p = ⟨b, off, none⟩ := by simpa using hpp
    rw [Addr.add_lit, hc j hj]
    rw [row_get l j (Nat.zero_le _) hj] at hu
    exact hu
  · intro v' w' r1 r2 _
    have r1' : w'.ownsRow base 3 1 v' (L0 ++ l).length ((L0 ++ l).map (Value.int .i64)) := by
      rw [List.length_append, List.map_append, hm]; exact r1
    obtain ⟨g', cap, rfl, hg, hlt, hc⟩ := owns_at r1' (by intro e; have := congrArg List.length e; rw [List.length_append] at this; simp only [List.length_nil] at this; omega)
    exact h g' cap w' hlt hg r1' ((Below.refl base w).grown r2 hbase (fun j hj => (hl0 j hj).1))
theorem ints_cut {w : World} {b off : Nat} {l : List Int} (h : IsInts w (some ⟨b, off, none⟩) l) (at_ n : Nat) : IsInts w (some ⟨b, off + at_, none⟩) ((l.drop at_).take n) := by
  rcases h with h | ⟨b', off', hp, hlt, hc⟩
  · subst h; exact .inl (by simp)
  · obtain ⟨rfl, rfl⟩ : b = b' ∧ off = off' := by simpa using hp
    refine .inr ⟨b, off + at_, rfl, hlt, fun j hj => ?_⟩
    rw [List.length_take, List.length_drop] at hj
    rw [Nat.add_assoc, hc (at_ + j) (by omega)]
    congr 2
    rw [List.getD_eq_getElem?_getD, List.getD_eq_getElem?_getD, List.getElem?_take_of_lt (by omega), List.getElem?_drop]
def keyW (x : WinX) : Int × List Int := (x.pos, x.l)
theorem anaL_len (pcm : List Int) (hl : pcm.length = 512) : ∀ ws : List (Int × List Int), (anaL ws pcm).length ≤ 256 * ws.length
  | [] => by simp [anaL]
  | p :: ws => by
    have ih := anaL_len pcm hl ws
    have e : (underL pcm p).length ≤ 512 := by unfold underL; rw [timesL_len]; unfold cutF; rw [List.length_take, List.length_drop]; omega
    simp only [anaL, List.flatMap_cons, List.length_append, List.length_cons, linesF, List.length_map, List.length_range] at *
    omega
def IAna (w : World) (pv : Value) (pcm : List Int) (pre : List WinX) (W : World) : Prop :=
  Boxed W w.heap.size 23 pv ∧ Boxed W (w.heap.size + 2) 24 (.int .i64 0) ∧ Below w.heap.size w W ∧
  ∃ v, Boxed W (w.heap.size + 1) 23 v ∧ W.ownsRow (w.heap.size + 8) 3 1 v (anaL (pre.map keyW) pcm).length ((anaL (pre.map keyW) pcm).map (Value.int .i64))
theorem IAna.apart {w : World} {pv : Value} {pcm : List Int} (pre : List WinX) (A B : World) (h : IAna w pv pcm pre A) (ha : Apart (w.heap.size + 6) A B) (hs : w.heap.size + 6 ≤ A.heap.size) : IAna w pv pcm pre B := by
  obtain ⟨h1, h2, h3, v, h4, h5⟩ := h
  exact ⟨ha.boxed h1 (by omega), ha.boxed h2 (by omega), ha.below h3 (by omega) (by omega), v, ha.boxed h4 (by omega), owns_away h5 ha (by omega)⟩
set_option maxRecDepth 100000 in
set_option maxHeartbeats 4000000 in
theorem ana_ok (seq was shape : Int) (hs : seq = 0 ∨ seq = 1 ∨ seq = 2 ∨ seq = 3) (h0 : was = 0 ∨ was = 1) (h1 : shape = 0 ∨ shape = 1) (pcm : List Int) (hl : pcm.length = 512) (hm : ∀ j, -32768 ≤ pcm.getD j 0 ∧ pcm.getD j 0 ≤ 32767)
    (p : Option Addr) (c : Nat) (hc : 512 ≤ c) (w : World) (hI : IsInts w p pcm) (hA : askedE seq was shape pcm 512 (-32768) 32767 = 0) :
    Calls Try.prog 11 #[.int .u8 seq, .int .u8 was, .int .u8 shape, .slice p 512 c] w (RRowE (anaL (winsL seq was shape) pcm, 0) w) := by
  obtain ⟨pb, off, rfl, hpb, _⟩ := hI.at (j := 0) (by omega)
  have HAS := Lib.hid (show ∀ W, IsInts W (some ⟨pb, off, none⟩) pcm → Calls Try.prog 22 #[.int .u8 seq, .int .u8 was, .int .u8 shape, .slice (some ⟨pb, off, none⟩) 512 c, .int .i64 512, .int .i64 (-32768), .int .i64 32767] W (RAsked 0 W) from fun W hW => by
    have := asked_ok seq was shape (some ⟨pb, off, none⟩) c pcm 512 (by omega) (by omega) (-32768) 32767 W hW
    rw [hl, hA] at this
    exact this)
  unfold RAsked at HAS
  have HIB := Lib.hid hI.inB
  have HM := Lib.hid hm
  have HL := Lib.hid hl
  refine (callsIn_wide (n := 3)).1 ?_
  refine callsIn_of_wp_marks Try.func11 rfl trivial ?_ rfl
  simp only [Try.ntmps11, List.size_toArray, List.length_cons, List.length_nil, Nat.reduceAdd, Nat.reduceSub, Array.replicate_succ, Array.replicate_zero, List.push_toArray, List.append_toArray, List.nil_append, List.cons_append]
  gi_wp2_with fail
  refine ⟨trivial, ?_⟩
  refine (callsIn_wide.2 (HAS.out _ ?_)).mono ?_
  · exact HIB.out.ints.keep ((((Below.refl _ w).alloc (Nat.le_refl _) _).alloc (by simp) _).alloc (by simp; omega) _)
  rintro e w1 ⟨rfl, hw⟩
  rw [← hw]
  clear hw w1
  gi_wp2_with fail
  refine ⟨trivial, ?_⟩
  refine (callsIn_wide.2 (windows_ok seq was shape _)).mono ?_
  rintro e w1 ⟨rfl, rfl⟩
  simp only [World.size_alloc, windowsV]
  obtain ⟨W0, hW0⟩ : ∃ W0, (((((w.alloc (.cells #[.slice (some ⟨pb, off, none⟩) 512 c] 23)).alloc (.cells #[.slice none 0 0] 23)).alloc (.cells #[.int .i64 0] 24)).alloc (.cells #[.int .u8 seq] 5)).alloc (.cells #[.int .u8 was] 5)).alloc (.cells #[.int .u8 shape] 5) = W0 := ⟨_, rfl⟩
  have hsz : W0.heap.size = w.heap.size + 6 := by rw [← hW0]; simp
  have hB0 : Below w.heap.size w W0 := by rw [← hW0]; exact ((((((Below.refl _ w).alloc (Nat.le_refl _) _).alloc (by simp) _).alloc (by simp; omega) _).alloc (by simp; omega) _).alloc (by simp; omega) _).alloc (by simp; omega) _
  have hb7 : Boxed W0 w.heap.size 23 (.slice (some ⟨pb, off, none⟩) 512 c) := by rw [← hW0]; exact (((((box_new w _ _ rfl).alloc _).alloc _).alloc _).alloc _).alloc _
  have hb8 : Boxed W0 (w.heap.size + 1) 23 (.slice none 0 0) := by rw [← hW0]; exact ((((box_new _ _ _ (by simp)).alloc _).alloc _).alloc _).alloc _
  have hb9 : Boxed W0 (w.heap.size + 2) 24 (.int .i64 0) := by rw [← hW0]; exact (((box_new _ _ _ (by simp)).alloc _).alloc _).alloc _
  have hba : Boxed W0 (w.heap.size + 3) 5 (.int .u8 seq) := by rw [← hW0]; exact ((box_new _ _ _ (by simp)).alloc _).alloc _
  have hbb : Boxed W0 (w.heap.size + 4) 5 (.int .u8 was) := by rw [← hW0]; exact (box_new _ _ _ (by simp)).alloc _
  have hbc : Boxed W0 (w.heap.size + 5) 5 (.int .u8 shape) := by rw [← hW0]; exact box_new _ _ _ (by simp)
  gi_wp2_with fail
  rw [hW0]
  clear hW0
  have hseq : SeqAll Try.prog 36 #[.pointer (some ⟨w.heap.size + 3, 0, none⟩), .pointer (some ⟨w.heap.size + 3 + 1, 0, none⟩), .pointer (some ⟨w.heap.size + 3 + 2, 0, none⟩)] encW (PxW seq was shape W0.heap.size) (SW seq was shape) (KW (w.heap.size + 3)) W0 := by
    by_cases h2 : seq = 2
    · subst h2; exact windows_all2 was shape h0 h1 W0 (w.heap.size + 3) (by omega) hba.cell hbb.cell hbc.cell
    · exact windows_all1 seq was shape (by omega) h0 h1 W0 (w.heap.size + 3) (by omega) hba.cell hbb.cell hbc.cell
  have HWF := Lib.hid (fun k p => wins_fit seq was shape hs h0 h1 k p)
  have HPX := Lib.hid (fun s x A B => PxW.apart (seq := seq) (was := was) (shape := shape) (L := W0.heap.size) s x A B)
  unfold PxW at HPX
  unfold SW PxW at hseq
  generalize winsL seq was shape = ws at *
  clear hs h0 h1 hA HAS hba hbb hbc hm
  refine range_all (gf := 36) (lb := #[.pointer (some ⟨w.heap.size + 3, 0, none⟩), .pointer (some ⟨w.heap.size + 3 + 1, 0, none⟩), .pointer (some ⟨w.heap.size + 3 + 2, 0, none⟩)]) rfl (enters_of Try.func36 (by kernel_rfl) rfl) hseq
    ?hK (fun _ => rfl) (IAna w (.slice (some ⟨pb, off, none⟩) 512 c) pcm) ?hI ?hPx ?h0 ?hround ?hdone
  case hK =>
    intro A A' B B' g1 g2 g k k1 k2
    exact (g2 k (by omega)).trans ((g k k1 k2).trans (g1 k (by omega)))
  case hI =>
    intro s A B hi hz ha
    exact hi.apart s A B (by rw [← hsz]; exact ha) (by omega)
  case hPx =>
    intro s x A B hx hz ha
    exact HPX.out s x A B hx hz ha
  case h0 => exact ⟨hb7, hb9, hB0, _, hb8, World.ownsRow_nil _ _ _ _⟩
  case hround =>
    rintro l pre x W W2 hA2 ⟨k7, k9, kB, v, k8, hown⟩ ⟨hx1, hx2, hx3, hx4⟩ K' hK'
    have HK := Lib.hid hK'
    clear hK'
    gi_wp2
    refine HK.out _ ?_
    clear HK K'
    have hf := HWF.out _ _ hx1
    have HR := Lib.hid hown
    have HX4 := Lib.hid hx4
    obtain ⟨at_, hat⟩ : ∃ a : Nat, x.pos = (a : Int) := ⟨x.pos.toNat, by rcases hf.1 with ⟨_, h1, _⟩ | ⟨_, h1, _⟩ <;> (simp only at h1; omega)⟩
    obtain ⟨m, hm⟩ : ∃ m, x.l.length = m := ⟨_, rfl⟩
    have hq : at_ + m ≤ 512 ∧ (m = 512 ∨ m = 64) := by
      rcases hf.1 with ⟨_, h1, h2⟩ | ⟨_, h1, h2⟩ <;> (simp only at h1 h2; omega)
    have hcl : (cutF pcm (keyW x)).length = m := by rw [← hm]; exact cutF_len hf HL.out
    have hcut : cutF pcm (keyW x) = (pcm.drop at_).take m := by unfold cutF keyW; simp only; rw [hat, hm]; rfl
    have hP2 : IsInts W2 (some ⟨pb, off + at_, none⟩) (cutF pcm (keyW x)) := by rw [hcut]; exact ints_cut (HIB.out.keep kB (Nat.le_refl _)).ints at_ m
    have HT := Lib.hid (show Calls Try.prog 25 #[.slice (some ⟨pb, off + at_, none⟩) m (c - at_), .slice (some ⟨x.b, 0, none⟩) m x.c, .int .i64 14] W2 (RRowF (underL pcm (keyW x)) W2) by
      have h := times_ok (cutF pcm (keyW x)) x.l 14 (by omega) (some ⟨pb, off + at_, none⟩) (some ⟨x.b, 0, none⟩) (c - at_) x.c m W2 hP2 HX4.out hm (by omega) (by omega) (fun j hj => by
        have a := HM.out (at_ + j)
        have e : (cutF pcm (keyW x)).getD j 0 = pcm.getD (at_ + j) 0 := by rw [cutF_get (by show j < x.l.length; omega)]; unfold keyW; simp only; rw [hat]; rfl
        have b := getD_range hf.2 (by omega) (by omega) j
        rw [e]
        have := mul_fit (x := pcm.getD (at_ + j) 0) (v := x.l.getD j 0) (A := 32768) (by omega) (by omega) b.1 b.2
        omega)
      rw [hcl] at h
      exact h)
    have hul : (underL pcm (keyW x)).length = m := by unfold underL; rw [timesL_len]; exact hcl
    have HFW := Lib.hid (fun (z : List Int) (g : Nat) (W : World) (hz : z = underL pcm (keyW x)) (hI : IsInts W (some ⟨g, 0, none⟩) z) => show Calls Try.prog 26 #[.slice (some ⟨g, 0, none⟩) m m] W (RRowE (linesF (underL pcm (keyW x)), 0) W) by
      have h := fwd_any z (some ⟨g, 0, none⟩) m (by rw [hz, hul]; omega) W hI
      have e : fwdN z = (linesF z, 0) := by
        unfold fwdN
        rw [if_neg (by rw [hz, hul]; omega), if_neg]
        intro ho
        obtain ⟨y, hy, hyo⟩ := List.any_eq_true.1 ho
        obtain ⟨i, hi, rfl⟩ := List.getElem_of_mem hy
        have r := under_any hf (fun j => ⟨(HM.out j).1, by have := (HM.out j).2; omega⟩) i (pcm := pcm)
        rw [show (x.pos, x.l) = keyW x from rfl, ← hz, List.getD_eq_getElem?_getD, List.getElem?_eq_getElem hi] at r
        simp only [Option.getD_some] at r
        unfold oddP at hyo
        simp only [Bool.or_eq_true, decide_eq_true_eq] at hyo
        omega
      rw [e, hz, hul] at h
      exact h)
    dsimp only [encW]
    rw [hat, hm]
    have hc7 := k7.cell
    have hc8 := k8.cell
    have hf8 := k8.frozen
    obtain ⟨m0, m1⟩ := hq
    have hw1 : IntKind.i64.wrap ((at_ : Int) + (m : Int)) = at_ + m := by rw [IntKind.wrap_i64]; omega
    have hLn : (linesF (underL pcm (keyW x))).length = m / 2 := by unfold linesF; rw [List.length_map, List.length_range, hul]
    have HSN := Lib.hid (show anaL ((pre ++ [x]).map keyW) pcm = anaL (pre.map keyW) pcm ++ linesF (underL pcm (keyW x)) by rw [List.map_append]; exact anaL_snoc _ _ _)
    have hLa := anaL_len pcm HL.out (pre.map keyW)
    rw [List.length_map] at hLa
    have hp8 : pre.length < 8 := by rcases hf.1 with ⟨h, _⟩ | ⟨h, _⟩ <;> omega
    unfold RRowF at HT
    rw [hul] at HT
    unfold RRowE at HFW
    dsimp only at HFW
    obtain ⟨U, hU⟩ : ∃ U, underL pcm (keyW x) = U := ⟨_, rfl⟩
    rw [hU] at HT HFW HSN hLn hul
    obtain ⟨LF, hLF⟩ : ∃ LF, linesF U = LF := ⟨_, rfl⟩
    rw [hLF] at HFW HSN hLn
    obtain ⟨L0, hL0⟩ : ∃ L0, anaL (pre.map keyW) pcm = L0 := ⟨_, rfl⟩
    rw [hL0] at HSN hLa HR
    have HUL := Lib.hid hul
    have HLN := Lib.hid hLn
    clear hown hx4 hP2 hU hLF hL0 hul hLn
    gi_wp2_with fail
    refine ⟨trivial, ?_⟩
    refine (CallsIn.inRound l (callsIn_wide.2 HT.out)).mono ?_
    rintro e W3 ⟨g3, rfl, hO3, hg3, hlt3, hB3⟩
    have HI3 := Lib.hid (full_ints hO3 HUL.out hlt3)
    clear hO3 HT
    gi_wp2_with fail
    refine ⟨trivial, ?_⟩
    refine (CallsIn.inRound l (callsIn_wide.2 (HFW.out _ g3 W3 rfl HI3.out))).mono ?_
    rintro e W4 ⟨v4, rfl, hO4, hB4⟩
    obtain ⟨g4, cap4, rfl, hg4, hlt4, hc4⟩ := owns_at hO4 (by intro e; have := HLN.out; rw [e] at this; simp only [List.length_nil] at this; omega)
    have HI4 := Lib.hid (isInts_of hlt4 hc4)
    have hz3 := hB3.size
    have hz4 := hB4.size
    have hB34 : Below W2.heap.size W2 W4 := hB3.trans (hB4.mono hz3)
    have HR4 := Lib.hid (owns_keep HR.out hB34)
    have hc8' := (hB34.cell (p := ⟨w.heap.size + 1, 0, none⟩) (by show w.heap.size + 1 < _; omega)).trans hc8
    have hbx := Lib.hid (show Boxed W4 (w.heap.size + 1) 23 v from (hB34.block (w.heap.size + 1) (by omega)).trans k8)
    have HB34 := Lib.hid hB34
    clear hO4 hc4 HR hc8 hf8 HFW hB34
    gi_wp2_with (gi_at_builtin; refine appendIn_row rfl (.tmp 45) (.tmp 46) rfl (w.heap.size + 8) v L0 rfl HR4.out ⟨g4, 0, none⟩ LF.length cap4 LF rfl HI4.out rfl (by rw [HLN.out]; omega) (by omega) (by rw [HLN.out]; omega) (by omega) ?_; intro g5 c5 W5 hlt5 hg5 hO5 hB5; have hx5 : Boxed W5 (w.heap.size + 1) 23 v := (hB5.block (w.heap.size + 1) (by omega)).trans hbx.out; have hc5 := hx5.cell; have hf5 := hx5.frozen)
    have hz5 := hB5.size
    rw [List.length_append] at hO5
    have hS : Still (w.heap.size + 1) (w.heap.size + 8) W2 (W5.setCell ⟨w.heap.size + 1, 0, none⟩ (.slice (some ⟨g5, 0, none⟩) (L0.length + LF.length) c5)) := ((Still.of (HB34.out.mono (by omega))).trans (Still.of hB5)).trans (Still.set _ _ _)
    refine ⟨⟨hS.size, hS.block _ (by omega) (by omega), hS.block _ (by omega) (by omega)⟩, fun k k1 k2 => hS.block k (by omega) (by omega), hS.boxed k7 (by omega) (by omega), hS.boxed k9 (by omega) (by omega), hS.below kB (by omega) (by omega), _, hx5.set _, ?_⟩
    rw [HSN.out, List.length_append]
    exact hO5.kept (grownBy_setCell' W5 _ _) (.inr (by simp [Value.ownBlock]; omega))
  case hdone =>
    rintro xs W hz hS ⟨k7, k9, kB, v, k8, hown⟩ hK
    have e1 : xs.map keyW = ws := hS
    rw [e1] at hown
    obtain ⟨p5, cap5, rfl, hI5⟩ := owns_any hown
    have HO := Lib.hid hown
    have hc8 := k8.cell
    have hc9 := k9.cell
    have hf8 := k8.frozen
    have hf9 := k9.frozen
    generalize anaL ws pcm = LL at *
    clear hown hI5
    gi_wp2
    rw [hsz] at hK hz
    obtain ⟨W8, hW8⟩ : ∃ W8, (W.setCell ⟨w.heap.size + 1, 0, none⟩ (.slice p5 LL.length cap5)).setCell ⟨w.heap.size + 1 + 1, 0, none⟩ (.int .i64 0) = W8 := ⟨_, rfl⟩
    have j8 : Boxed W8 (w.heap.size + 1) 23 (.slice p5 LL.length cap5) := by rw [← hW8]; exact (k8.set _).other (by omega) _
    have j9 : Boxed W8 (w.heap.size + 2) 24 (.int .i64 0) := by rw [← hW8]; exact (k9.other (by omega) _).set _
    have hK8 : W8.heap[w.heap.size + 6]? = some (.deferred (some [])) := by
      rw [← hW8]
      exact (Below.heap_setCell _ _ _ _ (by show _ ≠ w.heap.size + 1 + 1; omega)).trans ((Below.heap_setCell _ _ _ _ (by show _ ≠ w.heap.size + 1; omega)).trans hK)
    have hB8 : Below w.heap.size w W8 := by rw [← hW8]; exact (kB.setCell (p := ⟨w.heap.size + 1, 0, none⟩) (by show _ ≤ w.heap.size + 1; omega) _).setCell (p := ⟨w.heap.size + 1 + 1, 0, none⟩) (by show _ ≤ w.heap.size + 1 + 1; omega) _
    have hO8 : W8.ownsRow (w.heap.size + 8) 3 1 (.slice p5 LL.length cap5) LL.length (LL.map (Value.int .i64)) := by
      rw [← hW8]
      have hne : ∀ j, j < w.heap.size + 8 → some j ≠ (Value.slice p5 LL.length cap5).ownBlock := by
        intro j hj e
        have := (HO.out.lt j e.symm).1
        omega
      exact (HO.out.kept (grownBy_setCell' _ _ _) (.inr (fun e => hne _ (by omega) e.symm))).kept (grownBy_setCell' _ _ _) (.inr (fun e => hne _ (by omega) e.symm))
    rw [hW8, hsz]
    clear hW8 HO hf8 hf9 hc8 hc9
    refine ⟨by simp, .inl ⟨_, _, rfl, run_takeDeferred hK8, ?_⟩⟩
    have q8 := (j8.kept (grownBy_putObj' W8 (w.heap.size + 6) (.deferred none)) (by simp)).cell
    have q9 := (j9.kept (grownBy_putObj' W8 (w.heap.size + 6) (.deferred none)) (by simp)).cell
    refine ⟨.tuple #[.slice p5 LL.length cap5, .int .i64 0], ?_, _, rfl, ?_, hB8.trans (belowK_b (w := w) (Nat.le_refl _) W8 (w.heap.size + 6) _ _ (by omega) hK8 rfl rfl)⟩
    · simp [results, Try.f11, go_sem, q8, q9]
    · exact ownsRow_putObj (owns_lower hO8 (by omega)) _ hK8 rfl
end Go.Proofs.Ytclbbfpagkhonaa
