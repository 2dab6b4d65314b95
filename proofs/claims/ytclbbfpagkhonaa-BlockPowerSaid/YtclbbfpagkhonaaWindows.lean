/- block.windows: the iterator's contract. -/
import Derived.Test.YtclbbfpagkhonaaLoopAll
import Derived.Test.YtclbbfpagkhonaaWindow
import Derived.WalkKit
import Derived.OwnWalkIn
import Derived.TacticsInMore
import Derived.LoopNIn
import Derived.LoopIn
import Derived.ArgAppend
import Derived.Shelf.RegionOpen
set_option linter.unusedVariables false
namespace Go.Proofs.Ytclbbfpagkhonaa
open Go.ChangeShapes Go.WideShapes Go.ChangeAt Go.RowKit
attribute [local go_sem] Oper.semAt_some

structure WinX where
  pos : Int
  l : List Int
  b : Nat
  c : Nat
def encW (x : WinX) : Array Value := #[.int .i64 x.pos, .slice (some ⟨x.b, 0, none⟩) x.l.length x.c]
def littleL (i : Nat) (was shape : Int) : List Int := hvL (if i = 0 then was else shape) true ++ (hvL shape true).reverse
def winsL (seq was shape : Int) : List (Int × List Int) := if seq = 2 then (List.range 8).map (fun (i : Nat) => ((112 : Int) + 32 * (i : Int), littleL i was shape)) else [(0, winL seq was shape)]
def PxW (seq was shape : Int) (L : Nat) (pre : List WinX) (x : WinX) (W : World) : Prop := (winsL seq was shape)[pre.length]? = some (x.pos, x.l) ∧ L + 2 ≤ x.b ∧ x.b < W.heap.size ∧ IsInts W (some ⟨x.b, 0, none⟩) x.l
def SW (seq was shape : Int) (xs : List WinX) : Prop := xs.map (fun x => (x.pos, x.l)) = winsL seq was shape
theorem PxW.apart {seq was shape : Int} {L : Nat} (pre : List WinX) (x : WinX) (A B : World) (h : PxW seq was shape L pre x A) (hs : L ≤ A.heap.size) (hap : Apart L A B) : PxW seq was shape L pre x B := by
  obtain ⟨h1, h2, h3, h4⟩ := h
  refine ⟨h1, h2, Nat.lt_of_lt_of_le h3 hap.size, ?_⟩
  rcases h4 with h4 | ⟨b, off, hp, hlt, hc⟩
  · exact .inl h4
  · obtain ⟨rfl, rfl⟩ : x.b = b ∧ 0 = off := by simpa using hp
    refine .inr ⟨x.b, 0, rfl, Nat.lt_of_lt_of_le hlt hap.size, fun j hj => ?_⟩
    exact (World.cell?_of_block (a := ⟨x.b, 0 + j, none⟩) (hap.block _ hlt (by show x.b ≠ L; omega) (by show x.b ≠ L + 1; omega))).trans (hc j hj)
/-- A full row of the call's own, and another behind it: a new row. -/
theorem appendIn_full {F : Fence} {n : Nat} {w : World} {ops : Array Oper} {rest : List Oper} {o : Oper} {a : Act} {Q : Exit → Act → World → Prop} (hgd : o.guard = none) (s x : Operand)
    (ho : o.op = .call { callee := .builtin .append, args := #[s, x], argTypes := #[23, 23] })
    (g m1 : Nat) (l1 : List Int) (hs : a.eval s = .slice (some ⟨g, 0, none⟩) m1 m1) (hm1 : l1.length = m1) (hI1 : IsInts w (some ⟨g, 0, none⟩) l1)
    (g2 m2 : Nat) (l2 : List Int) (hx : a.eval x = .slice (some ⟨g2, 0, none⟩) m2 m2) (hm2 : l2.length = m2) (hI2 : IsInts w (some ⟨g2, 0, none⟩) l2) (hp : 0 < l2.length) (hl1 : l1.length ≤ 4096) (hl2 : l2.length ≤ 4096) (m : Nat) (hm : l1.length + l2.length = m)
    (h : ∀ g' c' w', w'.heap.size > g' → w.heap.size ≤ g' → IsInts w' (some ⟨g', 0, none⟩) (l1 ++ l2) → Below w.heap.size w w' → wpListIn F n Try.prog ops Q rest (a.put o.dst (.slice (some ⟨g', 0, none⟩) m c')) w') : wpListIn F n Try.prog ops Q (o :: rest) a w := by
  obtain ⟨i0, hi, hz0, hz1, hz2⟩ := info_parts Try.infoInt
  refine wpListIn_plain hgd fun K hK' => ?_
  have cells : ∀ {g : Nat} {l : List Int}, IsInts w (some ⟨g, 0, none⟩) l → ∀ j u, (l.map (Value.int .i64))[j]? = some u → w.cell? ((⟨g, 0, none⟩ : Addr).add j) = some u := by
    intro g l hI j u hu
    have hj : j < l.length := by
      rcases Nat.lt_or_ge j l.length with h | h
      · exact h
      · rw [List.getElem?_eq_none (by simp; omega)] at hu; cases hu
    obtain ⟨b, off, hp, _, hc⟩ := hI.at hj
    obtain ⟨rfl, rfl⟩ : g = b ∧ 0 = off := by simpa using hp
    rw [Addr.add_lit]
    rw [hc j hj]
    rw [row_get l j (Nat.zero_le _) hj] at hu
    exact hu
  obtain ⟨v', w', hrun, r1, r2⟩ := run_append_arg_grows (P := Try.prog) w 23 o.type 3 i0 (.int .i64 0) 1 8 Try.underlying23 hi hz0 hz1 hz2 rfl (by decide) ⟨g, 0, none⟩ m1 m1 (l1.map (Value.int .i64)) (by simp [hm1]) (cells hI1) ⟨g2, 0, none⟩ m2 m2 (l2.map (Value.int .i64)) (by simp [hm2]) (cells hI2) (by omega) (by unfold maxLen; omega) (by omega)
  have r1' : w'.ownsRow w.heap.size 3 1 v' (l1 ++ l2).length ((l1 ++ l2).map (Value.int .i64)) := by
    rw [List.length_append, List.map_append, hm1, hm2]; exact r1
  obtain ⟨g', cap, rfl, hg, hlt, hc⟩ := owns_at r1' (by intro e; have := congrArg List.length e; rw [List.length_append] at this; simp only [List.length_nil] at this; omega)
  unfold Oper.wpIn
  refine ⟨?_, ?_⟩
  · simp [Oper.about, ho, resolve, Target.leads, Sem.run_pure]
  · rw [Oper.semAt_plain F _ _ (by rw [ho]; intro c hc'; cases hc')]
    simp [execOp, ho, resolve, invoke, builtin, hs, hx, hrun, Result.andThen]
    have := hK' _ _ (h g' cap w' hlt hg (isInts_of hlt hc) ((Below.refl _ _).grown r2 (Nat.le_refl _) (fun _ e => by cases e)))
    rw [← hm] at this
    exact this
def windowsV (b : Nat) : Value := .func (.func 36) #[] #[.pointer (some ⟨b, 0, none⟩), .pointer (some ⟨b + 1, 0, none⟩), .pointer (some ⟨b + 2, 0, none⟩)]
set_option maxHeartbeats 1000000 in
theorem windows_ok (seq was shape : Int) (w : World) : Calls Try.prog 23 #[.int .u8 seq, .int .u8 was, .int .u8 shape] w (fun e w' => e = .returned (windowsV w.heap.size) ∧ w' = ((w.alloc (.cells #[.int .u8 seq] 5)).alloc (.cells #[.int .u8 was] 5)).alloc (.cells #[.int .u8 shape] 5)) := by
  go_enter Try.func23, Try.ntmps23
  go_wp2
  go_ret
  exact ⟨rfl, rfl⟩
end Go.Proofs.Ytclbbfpagkhonaa
