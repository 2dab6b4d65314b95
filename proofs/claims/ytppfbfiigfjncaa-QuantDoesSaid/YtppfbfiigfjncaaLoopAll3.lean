/- A range over a function whose round begins with memory of its own (the loop's variable is captured, or a struct). -/
import Derived.Test.YtppfbfiigfjncaaLoopAll2
set_option linter.unusedVariables false
namespace Go.Proofs.Ytppfbfiigfjncaa
open Go.RowKit
theorem range_all3 {P : Program} {α : Type} {g : Operand} {ps : Array Tmp} {assign body : Code} {Q : Exit → Act → World → Prop} {a : Act} {w : World}
    {gf : Nat} {lb : Array Value} (hg : a.eval g = .func (.func gf) #[] lb) (eg : ∀ args w, (callFunc gf args).run P w = .ok (.enter gf args) w)
    {encs : α → Array Value} {Px : List α → α → World → Prop} {S : List α → Prop} {K : World → World → Prop} (hseq : SeqAll P gf lb encs Px S K w)
    (hK : ∀ A A' B B', (∀ k, k ≠ w.heap.size + 1 → A'.heap[k]? = A.heap[k]?) → A'.heap.size = A.heap.size → (∀ k, k ≠ w.heap.size + 1 → B'.heap[k]? = B.heap[k]?) → K A' B → K A B')
    (hps : ∀ x, (encs x).size = ps.size)
    (I : List α → World → Prop) (hI : ∀ s A B, I s A → w.heap.size ≤ A.heap.size → Apart w.heap.size A B → I s B) (hPx : ∀ s x A B, Px s x A → w.heap.size ≤ A.heap.size → Apart w.heap.size A B → Px s x B) (h0 : I [] w) 
    (hround : ∀ (l : Nat) (pre : List α) (x : α) (W : World) (o : Obj), w.heap.size + 2 ≤ W.heap.size → I pre W → Px pre x W → ∀ (K' : Act → World → Prop), (∀ a' W1, W.heap.size ≤ W1.heap.size → W1.heap[w.heap.size]? = W.heap[w.heap.size]? → W1.heap[w.heap.size + 1]? = W.heap[w.heap.size + 1]? → body.wpIn (Fence.wide.inRound l) 1 P (allPost w.heap.size K I (pre ++ [x]) (W.putObj (w.heap.size + 1) o)) a' (W1.putObj (w.heap.size + 1) o) → K' a' W1) →
      assign.wpIn (Fence.wide.inRound l) 1 P (Exit.then K' (fun _ _ _ => False)) { tmps := (ps.zip (encs x)).foldl (fun t (p, v) => t.setIfInBounds p v) a.tmps, defers := [] } W)
    (hdone : ∀ (xs : List α) (W : World), w.heap.size + 2 ≤ W.heap.size → S xs → I xs W → W.heap[w.heap.size]? = some (.deferred (some [])) → Q .normal { a with defers := { target := .collected w.heap.size, args := #[] } :: a.defers } W) :
    (Code.rangeFunc g ps assign body).wpIn Fence.wide 3 P Q a w := by
  refine wpIn_rangeFunc fun fn _ => ?_
  let rec1 : LoopState → Loop := fun st => { state := st, pending := none, fn, tmps := a.tmps, params := ps, assign, body, defers := w.heap.size }
  have hb1 : Below w.heap.size w ((w.alloc (.deferred (some []))).alloc (.loop (rec1 .ready))) := ((Below.refl _ w).alloc (Nat.le_refl _) _).alloc (by simp) _
  have hd1 : ((w.alloc (.deferred (some []))).alloc (.loop (rec1 .ready))).heap[w.heap.size]? = some (.deferred (some [])) := (Below.heap_alloc _ _ _ (by simp)).trans (World.alloc_heap_new w _)
  have hl1 : ((w.alloc (.deferred (some []))).alloc (.loop (rec1 .ready))).heap[w.heap.size + 1]? = some (.loop (rec1 .ready)) := by
    have := World.alloc_heap_new (w.alloc (.deferred (some []))) (.loop (rec1 .ready)); rwa [World.size_alloc] at this
  have hs1 : ((w.alloc (.deferred (some []))).alloc (.loop (rec1 .ready))).heap.size = w.heap.size + 2 := by simp
  have hE := run_enterLoop_outer (P := P) (w := w) fn a.tmps ps assign body
  obtain ⟨W1, hW1⟩ : ∃ W1, (w.alloc (.deferred (some []))).alloc (.loop (rec1 .ready)) = W1 := ⟨_, rfl⟩
  have hE' : (Instr.enterLoop fn a.tmps ps assign body none).run P w = .ok (w.heap.size + 1, [{ target := .collected w.heap.size, args := #[] }]) W1 := by rw [← hW1]; exact hE
  rw [hW1] at hb1 hd1 hl1 hs1
  clear hE hW1
  have h1 : I [] W1 := hI _ _ _ h0 (Nat.le_refl _) (Apart.of_below hb1)
  refine ⟨w.heap.size + 1, [{ target := .collected w.heap.size, args := #[] }], W1, { target := .fn (.func gf) lb, args := #[.func (.yield (w.heap.size + 1)) #[] #[]] }, W1, gf, #[.func (.yield (w.heap.size + 1)) #[] #[]] ++ lb, W1,
    hE', ?_, fun _ _ => trivial, ?_, fun _ => by omega, ?_⟩
  · simp only [resolve, hg]
    simp [go_sem]
  · simp [invoke, go_sem, eg]
  · refine (hseq (w.heap.size + 1) (fun pre W => (w.heap.size + 2 ≤ W.heap.size ∧ W.heap[w.heap.size]? = some (.deferred (some [])) ∧ W.heap[w.heap.size + 1]? = some (.loop (rec1 .ready))) ∧ I pre W) W1 hb1 (by omega) ?_ ?_ ⟨⟨by omega, hd1, hl1⟩, h1⟩).mono ?_
    · rintro s A B ⟨⟨hA, hd, hl⟩, hi⟩ hb
      exact ⟨⟨Nat.le_trans hA hb.size, (hb.block _ (by omega)).trans hd, (hb.block _ (by omega)).trans hl⟩, hI _ _ _ hi (by omega) (Apart.of_below hb)⟩
    · rintro pre x W ⟨⟨hA, hd, hl⟩, hi⟩ _ hx
      have hap : Apart w.heap.size W (W.putObj (w.heap.size + 1) (.loop (rec1 .busy))) := Apart.put1 W _
      have hl2 : (W.putObj (w.heap.size + 1) (.loop (rec1 .busy))).heap[w.heap.size + 1]? = some (.loop (rec1 .busy)) := World.putObj_heap_same (by omega)
      have hd2 : (W.putObj (w.heap.size + 1) (.loop (rec1 .busy))).heap[w.heap.size]? = some (.deferred (some [])) := (World.putObj_heap_other (by omega)).trans hd
      have hk2 : ∀ k, k ≠ w.heap.size + 1 → (W.putObj (w.heap.size + 1) (.loop (rec1 .busy))).heap[k]? = W.heap[k]? := fun k hk => World.putObj_heap_other (fun e => hk e)
      have hz2 : (W.putObj (w.heap.size + 1) (.loop (rec1 .busy))).heap.size = W.heap.size := by simp
      refine ⟨fn, _, assign, body, run_yield hl (hps x), roundIn_of_wpIn trivial (hround (w.heap.size + 1) pre x W (.loop (rec1 .busy)) hA hi hx _ (fun a' W1 hz1 hd1 hl1 hy => ⟨_, run_beginRound (hl1.trans hl) rfl, ?_⟩))⟩
      refine wpIn_mono hy ?_
      rintro e a3 W3 hp
      cases e with
      | normal =>
        obtain ⟨⟨hz, hD, hL⟩, hk, hi3⟩ := hp
        have hl3 : W3.heap[w.heap.size + 1]? = some (.loop (rec1 .busy)) := hL.trans hl2
        have hs3 : w.heap.size + 2 ≤ W3.heap.size := by omega
        refine ⟨_, _, run_endRound none hl3, rfl, ⟨⟨by simpa using hs3, (World.putObj_heap_other (by omega)).trans (hD.trans hd2), World.putObj_heap_same (by omega)⟩, hI _ _ _ hi3 (by omega) (Apart.put1 W3 _)⟩, by simp; omega, ?_⟩
        exact hK _ _ _ _ hk2 hz2 (fun k hk => World.putObj_heap_other (fun e => hk e)) hk
      | ret => exact hp.elim
      | exit id => exact hp.elim
      | goto t => exact hp.elim
      | panic ch => exact hp.elim
      | outgrown => exact hp.elim
    · rintro e W2 ⟨⟨v, rfl⟩, xs, hS, ⟨hA, hd, hl⟩, hi⟩
      refine ⟨none, _, run_endLoop hl (by simp [rec1]), ?_⟩
      exact hdone xs _ (by simpa using hA) hS (hI _ _ _ hi (by omega) (Apart.put1 W2 _)) ((World.putObj_heap_other (by omega)).trans hd)
end Go.Proofs.Ytppfbfiigfjncaa
