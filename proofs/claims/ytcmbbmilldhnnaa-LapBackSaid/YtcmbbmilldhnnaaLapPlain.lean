/- A frame's overlap, in plain numbers. -/
import Derived.Test.YtcmbbmilldhnnaaLapIter
import Derived.Test.YtcmbbmilldhnnaaLapNext1
import Derived.Test.YtcmbbmilldhnnaaG5
import Derived.Test.YtcmbbmilldhnnaaClip
set_option linter.unusedVariables false
namespace Go.Proofs.Ytcmbbmilldhnnaa
open Go.ChangeShapes Go.WideShapes Go.ChangeAt Go.RowKit

theorem synP_fit (seq was shape : Int) (hs : seq = 0 ∨ seq = 1 ∨ seq = 2 ∨ seq = 3) (h0 : was = 0 ∨ was = 1) (h1 : shape = 0 ∨ shape = 1) {lines : List Int} (hl : lines.length = 256) (hm : ∀ j, -268435455 ≤ lines.getD j 0 ∧ lines.getD j 0 ≤ 268435455) :
    ∀ n, -34359738368 ≤ (synP (winsL seq was shape) lines).1 n ∧ (synP (winsL seq was shape) lines).1 n ≤ 34359738368 := by
  obtain ⟨H, hH, hW⟩ := wins_uni seq was shape hs h0 h1
  have hc := wins_count seq was shape
  generalize winsL seq was shape = ws at *
  have key : ∀ k, k ≤ ws.length → (synP (ws.take k) lines).2 = lines.drop (H * k) ∧ ∀ n, -(4294967296 * (k : Int)) ≤ (synP (ws.take k) lines).1 n ∧ (synP (ws.take k) lines).1 n ≤ 4294967296 * (k : Int) := by
    intro k
    induction k with
    | zero => intro _; exact ⟨by simp [synP], fun n => by simp [synP]⟩
    | succ k ih =>
      intro hk
      obtain ⟨i1, i2⟩ := ih (by omega)
      have hg : ws[k]? = some ws[k] := List.getElem?_eq_getElem (by omega)
      obtain ⟨hf, hp, hq⟩ := hW k _ hg
      have := stepS_fit hf hH hp hq hl hm i1 i2
      rw [List.take_add_one, hg]
      simp only [Option.toList_some]
      rw [synP_snoc]
      exact this
  obtain ⟨_, h⟩ := key ws.length (Nat.le_refl _)
  rw [List.take_length] at h
  intro n
  have := h n
  have : ws.length ≤ 8 := by split at hc <;> omega
  omega
theorem synL_get (ws : List (Int × List Int)) (lines : List Int) {j : Nat} (hj : j < 512) : (synL ws lines).getD j 0 = (synP ws lines).1 j := by
  unfold synL
  rw [List.getD_eq_getElem?_getD, List.getElem?_map, List.getElem?_range hj]; rfl
theorem synL_range (seq was shape : Int) (hs : seq = 0 ∨ seq = 1 ∨ seq = 2 ∨ seq = 3) (h0 : was = 0 ∨ was = 1) (h1 : shape = 0 ∨ shape = 1) {lines : List Int} (hl : lines.length = 256) (hm : ∀ j, -268435455 ≤ lines.getD j 0 ∧ lines.getD j 0 ≤ 268435455) (j : Nat) :
    -34359738368 ≤ (synL (winsL seq was shape) lines).getD j 0 ∧ (synL (winsL seq was shape) lines).getD j 0 ≤ 34359738368 := by
  refine getD_range (fun x hx => ?_) (by omega) (by omega) j
  unfold synL at hx
  obtain ⟨n, _, rfl⟩ := List.mem_map.1 hx
  exact synP_fit seq was shape hs h0 h1 hl hm n
def outP (s : Int) : Int := clp (rnd s 4) 16
def pcmL (l y : List Int) : List Int := (sumsL l y).map outP
/-- What Next answers: what overlaps behind the frame, the samples, the error. -/
def lapN (l : List Int) (ls lsh seq shape : Int) (lines : List Int) : (List Int × Int × Int) × List Int × Int :=
  if mayB l ls lsh = false then (([], 0, 0), [], 8)
  else if synE seq lsh shape lines ≠ 0 then (([], 0, 0), [], synE seq lsh shape lines)
  else (((synL (winsL seq lsh shape) lines).drop 256, seq, shape), pcmL l (synL (winsL seq lsh shape) lines), 0)
def RNext (r : (List Int × Int × Int) × List Int × Int) (w : World) (e : Ending) (w' : World) : Prop :=
  ∃ v1 v2, e = .returned (.tuple #[.agg #[v1, .int .u8 r.1.2.1, .int .u8 r.1.2.2], v2, .int .i64 r.2.2]) ∧ w'.ownsRow w.heap.size 3 1 v1 r.1.1.length (r.1.1.map (Value.int .i64)) ∧ w'.ownsRow w.heap.size 3 1 v2 r.2.1.length (r.2.1.map (Value.int .i64)) ∧ (∀ g, v1.ownBlock = some g → v2.ownBlock ≠ some g) ∧ Below w.heap.size w w'
theorem mayB_spec {l : List Int} {ls lsh : Int} (h : mayB l ls lsh = true) : l.length = 256 ∧ (∀ j, -1099511627776 ≤ l.getD j 0 ∧ l.getD j 0 ≤ 1099511627776) ∧ ls ≤ 3 ∧ lsh ≤ 1 := by
  unfold mayB at h
  simp only [Bool.and_eq_true, decide_eq_true_eq, Bool.not_eq_true'] at h
  refine ⟨h.1.1, fun j => getD_range (fun x hx => ?_) (by omega) (by omega) j, h.2⟩
  have := List.any_eq_false.1 h.1.2 x hx
  unfold farP at this
  simp only [Bool.or_eq_true, decide_eq_true_eq, not_or] at this
  omega
end Go.Proofs.Ytcmbbmilldhnnaa
