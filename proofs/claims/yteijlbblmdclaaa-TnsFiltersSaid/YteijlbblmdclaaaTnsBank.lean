/- Filters of windows that came in; the regions that they make. -/
import Derived.Test.YteijlbblmdclaaaTnsFilt
import Derived.Test.YteijlbblmdclaaaTnsClone
import Derived.Test.YteijlbblmdclaaaTnsCheck
import Derived.Test.YteijlbblmdclaaaBandMany
set_option linter.unusedVariables false
set_option linter.unusedSimpArgs false
namespace Go.Proofs.Yteijlbblmdclaaa
open Go.ChangeShapes Go.WideShapes Go.ChangeAt Go.RowKit

/-- A filter as a value. -/
structure FV where
  len : Int
  order : Int
  down : Bool
  fine : Bool
  cs : List Int
  p : Option Addr
  c : Nat
instance : Inhabited FV := ⟨⟨0, 0, false, false, [], none, 0⟩⟩
def FV.cells (f : FV) : Array Value := #[.int .i64 f.len, .int .i64 f.order, .bool f.down, .bool f.fine, .slice f.p f.cs.length f.c]
abbrev FV.val (f : FV) : Value := .agg #[.int .i64 f.len, .int .i64 f.order, .bool f.down, .bool f.fine, .slice f.p f.cs.length f.c]
/-- A window's filters: where they lie. -/
structure BV where
  q : Option Addr
  c : Nat
  fs : List FV
instance : Inhabited BV := ⟨⟨none, 0, []⟩⟩
def IsFilts (W : World) (q : Option Addr) (L : List FV) : Prop :=
  L = [] ∨ ∃ b off, q = some ⟨b, off, none⟩ ∧ b < W.heap.size ∧ ∀ j, j < L.length → ∀ k, k < 5 → W.cell? ⟨b, off + j * 5 + k, none⟩ = (L.getD j default).cells[k]?
def FsOk (W : World) (L : List FV) : Prop := ∀ j, j < L.length → IsInts W (L.getD j default).p (L.getD j default).cs ∧ (L.getD j default).cs.length ≤ 9223372036854775807
def IsBank (W : World) (q : Option Addr) (B : List BV) : Prop :=
  (B = [] ∨ ∃ b off, q = some ⟨b, off, none⟩ ∧ b < W.heap.size ∧ ∀ j, j < B.length → W.cell? ⟨b, off + j, none⟩ = some (.slice (B.getD j default).q (B.getD j default).fs.length (B.getD j default).c)) ∧
    ∀ j, j < B.length → IsFilts W (B.getD j default).q (B.getD j default).fs ∧ FsOk W (B.getD j default).fs
theorem IsFilts.keep {W W' : World} {M : Nat} {q : Option Addr} {L : List FV} (h : IsFilts W q L) (hb : Below M W W') (hM : W.heap.size ≤ M) : IsFilts W' q L := by
  rcases h with h | ⟨b, off, hq, hlt, hc⟩
  · exact .inl h
  · exact .inr ⟨b, off, hq, Nat.lt_of_lt_of_le hlt hb.size, fun j hj k hk => (hb.cell (p := ⟨b, _, none⟩) (Nat.lt_of_lt_of_le hlt hM)).trans (hc j hj k hk)⟩
theorem FsOk.keep {W W' : World} {L : List FV} (h : FsOk W L) (hb : Below W.heap.size W W') : FsOk W' L := fun j hj => ⟨(h j hj).1.keep hb, (h j hj).2⟩
theorem IsBank.keep {W W' : World} {q : Option Addr} {B : List BV} (h : IsBank W q B) (hb : Below W.heap.size W W') : IsBank W' q B := by
  refine ⟨?_, fun j hj => ⟨(h.2 j hj).1.keep hb (Nat.le_refl _), (h.2 j hj).2.keep hb⟩⟩
  rcases h.1 with h | ⟨b, off, hq, hlt, hc⟩
  · exact .inl h
  · exact .inr ⟨b, off, hq, Nat.lt_of_lt_of_le hlt hb.size, fun j hj => (hb.cell (p := ⟨b, _, none⟩) hlt).trans (hc j hj)⟩
theorem IsBank.at {W : World} {q : Option Addr} {B : List BV} (h : IsBank W q B) {j : Nat} (hj : j < B.length) : ∃ b off, q = some ⟨b, off, none⟩ ∧ b < W.heap.size ∧ ∀ j, j < B.length → W.cell? ⟨b, off + j, none⟩ = some (.slice (B.getD j default).q (B.getD j default).fs.length (B.getD j default).c) := by
  rcases h.1 with h | h
  · simp [h] at hj
  · exact h
theorem IsFilts.at {W : World} {q : Option Addr} {L : List FV} (h : IsFilts W q L) {j : Nat} (hj : j < L.length) : ∃ b off, q = some ⟨b, off, none⟩ ∧ b < W.heap.size ∧ ∀ j, j < L.length → W.cell? ⟨b, off + j * 5, none⟩ = some (.int .i64 (L.getD j default).len) ∧ W.cell? ⟨b, off + j * 5 + 1, none⟩ = some (.int .i64 (L.getD j default).order) ∧ W.cell? ⟨b, off + j * 5 + 2, none⟩ = some (.bool (L.getD j default).down) ∧ W.cell? ⟨b, off + j * 5 + 3, none⟩ = some (.bool (L.getD j default).fine) ∧ W.cell? ⟨b, off + j * 5 + 4, none⟩ = some (.slice (L.getD j default).p (L.getD j default).cs.length (L.getD j default).c) := by
  rcases h with h | ⟨b, off, hq, hlt, hc⟩
  · simp [h] at hj
  · exact ⟨b, off, hq, hlt, fun j hj => ⟨hc j hj 0 (by omega), hc j hj 1 (by omega), hc j hj 2 (by omega), hc j hj 3 (by omega), hc j hj 4 (by omega)⟩⟩
/-- Which band a window's filters have come down to. -/
def botN (top : Nat) (f : FV) : Nat := ((top : Int) - f.len).toNat
def topP (max : Nat) (fs : List FV) : Nat → Nat
  | 0 => max
  | j + 1 => botN (topP max fs j) (fs.getD j default)
def regP (offs : List Int) (max wi : Nat) (fs : List FV) (j : Nat) : Reg :=
  ⟨32 * wi + (offs.getD (topP max fs (j + 1)) 0).toNat, 32 * wi + (offs.getD (topP max fs j) 0).toNat, (fs.getD j default).down, coefP (fs.getD j default).fine (fs.getD j default).cs (fs.getD j default).cs.length⟩
def regsIn (offs : List Int) (max wi : Nat) (fs : List FV) (j : Nat) : List Reg := (List.range j).map (regP offs max wi fs)
def regsTo (offs : List Int) (max : Nat) (B : List BV) (j : Nat) : List Reg := (List.range j).flatMap (fun w => regsIn offs max w (B.getD w default).fs (B.getD w default).fs.length)
def allL (sg : Int) (offs : List Int) (max : Nat) (B : List BV) (x : List Int) : List Int := runS sg (regsTo offs max B B.length) x
theorem regsIn_succ (offs : List Int) (max wi : Nat) (fs : List FV) (j : Nat) : regsIn offs max wi fs (j + 1) = regsIn offs max wi fs j ++ [regP offs max wi fs j] := by
  unfold regsIn; rw [List.range_succ, List.map_append]; rfl
theorem regsTo_succ (offs : List Int) (max : Nat) (B : List BV) (j : Nat) : regsTo offs max B (j + 1) = regsTo offs max B j ++ regsIn offs max j (B.getD j default).fs (B.getD j default).fs.length := by
  unfold regsTo; rw [List.range_succ, List.flatMap_append]; simp
theorem runS_app (sg : Int) (a b : List Reg) (O : List Int) : runS sg (a ++ b) O = runS sg b (runS sg a O) := by unfold runS; rw [List.foldl_append]
theorem runS_in_succ (sg : Int) (offs : List Int) (max wi : Nat) (fs : List FV) (j : Nat) (O : List Int) : runS sg (regsIn offs max wi fs (j + 1)) O = (regP offs max wi fs j).run sg (runS sg (regsIn offs max wi fs j) O) := by rw [regsIn_succ, runS_app]; rfl
theorem runS_to_succ (sg : Int) (offs : List Int) (max : Nat) (B : List BV) (j : Nat) (O : List Int) : runS sg (regsTo offs max B (j + 1)) O = runS sg (regsIn offs max j (B.getD j default).fs (B.getD j default).fs.length) (runS sg (regsTo offs max B j) O) := by rw [regsTo_succ, runS_app]
theorem run_fit (s : Reg) (sg : Int) {O : List Int} (h : ∀ j, -268435455 ≤ O.getD j 0 ∧ O.getD j 0 ≤ 268435455) (j : Nat) : -268435455 ≤ (s.run sg O).getD j 0 ∧ (s.run sg O).getD j 0 ≤ 268435455 := by
  by_cases hj : j < 256
  · by_cases hs : s.Has j
    · rw [s.ran_in sg O hj hs]; exact filtP_range _ _ _ _ _
    · rw [s.run_out sg O hj hs]; exact h j
  · rw [List.getD_eq_getElem?_getD, List.getElem?_eq_none (by rw [s.run_len]; omega)]; simp
theorem runS_fit (sg : Int) : ∀ (l : List Reg) (O : List Int), (∀ j, -268435455 ≤ O.getD j 0 ∧ O.getD j 0 ≤ 268435455) → ∀ j, -268435455 ≤ (runS sg l O).getD j 0 ∧ (runS sg l O).getD j 0 ≤ 268435455
  | [], O, h => h
  | s :: l, O, h => by
    unfold runS; rw [List.foldl_cons]
    exact runS_fit sg l _ (run_fit s sg h)
theorem topP_le (max : Nat) (fs : List FV) (h : ∀ j, j < fs.length → 0 ≤ (fs.getD j default).len) : ∀ j, j ≤ fs.length → topP max fs j ≤ max
  | 0, _ => Nat.le_refl _
  | j + 1, hj => by
    have ih := topP_le max fs h j (by omega)
    have := h j (by omega)
    rw [topP]; unfold botN; omega
theorem topP_mono (max : Nat) (fs : List FV) {j : Nat} (h : 0 ≤ (fs.getD j default).len) : topP max fs (j + 1) ≤ topP max fs j := by
  rw [topP]; unfold botN; omega
/-- Offsets that rise, of so many lines. -/
def OffsOk (offs : List Int) (max lines : Nat) : Prop := max < offs.length ∧ (∀ i j, i ≤ j → j < offs.length → offs.getD i 0 ≤ offs.getD j 0) ∧ ∀ j, j < offs.length → 0 ≤ offs.getD j 0 ∧ offs.getD j 0 ≤ lines
theorem regP_fit {offs : List Int} {max lines wi : Nat} {fs : List FV} (ho : OffsOk offs max lines) (hw : 32 * wi + lines ≤ 256) (h : ∀ j, j < fs.length → 0 ≤ (fs.getD j default).len) {j : Nat} (hj : j < fs.length) :
    (regP offs max wi fs j).from_ ≤ (regP offs max wi fs j).to_ ∧ (regP offs max wi fs j).to_ ≤ 256 ∧ topP max fs (j + 1) < offs.length ∧ topP max fs j < offs.length ∧ (0 ≤ offs.getD (topP max fs (j + 1)) 0 ∧ offs.getD (topP max fs (j + 1)) 0 ≤ lines) ∧ (0 ≤ offs.getD (topP max fs j) 0 ∧ offs.getD (topP max fs j) 0 ≤ lines) := by
  obtain ⟨o1, o2, o3⟩ := ho
  have t1 := topP_le max fs h j (by omega)
  have t2 := topP_le max fs h (j + 1) (by omega)
  have t3 := topP_mono max fs (h j hj)
  have a := o2 _ _ t3 (by omega)
  have b := o3 (topP max fs j) (by omega)
  have c := o3 (topP max fs (j + 1)) (by omega)
  refine ⟨?_, ?_, by omega, by omega, c, b⟩
  · show 32 * wi + (offs.getD (topP max fs (j + 1)) 0).toNat ≤ 32 * wi + (offs.getD (topP max fs j) 0).toNat
    omega
  · show 32 * wi + (offs.getD (topP max fs j) 0).toNat ≤ 256
    omega
end Go.Proofs.Yteijlbblmdclaaa
