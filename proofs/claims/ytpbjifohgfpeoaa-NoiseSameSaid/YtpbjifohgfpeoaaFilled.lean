/- noise.filled: so many draws. -/
import Derived.Test.YtpbjifohgfpeoaaSeed
import Derived.Test.YtpbjifohgfpeoaaOwn
import Derived.OwnWalk
import Derived.Laws.OwnMore
set_option linter.unusedVariables false
namespace Go.Proofs.Ytpbjifohgfpeoaa
open Go.ChangeShapes Go.WideShapes Go.ChangeAt Go.RowKit

/-- The seed behind so many draws. -/
def seedAt (s : Int) : Nat → Int
  | 0 => s
  | k + 1 => nextS (seedAt s k)
theorem seedAt_range (s : Int) (h0 : 0 ≤ s) (h1 : s < 4294967296) : ∀ k, 0 ≤ seedAt s k ∧ seedAt s k < 4294967296
  | 0 => ⟨h0, h1⟩
  | k + 1 => next_range _
def drawL (s : Int) (n : Nat) : List Int := (List.range n).map fun k => drawV (seedAt s k)
theorem OneS.apart {N : Nat} {s : Int} {w : World} (h : OneS N s w) (a : Addr) (u : Value) (hne : N ≠ a.block) : OneS N s (w.setCell a u) := by
  unfold OneS
  rw [Below.heap_setCell _ _ _ _ hne]
  exact h
theorem OneS.keep {N B : Nat} {s : Int} {w w' : World} (h : OneS N s w) (hb : Below B w w') (hN : N < B) : OneS N s w' := by
  unfold OneS
  rw [hb.block N hN]
  exact h
theorem owns_apart {w : World} {base g : Nat} {e : TypeId} {size n c : Nat} {xs : List Value} (h : w.ownsRow base e size (.slice (some ⟨g, 0, none⟩) n c) n xs) (a : Addr) (u : Value) (hne : g ≠ a.block) : (w.setCell a u).ownsRow base e size (.slice (some ⟨g, 0, none⟩) n c) n xs := by
  refine ⟨by simpa [World.setCell] using h.1, ?_⟩
  rcases h.2 with ⟨h', _⟩ | ⟨g', cap, cur, h', hg, hgg, rest⟩
  · simp at h'
  · obtain ⟨rfl, rfl⟩ : g = g' ∧ c = cap := by simpa using h'
    refine .inr ⟨g, c, cur, rfl, hg, ?_, rest⟩
    rw [Below.heap_setCell _ _ _ _ hne]
    exact hgg
theorem row_eq {xs : List Value} {m : Nat} {f : Nat → Int} (hl : xs.length = m) (h : ∀ j, j < m → xs[j]? = some (.int .i64 (f j))) : xs = ((List.range m).map f).map (Value.int .i64) := by
  apply List.ext_getElem?
  intro j
  by_cases hj : j < m
  · rw [h j hj]; simp [hj]
  · rw [List.getElem?_eq_none (by omega), List.getElem?_eq_none (by simp; omega)]

def RFilled (N : Nat) (s : Int) (n : Nat) (w : World) (e : Ending) (w' : World) : Prop :=
  ∃ g : Nat, e = .returned (.slice (some ⟨g, 0, none⟩) n n) ∧ w'.ownsRow w.heap.size 3 1 (.slice (some ⟨g, 0, none⟩) n n) n ((drawL s n).map (Value.int .i64)) ∧ w.heap.size ≤ g ∧ g < w'.heap.size ∧ Below N w w'
set_option maxRecDepth 100000 in
set_option maxHeartbeats 2000000 in
theorem filled_ok (N : Nat) (s : Int) (n : Nat) (s0 : 0 ≤ s) (s1 : s < 4294967296) (hn : n ≤ 256) (w : World) (h : OneS N s w) :
    Calls Try.prog 15 #[.int .i64 n, .func (.func 16) #[.pointer (some ⟨N, 0, none⟩)] #[]] w (RFilled N s n w) := by
  obtain ⟨i0, hi, hz0, hz1, hz2⟩ := info_parts Try.infoInt
  have hNw : N < w.heap.size := lt_of_block h
  have H0 := Lib.hid h
  clear h
  go_enter Try.func15, Try.ntmps15
  go_wp2_with (at_make; refine wpList_make_full _ rfl _ _ 24 rfl w.heap.size 3 i0 (.int .i64 0) 1 Try.underlying24 hi hz0 hz1 .i64 .i64 _ _ n rfl rfl ?hL ?hC ?b2 ?b3 ?b4 ?_)
  case hL => rfl
  case hC => rfl
  case b2 => rw [hz2]; omega
  case b3 => unfold maxLen; omega
  case b4 => exact Nat.le_refl _
  intro w1 hown hgrow
  have hb1 : Below w.heap.size w w1 := (Below.refl _ _).grown hgrow (by simp) (by simp)
  have hg1 : w.heap.size < w1.heap.size := (hown.lt _ rfl).2
  have hown1 : w1.ownsRow w.heap.size 3 1 (.slice (some ⟨w.heap.size, 0, none⟩) n n) n (List.replicate n (.int .i64 0)) := by
    have e := toList_madeCells_one (.int .i64 0) n
    rw [← e]; simpa using hown
  have H1 := Lib.hid (H0.out.keep hb1 hNw)
  have hbN : Below N w w1 := hb1.mono (Nat.le_of_lt hNw)
  clear hgrow hown H0 hb1
  go_wp2
  go_loopw [11] (fun I wr => ∃ (k : Nat) (xs : List Value), I = .int .i64 k ∧ k ≤ n ∧ wr.ownsRow w.heap.size 3 1 (.slice (some ⟨w.heap.size, 0, none⟩) n n) n xs ∧ xs.length = n ∧ Below N w wr ∧ w.heap.size < wr.heap.size ∧ Hid (OneS N (seedAt s k) wr) ∧ Hid (∀ j, j < k → xs[j]? = some (.int .i64 (drawV (seedAt s j))))) (fun I _ => n - (intOf I).toNat)
  case atStart => exact ⟨0, _, rfl, Nat.zero_le _, hown1, by simp, hbN, hg1, H1, Lib.hid (fun _ h => absurd h (Nat.not_lt_zero _))⟩
  case round =>
    obtain ⟨k, xs, rfl, hk, hO, hlenO, hbq, hgq, hS, hxs⟩ := hrel
    by_cases hlt : k < n
    · obtain ⟨z0, z1⟩ := seedAt_range s s0 s1 k
      have HD := Lib.hid (draw_ok N (seedAt s k) z0 z1 wr hS.out)
      have hO2 := owns_apart hO ⟨N, 0, none⟩ (.int .u32 (nextS (seedAt s k))) (Nat.ne_of_gt hNw)
      have hbq2 : Below N w (wr.setCell ⟨N, 0, none⟩ (.int .u32 (nextS (seedAt s k)))) := hbq.setCell (p := ⟨N, 0, none⟩) (Nat.le_refl _) _
      have hsz : w.heap.size < (wr.setCell ⟨N, 0, none⟩ (.int .u32 (nextS (seedAt s k)))).heap.size := by simpa [World.setCell] using hgq
      go_wp2_with fail
      refine HD.out.mono ?_
      rintro e w4 ⟨rfl, hS2, hw4⟩
      rw [← hw4] at hO2 hbq2 hsz
      have HS2 := Lib.hid hS2
      have hc := hO2.cellAt k (by omega)
      rw [List.getElem?_eq_getElem (by omega)] at hc
      have hf := hO2.frozenAt k
      obtain ⟨hO3, hgr⟩ := hO2.stored k (.int .i64 (drawV (seedAt s k)))
      have hb6 : Below N w (w4.setCell ⟨w.heap.size, k, none⟩ (.int .i64 (drawV (seedAt s k)))) := hbq2.setCell (p := ⟨w.heap.size, k, none⟩) (Nat.le_of_lt hNw) _
      have HS3 := Lib.hid (hS2.apart ⟨w.heap.size, k, none⟩ (.int .i64 (drawV (seedAt s k))) (Nat.ne_of_lt hNw))
      have hxs2 : Hid (∀ j, j < k + 1 → (xs.set k (.int .i64 (drawV (seedAt s k))))[j]? = some (.int .i64 (drawV (seedAt s j)))) := by
        intro j hj
        by_cases e : j = k
        · rw [e, List.getElem?_set_self (by omega)]
        · rw [List.getElem?_set_ne (by omega)]; exact hxs.out j (by omega)
      clear hxs HD hS hO hO2 hbq hgr hbq2 hS2 HS2 hw4
      go_wp2
      exact ⟨⟨k + 1, _, by go_num, by omega, hO3, by simp [hlenO], hb6, by simpa [World.setCell] using hsz, HS3, hxs2⟩, by simp [intOf]; omega⟩
    · have hkM : k = n := by omega
      subst hkM
      have HE := Lib.hid (row_eq hlenO hxs.out)
      clear hxs
      go_wp2
      go_ret
      refine ⟨w.heap.size, rfl, ?_, Nat.le_refl _, hgq, hbq⟩
      have : (drawL s k).map (Value.int .i64) = xs := HE.out.symm
      rw [this]
      exact hO
end Go.Proofs.Ytpbjifohgfpeoaa
