/- Rows of integers that came in: none of them takes more than there is. -/
import Derived.Test.YtppfbfiigfjncaaOpenRows
import Derived.SizedLaws
set_option linter.unusedVariables false
set_option linter.unusedSimpArgs false
namespace Go.Proofs.Ytppfbfiigfjncaa
open Go.ChangeShapes Go.WideShapes Go.ChangeAt Go.RowKit Go.Joins Go.Deep
theorem weights_in {H : Type} {P : Program} {e : TypeId} {x : DataW H} {n : Nat} : ∀ {l : List (DataW H)}, x ∈ l → n ∈ x.weights P e → n ∈ DataW.weightsAll P e l
  | y :: l, hx, hn => by
    simp only [DataW.weightsAll, List.mem_append]
    rcases List.mem_cons.1 hx with rfl | hx
    · exact .inl hn
    · exact .inr (weights_in hx hn)
theorem sized_at {H : Type} {P : Program} {ts : List TypeId} {ds : List (DataW H)} (h : (DataW.weightsEach P ts ds).all (· ≤ reachBytes) = true) {j : Nat} {t : TypeId} {d : DataW H} (ht : ts[j]? = some t) (hd : ds[j]? = some d) : ∀ n ∈ d.weights P t, n ≤ reachBytes :=
  fun n hn => of_decide_eq_true (List.all_eq_true.1 h n (DataW.weights_mem_each ht hd n hn))
theorem sized_ints {H : Type} {enc : TypeId × Value → H} {P : Program} {W : World} {t k : TypeId} {n : Nat} {p : Option Addr} {ln cc : Nat} {y : DataW H × List MemPlace} (ht : P.underlying t = some (.slice k)) (hb : P.bytesOf k = 8) (h : DataW.trod enc P W 0 (fun _ => true) true n t [.slice p ln cc] = some y) (hw : ∀ n ∈ y.1.weights P t, n ≤ reachBytes) : ln * 8 ≤ reachBytes := by
  rcases DataW.trod_slice ht h with ⟨e0, _⟩ | ⟨a, len, cap, elems, rest, n, _, hcs, rfl, _, _, _, hel, _⟩
  · have : ln = 0 := by
      have e1 : Value.slice p ln cc = Value.slice none 0 0 := by simpa using e0
      injection e1
    subst this
    omega
  · have e1 : Value.slice p ln cc = Value.slice (some a) len cap := by simpa using hcs
    injection e1 with _ e2 _
    have := hw ((elems.length + rest.length) * 8) (by simp [DataW.weights, ht, hb])
    subst e2
    have : ln * 8 ≤ (elems.length + rest.length) * 8 := Nat.mul_le_mul_right 8 (by omega)
    omega
theorem rows_sized {H : Type} {enc : TypeId × Value → H} {P : Program} {W : World} {t0 t k : TypeId} {a : Option Addr} {len cap : Nat} {d : DataW H} {ps : List MemPlace} (ht0 : P.underlying t0 = some (.slice t)) (hc0 : P.cellsOf t = 1) (ht : P.underlying t = some (.slice k)) (hb : P.bytesOf k = 8) (h : DataW.Trod enc P W 0 (fun _ => true) true t0 (.slice a len cap) d ps)
    (hw : ∀ n ∈ d.weights P t0, n ≤ reachBytes) {R : List RV} (hR : IsRows W a R) (hl : R.length = len) : ∀ j, j < R.length → (R.getD j default).l.length * 8 ≤ reachBytes := by
  intro j hj
  obtain ⟨fuel, hf⟩ := h
  rcases open_slice ht0 hf with h0 | ⟨x, l, c, m, n, D, Pl, hcs, hb0, hl0, hm, hmm, hx, hi⟩
  · have := h0.1
    simp [Value.cells] at this
    omega
  · simp [Value.cells] at hcs
    obtain ⟨rfl, rfl, rfl⟩ := hcs
    simp at hmm
    obtain ⟨cs', hc, ht'⟩ := hi j (by omega)
    rw [hc0] at hc
    obtain ⟨_, hcl, hat⟩ := World.cells?_some hc
    match cs', hcl with
    | [v], _ =>
      have hv := hat 0 (by omega)
      rw [Nat.mul_one] at hv
      obtain ⟨b, off, hq, _, hcell, _⟩ := hR.at hj
      obtain rfl : x = ⟨b, off, none⟩ := by simpa using hq
      have hv2 : v = .slice (R.getD j default).q (R.getD j default).l.length (R.getD j default).c := by
        have e : W.cell? ⟨b, off + j, none⟩ = some v := by
          rw [Addr.add_lit, Addr.add_lit] at hv
          simpa using hv
        rw [hcell] at e
        exact (Option.some.inj e).symm
      subst hv2
      refine sized_ints ht hb ht' (fun n hn => hw n ?_)
      have e : d = (.slice ((List.range len).map D) ((List.range (m - len)).map fun j => D (len + j))) := congrArg Prod.fst hx
      rw [e]
      simp only [DataW.weights, ht0, List.mem_cons, List.mem_append]
      exact .inr (.inl (weights_in (List.mem_map.2 ⟨j, List.mem_range.2 (by omega), rfl⟩) hn))
end Go.Proofs.Ytppfbfiigfjncaa
