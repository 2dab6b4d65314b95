/- slices.Concat of filters: what a call does. -/
import Derived.Test.YteijlbblmdclaaaTnsGrow
import Derived.Test.YteijlbblmdclaaaArgs
set_option linter.unusedVariables false
set_option linter.unusedSimpArgs false
namespace Go.Proofs.Yteijlbblmdclaaa
open Go.ChangeShapes Go.WideShapes Go.ChangeAt Go.RowKit

def flatF (L : List FV) : List Value := L.flatMap (fun f => f.cells.toList)
theorem flatF_len : ∀ L : List FV, (flatF L).length = L.length * 5
  | [] => rfl
  | f :: L => by
    have := flatF_len L
    unfold flatF at this ⊢
    rw [List.flatMap_cons, List.length_append, this, List.length_cons]
    simp [FV.cells]; omega
theorem flatF_get : ∀ (L : List FV) (i k : Nat), i < L.length → k < 5 → (flatF L)[i * 5 + k]? = (L.getD i default).cells[k]?
  | [], i, k, h, _ => by simp at h
  | f :: L, 0, k, _, hk => by
    unfold flatF
    rw [List.flatMap_cons, Nat.zero_mul, Nat.zero_add, List.getElem?_append_left (by simp [FV.cells]; omega)]
    simp
  | f :: L, i + 1, k, h, hk => by
    have ih := flatF_get L i k (by simpa using h) hk
    unfold flatF at ih ⊢
    rw [List.flatMap_cons, List.getElem?_append_right (by simp [FV.cells]; omega), show (i + 1) * 5 + k - f.cells.toList.length = i * 5 + k by simp [FV.cells]; omega, ih]
    simp
theorem flatF_app (a b : List FV) : flatF (a ++ b) = flatF a ++ flatF b := by unfold flatF; rw [List.flatMap_append]
theorem flatF_one (L : List FV) : ∀ u ∈ flatF L, u.oneCell' = true := by
  intro u hu
  unfold flatF at hu
  obtain ⟨f, _, h⟩ := List.mem_flatMap.1 hu
  simp [FV.cells] at h
  rcases h with rfl | rfl | rfl | rfl | rfl <;> rfl
/-- Filters that came in are put behind a row of the call's own. -/
theorem append_filts {w : World} {ops : Array Oper} {rest : List Oper} {o : Oper} {a : Act} {Q : Exit → Act → World → Prop} (hgd : o.guard = none) (s x : Operand)
    (ho : o.op = .call { callee := .builtin .append, args := #[s, x], argTypes := #[39, 39] }) (base : Nat)
    (v : Value) (n : Nat) (xs : List Value) (hs : a.eval s = v) (hown : w.ownsRow base 24 5 v n xs)
    (p : Option Addr) (c : Nat) (l : List FV) (hx : a.eval x = .slice p l.length c) (hI : IsFilts w p l) (hnil : p = none → l = [] ∧ c = 0) (hl : n + l.length ≤ 4096) (hbase : base ≤ w.heap.size)
    (h : ∀ v' w', w'.ownsRow base 24 5 v' (n + l.length) (xs ++ flatF l) → w.grownBy w' v.ownBlock → wpList Try.prog ops Q rest (a.put o.dst v') w') : wpList Try.prog ops Q (o :: rest) a w := by
  obtain ⟨i0, hi, hz0, hz1, hz2⟩ := info_parts Try.infoFilt
  cases p with
  | none =>
    obtain ⟨rfl, rfl⟩ := hnil rfl
    refine wpList_append_own_none hgd s x _ ho base 24 i0 5 Try.underlying39 hi v n xs hs hown hx ?_
    exact h v w (by simpa [flatF] using hown) (World.grownBy.refl w _)
  | some ad =>
    refine wpList_append_own w hgd s x _ ho base 24 i0 zeroF 5 48 Try.underlying39 hi hz0 hz1 hz2 rfl (by decide) v n xs hs hown ad l.length c (flatF l) hx (flatF_len l) ?_ (flatF_one l) (by unfold maxLen; omega) (by omega) hbase (fun v' w' h1 h2 _ => h v' w' h1 h2)
    intro j u hu
    have hj : j < l.length * 5 := by
      rcases Nat.lt_or_ge j (l.length * 5) with h | h
      · exact h
      · rw [List.getElem?_eq_none (by rw [flatF_len]; omega)] at hu; cases hu
    have hd : j = j / 5 * 5 + j % 5 := by omega
    have hi5 : j / 5 < l.length := by omega
    rcases hI with he | ⟨b, off, hp, _, hc⟩
    · simp [he] at hj
    obtain rfl : ad = ⟨b, off, none⟩ := by simpa using hp
    have h1 := hc (j / 5) hi5 (j % 5) (by omega)
    have h2 := flatF_get l (j / 5) (j % 5) hi5 (by omega)
    rw [← hd] at h2
    rw [Addr.add_lit, show off + j = off + j / 5 * 5 + j % 5 by omega, h1, ← h2, hu]
/-- The filters of the first so many windows. -/
def fsTo (B : List BV) (j : Nat) : List FV := (List.range j).flatMap (fun w => (B.getD w default).fs)
theorem fsTo_succ (B : List BV) (j : Nat) : fsTo B (j + 1) = fsTo B j ++ (B.getD j default).fs := by
  unfold fsTo; rw [List.range_succ, List.flatMap_append]; simp
theorem fsTo_le (B : List BV) : ∀ j, (∀ k, k < j → (B.getD k default).fs.length ≤ 3) → (fsTo B j).length ≤ 3 * j
  | 0, _ => by simp [fsTo]
  | j + 1, h => by
    have ih := fsTo_le B j (fun k hk => h k (by omega))
    have := h j (by omega)
    rw [fsTo_succ, List.length_append]; omega
/-- A row of filters. -/
theorem ownsF {w : World} {base : Nat} {v : Value} {L : List FV} (h : w.ownsRow base 24 5 v L.length (flatF L)) : ∃ p c, v = .slice p L.length c ∧ IsFilts w p L := by
  have h' := h
  obtain ⟨h1, ⟨rfl, h2⟩ | ⟨g, cap, cur, rfl, hg, hh, r⟩⟩ := h
  · have : L = [] := List.eq_nil_of_length_eq_zero h2
    subst this
    exact ⟨none, 0, rfl, .inl rfl⟩
  · refine ⟨_, cap, rfl, .inr ⟨g, 0, rfl, (h'.lt g rfl).2, fun j hj k hk => ?_⟩⟩
    rw [Nat.zero_add, h'.cellAt (j * 5 + k) (by omega), flatF_get L j k hj hk]
set_option maxRecDepth 100000 in
set_option maxHeartbeats 4000000 in
theorem tns_concat (q : Option Addr) (cB : Nat) (B : List BV) (w : World) (hB : IsBank w q B) (hBl : B.length ≤ 8) (h3 : ∀ j, j < B.length → (B.getD j default).fs.length ≤ 3) (hnil : ∀ j, j < B.length → (B.getD j default).q = none → (B.getD j default).fs = [] ∧ (B.getD j default).c = 0) :
    Calls Try.prog 53 #[.slice q B.length cB] w fun e w' => ∃ p c, e = .returned (.slice p (fsTo B B.length).length c) ∧ IsFilts w' p (fsTo B B.length) ∧ Below w.heap.size w w' := by
  have HB := Lib.hid hB
  have H3 := Lib.hid h3
  have HN := Lib.hid hnil
  have HLE := Lib.hid (fun j (hj : j ≤ B.length) => fsTo_le B j (fun k hk => h3 k (by omega)))
  clear hB h3 hnil
  go_enter Try.func53, Try.ntmps53
  go_wp2_with fail
  go_loop [3, 11] (fun S K => ∃ k : Nat, K = .int .i64 k ∧ k ≤ B.length ∧ S = .int .i64 ((fsTo B k).length : Nat)) (fun _ K => B.length - (intOf K).toNat)
  case atStart => exact ⟨0, rfl, Nat.zero_le _, rfl⟩
  case round =>
    obtain ⟨k, rfl, hk, rfl⟩ := hrel
    have hle := HLE.out k hk
    by_cases hlt : k < B.length
    · have hd : decide ((k : Int) < (B.length : Int)) = true := decide_eq_true (by omega)
      obtain ⟨b, off, rfl, _, hc⟩ := HB.out.at hlt
      have r1 := hc k hlt
      have hl2 := HLE.out (k + 1) hlt
      have hs := fsTo_succ B k
      have hs2 : (fsTo B (k + 1)).length = (fsTo B k).length + (B.getD k default).fs.length := by rw [hs, List.length_append]
      have HS := Lib.hid hs2
      clear hc hs
      generalize B.getD k default = bv at r1 HS hs2
      obtain ⟨qf, cf, fs⟩ := bv
      dsimp only at r1 HS hs2
      have e1 : IntKind.i64.wrap (((fsTo B k).length : Int) + (fs.length : Int)) = (((fsTo B k).length + fs.length : Nat) : Int) := by rw [IntWalk.i64_in _ (by omega)]; omega
      have e2 : decide ((((fsTo B k).length + fs.length : Nat) : Int) < 0) = false := decide_eq_false (by omega)
      clear hs2 hl2
      go_wp2
      go_round
      case rel => exact ⟨k + 1, by go_num, hlt, by rw [HS.out]; exact congrArg _ (by omega)⟩
      case measure => simp [intOf]; omega
    · have hkM : k = B.length := by omega
      subst hkM
      have HG := Lib.hid (tns_grow (fsTo B B.length).length (by omega) w)
      go_wp2_with fail
      refine HG.out.mono ?_
      rintro e w1 ⟨v, rfl, hown, hb⟩
      have HBK := Lib.hid hb
      clear HG
      go_wp2_with fail
      go_loopw [6, 27] (fun V K wr => ∃ k : Nat, K = .int .i64 k ∧ k ≤ B.length ∧ wr.ownsRow w.heap.size 24 5 V (fsTo B k).length (flatF (fsTo B k)) ∧ Below w.heap.size w wr) (fun _ K _ => B.length - (intOf K).toNat)
      case atStart => exact ⟨0, rfl, Nat.zero_le _, hown, hb⟩
      case round =>
        obtain ⟨k, rfl, hk, hown, hb⟩ := hrel
        by_cases hlt : k < B.length
        · have hd : decide ((k : Int) < (B.length : Int)) = true := decide_eq_true (by omega)
          obtain ⟨b, off, rfl, _, hc⟩ := (HB.out.keep hb).at hlt
          have r1 := hc k hlt
          have hl2 := HLE.out (k + 1) hlt
          have hs := fsTo_succ B k
          have hs2 : (fsTo B (k + 1)).length = (fsTo B k).length + (B.getD k default).fs.length := by rw [hs, List.length_append]
          have HS := Lib.hid hs
          have HS2 := Lib.hid hs2
          have hfi := ((HB.out.keep hb).2 k hlt).1
          have hni := HN.out k hlt
          clear hc hs
          generalize B.getD k default = bv at r1 HS hs2 hfi hni HS2
          obtain ⟨qf, cf, fs⟩ := bv
          dsimp only at r1 HS hs2 hfi hni HS2
          have HFI := Lib.hid hfi
          have HNI := Lib.hid hni
          have HOW := Lib.hid hown
          have hl4 : (fsTo B k).length + fs.length ≤ 4096 := by omega
          clear hs2 hl2 hfi hni hown
          go_wp2_with (at_builtin; refine append_filts rfl _ _ rfl w.heap.size _ _ _ rfl HOW.out qf cf fs rfl HFI.out HNI.out hl4 hb.size ?_; intro v' w' h1 h2)
          go_round
          case rel => exact ⟨k + 1, by go_num, hlt, by rw [HS.out, List.length_append, flatF_app]; exact h1, hb.grown h2 hb.size (fun j hj => (HOW.out.lt j hj).1)⟩
          case measure => simp [intOf]; omega
        · have hkM : k = B.length := by omega
          subst hkM
          obtain ⟨p, c, rfl, hI⟩ := ownsF hown
          have HI := Lib.hid hI
          clear hI hown
          go_wp2
          go_ret
          exact ⟨_, _, rfl, HI.out, hb⟩
end Go.Proofs.Yteijlbblmdclaaa
