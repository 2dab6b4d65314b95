/- A region that draws its order, of any fence: what each operation yields is said ahead; each is shown once. -/
import Derived.Test.YtppfbfiigfjncaaLoopAll2
import Derived.WalkKit
import Derived.OrdersIn
set_option linter.unusedVariables false
namespace Go.Proofs.Ytppfbfiigfjncaa
open Go.RowKit

def dstOf (ops : Array Oper) (i : Nat) : Option Tmp := (ops[i]?).bind (fun o => o.dst)
/-- What an operation yielded lies in its slot. -/
def Yld (ops : Array Oper) (vals : Nat → Value) (a : Act) (j : Nat) : Prop := ∀ d, dstOf ops j = some d → a.eval (.tmp d) = vals j
def ordOne (ops : Array Oper) (bs : List Nat) (N : Nat) (deps : Nat → List Nat) (i : Nat) (o : Oper) : Bool :=
  o.guard.isNone && (o.after.all (fun e => !Region.binds .any e || decide (e.on < i)) &&
    ((match o.dst with | none => true | some d => decide (d < N) && (bs.all (fun t => !(t == d)) && (List.range i).all (fun j => !(dstOf ops j == some d)))) &&
      (deps i).all (fun j => o.after.any (fun e => e.on == j && Region.binds .any e))))
def ordOk (ops : Array Oper) (bs : List Nat) (N : Nat) (deps : Nat → List Nat) : Bool :=
  (List.range ops.size).all (fun i => match ops[i]? with | none => false | some o => ordOne ops bs N deps i o)
theorem ordOk_at {ops : Array Oper} {bs : List Nat} {N : Nat} {deps : Nat → List Nat} (h : ordOk ops bs N deps = true) {i : Nat} (hi : i < ops.size) :
    ops[i].guard = none ∧ (∀ e ∈ ops[i].after, Region.binds .any e = true → e.on < i) ∧ (∀ d, ops[i].dst = some d → d < N ∧ (∀ t ∈ bs, t ≠ d) ∧ ∀ j, j < i → dstOf ops j ≠ some d) ∧
      ∀ j ∈ deps i, ∃ e ∈ ops[i].after, e.on = j ∧ Region.binds .any e = true := by
  unfold ordOk at h
  rw [List.all_eq_true] at h
  have h1 := h i (List.mem_range.2 hi)
  rw [Array.getElem?_eq_getElem hi] at h1
  simp only [ordOne, Bool.and_eq_true] at h1
  obtain ⟨h1, h2, h3, h4⟩ := h1
  refine ⟨by simpa using h1, ?_, ?_, ?_⟩
  · intro e he hb
    have := (Array.all_eq_true_iff_forall_mem.1 h2) e he
    rw [hb] at this
    simpa using this
  · intro d hd
    rw [hd] at h3
    simp only [Bool.and_eq_true, decide_eq_true_eq, List.all_eq_true] at h3
    refine ⟨h3.1, fun t ht => by simpa using h3.2.1 t ht, fun j hj => by simpa using h3.2.2 j (List.mem_range.2 hj)⟩
  · intro j hj
    rw [List.all_eq_true] at h4
    have := h4 j hj
    rw [Array.any_eq_true] at this
    obtain ⟨k, hk, hb⟩ := this
    simp only [Bool.and_eq_true, beq_iff_eq] at hb
    exact ⟨_, Array.getElem_mem hk, hb.1, hb.2⟩
theorem eval_new {a : Act} {d : Tmp} {v : Value} (h : d < a.tmps.size) : (a.put (some d) v).eval (.tmp d) = v := by
  show (a.tmps.setIfInBounds d v).getD d undef = v
  rw [Array.getD_eq_getD_getElem?, Array.getElem?_setIfInBounds_self_of_lt h]; rfl
theorem eval_old {a : Act} {d : Option Tmp} {t : Tmp} {v : Value} (h : d ≠ some t) : (a.put d v).eval (.tmp t) = a.eval (.tmp t) :=
  Act.eval_put (fun d' e e2 => h (by rw [e]; cases e2; rfl))
theorem size_put {a : Act} {d : Option Tmp} {v : Value} : (a.put d v).tmps.size = a.tmps.size := by cases d <;> simp [Act.put]
theorem defers_put {a : Act} {d : Option Tmp} {v : Value} : (a.put d v).defers = a.defers := by cases d <;> rfl
def falses (l : Array Bool) : Nat := l.toList.countP (fun b => !b)
theorem falses_set {l : Array Bool} {i : Nat} (hi : i < l.size) (h : l.getD i true = false) : falses (l.setIfInBounds i true) + 1 = falses l := by
  obtain ⟨l⟩ := l
  unfold falses
  have hl : i < l.length := by simpa using hi
  have he : l[i] = false := by simpa [Array.getD_eq_getD_getElem?, hl] using h
  simp only [List.setIfInBounds_toArray]
  have h1 : l.set i true = l.take i ++ true :: l.drop (i + 1) := List.set_eq_take_append_cons_drop.trans (by rw [if_pos hl])
  have h2 : l = l.take i ++ false :: l.drop (i + 1) := by
    conv => lhs; rw [← List.take_append_drop i l, List.drop_eq_getElem_cons hl, he]
  rw [h1]
  conv => rhs; rw [h2]
  simp only [List.countP_append, List.countP_cons]
  simp
  omega
structure OrdInv (ops : Array Oper) (vals : Nat → Value) (base : List (Nat × Value)) (N : Nat) (D : List Deferred) (st : Nat) (Wd : Bool → World → Prop) (listed : Array Bool) (a : Act) (w : World) : Prop where
  ls : listed.size = ops.size
  sz : a.tmps.size = N
  df : a.defers = D
  bs : ∀ p ∈ base, a.eval (.tmp p.1) = p.2
  ys : ∀ j, listed.getD j false = true → Yld ops vals a j
  wd : Wd (listed.getD st false) w
theorem wpAnyIn_orders {F : Fence} {n : Nat} {P : Program} {ops : Array Oper} {Q : Exit → Act → World → Prop} {N : Nat} {D : List Deferred} (base : List (Nat × Value)) (vals : Nat → Value) (deps : Nat → List Nat) (st : Nat) (hst : st < ops.size)
    (hchk : ordOk ops (base.map (fun p => p.1)) N deps = true) (Wd : Bool → World → Prop)
    (hop : ∀ i (hi : i < ops.size) (a : Act) (w : World) (b : Bool), (∀ p ∈ base, a.eval (.tmp p.1) = p.2) → (∀ j ∈ deps i, Yld ops vals a j) → Wd b w → (i = st → b = false) → ∀ K : Act → World → Prop, (∀ w', Wd (b || decide (i = st)) w' → K (a.put ops[i].dst (vals i)) w') → Oper.wpIn F n P ops[i] a w K Q)
    (hend : ∀ (a : Act) (w : World), a.tmps.size = N → a.defers = D → (∀ p ∈ base, a.eval (.tmp p.1) = p.2) → (∀ j, j < ops.size → Yld ops vals a j) → Wd true w → Q .normal a w) :
    ∀ (fuel : Nat) (listed : Array Bool) (a : Act) (w : World), falses listed ≤ fuel → OrdInv ops vals base N D st Wd listed a w → wpAnyIn F n P .any ops Q fuel listed a w := by
  have hdone : ∀ (listed : Array Bool) (a : Act) (w : World), OrdInv ops vals base N D st Wd listed a w → Region.ready .any ops listed = [] → Q .normal a w := by
    intro listed a w hI hr
    have hall : ∀ j, j < ops.size → listed.getD j false = true := by
      intro j
      induction j using Nat.strongRecOn with
      | _ j ih =>
        intro hj
        have hne : j ∉ Region.ready .any ops listed := by rw [hr]; simp
        have hl : j < listed.size := by rw [hI.ls]; exact hj
        cases hv : listed.getD j false with
        | true => rfl
        | false =>
          exfalso
          apply hne
          unfold Region.ready
          rw [List.mem_filter]
          refine ⟨List.mem_range.2 hj, ?_⟩
          have hv' : listed.getD j true = false := by
            rw [Array.getD_eq_getD_getElem?, Array.getElem?_eq_getElem hl] at hv ⊢
            exact hv
          rw [hv', Array.getElem?_eq_getElem hj]
          simp only [Bool.not_false, Bool.true_and, Option.map_some, Option.getD_some]
          rw [Array.all_eq_true_iff_forall_mem]
          intro e he
          cases hb : Region.binds .any e with
          | false => simp [hb]
          | true =>
            have hlt := (ordOk_at hchk hj).2.1 e he hb
            rw [ih e.on hlt (by omega)]
            simp
    have hw := hI.wd
    rw [hall st hst] at hw
    exact hend a w hI.sz hI.df hI.bs (fun j hj => hI.ys j (hall j hj)) hw
  intro fuel
  induction fuel with
  | zero =>
    intro listed a w hf hI
    have hr : Region.ready .any ops listed = [] := by
      rw [List.eq_nil_iff_forall_not_mem]
      intro i hi
      unfold Region.ready at hi
      rw [List.mem_filter] at hi
      obtain ⟨h1, h2⟩ := hi
      simp only [Bool.and_eq_true, Bool.not_eq_true'] at h2
      have := falses_set (by rw [hI.ls]; exact List.mem_range.1 h1) h2.1
      omega
    exact ⟨hr, hdone listed a w hI hr⟩
  | succ fuel ih =>
    intro listed a w hf hI
    refine ⟨hdone listed a w hI, fun i hi => ?_⟩
    unfold Region.ready at hi
    rw [List.mem_filter] at hi
    obtain ⟨h1, h2⟩ := hi
    have hi := List.mem_range.1 h1
    have hil : i < listed.size := by rw [hI.ls]; exact hi
    simp only [Bool.and_eq_true, Bool.not_eq_true'] at h2
    obtain ⟨h2, h3⟩ := h2
    rw [Array.getElem?_eq_getElem hi] at h3
    simp only [Option.map_some, Option.getD_some] at h3
    rw [Array.all_eq_true_iff_forall_mem] at h3
    obtain ⟨c1, c2, c3, c4⟩ := ordOk_at hchk hi
    have hif : listed.getD i false = false := by
      rw [Array.getD_eq_getD_getElem?, Array.getElem?_eq_getElem hil] at h2 ⊢
      exact h2
    unfold wpOpIn
    rw [Array.getElem?_eq_getElem hi]
    simp only
    rw [if_pos (by unfold Region.wanted; rw [c1])]
    refine hop i hi a w (listed.getD st false) hI.bs (fun j hj => ?_) hI.wd (fun e => by rw [← e]; exact hif) _ (fun w' hw' => ?_)
    · obtain ⟨e, he, rfl, hb⟩ := c4 j hj
      have := h3 e he
      rw [hb] at this
      exact hI.ys _ (by simpa using this)
    · have hfs := falses_set hil h2
      refine ih _ _ _ (by omega) ⟨by simp [hI.ls], size_put.trans hI.sz, defers_put.trans hI.df, fun p hp => ?_, fun j hj => ?_, ?_⟩
      · refine (eval_old (fun hd => ?_)).trans (hI.bs p hp)
        exact (c3 _ hd).2.1 p.1 (List.mem_map.2 ⟨p, hp, rfl⟩) rfl
      · intro d hd
        by_cases e : j = i
        · subst e
          have hd' : ops[j].dst = some d := by
            unfold dstOf at hd
            rw [Array.getElem?_eq_getElem hi] at hd
            exact hd
          rw [hd']
          exact eval_new (by rw [hI.sz]; exact (c3 d hd').1)
        · have hj' : listed.getD j false = true := by
            rw [Array.getD_eq_getD_getElem?, Array.getElem?_setIfInBounds_ne (fun h => e h.symm)] at hj
            rw [Array.getD_eq_getD_getElem?]; exact hj
          refine (eval_old (fun hdi => ?_)).trans (hI.ys j hj' d hd)
          have hjs : j < ops.size := by
            rcases Nat.lt_or_ge j ops.size with h | h
            · exact h
            · unfold dstOf at hd; rw [Array.getElem?_eq_none h] at hd; cases hd
          rcases Nat.lt_or_ge j i with h | h
          · exact (c3 d hdi).2.2 j h hd
          · have hjd : ops[j].dst = some d := by
              unfold dstOf at hd
              rw [Array.getElem?_eq_getElem hjs] at hd
              exact hd
            refine ((ordOk_at hchk hjs).2.2.1 d hjd).2.2 i (by omega) ?_
            unfold dstOf
            rw [Array.getElem?_eq_getElem hi]
            exact hdi
      · by_cases e : i = st
        · subst e
          rw [Array.getD_eq_getD_getElem?, Array.getElem?_setIfInBounds_self_of_lt hil]
          rw [hif] at hw'
          simpa using hw'
        · rw [Array.getD_eq_getD_getElem?, Array.getElem?_setIfInBounds_ne e, ← Array.getD_eq_getD_getElem?]
          simpa [e] using hw'
theorem falses_none (n : Nat) : falses (Array.replicate n false) ≤ n := by
  unfold falses
  refine Nat.le_trans (List.countP_le_length) (by simp)
theorem region_orders {F : Fence} {n : Nat} {P : Program} {id : Nat} {ops : Array Oper} {Q : Exit → Act → World → Prop} {a0 : Act} {w0 : World} (hm : P.follows .mixedOrders = true) (base : List (Nat × Value)) (vals : Nat → Value) (deps : Nat → List Nat) (st : Nat) (hst : st < ops.size)
    (N : Nat) (hN : a0.tmps.size = N) (hchk : ordOk ops (base.map (fun p => p.1)) N deps = true) (hbase : ∀ p ∈ base, a0.eval (.tmp p.1) = p.2) (Wd : Bool → World → Prop) (hw0 : Wd false w0.drew)
    (hop : ∀ i (hi : i < ops.size) (a : Act) (w : World) (b : Bool), (∀ p ∈ base, a.eval (.tmp p.1) = p.2) → (∀ j ∈ deps i, Yld ops vals a j) → Wd b w → (i = st → b = false) → ∀ K : Act → World → Prop, (∀ w', Wd (b || decide (i = st)) w' → K (a.put ops[i].dst (vals i)) w') → Oper.wpIn F n P ops[i] a w K Q)
    (hend : ∀ (a : Act) (w : World), a.tmps.size = N → a.defers = a0.defers → (∀ p ∈ base, a.eval (.tmp p.1) = p.2) → (∀ j, j < ops.size → Yld ops vals a j) → Wd true w → Q .normal a w) :
    (Code.region id ops true).wpIn F n P Q a0 w0 := by
  refine wpIn_region_any hm ?_
  refine wpAnyIn_orders base vals deps st hst hchk Wd hop hend _ _ _ _ (falses_none _) ⟨by simp, hN, rfl, hbase, fun j hj => ?_, ?_⟩
  · rw [Array.getD_eq_getD_getElem?, Array.getElem?_replicate] at hj
    split at hj <;> simp at hj
  · rw [Array.getD_eq_getD_getElem?, Array.getElem?_replicate]
    have : (if st < ops.size then some false else none).getD false = false := by split <;> rfl
    rw [this]
    exact hw0
end Go.Proofs.Ytppfbfiigfjncaa
