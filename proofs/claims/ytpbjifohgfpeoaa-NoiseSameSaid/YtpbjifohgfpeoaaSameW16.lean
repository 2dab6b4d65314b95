/- NoiseSame: the walk. -/
import Derived.Test.YtpbjifohgfpeoaaNoiseDbl
import Derived.Laws.StructEq
set_option linter.unusedVariables false
set_option linter.unusedSimpArgs false
namespace Go.Proofs.Ytpbjifohgfpeoaa
open Go.ChangeShapes Go.WideShapes Go.ChangeAt Go.RowKit

/-- Three integers by value. -/
theorem open_three {H : Type} {enc : TypeId × Value → H} {P : Program} {w : World} {base b0 : Nat} {spare : Nat → Bool} {held : Bool} {r : Reach} {t e : TypeId} {k : IntKind} {v : Value} {d : DataW H} {ps : List MemPlace} (ht : P.underlying t = some (.array 3 e)) (he : P.underlying e = some (.int k)) (hc : P.cellsOf e = 1) (hct : P.cellsOf t = 3)
    (hval : Value.okWide P w r b0 t v) (hd : DataW.Trod enc P w base spare held t v d ps) : ∃ x y z : Int, v = .agg #[.int k x, .int k y, .int k z] ∧ (Lit.int k x).wf = true ∧ (Lit.int k y).wf = true ∧ (Lit.int k z).wf = true := by
  simp only [Value.okWide, ht] at hval
  obtain ⟨cs, rfl, hsz, _⟩ := hval
  rw [hct] at hsz
  obtain ⟨fuel, hf⟩ := hd
  obtain ⟨xs, m, _, _, hl, hn, hi⟩ := DataW.trod_array ht hf
  have each : ∀ i, i < 3 → ∃ n, cs.toList[i]? = some (.int k n) ∧ (Lit.int k n).wf = true := by
    intro i h
    have h1 := hi i h
    rw [List.getElem?_eq_getElem (by omega)] at h1
    obtain ⟨n, h2, _, h3⟩ := DataW.trod_int he h1
    refine ⟨n, ?_, h3⟩
    rw [hc, Nat.mul_one] at h2
    have h4 := congrArg (fun l => l[0]?) h2
    simpa [Value.cells] using h4
  obtain ⟨x, hx, wx⟩ := each 0 (by decide)
  obtain ⟨y, hy, wy⟩ := each 1 (by decide)
  obtain ⟨z, hz, wz⟩ := each 2 (by decide)
  refine ⟨x, y, z, ?_, wx, wy, wz⟩
  obtain ⟨c0, c1, c2, rfl⟩ : ∃ c0 c1 c2, cs = #[c0, c1, c2] := by
    rcases cs with ⟨l⟩
    match l, hsz with
    | [a, b, c], _ => exact ⟨a, b, c, rfl⟩
  simp at hx hy hz
  rw [hx, hy, hz]
theorem eq_three_d (d : Nat) (a0 a1 a2 b0 b1 b2 : Int) (w : World) : Sem.run Try.prog (Op.equalIn (d + 1 + 1) 39 (.agg #[.int .i64 a0, .int .i64 a1, .int .i64 a2]) (.agg #[.int .i64 b0, .int .i64 b1, .int .i64 b2])) w = .ok (a0 == b0 && (a1 == b1 && a2 == b2)) w := by
  have h1 : ∀ (a b : Int) (w : World), Sem.run Try.prog (Op.equalIn (d + 1) 3 (.int .i64 a) (.int .i64 b)) w = .ok (a == b) w := fun a b w => run_equalIn_int w d 3 .i64 .i64 a b Try.underlying3
  rw [Op.equalIn]
  simp only [Sem.run_bind, run_underlying Try.underlying39, Result.andThen_ok]
  generalize Op.equalIn (d + 1) = E at h1 ⊢
  have hs : ∀ w, Sem.run Try.prog (sizeOf 3) w = .ok 1 w := fun w => by kernel_rfl
  have hp : ∀ (cs : Array Value) (i : Nat) (v : Value) (w : World), cs[i]? = some v → Sem.run Try.prog (part 3 cs i) w = .ok v w := by
    intro cs i v w h
    simp [part, isAgg, run_underlying Try.underlying3, h]
  have e3 : List.range' 0 3 = [0, 1, 2] := rfl
  simp only [hs, Result.andThen_ok, Std.Legacy.Range.forIn_eq_forIn_range', Std.Legacy.Range.size, Nat.sub_zero, Nat.add_one_sub_one, Nat.div_one, e3, List.forIn_cons, List.forIn_nil, Nat.reduceAdd, Nat.reduceSub, Nat.reduceDiv]
  have p0 : ∀ (x y z : Int) (w : World), Sem.run Try.prog (part 3 #[.int .i64 x, .int .i64 y, .int .i64 z] (0 * 1)) w = .ok (.int .i64 x) w := fun x y z w => hp _ _ _ _ rfl
  have p1 : ∀ (x y z : Int) (w : World), Sem.run Try.prog (part 3 #[.int .i64 x, .int .i64 y, .int .i64 z] (1 * 1)) w = .ok (.int .i64 y) w := fun x y z w => hp _ _ _ _ rfl
  have p2 : ∀ (x y z : Int) (w : World), Sem.run Try.prog (part 3 #[.int .i64 x, .int .i64 y, .int .i64 z] (2 * 1)) w = .ok (.int .i64 z) w := fun x y z w => hp _ _ _ _ rfl
  cases ha : a0 == b0 <;> cases hb : a1 == b1 <;> cases hc : a2 == b2 <;> simp [Sem.run_bind, p0, p1, p2, h1, ha, hb, hc]
theorem eq_three (a0 a1 a2 b0 b1 b2 : Int) (w : World) : Sem.run Try.prog (Op.equalIn 10000 39 (.agg #[.int .i64 a0, .int .i64 a1, .int .i64 a2]) (.agg #[.int .i64 b0, .int .i64 b1, .int .i64 b2])) w = .ok (a0 == b0 && (a1 == b1 && a2 == b2)) w := eq_three_d 9998 a0 a1 a2 b0 b1 b2 w

theorem seed_same (a0 a1 a2 b0 b1 b2 : Int) (ha : ¬ BadS a0 a1 a2) (hb : ¬ BadS b0 b1 b2) : (seedN a0 a1 a2 == seedN b0 b1 b2) = (a0 == b0 && (a1 == b1 && a2 == b2)) := by
  unfold BadS at ha hb
  by_cases h : a0 = b0 ∧ a1 = b1 ∧ a2 = b2
  · obtain ⟨rfl, rfl, rfl⟩ := h
    simp
  · have hne : seedN a0 a1 a2 ≠ seedN b0 b1 b2 := by
      intro e
      have := seed_inj (4096 * a0 + 512 * a1 + a2) (4096 * b0 + 512 * b1 + b2) (by omega) (by omega) (by omega) (by omega) e
      omega
    have e1 : (seedN a0 a1 a2 == seedN b0 b1 b2) = false := by simpa using hne
    rw [e1]
    symm
    simp
    omega
theorem sign_val (s step : Int) (n k : Nat) : (0 ≤ drawV (seedAt s k) → 0 ≤ noiseV s step n k) ∧ (drawV (seedAt s k) ≤ 0 → noiseV s step n k ≤ 0) := by
  have o := one_range step
  unfold noiseV
  split
  · rename_i h
    exact noise_sign _ _ _ h o.1
  · exact ⟨fun _ => Int.le_refl _, fun _ => Int.le_refl _⟩
theorem sign_ok (s one two : Int) (few many k : Nat) : ¬ (0 < noiseV s one few k ∧ noiseV s two many k < 0) ∧ ¬ (noiseV s one few k < 0 ∧ 0 < noiseV s two many k) := by
  have a := sign_val s one few k
  have b := sign_val s two many k
  rcases Int.le_total 0 (drawV (seedAt s k)) with h | h
  · have := a.1 h; have := b.1 h
    constructor
    · omega
    · intro hh
      rcases Int.le_total (drawV (seedAt s k)) 0 with h2 | h2
      · have := b.2 h2; omega
      · omega
  · have := a.2 h; have := b.2 h; omega
theorem sign_band (s one two few many : Int) (l1 l2 : List Int) (h1 : bandN s one few = (l1, 0)) (h2 : bandN s two many = (l2, 0)) (k : Nat) (hk1 : k < l1.length) (hk2 : k < l2.length) :
    (¬ (0 < l1.getD k 0 ∧ l2.getD k 0 < 0) ∧ ¬ (l1.getD k 0 < 0 ∧ 0 < l2.getD k 0)) := by
  have key : ∀ st mn l, bandN s st mn = (l, 0) → l = noiseL s st mn.toNat := by
    intro st mn l h
    unfold bandN at h
    split at h
    · simp at h
    · split at h
      · simp at h
      · simpa using h.symm
  obtain rfl := key _ _ _ h1
  obtain rfl := key _ _ _ h2
  rw [noise_len] at hk1 hk2
  rw [noise_at _ _ _ _ hk1, noise_at _ _ _ _ hk2]
  exact sign_ok s one two few.toNat many.toNat k
set_option maxRecDepth 100000 in
set_option maxHeartbeats 8000000 in
theorem same16_bad1 (s one two few many a0 a1 a2 q0 q1 q2 : Int) (s0 : 0 ≤ s) (s1 : s < 4294967296) (X Y x2 y2 : Int) (hA : ∀ W, Calls Try.prog 11 #[.int .i64 a0, .int .i64 a1, .int .i64 a2] W fun e w' => e = .returned (.tuple #[.int .u32 X, .int .i64 x2]) ∧ W = w') (hB : ∀ W, Calls Try.prog 11 #[.int .i64 q0, .int .i64 q1, .int .i64 q2] W fun e w' => e = .returned (.tuple #[.int .u32 Y, .int .i64 y2]) ∧ W = w') (hx : (x2 == 0) = false) (w : World) :
    Calls Try.prog 7 #[.int .u32 s, .int .i64 one, .int .i64 two, .int .i64 few, .int .i64 many, .agg #[.int .i64 a0, .int .i64 a1, .int .i64 a2], .agg #[.int .i64 q0, .int .i64 q1, .int .i64 q2]] w fun e w' => e = .returned (.bool true) ∧ Below w.heap.size w w' := by
  have hx' : (x2 != 0) = true := by simp [bne, hx]
  have A := Lib.hid hA
  have B := Lib.hid hB
  clear hA hB
  have F := Lib.hid (fun W => Band_any s one few s0 s1 W)
  have G := Lib.hid (fun W => Band_any s two many s0 s1 W)
  have SB := Lib.hid (sign_band s one two few many)
  have n1 := bandN_len s one few
  have n2 := bandN_len s two many
  generalize bandN s one few = x at *
  generalize bandN s two many = y at *
  obtain ⟨l1, e1⟩ := x
  obtain ⟨l2, e2⟩ := y
  unfold RRowE at F G
  dsimp only at F G n1 n2
  have ce : ∀ (w : World) (c0 c1 c2 : Value) (t : TypeId) (j : Nat), (w.alloc (.cells #[c0, c1, c2] t)).cell? ⟨w.heap.size, j, none⟩ = (#[c0, c1, c2] : Array Value)[j]? := fun w c0 c1 c2 t j => World.cell?_alloc_at _ _ _ _ rfl
  have HCE := Lib.hid ce
  clear ce
  go_enter Try.func7, Try.ntmps7
  go_wp2_with fail
  refine (alive16 _).mono ?_
  rintro e w1 ⟨rfl, hb1⟩
  have hz1 : w.heap.size + 1 < w1.heap.size := by have := hb1.size; simp at this; omega
  have C1 : Hid (∀ j, w1.cell? ⟨w.heap.size, j, none⟩ = (#[.int .i64 a0, .int .i64 a1, .int .i64 a2] : Array Value)[j]?) := by
    intro j
    rw [hb1.cell (p := ⟨w.heap.size, j, none⟩) (by simp; omega)]
    rw [World.cell?_of_block (Below.heap_alloc _ _ w.heap.size (by simp))]
    exact HCE.out w _ _ _ _ j
  have C2 : Hid (∀ j, w1.cell? ⟨w.heap.size + 1, j, none⟩ = (#[.int .i64 q0, .int .i64 q1, .int .i64 q2] : Array Value)[j]?) := by
    intro j
    rw [hb1.cell (p := ⟨w.heap.size + 1, j, none⟩) (by simp)]
    exact World.cell?_alloc_at _ _ _ _ (by simp)
  have b1 : Below w.heap.size w w1 := (((Below.refl _ _).alloc (Nat.le_refl _) _).alloc (by simp) _).trans (hb1.mono (by simp; omega))
  clear hb1 HCE
  go_wp2_with fail
  refine (F.out _).mono ?_
  rintro e w2 ⟨v1, rfl, hO1, hb2⟩
  obtain ⟨p1, c1, rfl, I1⟩ := owns_any hO1
  have HI1 := Lib.hid I1
  have b2 := b1.trans (hb2.mono (by omega))
  have C12 : Hid (∀ j, w2.cell? ⟨w.heap.size, j, none⟩ = (#[.int .i64 a0, .int .i64 a1, .int .i64 a2] : Array Value)[j]?) := fun j => (hb2.cell (p := ⟨w.heap.size, j, none⟩) (by show w.heap.size < _; omega)).trans (C1.out j)
  have C22 : Hid (∀ j, w2.cell? ⟨w.heap.size + 1, j, none⟩ = (#[.int .i64 q0, .int .i64 q1, .int .i64 q2] : Array Value)[j]?) := fun j => (hb2.cell (p := ⟨w.heap.size + 1, j, none⟩) (by show w.heap.size + 1 < _; omega)).trans (C2.out j)
  have hz2 : w.heap.size + 1 < w2.heap.size := Nat.lt_of_lt_of_le hz1 hb2.size
  clear hO1 I1 hb2 C1 C2 F
  go_wp2_with fail
  refine (G.out _).mono ?_
  rintro e w3 ⟨v2, rfl, hO2, hb3⟩
  obtain ⟨p2, c2, rfl, I2⟩ := owns_any hO2
  have HI2 := Lib.hid I2
  have HI3 := Lib.hid (HI1.out.keep hb3 (Nat.le_refl _))
  have b3 := b2.trans (hb3.mono (by omega))
  have C13 : Hid (∀ j, w3.cell? ⟨w.heap.size, j, none⟩ = (#[.int .i64 a0, .int .i64 a1, .int .i64 a2] : Array Value)[j]?) := fun j => (hb3.cell (p := ⟨w.heap.size, j, none⟩) (by show w.heap.size < _; omega)).trans (C12.out j)
  have C23 : Hid (∀ j, w3.cell? ⟨w.heap.size + 1, j, none⟩ = (#[.int .i64 q0, .int .i64 q1, .int .i64 q2] : Array Value)[j]?) := fun j => (hb3.cell (p := ⟨w.heap.size + 1, j, none⟩) (by show w.heap.size + 1 < _; omega)).trans (C22.out j)
  clear hO2 I2 hb3 C12 C22 G HI1
  have m0 : w3.cell? ⟨w.heap.size, 0, none⟩ = some (.int .i64 a0) := C13.out 0
  have m1 : w3.cell? ⟨w.heap.size, 1, none⟩ = some (.int .i64 a1) := C13.out 1
  have m2 : w3.cell? ⟨w.heap.size, 2, none⟩ = some (.int .i64 a2) := C13.out 2
  have m3 : w3.cell? ⟨w.heap.size + 1, 0, none⟩ = some (.int .i64 q0) := C23.out 0
  have m4 : w3.cell? ⟨w.heap.size + 1, 1, none⟩ = some (.int .i64 q1) := C23.out 1
  have m5 : w3.cell? ⟨w.heap.size + 1, 2, none⟩ = some (.int .i64 q2) := C23.out 2
  clear C13 C23
  by_cases hok : e1 = 0 ∧ e2 = 0
  · obtain ⟨rfl, rfl⟩ := hok
    go_wp2
    go_loop [20] (fun I => ∃ k : Nat, I = .int .i64 k ∧ k ≤ 256) (fun I => 257 - (intOf I).toNat)
    case atStart => exact ⟨0, rfl, by decide⟩
    case round =>
      obtain ⟨k, rfl, hk⟩ := hrel
      by_cases hlt : k < l1.length
      · by_cases hlt2 : k < l2.length
        · obtain ⟨b, off, rfl, g1⟩ := HI3.out.at hlt
          obtain ⟨b', off', rfl, g2⟩ := HI2.out.at hlt2
          obtain ⟨t1, t2⟩ := SB.out l1 l2 rfl rfl k hlt hlt2
          generalize l1.getD k 0 = u at g1 t1 t2
          generalize l2.getD k 0 = v at g2 t1 t2
          by_cases hu : 0 < u
          · have d1 : decide (0 < u) = true := decide_eq_true hu
            have d2 : decide (v < 0) = false := by simp; omega
            have d3 : decide (u < 0) = false := by simp; omega
            clear t1 t2
            go_wp2
            go_round
            case rel => exact ⟨k + 1, by go_num, by omega⟩
            case measure => simp [intOf]; omega
          · have d1 : decide (0 < u) = false := decide_eq_false hu
            by_cases hu2 : u < 0
            · have d2 : decide (u < 0) = true := decide_eq_true hu2
              have d3 : decide (0 < v) = false := by simp; omega
              clear t1 t2
              go_wp2
              go_round
              case rel => exact ⟨k + 1, by go_num, by omega⟩
              case measure => simp [intOf]; omega
            · have d2 : decide (u < 0) = false := decide_eq_false hu2
              clear t1 t2
              go_wp2
              go_round
              case rel => exact ⟨k + 1, by go_num, by omega⟩
              case measure => simp [intOf]; omega
        · go_wp2_with fail
          refine (A.out _).mono ?_
          rintro e w4 ⟨rfl, hw⟩
          obtain rfl := hw
          go_wp2_with fail
          refine (B.out _).mono ?_
          rintro e w4 ⟨rfl, hw⟩
          obtain rfl := hw
          go_wp2
          go_ret
          exact ⟨rfl, b3⟩
      · go_wp2_with fail
        refine (A.out _).mono ?_
        rintro e w4 ⟨rfl, hw⟩
        obtain rfl := hw
        go_wp2_with fail
        refine (B.out _).mono ?_
        rintro e w4 ⟨rfl, hw⟩
        obtain rfl := hw
        go_wp2
        go_ret
        exact ⟨rfl, b3⟩
  · have hor : (e1 == 0) = false ∨ (e1 == 0) = true ∧ (e2 == 0) = false := by
      by_cases h : e1 = 0
      · right; simp [h]; intro h2; exact hok ⟨h, h2⟩
      · left; simpa using h
    clear hok
    rcases hor with h | ⟨h, h'⟩
    · go_wp2_with fail
      refine (A.out _).mono ?_
      rintro e w4 ⟨rfl, hw⟩
      obtain rfl := hw
      go_wp2_with fail
      refine (B.out _).mono ?_
      rintro e w4 ⟨rfl, hw⟩
      obtain rfl := hw
      go_wp2
      go_ret
      exact ⟨rfl, b3⟩
    · go_wp2_with fail
      refine (A.out _).mono ?_
      rintro e w4 ⟨rfl, hw⟩
      obtain rfl := hw
      go_wp2_with fail
      refine (B.out _).mono ?_
      rintro e w4 ⟨rfl, hw⟩
      obtain rfl := hw
      go_wp2
      go_ret
      exact ⟨rfl, b3⟩
set_option maxRecDepth 100000 in
set_option maxHeartbeats 8000000 in
theorem same16_bad2 (s one two few many a0 a1 a2 q0 q1 q2 : Int) (s0 : 0 ≤ s) (s1 : s < 4294967296) (X Y x2 y2 : Int) (hA : ∀ W, Calls Try.prog 11 #[.int .i64 a0, .int .i64 a1, .int .i64 a2] W fun e w' => e = .returned (.tuple #[.int .u32 X, .int .i64 x2]) ∧ W = w') (hB : ∀ W, Calls Try.prog 11 #[.int .i64 q0, .int .i64 q1, .int .i64 q2] W fun e w' => e = .returned (.tuple #[.int .u32 Y, .int .i64 y2]) ∧ W = w') (hx : (x2 == 0) = true) (hy : (y2 == 0) = false) (w : World) :
    Calls Try.prog 7 #[.int .u32 s, .int .i64 one, .int .i64 two, .int .i64 few, .int .i64 many, .agg #[.int .i64 a0, .int .i64 a1, .int .i64 a2], .agg #[.int .i64 q0, .int .i64 q1, .int .i64 q2]] w fun e w' => e = .returned (.bool true) ∧ Below w.heap.size w w' := by
  have hx' : (x2 != 0) = false := by simp [bne, hx]
  have hy' : (y2 != 0) = true := by simp [bne, hy]
  have A := Lib.hid hA
  have B := Lib.hid hB
  clear hA hB
  have F := Lib.hid (fun W => Band_any s one few s0 s1 W)
  have G := Lib.hid (fun W => Band_any s two many s0 s1 W)
  have SB := Lib.hid (sign_band s one two few many)
  have n1 := bandN_len s one few
  have n2 := bandN_len s two many
  generalize bandN s one few = x at *
  generalize bandN s two many = y at *
  obtain ⟨l1, e1⟩ := x
  obtain ⟨l2, e2⟩ := y
  unfold RRowE at F G
  dsimp only at F G n1 n2
  have ce : ∀ (w : World) (c0 c1 c2 : Value) (t : TypeId) (j : Nat), (w.alloc (.cells #[c0, c1, c2] t)).cell? ⟨w.heap.size, j, none⟩ = (#[c0, c1, c2] : Array Value)[j]? := fun w c0 c1 c2 t j => World.cell?_alloc_at _ _ _ _ rfl
  have HCE := Lib.hid ce
  clear ce
  go_enter Try.func7, Try.ntmps7
  go_wp2_with fail
  refine (alive16 _).mono ?_
  rintro e w1 ⟨rfl, hb1⟩
  have hz1 : w.heap.size + 1 < w1.heap.size := by have := hb1.size; simp at this; omega
  have C1 : Hid (∀ j, w1.cell? ⟨w.heap.size, j, none⟩ = (#[.int .i64 a0, .int .i64 a1, .int .i64 a2] : Array Value)[j]?) := by
    intro j
    rw [hb1.cell (p := ⟨w.heap.size, j, none⟩) (by simp; omega)]
    rw [World.cell?_of_block (Below.heap_alloc _ _ w.heap.size (by simp))]
    exact HCE.out w _ _ _ _ j
  have C2 : Hid (∀ j, w1.cell? ⟨w.heap.size + 1, j, none⟩ = (#[.int .i64 q0, .int .i64 q1, .int .i64 q2] : Array Value)[j]?) := by
    intro j
    rw [hb1.cell (p := ⟨w.heap.size + 1, j, none⟩) (by simp)]
    exact World.cell?_alloc_at _ _ _ _ (by simp)
  have b1 : Below w.heap.size w w1 := (((Below.refl _ _).alloc (Nat.le_refl _) _).alloc (by simp) _).trans (hb1.mono (by simp; omega))
  clear hb1 HCE
  go_wp2_with fail
  refine (F.out _).mono ?_
  rintro e w2 ⟨v1, rfl, hO1, hb2⟩
  obtain ⟨p1, c1, rfl, I1⟩ := owns_any hO1
  have HI1 := Lib.hid I1
  have b2 := b1.trans (hb2.mono (by omega))
  have C12 : Hid (∀ j, w2.cell? ⟨w.heap.size, j, none⟩ = (#[.int .i64 a0, .int .i64 a1, .int .i64 a2] : Array Value)[j]?) := fun j => (hb2.cell (p := ⟨w.heap.size, j, none⟩) (by show w.heap.size < _; omega)).trans (C1.out j)
  have C22 : Hid (∀ j, w2.cell? ⟨w.heap.size + 1, j, none⟩ = (#[.int .i64 q0, .int .i64 q1, .int .i64 q2] : Array Value)[j]?) := fun j => (hb2.cell (p := ⟨w.heap.size + 1, j, none⟩) (by show w.heap.size + 1 < _; omega)).trans (C2.out j)
  have hz2 : w.heap.size + 1 < w2.heap.size := Nat.lt_of_lt_of_le hz1 hb2.size
  clear hO1 I1 hb2 C1 C2 F
  go_wp2_with fail
  refine (G.out _).mono ?_
  rintro e w3 ⟨v2, rfl, hO2, hb3⟩
  obtain ⟨p2, c2, rfl, I2⟩ := owns_any hO2
  have HI2 := Lib.hid I2
  have HI3 := Lib.hid (HI1.out.keep hb3 (Nat.le_refl _))
  have b3 := b2.trans (hb3.mono (by omega))
  have C13 : Hid (∀ j, w3.cell? ⟨w.heap.size, j, none⟩ = (#[.int .i64 a0, .int .i64 a1, .int .i64 a2] : Array Value)[j]?) := fun j => (hb3.cell (p := ⟨w.heap.size, j, none⟩) (by show w.heap.size < _; omega)).trans (C12.out j)
  have C23 : Hid (∀ j, w3.cell? ⟨w.heap.size + 1, j, none⟩ = (#[.int .i64 q0, .int .i64 q1, .int .i64 q2] : Array Value)[j]?) := fun j => (hb3.cell (p := ⟨w.heap.size + 1, j, none⟩) (by show w.heap.size + 1 < _; omega)).trans (C22.out j)
  clear hO2 I2 hb3 C12 C22 G HI1
  have m0 : w3.cell? ⟨w.heap.size, 0, none⟩ = some (.int .i64 a0) := C13.out 0
  have m1 : w3.cell? ⟨w.heap.size, 1, none⟩ = some (.int .i64 a1) := C13.out 1
  have m2 : w3.cell? ⟨w.heap.size, 2, none⟩ = some (.int .i64 a2) := C13.out 2
  have m3 : w3.cell? ⟨w.heap.size + 1, 0, none⟩ = some (.int .i64 q0) := C23.out 0
  have m4 : w3.cell? ⟨w.heap.size + 1, 1, none⟩ = some (.int .i64 q1) := C23.out 1
  have m5 : w3.cell? ⟨w.heap.size + 1, 2, none⟩ = some (.int .i64 q2) := C23.out 2
  clear C13 C23
  by_cases hok : e1 = 0 ∧ e2 = 0
  · obtain ⟨rfl, rfl⟩ := hok
    go_wp2
    go_loop [20] (fun I => ∃ k : Nat, I = .int .i64 k ∧ k ≤ 256) (fun I => 257 - (intOf I).toNat)
    case atStart => exact ⟨0, rfl, by decide⟩
    case round =>
      obtain ⟨k, rfl, hk⟩ := hrel
      by_cases hlt : k < l1.length
      · by_cases hlt2 : k < l2.length
        · obtain ⟨b, off, rfl, g1⟩ := HI3.out.at hlt
          obtain ⟨b', off', rfl, g2⟩ := HI2.out.at hlt2
          obtain ⟨t1, t2⟩ := SB.out l1 l2 rfl rfl k hlt hlt2
          generalize l1.getD k 0 = u at g1 t1 t2
          generalize l2.getD k 0 = v at g2 t1 t2
          by_cases hu : 0 < u
          · have d1 : decide (0 < u) = true := decide_eq_true hu
            have d2 : decide (v < 0) = false := by simp; omega
            have d3 : decide (u < 0) = false := by simp; omega
            clear t1 t2
            go_wp2
            go_round
            case rel => exact ⟨k + 1, by go_num, by omega⟩
            case measure => simp [intOf]; omega
          · have d1 : decide (0 < u) = false := decide_eq_false hu
            by_cases hu2 : u < 0
            · have d2 : decide (u < 0) = true := decide_eq_true hu2
              have d3 : decide (0 < v) = false := by simp; omega
              clear t1 t2
              go_wp2
              go_round
              case rel => exact ⟨k + 1, by go_num, by omega⟩
              case measure => simp [intOf]; omega
            · have d2 : decide (u < 0) = false := decide_eq_false hu2
              clear t1 t2
              go_wp2
              go_round
              case rel => exact ⟨k + 1, by go_num, by omega⟩
              case measure => simp [intOf]; omega
        · go_wp2_with fail
          refine (A.out _).mono ?_
          rintro e w4 ⟨rfl, hw⟩
          obtain rfl := hw
          go_wp2_with fail
          refine (B.out _).mono ?_
          rintro e w4 ⟨rfl, hw⟩
          obtain rfl := hw
          go_wp2
          go_ret
          exact ⟨rfl, b3⟩
      · go_wp2_with fail
        refine (A.out _).mono ?_
        rintro e w4 ⟨rfl, hw⟩
        obtain rfl := hw
        go_wp2_with fail
        refine (B.out _).mono ?_
        rintro e w4 ⟨rfl, hw⟩
        obtain rfl := hw
        go_wp2
        go_ret
        exact ⟨rfl, b3⟩
  · have hor : (e1 == 0) = false ∨ (e1 == 0) = true ∧ (e2 == 0) = false := by
      by_cases h : e1 = 0
      · right; simp [h]; intro h2; exact hok ⟨h, h2⟩
      · left; simpa using h
    clear hok
    rcases hor with h | ⟨h, h'⟩
    · go_wp2_with fail
      refine (A.out _).mono ?_
      rintro e w4 ⟨rfl, hw⟩
      obtain rfl := hw
      go_wp2_with fail
      refine (B.out _).mono ?_
      rintro e w4 ⟨rfl, hw⟩
      obtain rfl := hw
      go_wp2
      go_ret
      exact ⟨rfl, b3⟩
    · go_wp2_with fail
      refine (A.out _).mono ?_
      rintro e w4 ⟨rfl, hw⟩
      obtain rfl := hw
      go_wp2_with fail
      refine (B.out _).mono ?_
      rintro e w4 ⟨rfl, hw⟩
      obtain rfl := hw
      go_wp2
      go_ret
      exact ⟨rfl, b3⟩
set_option maxRecDepth 100000 in
set_option maxHeartbeats 8000000 in
theorem same16_eq_true (s one two few many a0 a1 a2 q0 q1 q2 : Int) (s0 : 0 ≤ s) (s1 : s < 4294967296) (X Y x2 y2 : Int) (hA : ∀ W, Calls Try.prog 11 #[.int .i64 a0, .int .i64 a1, .int .i64 a2] W fun e w' => e = .returned (.tuple #[.int .u32 X, .int .i64 x2]) ∧ W = w') (hB : ∀ W, Calls Try.prog 11 #[.int .i64 q0, .int .i64 q1, .int .i64 q2] W fun e w' => e = .returned (.tuple #[.int .u32 Y, .int .i64 y2]) ∧ W = w') (hx : (x2 == 0) = true) (hy : (y2 == 0) = true) (hq : (a0 == q0 && (a1 == q1 && a2 == q2)) = true) (hs : (X == Y) = true) (w : World) :
    Calls Try.prog 7 #[.int .u32 s, .int .i64 one, .int .i64 two, .int .i64 few, .int .i64 many, .agg #[.int .i64 a0, .int .i64 a1, .int .i64 a2], .agg #[.int .i64 q0, .int .i64 q1, .int .i64 q2]] w fun e w' => e = .returned (.bool true) ∧ Below w.heap.size w w' := by
  have hx' : (x2 != 0) = false := by simp [bne, hx]
  have hy' : (y2 != 0) = false := by simp [bne, hy]
  have A := Lib.hid hA
  have B := Lib.hid hB
  clear hA hB
  have F := Lib.hid (fun W => Band_any s one few s0 s1 W)
  have G := Lib.hid (fun W => Band_any s two many s0 s1 W)
  have SB := Lib.hid (sign_band s one two few many)
  have n1 := bandN_len s one few
  have n2 := bandN_len s two many
  generalize bandN s one few = x at *
  generalize bandN s two many = y at *
  obtain ⟨l1, e1⟩ := x
  obtain ⟨l2, e2⟩ := y
  unfold RRowE at F G
  dsimp only at F G n1 n2
  have heq := fun w => eq_three a0 a1 a2 q0 q1 q2 w
  rw [hq] at heq
  clear hq
  have ce : ∀ (w : World) (c0 c1 c2 : Value) (t : TypeId) (j : Nat), (w.alloc (.cells #[c0, c1, c2] t)).cell? ⟨w.heap.size, j, none⟩ = (#[c0, c1, c2] : Array Value)[j]? := fun w c0 c1 c2 t j => World.cell?_alloc_at _ _ _ _ rfl
  have HCE := Lib.hid ce
  clear ce
  go_enter Try.func7, Try.ntmps7
  go_wp2_with fail
  refine (alive16 _).mono ?_
  rintro e w1 ⟨rfl, hb1⟩
  have hz1 : w.heap.size + 1 < w1.heap.size := by have := hb1.size; simp at this; omega
  have C1 : Hid (∀ j, w1.cell? ⟨w.heap.size, j, none⟩ = (#[.int .i64 a0, .int .i64 a1, .int .i64 a2] : Array Value)[j]?) := by
    intro j
    rw [hb1.cell (p := ⟨w.heap.size, j, none⟩) (by simp; omega)]
    rw [World.cell?_of_block (Below.heap_alloc _ _ w.heap.size (by simp))]
    exact HCE.out w _ _ _ _ j
  have C2 : Hid (∀ j, w1.cell? ⟨w.heap.size + 1, j, none⟩ = (#[.int .i64 q0, .int .i64 q1, .int .i64 q2] : Array Value)[j]?) := by
    intro j
    rw [hb1.cell (p := ⟨w.heap.size + 1, j, none⟩) (by simp)]
    exact World.cell?_alloc_at _ _ _ _ (by simp)
  have b1 : Below w.heap.size w w1 := (((Below.refl _ _).alloc (Nat.le_refl _) _).alloc (by simp) _).trans (hb1.mono (by simp; omega))
  clear hb1 HCE
  go_wp2_with fail
  refine (F.out _).mono ?_
  rintro e w2 ⟨v1, rfl, hO1, hb2⟩
  obtain ⟨p1, c1, rfl, I1⟩ := owns_any hO1
  have HI1 := Lib.hid I1
  have b2 := b1.trans (hb2.mono (by omega))
  have C12 : Hid (∀ j, w2.cell? ⟨w.heap.size, j, none⟩ = (#[.int .i64 a0, .int .i64 a1, .int .i64 a2] : Array Value)[j]?) := fun j => (hb2.cell (p := ⟨w.heap.size, j, none⟩) (by show w.heap.size < _; omega)).trans (C1.out j)
  have C22 : Hid (∀ j, w2.cell? ⟨w.heap.size + 1, j, none⟩ = (#[.int .i64 q0, .int .i64 q1, .int .i64 q2] : Array Value)[j]?) := fun j => (hb2.cell (p := ⟨w.heap.size + 1, j, none⟩) (by show w.heap.size + 1 < _; omega)).trans (C2.out j)
  have hz2 : w.heap.size + 1 < w2.heap.size := Nat.lt_of_lt_of_le hz1 hb2.size
  clear hO1 I1 hb2 C1 C2 F
  go_wp2_with fail
  refine (G.out _).mono ?_
  rintro e w3 ⟨v2, rfl, hO2, hb3⟩
  obtain ⟨p2, c2, rfl, I2⟩ := owns_any hO2
  have HI2 := Lib.hid I2
  have HI3 := Lib.hid (HI1.out.keep hb3 (Nat.le_refl _))
  have b3 := b2.trans (hb3.mono (by omega))
  have C13 : Hid (∀ j, w3.cell? ⟨w.heap.size, j, none⟩ = (#[.int .i64 a0, .int .i64 a1, .int .i64 a2] : Array Value)[j]?) := fun j => (hb3.cell (p := ⟨w.heap.size, j, none⟩) (by show w.heap.size < _; omega)).trans (C12.out j)
  have C23 : Hid (∀ j, w3.cell? ⟨w.heap.size + 1, j, none⟩ = (#[.int .i64 q0, .int .i64 q1, .int .i64 q2] : Array Value)[j]?) := fun j => (hb3.cell (p := ⟨w.heap.size + 1, j, none⟩) (by show w.heap.size + 1 < _; omega)).trans (C22.out j)
  clear hO2 I2 hb3 C12 C22 G HI1
  have m0 : w3.cell? ⟨w.heap.size, 0, none⟩ = some (.int .i64 a0) := C13.out 0
  have m1 : w3.cell? ⟨w.heap.size, 1, none⟩ = some (.int .i64 a1) := C13.out 1
  have m2 : w3.cell? ⟨w.heap.size, 2, none⟩ = some (.int .i64 a2) := C13.out 2
  have m3 : w3.cell? ⟨w.heap.size + 1, 0, none⟩ = some (.int .i64 q0) := C23.out 0
  have m4 : w3.cell? ⟨w.heap.size + 1, 1, none⟩ = some (.int .i64 q1) := C23.out 1
  have m5 : w3.cell? ⟨w.heap.size + 1, 2, none⟩ = some (.int .i64 q2) := C23.out 2
  clear C13 C23
  by_cases hok : e1 = 0 ∧ e2 = 0
  · obtain ⟨rfl, rfl⟩ := hok
    go_wp2
    go_loop [20] (fun I => ∃ k : Nat, I = .int .i64 k ∧ k ≤ 256) (fun I => 257 - (intOf I).toNat)
    case atStart => exact ⟨0, rfl, by decide⟩
    case round =>
      obtain ⟨k, rfl, hk⟩ := hrel
      by_cases hlt : k < l1.length
      · by_cases hlt2 : k < l2.length
        · obtain ⟨b, off, rfl, g1⟩ := HI3.out.at hlt
          obtain ⟨b', off', rfl, g2⟩ := HI2.out.at hlt2
          obtain ⟨t1, t2⟩ := SB.out l1 l2 rfl rfl k hlt hlt2
          generalize l1.getD k 0 = u at g1 t1 t2
          generalize l2.getD k 0 = v at g2 t1 t2
          by_cases hu : 0 < u
          · have d1 : decide (0 < u) = true := decide_eq_true hu
            have d2 : decide (v < 0) = false := by simp; omega
            have d3 : decide (u < 0) = false := by simp; omega
            clear t1 t2
            go_wp2
            go_round
            case rel => exact ⟨k + 1, by go_num, by omega⟩
            case measure => simp [intOf]; omega
          · have d1 : decide (0 < u) = false := decide_eq_false hu
            by_cases hu2 : u < 0
            · have d2 : decide (u < 0) = true := decide_eq_true hu2
              have d3 : decide (0 < v) = false := by simp; omega
              clear t1 t2
              go_wp2
              go_round
              case rel => exact ⟨k + 1, by go_num, by omega⟩
              case measure => simp [intOf]; omega
            · have d2 : decide (u < 0) = false := decide_eq_false hu2
              clear t1 t2
              go_wp2
              go_round
              case rel => exact ⟨k + 1, by go_num, by omega⟩
              case measure => simp [intOf]; omega
        · go_wp2_with fail
          refine (A.out _).mono ?_
          rintro e w4 ⟨rfl, hw⟩
          obtain rfl := hw
          go_wp2_with fail
          refine (B.out _).mono ?_
          rintro e w4 ⟨rfl, hw⟩
          obtain rfl := hw
          go_wp2
          go_ret
          exact ⟨rfl, b3⟩
      · go_wp2_with fail
        refine (A.out _).mono ?_
        rintro e w4 ⟨rfl, hw⟩
        obtain rfl := hw
        go_wp2_with fail
        refine (B.out _).mono ?_
        rintro e w4 ⟨rfl, hw⟩
        obtain rfl := hw
        go_wp2
        go_ret
        exact ⟨rfl, b3⟩
  · have hor : (e1 == 0) = false ∨ (e1 == 0) = true ∧ (e2 == 0) = false := by
      by_cases h : e1 = 0
      · right; simp [h]; intro h2; exact hok ⟨h, h2⟩
      · left; simpa using h
    clear hok
    rcases hor with h | ⟨h, h'⟩
    · go_wp2_with fail
      refine (A.out _).mono ?_
      rintro e w4 ⟨rfl, hw⟩
      obtain rfl := hw
      go_wp2_with fail
      refine (B.out _).mono ?_
      rintro e w4 ⟨rfl, hw⟩
      obtain rfl := hw
      go_wp2
      go_ret
      exact ⟨rfl, b3⟩
    · go_wp2_with fail
      refine (A.out _).mono ?_
      rintro e w4 ⟨rfl, hw⟩
      obtain rfl := hw
      go_wp2_with fail
      refine (B.out _).mono ?_
      rintro e w4 ⟨rfl, hw⟩
      obtain rfl := hw
      go_wp2
      go_ret
      exact ⟨rfl, b3⟩
set_option maxRecDepth 100000 in
set_option maxHeartbeats 8000000 in
theorem same16_eq_false (s one two few many a0 a1 a2 q0 q1 q2 : Int) (s0 : 0 ≤ s) (s1 : s < 4294967296) (X Y x2 y2 : Int) (hA : ∀ W, Calls Try.prog 11 #[.int .i64 a0, .int .i64 a1, .int .i64 a2] W fun e w' => e = .returned (.tuple #[.int .u32 X, .int .i64 x2]) ∧ W = w') (hB : ∀ W, Calls Try.prog 11 #[.int .i64 q0, .int .i64 q1, .int .i64 q2] W fun e w' => e = .returned (.tuple #[.int .u32 Y, .int .i64 y2]) ∧ W = w') (hx : (x2 == 0) = true) (hy : (y2 == 0) = true) (hq : (a0 == q0 && (a1 == q1 && a2 == q2)) = false) (hs : (X == Y) = false) (w : World) :
    Calls Try.prog 7 #[.int .u32 s, .int .i64 one, .int .i64 two, .int .i64 few, .int .i64 many, .agg #[.int .i64 a0, .int .i64 a1, .int .i64 a2], .agg #[.int .i64 q0, .int .i64 q1, .int .i64 q2]] w fun e w' => e = .returned (.bool true) ∧ Below w.heap.size w w' := by
  have hx' : (x2 != 0) = false := by simp [bne, hx]
  have hy' : (y2 != 0) = false := by simp [bne, hy]
  have A := Lib.hid hA
  have B := Lib.hid hB
  clear hA hB
  have F := Lib.hid (fun W => Band_any s one few s0 s1 W)
  have G := Lib.hid (fun W => Band_any s two many s0 s1 W)
  have SB := Lib.hid (sign_band s one two few many)
  have n1 := bandN_len s one few
  have n2 := bandN_len s two many
  generalize bandN s one few = x at *
  generalize bandN s two many = y at *
  obtain ⟨l1, e1⟩ := x
  obtain ⟨l2, e2⟩ := y
  unfold RRowE at F G
  dsimp only at F G n1 n2
  have heq := fun w => eq_three a0 a1 a2 q0 q1 q2 w
  rw [hq] at heq
  clear hq
  have ce : ∀ (w : World) (c0 c1 c2 : Value) (t : TypeId) (j : Nat), (w.alloc (.cells #[c0, c1, c2] t)).cell? ⟨w.heap.size, j, none⟩ = (#[c0, c1, c2] : Array Value)[j]? := fun w c0 c1 c2 t j => World.cell?_alloc_at _ _ _ _ rfl
  have HCE := Lib.hid ce
  clear ce
  go_enter Try.func7, Try.ntmps7
  go_wp2_with fail
  refine (alive16 _).mono ?_
  rintro e w1 ⟨rfl, hb1⟩
  have hz1 : w.heap.size + 1 < w1.heap.size := by have := hb1.size; simp at this; omega
  have C1 : Hid (∀ j, w1.cell? ⟨w.heap.size, j, none⟩ = (#[.int .i64 a0, .int .i64 a1, .int .i64 a2] : Array Value)[j]?) := by
    intro j
    rw [hb1.cell (p := ⟨w.heap.size, j, none⟩) (by simp; omega)]
    rw [World.cell?_of_block (Below.heap_alloc _ _ w.heap.size (by simp))]
    exact HCE.out w _ _ _ _ j
  have C2 : Hid (∀ j, w1.cell? ⟨w.heap.size + 1, j, none⟩ = (#[.int .i64 q0, .int .i64 q1, .int .i64 q2] : Array Value)[j]?) := by
    intro j
    rw [hb1.cell (p := ⟨w.heap.size + 1, j, none⟩) (by simp)]
    exact World.cell?_alloc_at _ _ _ _ (by simp)
  have b1 : Below w.heap.size w w1 := (((Below.refl _ _).alloc (Nat.le_refl _) _).alloc (by simp) _).trans (hb1.mono (by simp; omega))
  clear hb1 HCE
  go_wp2_with fail
  refine (F.out _).mono ?_
  rintro e w2 ⟨v1, rfl, hO1, hb2⟩
  obtain ⟨p1, c1, rfl, I1⟩ := owns_any hO1
  have HI1 := Lib.hid I1
  have b2 := b1.trans (hb2.mono (by omega))
  have C12 : Hid (∀ j, w2.cell? ⟨w.heap.size, j, none⟩ = (#[.int .i64 a0, .int .i64 a1, .int .i64 a2] : Array Value)[j]?) := fun j => (hb2.cell (p := ⟨w.heap.size, j, none⟩) (by show w.heap.size < _; omega)).trans (C1.out j)
  have C22 : Hid (∀ j, w2.cell? ⟨w.heap.size + 1, j, none⟩ = (#[.int .i64 q0, .int .i64 q1, .int .i64 q2] : Array Value)[j]?) := fun j => (hb2.cell (p := ⟨w.heap.size + 1, j, none⟩) (by show w.heap.size + 1 < _; omega)).trans (C2.out j)
  have hz2 : w.heap.size + 1 < w2.heap.size := Nat.lt_of_lt_of_le hz1 hb2.size
  clear hO1 I1 hb2 C1 C2 F
  go_wp2_with fail
  refine (G.out _).mono ?_
  rintro e w3 ⟨v2, rfl, hO2, hb3⟩
  obtain ⟨p2, c2, rfl, I2⟩ := owns_any hO2
  have HI2 := Lib.hid I2
  have HI3 := Lib.hid (HI1.out.keep hb3 (Nat.le_refl _))
  have b3 := b2.trans (hb3.mono (by omega))
  have C13 : Hid (∀ j, w3.cell? ⟨w.heap.size, j, none⟩ = (#[.int .i64 a0, .int .i64 a1, .int .i64 a2] : Array Value)[j]?) := fun j => (hb3.cell (p := ⟨w.heap.size, j, none⟩) (by show w.heap.size < _; omega)).trans (C12.out j)
  have C23 : Hid (∀ j, w3.cell? ⟨w.heap.size + 1, j, none⟩ = (#[.int .i64 q0, .int .i64 q1, .int .i64 q2] : Array Value)[j]?) := fun j => (hb3.cell (p := ⟨w.heap.size + 1, j, none⟩) (by show w.heap.size + 1 < _; omega)).trans (C22.out j)
  clear hO2 I2 hb3 C12 C22 G HI1
  have m0 : w3.cell? ⟨w.heap.size, 0, none⟩ = some (.int .i64 a0) := C13.out 0
  have m1 : w3.cell? ⟨w.heap.size, 1, none⟩ = some (.int .i64 a1) := C13.out 1
  have m2 : w3.cell? ⟨w.heap.size, 2, none⟩ = some (.int .i64 a2) := C13.out 2
  have m3 : w3.cell? ⟨w.heap.size + 1, 0, none⟩ = some (.int .i64 q0) := C23.out 0
  have m4 : w3.cell? ⟨w.heap.size + 1, 1, none⟩ = some (.int .i64 q1) := C23.out 1
  have m5 : w3.cell? ⟨w.heap.size + 1, 2, none⟩ = some (.int .i64 q2) := C23.out 2
  clear C13 C23
  by_cases hok : e1 = 0 ∧ e2 = 0
  · obtain ⟨rfl, rfl⟩ := hok
    go_wp2
    go_loop [20] (fun I => ∃ k : Nat, I = .int .i64 k ∧ k ≤ 256) (fun I => 257 - (intOf I).toNat)
    case atStart => exact ⟨0, rfl, by decide⟩
    case round =>
      obtain ⟨k, rfl, hk⟩ := hrel
      by_cases hlt : k < l1.length
      · by_cases hlt2 : k < l2.length
        · obtain ⟨b, off, rfl, g1⟩ := HI3.out.at hlt
          obtain ⟨b', off', rfl, g2⟩ := HI2.out.at hlt2
          obtain ⟨t1, t2⟩ := SB.out l1 l2 rfl rfl k hlt hlt2
          generalize l1.getD k 0 = u at g1 t1 t2
          generalize l2.getD k 0 = v at g2 t1 t2
          by_cases hu : 0 < u
          · have d1 : decide (0 < u) = true := decide_eq_true hu
            have d2 : decide (v < 0) = false := by simp; omega
            have d3 : decide (u < 0) = false := by simp; omega
            clear t1 t2
            go_wp2
            go_round
            case rel => exact ⟨k + 1, by go_num, by omega⟩
            case measure => simp [intOf]; omega
          · have d1 : decide (0 < u) = false := decide_eq_false hu
            by_cases hu2 : u < 0
            · have d2 : decide (u < 0) = true := decide_eq_true hu2
              have d3 : decide (0 < v) = false := by simp; omega
              clear t1 t2
              go_wp2
              go_round
              case rel => exact ⟨k + 1, by go_num, by omega⟩
              case measure => simp [intOf]; omega
            · have d2 : decide (u < 0) = false := decide_eq_false hu2
              clear t1 t2
              go_wp2
              go_round
              case rel => exact ⟨k + 1, by go_num, by omega⟩
              case measure => simp [intOf]; omega
        · go_wp2_with fail
          refine (A.out _).mono ?_
          rintro e w4 ⟨rfl, hw⟩
          obtain rfl := hw
          go_wp2_with fail
          refine (B.out _).mono ?_
          rintro e w4 ⟨rfl, hw⟩
          obtain rfl := hw
          go_wp2
          go_ret
          exact ⟨rfl, b3⟩
      · go_wp2_with fail
        refine (A.out _).mono ?_
        rintro e w4 ⟨rfl, hw⟩
        obtain rfl := hw
        go_wp2_with fail
        refine (B.out _).mono ?_
        rintro e w4 ⟨rfl, hw⟩
        obtain rfl := hw
        go_wp2
        go_ret
        exact ⟨rfl, b3⟩
  · have hor : (e1 == 0) = false ∨ (e1 == 0) = true ∧ (e2 == 0) = false := by
      by_cases h : e1 = 0
      · right; simp [h]; intro h2; exact hok ⟨h, h2⟩
      · left; simpa using h
    clear hok
    rcases hor with h | ⟨h, h'⟩
    · go_wp2_with fail
      refine (A.out _).mono ?_
      rintro e w4 ⟨rfl, hw⟩
      obtain rfl := hw
      go_wp2_with fail
      refine (B.out _).mono ?_
      rintro e w4 ⟨rfl, hw⟩
      obtain rfl := hw
      go_wp2
      go_ret
      exact ⟨rfl, b3⟩
    · go_wp2_with fail
      refine (A.out _).mono ?_
      rintro e w4 ⟨rfl, hw⟩
      obtain rfl := hw
      go_wp2_with fail
      refine (B.out _).mono ?_
      rintro e w4 ⟨rfl, hw⟩
      obtain rfl := hw
      go_wp2
      go_ret
      exact ⟨rfl, b3⟩

theorem same16_any (s one two few many a0 a1 a2 q0 q1 q2 : Int) (s0 : 0 ≤ s) (s1 : s < 4294967296) (w : World) :
    Calls Try.prog 7 #[.int .u32 s, .int .i64 one, .int .i64 two, .int .i64 few, .int .i64 many, .agg #[.int .i64 a0, .int .i64 a1, .int .i64 a2], .agg #[.int .i64 q0, .int .i64 q1, .int .i64 q2]] w fun e w' => e = .returned (.bool true) ∧ Below w.heap.size w w' := by
  have A : ∀ W, _ := fun W => seed_any a0 a1 a2 W
  have B : ∀ W, _ := fun W => seed_any q0 q1 q2 W
  have SS := seed_same a0 a1 a2 q0 q1 q2
  unfold RSeed at A B
  by_cases hA : BadS a0 a1 a2
  · rw [seedV, if_pos hA] at A
    exact same16_bad1 s one two few many a0 a1 a2 q0 q1 q2 s0 s1 0 _ 2 _ A B rfl w
  · by_cases hB : BadS q0 q1 q2
    · rw [seedV, if_neg hA] at A
      rw [seedV, if_pos hB] at B
      exact same16_bad2 s one two few many a0 a1 a2 q0 q1 q2 s0 s1 _ 0 0 2 A B rfl rfl w
    · rw [seedV, if_neg hA] at A
      rw [seedV, if_neg hB] at B
      have hs := SS hA hB
      cases hq : (a0 == q0 && (a1 == q1 && a2 == q2))
      · rw [hq] at hs
        exact same16_eq_false s one two few many a0 a1 a2 q0 q1 q2 s0 s1 _ _ 0 0 A B rfl rfl hq hs w
      · rw [hq] at hs
        exact same16_eq_true s one two few many a0 a1 a2 q0 q1 q2 s0 s1 _ _ 0 0 A B rfl rfl hq hs w
end Go.Proofs.Ytpbjifohgfpeoaa
