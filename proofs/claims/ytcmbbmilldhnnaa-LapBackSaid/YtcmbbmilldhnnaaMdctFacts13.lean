/- The transform in plain numbers (frames): folds, sums, turns, and the way back. -/
import Derived.Test.YtcmbbmilldhnnaaG3
import Derived.Test.YtcmbbmilldhnnaaTrigProd
import Derived.Test.YtcmbbmilldhnnaaSumsPlain
set_option linter.unusedVariables false
namespace Go.Proofs.Ytcmbbmilldhnnaa

def rM (M : Nat) : Nat := if M = 32 then 5 else 8
theorem rM_pow (M : Nat) (h : M = 256 ∨ M = 32) : 2 ^ rM M = M ∧ (rM M = 8 ∨ rM M = 5) := by rcases h with rfl | rfl <;> simp [rM]
theorem arcI (M : Nat) (h : M = 256 ∨ M = 32) (n k : Nat) : fiA M n + fiB M n * k = arcOf (rM M) n * (2 * (k : Int) + 1) := by
  rcases h with rfl | rfl
  · simp only [fiA, fiB, arcOf, rM, scM]; simp; grind
  · simp only [fiA, fiB, arcOf, rM, scM]; simp; grind
theorem arcF (M : Nat) (h : M = 256 ∨ M = 32) (k n : Nat) : ffA M k + ffB M k * n = arcOf (rM M) n * (2 * (k : Int) + 1) := by
  rcases h with rfl | rfl
  · simp only [ffA, ffB, arcOf, rM, scM]; simp; grind
  · simp only [ffA, ffB, arcOf, rM, scM]; simp; grind
theorem sumI (M : Nat) (h : M = 256 ∨ M = 32) (x : List Int) (n m : Nat) : sumX x (fiA M n) (fiB M n) m = sumF (fun k => x.getD k 0 * cosL (arcOf (rM M) n * (2 * (k : Int) + 1))) m :=
  sumF_congr m (fun k _ => by rw [arcI M h])
theorem sumFw (M : Nat) (h : M = 256 ∨ M = 32) (z : List Int) (k m : Nat) : sumX z (ffA M k) (ffB M k) m = sumF (fun n => z.getD n 0 * cosL (arcOf (rM M) n * (2 * (k : Int) + 1))) m :=
  sumF_congr m (fun n _ => by rw [arcF M h])
theorem arc_high (M : Nat) (h : M = 256 ∨ M = 32) (n k : Nat) (hn : n < M) : cosL (arcOf (rM M) (M + n) * (2 * (k : Int) + 1)) = cosL (arcOf (rM M) (2 * M - 1 - n) * (2 * (k : Int) + 1)) := by
  have e : arcOf (rM M) (M + n) = 2048 - arcOf (rM M) (2 * M - 1 - n) := by
    rcases h with rfl | rfl
    · simp only [arcOf, rM]; simp; omega
    · simp only [arcOf, rM]; simp; omega
  rw [← cos_even, e]
  generalize arcOf (rM M) (2 * M - 1 - n) = B
  have e2 : -((2048 - B) * (2 * (k : Int) + 1)) = B * (2 * (k : Int) + 1) + 2048 * (-(2 * (k : Int) + 1)) := by grind
  rw [e2]
  exact cos_period _ _
theorem arc_low (M : Nat) (h : M = 256 ∨ M = 32) (n k : Nat) (hn : n < M) : cosL (arcOf (rM M) (M - 1 - n) * (2 * (k : Int) + 1)) = -cosL (arcOf (rM M) n * (2 * (k : Int) + 1)) := by
  have e : arcOf (rM M) (M - 1 - n) = 1024 - arcOf (rM M) n := by
    rcases h with rfl | rfl
    · simp only [arcOf, rM]; simp; omega
    · simp only [arcOf, rM]; simp; omega
  rw [← cos_half, ← cos_even, e]
  generalize arcOf (rM M) n = B
  have e2 : -((1024 - B) * (2 * (k : Int) + 1)) = B * (2 * (k : Int) + 1) + 1024 + 2048 * (-((k : Int) + 1)) := by grind
  rw [e2]
  exact cos_period _ _
theorem fold_high (M : Nat) (h : M = 256 ∨ M = 32) (x : List Int) (n : Nat) (hn : n < M) : lineI M x (M + n) = lineI M x (2 * M - 1 - n) := by
  unfold lineI
  rw [sumI M h, sumI M h, sumF_congr x.length (fun k _ => by rw [arc_high M h n k hn])]
theorem fold_low (M : Nat) (h : M = 256 ∨ M = 32) (x : List Int) (n : Nat) (hn : n < M) : 0 ≤ lineI M x n + lineI M x (M - 1 - n) ∧ lineI M x n + lineI M x (M - 1 - n) ≤ 1 := by
  unfold lineI
  rw [sumI M h, sumI M h, sumF_congr (f := fun k => x.getD k 0 * cosL (arcOf (rM M) (M - 1 - n) * (2 * (k : Int) + 1))) (g := fun k => -(x.getD k 0 * cosL (arcOf (rM M) n * (2 * (k : Int) + 1)))) x.length (fun k _ => by rw [arc_low M h n k hn]; grind), sumF_neg]
  exact rnd_turn _ _
theorem sum_two (x a b : List Int) (A B : Int) (n : Nat) (h : ∀ k, k < n → x.getD k 0 = a.getD k 0 + b.getD k 0) : sumX x A B n = sumX a A B n + sumX b A B n := by
  unfold sumX
  rw [← sumF_add]
  exact sumF_congr n (fun k hk => by rw [h k hk]; grind)
theorem back_sums (M : Nat) (x a b : List Int) (hx : x.length = M) (ha : a.length = M) (hb : b.length = M) (h : ∀ k, k < M → x.getD k 0 = a.getD k 0 + b.getD k 0) (n : Nat) :
    -1 ≤ lineI M a n + lineI M b n - lineI M x n ∧ lineI M a n + lineI M b n - lineI M x n ≤ 1 := by
  unfold lineI
  rw [hx, ha, hb, sum_two x a b _ _ M h]
  exact rnd_add _ _ _
theorem sum_neg (z y : List Int) (A B : Int) (n : Nat) (h : ∀ k, k < n → y.getD k 0 = -z.getD k 0) : sumX y A B n = -sumX z A B n := by
  unfold sumX
  rw [← sumF_neg]
  exact sumF_congr n (fun k hk => by rw [h k hk]; grind)
theorem fwd_turn (M : Nat) (z y : List Int) (hz : z.length = 2 * M) (hy : y.length = 2 * M) (h : ∀ k, k < 2 * M → y.getD k 0 = -z.getD k 0) (k : Nat) : 0 ≤ lineF M z k + lineF M y k ∧ lineF M z k + lineF M y k ≤ 1 := by
  unfold lineF
  rw [hz, hy, sum_neg z y _ _ _ h]
  exact rnd_turn _ _
theorem sum_more (z y : List Int) (A B : Int) (at_ : Nat) (h1 : y.getD at_ 0 = z.getD at_ 0 + 1) (h2 : ∀ k, k ≠ at_ → y.getD k 0 = z.getD k 0) (n : Nat) : sumX y A B n = sumX z A B n + if at_ < n then cosL (A + B * at_) else 0 := by
  induction n with
  | zero => simp [sumX, sumF]
  | succ n ih =>
    rw [sumX_succ, sumX_succ, ih]
    by_cases e : n = at_
    · subst e
      rw [h1, if_neg (by omega), if_pos (by omega)]; grind
    · rw [h2 n e]
      by_cases e2 : at_ < n
      · rw [if_pos e2, if_pos (by omega)]; omega
      · rw [if_neg e2, if_neg (by omega)]; omega
theorem rnd_near (x d : Int) (h0 : -67108864 ≤ d) (h1 : d ≤ 67108864) : -1 ≤ rnd (x + d) 33 - rnd x 33 ∧ rnd (x + d) 33 - rnd x 33 ≤ 1 := by
  obtain ⟨a, b⟩ := rnd_spec (x + d) 33 (by decide)
  obtain ⟨e, f⟩ := rnd_spec x 33 (by decide)
  simp at a b e f
  omega
theorem fwd_more (M : Nat) (z y : List Int) (hz : z.length = 2 * M) (hy : y.length = 2 * M) (at_ : Nat) (h1 : y.getD at_ 0 = z.getD at_ 0 + 1) (h2 : ∀ k, k ≠ at_ → y.getD k 0 = z.getD k 0) (k : Nat) :
    -1 ≤ lineF M y k - lineF M z k ∧ lineF M y k - lineF M z k ≤ 1 := by
  unfold lineF
  rw [hz, hy, sum_more z y _ _ at_ h1 h2]
  split
  · obtain ⟨a, b⟩ := cos_range (ffA M k + ffB M k * at_)
    exact rnd_near _ _ a b
  · exact rnd_near _ 0 (by decide) (by decide)
theorem linesF_at (M : Nat) (z : List Int) (hz : z.length = 2 * M) (k : Nat) (hk : k < M) : (linesF z).getD k 0 = lineF M z k := by
  unfold linesF
  rw [hz, show 2 * M / 2 = M by omega]
  exact (by simp [List.getD_eq_getElem?_getD, hk] : ((List.range M).map (lineF M z)).getD k 0 = lineF M z k)
theorem linesF_len (M : Nat) (z : List Int) (hz : z.length = 2 * M) : (linesF z).length = M := by
  unfold linesF
  rw [List.length_map, List.length_range, hz]; omega
theorem linesI_at (M : Nat) (x : List Int) (hx : x.length = M) (n : Nat) (hn : n < 2 * M) : (linesI x).getD n 0 = lineI M x n := by
  unfold linesI
  rw [hx]
  exact (by simp [List.getD_eq_getElem?_getD, hn] : ((List.range (2 * M)).map (lineI M x)).getD n 0 = lineI M x n)
theorem linesI_lenM (M : Nat) (x : List Int) (hx : x.length = M) : (linesI x).length = 2 * M := by
  unfold linesI
  rw [List.length_map, List.length_range, hx]
/-- Samples forward, and back. -/
theorem back_512 (M : Nat) (h : M = 256 ∨ M = 32) (z : List Int) (hz : z.length = 2 * M) (hm : ∀ j, j < z.length → -8388608 ≤ z.getD j 0 ∧ z.getD j 0 ≤ 8388608) (n : Nat) (hn : n < 2 * M) :
    -320 ≤ lineI M (linesF z) n - foldT M (fun j => z.getD j 0) n ∧ lineI M (linesF z) n - foldT M (fun j => z.getD j 0) n ≤ 320 := by
  obtain ⟨hp, hr⟩ := rM_pow M h
  have key := cosCircle.back_near (rM M) hr (fun j => z.getD j 0) (fun k => lineF M z k) (fun m hm2 => hm m (by rw [hz, ← hp]; exact hm2)) (fun k hk => by
    have e := rnd_spec (sumX z (ffA M k) (ffB M k) z.length) 33 (by decide)
    rw [sumFw M h, hz] at e
    have e2 : lineF M z k = rnd (sumF (fun n => z.getD n 0 * cosL (arcOf (rM M) n * (2 * (k : Int) + 1))) (2 * M)) 33 := by unfold lineF; rw [sumFw M h, hz]
    rw [hp, e2]
    generalize sumF (fun n => z.getD n 0 * cosL (arcOf (rM M) n * (2 * (k : Int) + 1))) (2 * M) = S at e ⊢
    simp at e
    omega) n (by rw [hp]; exact hn)
  rw [hp] at key
  have e3 : lineI M (linesF z) n = rnd (sumF (fun k => lineF M z k * cosL (arcOf (rM M) n * (2 * (k : Int) + 1))) M) (if M = 32 then 23 else 26) := by
    unfold lineI
    rw [sumI M h, linesF_len M z hz, sumF_congr M (fun k hk => by rw [linesF_at M z hz k hk])]
  rw [e3]
  generalize sumF (fun k => lineF M z k * cosL (arcOf (rM M) n * (2 * (k : Int) + 1))) M = S at *
  generalize foldT M (fun j => z.getD j 0) n = T at *
  rcases h with rfl | rfl
  · obtain ⟨a, b⟩ := rnd_spec S 26 (by decide)
    simp [rM] at key a b ⊢
    omega
  · obtain ⟨a, b⟩ := rnd_spec S 23 (by decide)
    simp [rM] at key a b ⊢
    omega
end Go.Proofs.Ytcmbbmilldhnnaa
