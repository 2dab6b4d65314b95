/- The bands of every rate, by computation. -/
import Derived.Test.YteijlbblmdclaaaOff
namespace Go.Proofs.Yteijlbblmdclaaa

def risesAt (l : List Int) (i : Nat) : Bool :=
  decide (l.getD (i - 1) 0 < l.getD i 0) && decide (l.getD i 0 % 4 = 0) && decide (0 ≤ l.getD (i - 1) 0) && decide (l.getD i 0 ≤ 256) &&
    (decide (i < 2) || decide (l.length ≤ i + 1) || decide (l.getD (i - 1) 0 - l.getD (i - 2) 0 ≤ l.getD i 0 - l.getD (i - 1) 0 ∧ 0 ≤ l.getD (i - 2) 0 ∧ l.getD (i - 2) 0 ≤ 256))
def bandGood (r : Nat) (short : Bool) : Bool :=
  let l := bandL r short
  decide (2 ≤ l.length) && decide (l.length ≤ (if short then 16 else 41)) && decide (l.getD 0 0 = 0) && decide (l.getD (l.length - 1) 0 = if short then 32 else 256) && (List.range l.length).all fun i => i == 0 || risesAt l i
theorem band_good : ∀ r : Fin 12, ∀ short : Bool, bandGood r short = true := by decide +kernel

theorem band_len (rate : Int) (short : Bool) (h0 : 0 ≤ rate) (h1 : rate ≤ 11) : 2 ≤ (bandL rate short).length ∧ (bandL rate short).length ≤ (if short then 16 else 41) ∧ (bandL rate short).getD 0 0 = 0 ∧ (bandL rate short).getD ((bandL rate short).length - 1) 0 = (if short then 32 else 256) ∧ ∀ i, 1 ≤ i → i < (bandL rate short).length → risesAt (bandL rate short) i = true := by
  obtain ⟨r, rfl⟩ : ∃ r : Nat, rate = r := ⟨rate.toNat, by omega⟩
  have h := band_good ⟨r, by omega⟩ short
  simp only [bandGood, Bool.and_eq_true, decide_eq_true_eq, List.all_eq_true, List.mem_range, Bool.or_eq_true, beq_iff_eq] at h
  obtain ⟨⟨⟨⟨a, b⟩, c⟩, d⟩, e⟩ := h
  exact ⟨a, b, c, d, fun i hi hl => (e i hl).resolve_left (by omega)⟩

/-- A greater rate's bands are at least as many, and begin no later. -/
def ratesGood (a b : Nat) (short : Bool) : Bool :=
  decide ((bandL a short).length ≤ (bandL b short).length) && (List.range (bandL a short).length).all fun i => decide ((bandL b short).getD i 0 ≤ (bandL a short).getD i 0)
theorem rates_good : ∀ b : Fin 12, ∀ a : Fin 12, ∀ short : Bool, a ≤ b → ratesGood a b short = true := by decide +kernel
theorem band_rates (a b : Int) (short : Bool) (h0 : 0 ≤ a) (h : a ≤ b) (h1 : b ≤ 11) : (bandL a short).length ≤ (bandL b short).length ∧ ∀ i, i < (bandL a short).length → (bandL b short).getD i 0 ≤ (bandL a short).getD i 0 := by
  obtain ⟨r, rfl⟩ : ∃ r : Nat, a = r := ⟨a.toNat, by omega⟩
  obtain ⟨s, rfl⟩ : ∃ r : Nat, b = r := ⟨b.toNat, by omega⟩
  have h := rates_good ⟨s, by omega⟩ ⟨r, by omega⟩ short (by simp [Fin.le_def]; omega)
  simp only [ratesGood, Bool.and_eq_true, decide_eq_true_eq, List.all_eq_true, List.mem_range] at h
  exact h
end Go.Proofs.Yteijlbblmdclaaa
