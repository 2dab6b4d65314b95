/- quant.ready's answer, in plain numbers; and what follows, if it is none. -/
import Derived.Test.YtppfbfiigfjncaaQuantPl2
import Derived.Test.YtppfbfiigfjncaaRowIn
set_option linter.unusedVariables false
namespace Go.Proofs.Ytppfbfiigfjncaa

def shortB (m : Int) (r : RV) : Bool := !decide ((r.l.length : Int) = m)
def farB (m n : Int) : Bool := decide (n < -m) || decide (m < n)
def badK (k s : Int) : Bool := decide (k < 0) || (decide (13 < k) || (sentB k && (decide (s < 0) || decide (255 < s))))
def badR (b s : List Int) : Bool := (List.range b.length).any (fun j => badK (b.getD j 0) (s.getD j 0))
def badG (Bk St : List RV) : Bool := (List.range Bk.length).any (fun g => badR (Bk.getD g default).l (St.getD g default).l)
def manyB (max : Int) (G : List Int) (Bk St : List RV) : Bool := !decide (Bk.length = G.length) || (!decide (St.length = G.length) || (Bk.any (shortB max) || St.any (shortB max)))
def readyQ (most rate seq shape max : Int) (G : List Int) (Bk St : List RV) (x : List Int) : Int :=
  if infoE rate seq shape max G ≠ 0 then infoE rate seq shape max G
  else if manyB max G Bk St = true then 4
  else if badG Bk St = true then 2
  else if x.length ≠ 256 then 4
  else if x.any (farB most) = true then 2 else 0
/-- What follows, if all may be. -/
structure QGood (most rate seq shape max : Int) (G : List Int) (Bk St : List RV) (x : List Int) : Prop where
  info : infoE rate seq shape max G = 0
  r0 : 0 ≤ rate
  r1 : rate ≤ 11
  may : mayB rate seq shape max G = true
  m0 : 0 ≤ max
  m1 : max.toNat < (bandL rate (seq == 2)).length
  bl : Bk.length = G.length
  sl : St.length = G.length
  br : ∀ g, g < G.length → ((Bk.getD g default).l.length : Int) = max
  sr : ∀ g, g < G.length → ((St.getD g default).l.length : Int) = max
  ok : ∀ (g j : Nat), g < G.length → (j : Int) < max → badK ((Bk.getD g default).l.getD j 0) ((St.getD g default).l.getD j 0) = false
  xl : x.length = 256
  xb : ∀ j, -most ≤ x.getD j 0 ∧ x.getD j 0 ≤ most
theorem mayI {rate seq shape max : Int} {G : List Int} (h : infoE rate seq shape max G = 0) : 0 ≤ rate ∧ rate ≤ 11 ∧ mayB rate seq shape max G = true := by
  unfold infoE at h
  split at h
  · simp at h
  · split at h
    · rename_i h1 h2
      exact ⟨by omega, by omega, h2⟩
    · simp at h
theorem any_row {R : List RV} {m : Int} (h : R.any (shortB m) = false) {g : Nat} (hg : g < R.length) : ((R.getD g default).l.length : Int) = m := by
  rw [List.any_eq_false] at h
  have := h (R.getD g default) (by rw [List.getD_eq_getElem?_getD, List.getElem?_eq_getElem hg]; exact List.getElem_mem hg)
  unfold shortB at this
  simpa using this
theorem any_row' {R : List RV} {m : Int} (h : ∀ g, g < R.length → ((R.getD g default).l.length : Int) = m) : R.any (shortB m) = false := by
  rw [List.any_eq_false]
  intro r hr
  obtain ⟨i, hi, rfl⟩ := List.getElem_of_mem hr
  have := h i hi
  rw [List.getD_eq_getElem?_getD, List.getElem?_eq_getElem hi] at this
  unfold shortB
  simpa using this
theorem bad_none {Bk St : List RV} (h : badG Bk St = false) {g j : Nat} (hg : g < Bk.length) (hj : j < (Bk.getD g default).l.length) : badK ((Bk.getD g default).l.getD j 0) ((St.getD g default).l.getD j 0) = false := by
  unfold badG at h
  rw [List.any_eq_false] at h
  have h1 := h g (List.mem_range.2 hg)
  unfold badR at h1
  rw [Bool.not_eq_true, List.any_eq_false] at h1
  simpa using h1 j (List.mem_range.2 hj)
theorem bad_none' {Bk St : List RV} (h : ∀ g j, g < Bk.length → j < (Bk.getD g default).l.length → badK ((Bk.getD g default).l.getD j 0) ((St.getD g default).l.getD j 0) = false) : badG Bk St = false := by
  unfold badG
  rw [List.any_eq_false]
  intro g hg
  unfold badR
  rw [Bool.not_eq_true, List.any_eq_false]
  intro j hj
  rw [h g j (List.mem_range.1 hg) (List.mem_range.1 hj)]; simp
theorem far_none {x : List Int} {m : Int} (h0 : 0 ≤ m) (h : x.any (farB m) = false) (j : Nat) : -m ≤ x.getD j 0 ∧ x.getD j 0 ≤ m := by
  by_cases hj : j < x.length
  · rw [List.any_eq_false] at h
    have := h (x.getD j 0) (by rw [List.getD_eq_getElem?_getD, List.getElem?_eq_getElem hj]; exact List.getElem_mem hj)
    unfold farB at this
    simp at this
    rw [List.getD_eq_getElem?_getD]
    omega
  · rw [List.getD_eq_getElem?_getD, List.getElem?_eq_none (by omega)]
    simp only [Option.getD_none]
    omega
theorem far_none' {x : List Int} {m : Int} (h : ∀ j, j < x.length → -m ≤ x.getD j 0 ∧ x.getD j 0 ≤ m) : x.any (farB m) = false := by
  rw [List.any_eq_false]
  intro v hv
  obtain ⟨i, hi, rfl⟩ := List.getElem_of_mem hv
  have := h i hi
  rw [List.getD_eq_getElem?_getD, List.getElem?_eq_getElem hi] at this
  simp only [Option.getD_some] at this
  unfold farB
  simp
  omega
theorem qgood {most rate seq shape max : Int} {G : List Int} {Bk St : List RV} {x : List Int} (hm : 0 ≤ most) (h : readyQ most rate seq shape max G Bk St x = 0) : QGood most rate seq shape max G Bk St x := by
  unfold readyQ at h
  by_cases h1 : infoE rate seq shape max G = 0
  · rw [if_neg (by simp [h1])] at h
    cases h2 : manyB max G Bk St with
    | true => rw [if_pos h2] at h; simp at h
    | false =>
      rw [if_neg (by simp [h2])] at h
      cases h3 : badG Bk St with
      | true => rw [if_pos h3] at h; simp at h
      | false =>
        rw [if_neg (by simp [h3])] at h
        by_cases h4 : x.length = 256
        · rw [if_neg (by simp [h4])] at h
          cases h5 : x.any (farB most) with
          | true => rw [if_pos h5] at h; simp at h
          | false =>
            obtain ⟨r0, r1, hmay⟩ := mayI h1
            have hmay' := hmay
            unfold mayB at hmay'
            simp at hmay'
            obtain ⟨_, _, m0, m1, _⟩ := hmay'
            obtain ⟨k1, _⟩ := band_len rate (seq == 2) r0 r1
            unfold manyB at h2
            simp only [Bool.or_eq_false_iff, Bool.not_eq_false', decide_eq_true_eq] at h2
            obtain ⟨e1, e2, e3, e4⟩ := h2
            have hbr : ∀ g, g < G.length → ((Bk.getD g default).l.length : Int) = max := fun g hg => any_row e3 (by omega)
            exact ⟨h1, r0, r1, hmay, m0, by omega, e1, e2, hbr, fun g hg => any_row e4 (by omega), fun g j hg hj => bad_none h3 (by omega) (by have := hbr g hg; omega), h4, far_none hm h5⟩
        · rw [if_pos h4] at h; simp at h
  · rw [if_pos h1] at h; exact absurd h h1
theorem readyQ_ok {most rate seq shape max : Int} {G : List Int} {Bk St : List RV} {x : List Int} (h : QGood most rate seq shape max G Bk St x) : readyQ most rate seq shape max G Bk St x = 0 := by
  unfold readyQ
  rw [if_neg (by simp [h.info]), if_neg, if_neg, if_neg (by simp [h.xl]), if_neg]
  · rw [far_none' (fun j _ => h.xb j)]; simp
  · rw [bad_none' (fun g j hg hj => h.ok g j (by have := h.bl; omega) (by have := h.br g (by have := h.bl; omega); omega))]; simp
  · unfold manyB
    rw [any_row' (fun g hg => h.br g (by have := h.bl; omega)), any_row' (fun g hg => h.sr g (by have := h.sl; omega))]
    simp [h.bl, h.sl]
theorem offsQ (rate : Int) (seq : Int) (h0 : 0 ≤ rate) (h1 : rate ≤ 11) {mx : Nat} (hm : mx < (bandL rate (seq == 2)).length) : OffsQ (bandL rate (seq == 2)) mx (winN seq) := by
  obtain ⟨k1, k2, k3, k4, _⟩ := band_len rate (seq == 2) h0 h1
  have hpos : ∀ j, j < (bandL rate (seq == 2)).length → 0 ≤ (bandL rate (seq == 2)).getD j 0 := fun j hj => by
    have a := band_le rate (seq == 2) h0 h1 0 j (Nat.zero_le _) hj
    omega
  have htop : ∀ j, j < (bandL rate (seq == 2)).length → (bandL rate (seq == 2)).getD j 0 ≤ if seq == 2 then 32 else 256 := fun j hj => by
    have b := band_le rate (seq == 2) h0 h1 j ((bandL rate (seq == 2)).length - 1) (by omega) (by omega)
    rw [k4] at b
    exact b
  unfold winN
  refine ⟨hm, Nat.le_trans k2 (by split <;> omega), fun i j hi hj => band_le rate (seq == 2) h0 h1 i j hi hj, hpos, ?_⟩
  by_cases hs : seq = 2
  · left; rw [if_pos hs]; exact ⟨rfl, fun j hj => by have := htop j hj; simpa [hs] using this⟩
  · right; rw [if_neg hs]; exact ⟨rfl, fun j hj => by have := htop j hj; simpa [hs] using this⟩
/-- What the calls answer. -/
def quantR (F : Int → Int → Int) (most rate seq shape max : Int) (G : List Int) (Bk St : List RV) (x : List Int) : List Int × Int :=
  (if readyQ most rate seq shape max G Bk St x = 0 then runQ F (rowsOf Bk) (rowsOf St) x (allPl (bandL rate (seq == 2)) G max.toNat (winN seq)) (List.replicate 256 0) else [], readyQ most rate seq shape max G Bk St x)
end Go.Proofs.Ytppfbfiigfjncaa
