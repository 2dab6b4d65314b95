/- tns.Forward, tns.Back: what each call does. -/
import Derived.Test.YteijlbblmdclaaaTnsAll
import Derived.Test.YteijlbblmdclaaaTnsReady
set_option linter.unusedVariables false
set_option linter.unusedSimpArgs false
namespace Go.Proofs.Yteijlbblmdclaaa
open Go.ChangeShapes Go.WideShapes Go.ChangeAt Go.RowKit

theorem offsOk (rate : Int) (short : Bool) (h0 : 0 ≤ rate) (h1 : rate ≤ 11) {mx : Nat} (hm : mx < (bandL rate short).length) : OffsOk (bandL rate short) mx (if short then 32 else 256) := by
  obtain ⟨k1, _, k3, k4, _⟩ := band_len rate short h0 h1
  refine ⟨hm, fun i j hi hj => band_le rate short h0 h1 i j hi hj, fun j hj => ?_⟩
  have a := band_le rate short h0 h1 0 j (Nat.zero_le _) hj
  have b := band_le rate short h0 h1 j ((bandL rate short).length - 1) (by omega) (by omega)
  rw [k3] at a
  rw [k4] at b
  generalize (bandL rate short).getD j 0 = v at *
  cases short <;> simp at b ⊢ <;> omega
/-- All of what came in: windows, filters, lines. -/
structure TnsIn (W : World) (G : List Int) (pg : Option Addr) (B : List BV) (q : Option Addr) (x : List Int) (px : Option Addr) : Prop where
  g : IsInts W pg G
  gl : G.length ≤ 100
  b : IsBank W q B
  nil : ∀ j, j < B.length → (B.getD j default).q = none → (B.getD j default).fs = [] ∧ (B.getD j default).c = 0
  lx : IsInts W px x
  xl : x.length ≤ 1000
  bl : B.length ≤ 100
theorem TnsIn.keep {W W' : World} {G : List Int} {pg : Option Addr} {B : List BV} {q : Option Addr} {x : List Int} {px : Option Addr} (h : TnsIn W G pg B q x px) (hb : Below W.heap.size W W') : TnsIn W' G pg B q x px :=
  ⟨h.g.keep hb, h.gl, h.b.keep hb, h.nil, h.lx.keep hb, h.xl, h.bl⟩
theorem firstE_mem : ∀ {L : List FV}, firstE L = 0 → ∀ f ∈ L, f.E = 0
  | [], _, f, hf => by cases hf
  | g :: L, h, f, hf => by
    unfold firstE at h
    by_cases hg : g.E = 0
    · rw [if_pos hg] at h
      rcases List.mem_cons.1 hf with rfl | hf
      · exact hg
      · exact firstE_mem h f hf
    · rw [if_neg hg] at h; exact absurd h hg
theorem readyE_zero {rate seq shape max : Int} {G : List Int} {B : List BV} {x : List Int} (h : readyE rate seq shape max G B x = 0) :
    infoE rate seq shape max G = 0 ∧ B.length = winN seq ∧ B.any (longB (mostN seq)) = false ∧ firstE (fsTo B B.length) = 0 ∧ x.length = 256 ∧ ∀ j, -268435455 ≤ x.getD j 0 ∧ x.getD j 0 ≤ 268435455 := by
  unfold readyE at h
  by_cases h1 : infoE rate seq shape max G = 0
  · rw [if_neg (by simp [h1])] at h
    by_cases h2 : B.length ≠ winN seq ∨ B.any (longB (mostN seq)) = true
    · rw [if_pos h2] at h; simp at h
    · rw [if_neg h2] at h
      by_cases h3 : firstE (fsTo B B.length) = 0
      · rw [if_neg (by simp [h3])] at h
        by_cases h4 : x.length = 256
        · rw [if_neg (by simp [h4])] at h
          by_cases h5 : minTo x x.length < -268435455 ∨ 268435455 < maxTo x x.length
          · rw [if_pos h5] at h; simp at h
          · have m1 := (minTo_le (-268435455) x x.length (by omega)).1 (by omega)
            have m2 := (le_maxTo 268435455 x x.length (by omega)).1 (by omega)
            refine ⟨h1, by simpa using fun e => h2 (.inl e), ?_, h3, h4, fun j => ?_⟩
            · cases hb : B.any (longB (mostN seq))
              · rfl
              · exact absurd (.inr hb) h2
            · by_cases hj : j < x.length
              · exact ⟨m1 j hj, m2 j hj⟩
              · rw [List.getD_eq_getElem?_getD, List.getElem?_eq_none (by omega)]; simp
        · rw [if_pos h4] at h; simp at h
      · rw [if_pos h3] at h; exact absurd h h3
  · rw [if_pos h1] at h; exact absurd h h1
theorem fsTo_mem {B : List BV} {j i : Nat} (hj : j < B.length) (hi : i < (B.getD j default).fs.length) : (B.getD j default).fs.getD i default ∈ fsTo B B.length := by
  unfold fsTo
  refine List.mem_flatMap.2 ⟨j, List.mem_range.2 hj, ?_⟩
  generalize (B.getD j default).fs = l at *
  rw [show l.getD i default = l[i] by simp [List.getD_eq_getElem?_getD, hi]]
  exact List.getElem_mem hi
def tnsR (sg rate seq shape max : Int) (G : List Int) (B : List BV) (x : List Int) : List Int × Int :=
  (if readyE rate seq shape max G B x = 0 then allL sg (bandL rate (seq == 2)) max.toNat B x else [], readyE rate seq shape max G B x)
/-- What follows, if all may be. -/
structure TnsGood (rate seq shape max : Int) (G : List Int) (B : List BV) (x : List Int) : Prop where
  r0 : 0 ≤ rate
  r1 : rate ≤ 11
  m0 : 0 ≤ max
  m1 : max.toNat < (bandL rate (seq == 2)).length
  bl : B.length = winN seq
  f3 : ∀ j, j < B.length → (B.getD j default).fs.length ≤ 3
  fE : ∀ j, j < B.length → ∀ i, i < (B.getD j default).fs.length → ((B.getD j default).fs.getD i default).E = 0
  xl : x.length = 256
  xb : ∀ j, -268435455 ≤ x.getD j 0 ∧ x.getD j 0 ≤ 268435455
theorem tns_good {rate seq shape max : Int} {G : List Int} {B : List BV} {x : List Int} (h : readyE rate seq shape max G B x = 0) : TnsGood rate seq shape max G B x := by
  obtain ⟨h1, h2, h3, h4, h5, h6⟩ := readyE_zero h
  obtain ⟨r0, r1, hm⟩ := infoE_zero h1
  unfold mayB at hm
  simp at hm
  obtain ⟨_, _, m0, m1, _⟩ := hm
  obtain ⟨k1, _⟩ := band_len rate (seq == 2) r0 r1
  refine ⟨r0, r1, m0, by omega, h2, fun j hj => any_three (by unfold mostN; split <;> omega) h3 hj, fun j hj i hi => firstE_mem h4 _ (fsTo_mem hj hi), h5, h6⟩
set_option maxRecDepth 100000 in
theorem tns_all_bad (sg rate seq shape max : Int) (G : List Int) (pg q px : Option Addr) (cg cB cx : Nat) (B : List BV) (x : List Int) (w : World) (H : TnsIn w G pg B q x px) (hE : readyE rate seq shape max G B x ≠ 0) :
    Calls Try.prog 25 #[.int .i64 rate, .agg (infC seq shape max pg G.length cg), .slice q B.length cB, .slice px x.length cx, .int .i64 sg] w (RAll ([], readyE rate seq shape max G B x) w) := by
  have hb0 : Below w.heap.size w (w.alloc (.cells (infC seq shape max pg G.length cg) 33)) := (Below.refl _ w).alloc (Nat.le_refl _) _
  have HR := Lib.hid (fun (W : World) (h : Below w.heap.size w W) => tns_ready rate seq shape max G pg q px cg cB cx B x W (H.keep h).g H.gl (H.keep h).b H.nil (H.keep h).lx H.xl (by have := H.bl; omega))
  unfold RE at HR
  generalize readyE rate seq shape max G B x = ec at *
  have he : (ec != 0) = true := by simpa using hE
  clear hE H
  unfold RAll
  go_enter Try.func25, Try.ntmps25
  go_wp2_with fail
  refine (HR.out _ hb0).mono ?_
  rintro e w1 ⟨rfl, hB1⟩
  have hb1 := hb0.trans (hB1.mono hb0.size)
  clear hB1 hb0 HR
  go_wp2
  go_ret2
  exact ⟨none, 0, w1.heap.size, w1.heap.size, rfl, ⟨rfl, Nat.le_refl _, fun h => absurd rfl h⟩, hb1.size, hb1⟩
theorem tns_all (sg : Int) (hsg : sg = 1 ∨ sg = -1) (rate seq shape max : Int) (G : List Int) (pg q px : Option Addr) (cg cB cx : Nat) (B : List BV) (x : List Int) (w : World) (H : TnsIn w G pg B q x px) :
    Calls Try.prog 25 #[.int .i64 rate, .agg (infC seq shape max pg G.length cg), .slice q B.length cB, .slice px x.length cx, .int .i64 sg] w (RAll (tnsR sg rate seq shape max G B x) w) := by
  unfold tnsR
  by_cases hE : readyE rate seq shape max G B x = 0
  · have hg := tns_good hE
    have hw8 : winN seq = 8 ∧ (seq == 2) = true ∨ winN seq = 1 ∧ (seq == 2) = false := by
      unfold winN
      by_cases hs : seq = 2
      · left; simp [hs]
      · right; simp [hs]
    have hol : (bandL rate (seq == 2)).length ≤ 41 := Nat.le_trans (band_len rate (seq == 2) hg.r0 hg.r1).2.1 (by split <;> omega)
    rw [if_pos hE, hE]
    refine tns_all_ok sg hsg rate seq shape max hg.r0 hg.r1 pg q px G.length cg cB cx (if (seq == 2) then 32 else 256) max.toNat B x w (Lib.hid (fun W hW => ?_)) H.b (by have := hg.bl; omega) H.lx hg.xl hg.xb (by have := hg.m0; omega) (offsOk rate (seq == 2) hg.r0 hg.r1 hg.m1) hol (fun j hj => ?_) (fun j hj => ⟨hg.f3 j hj, fun i hi => hg.fE j hj i hi⟩)
    · have := tns_ready rate seq shape max G pg q px cg cB cx B x W (H.keep hW).g H.gl (H.keep hW).b H.nil (H.keep hW).lx H.xl (by have := H.bl; omega)
      unfold RE at this
      rw [hE] at this
      exact this
    · have := hg.bl
      rcases hw8 with ⟨h1, h2⟩ | ⟨h1, h2⟩ <;> rw [h2] <;> simp <;> omega
  · rw [if_neg hE]
    exact tns_all_bad sg rate seq shape max G pg q px cg cB cx B x w H hE
set_option maxRecDepth 100000 in
theorem tns_forward (rate seq shape max : Int) (G : List Int) (pg q px : Option Addr) (cg cB cx : Nat) (B : List BV) (x : List Int) (w : World) (H : TnsIn w G pg B q x px) :
    Calls Try.prog 14 #[.int .i64 rate, .agg (infC seq shape max pg G.length cg), .slice q B.length cB, .slice px x.length cx] w (RAll (tnsR 1 rate seq shape max G B x) w) := by
  have HA := Lib.hid (fun (W : World) (h : Below w.heap.size w W) => tns_all 1 (by decide) rate seq shape max G pg q px cg cB cx B x W (H.keep h))
  generalize tnsR 1 rate seq shape max G B x = r at *
  have hsz := H.gl
  clear H
  unfold RAll at HA ⊢
  go_enter Try.func14, Try.ntmps14
  go_wp2_with fail
  have hb0 : Below w.heap.size w (w.alloc (.cells (infC seq shape max pg G.length cg) 33)) := (Below.refl _ w).alloc (Nat.le_refl _) _
  refine (HA.out _ hb0).mono ?_
  rintro e w1 ⟨p, d, a, b, rfl, hS, ha, hB⟩
  have HS := Lib.hid hS
  have HH := Lib.hid (And.intro (Nat.le_trans hb0.size ha) (hb0.trans (hB.mono hb0.size)))
  clear hS ha hB hb0 HA
  go_wp2
  go_ret2
  exact ⟨_, _, _, _, rfl, HS.out, HH.out.1, HH.out.2⟩
set_option maxRecDepth 100000 in
theorem tns_back (rate seq shape max : Int) (G : List Int) (pg q px : Option Addr) (cg cB cx : Nat) (B : List BV) (x : List Int) (w : World) (H : TnsIn w G pg B q x px) :
    Calls Try.prog 17 #[.int .i64 rate, .agg (infC seq shape max pg G.length cg), .slice q B.length cB, .slice px x.length cx] w (RAll (tnsR (-1) rate seq shape max G B x) w) := by
  have HA := Lib.hid (fun (W : World) (h : Below w.heap.size w W) => tns_all (-1) (by decide) rate seq shape max G pg q px cg cB cx B x W (H.keep h))
  generalize tnsR (-1) rate seq shape max G B x = r at *
  have hsz := H.gl
  clear H
  unfold RAll at HA ⊢
  go_enter Try.func17, Try.ntmps17
  go_wp2_with fail
  have hb0 : Below w.heap.size w (w.alloc (.cells (infC seq shape max pg G.length cg) 33)) := (Below.refl _ w).alloc (Nat.le_refl _) _
  refine (HA.out _ hb0).mono ?_
  rintro e w1 ⟨p, d, a, b, rfl, hS, ha, hB⟩
  have HS := Lib.hid hS
  have HH := Lib.hid (And.intro (Nat.le_trans hb0.size ha) (hb0.trans (hB.mono hb0.size)))
  clear hS ha hB hb0 HA
  go_wp2
  go_ret2
  exact ⟨_, _, _, _, rfl, HS.out, HH.out.1, HH.out.2⟩
end Go.Proofs.Yteijlbblmdclaaa
