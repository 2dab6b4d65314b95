/- tns.filter: what a call does. -/
import Derived.Test.YteijlbblmdclaaaTnsClo
set_option linter.unusedVariables false
set_option linter.unusedSimpArgs false
namespace Go.Proofs.Yteijlbblmdclaaa
open Go.ChangeShapes Go.WideShapes Go.ChangeAt Go.RowKit

/-- Whatever lay below M lies as it lay, but for block g. -/
structure StillG (g M : Nat) (w w' : World) : Prop where
  os : w'.os = w.os
  tape : w'.tape = w.tape
  output : w'.output = w.output
  size : w.heap.size ≤ w'.heap.size
  block : ∀ k, k < M → k ≠ g → w'.heap[k]? = w.heap[k]?
theorem StillG.refl (g M : Nat) (w : World) : StillG g M w w := ⟨rfl, rfl, rfl, Nat.le_refl _, fun _ _ _ => rfl⟩
theorem StillG.of {g M : Nat} {w w' : World} (h : Below M w w') : StillG g M w w' := ⟨h.os, h.tape, h.output, h.size, fun k hk _ => h.block k hk⟩
theorem StillG.trans {g M : Nat} {x y z : World} (h : StillG g M x y) (k : StillG g M y z) : StillG g M x z :=
  ⟨k.os.trans h.os, k.tape.trans h.tape, k.output.trans h.output, Nat.le_trans h.size k.size, fun i hi hn => (k.block i hi hn).trans (h.block i hi hn)⟩
theorem StillG.set {g M : Nat} {w w' : World} (h : StillG g M w w') (i : Nat) (v : Value) : StillG g M w (w'.setCell ⟨g, i, none⟩ v) := h.trans ⟨rfl, rfl, rfl, by simp [World.setCell], fun k _ hk => Below.heap_setCell _ _ _ _ hk⟩
theorem StillG.drewN {g M : Nat} {w w' : World} (h : StillG g M w w') (n : Nat) : StillG g M w (w'.drewN n) := h.trans (StillG.of (below_drewN (Below.refl _ _) n))
theorem StillG.alloc {g M : Nat} {w w' : World} (h : StillG g M w w') (hM : M ≤ w'.heap.size) (o : Obj) : StillG g M w (w'.alloc o) := h.trans (StillG.of ((Below.refl _ _).alloc hM o))
theorem StillG.grown {g M : Nat} {w w' w'' : World} {row : Option Nat} (h : StillG g M w w') (hg : w'.grownBy w'' row) (hM : M ≤ w'.heap.size) (hr : ∀ k, row = some k → M ≤ k) : StillG g M w w'' := h.trans (StillG.of ((Below.refl _ _).grown hg hM hr))
theorem StillG.cell {g M : Nat} {w w' : World} (h : StillG g M w w') {a : Addr} (h1 : a.block < M) (h2 : a.block ≠ g) : w'.cell? a = w.cell? a := World.cell?_of_block (h.block _ h1 h2)
theorem StillG.mono {g M M' : Nat} {w w' : World} (h : StillG g M w w') (hM : M' ≤ M) : StillG g M' w w' := ⟨h.os, h.tape, h.output, h.size, fun k hk hn => h.block k (Nat.lt_of_lt_of_le hk hM) hn⟩
theorem owns_n {w : World} {base n : Nat} {v : Value} {l : List Int} (hn : l.length = n) (h : w.ownsRow base 3 1 v n (l.map (Value.int .i64))) : ∃ p cap, v = .slice p n cap ∧ IntsB w p l base w.heap.size := by subst hn; exact owns_any h
theorem owns_other {w : World} {base : Nat} {e : TypeId} {size : Nat} {v : Value} {n g : Nat} {xs : List Value} (h : w.ownsRow base e size v n xs) (hg : g < base) (i : Nat) (u : Value) : (w.setCell ⟨g, i, none⟩ u).ownsRow base e size v n xs := by
  refine ⟨h.1, ?_⟩
  rcases h.2 with hn | ⟨g', cap, cur, e', hb, hgg, rest⟩
  · exact .inl hn
  · exact .inr ⟨g', cap, cur, e', hb, (Below.heap_setCell _ _ _ _ (show g' ≠ g by omega)).trans hgg, rest⟩
theorem ab_one (a : List Int) {k m : Nat} (h : k < m) : ab (a.getD k 0) ≤ absF a m := by
  have h1 := absF_mono a (show k + 1 ≤ m by omega)
  have h2 := absF_nonneg a k
  unfold absF at *
  rw [sumF] at h1
  omega
theorem mul_ab2 {a b A B : Int} (h1 : -A ≤ a) (h2 : a ≤ A) (h3 : -B ≤ b) (h4 : b ≤ B) : -(A * B) ≤ a * b ∧ a * b ≤ A * B := told_abs.mul_ab h1 h2 h3 h4
theorem spoil_put2 {w : World} {p : Option Addr} {n c g k : Nat} {xs : List Value} (h : Spoil w p n c g (g + 1) xs) (hk : k < n) (u : Value) : Spoil (w.setCell ⟨g, k, none⟩ u) p n c g (g + 1) (xs.set k u) := by
  obtain ⟨g', _, h1, h2, _, _, hn⟩ := h.at hk
  obtain rfl : g' = g := by omega
  exact hn u
theorem rnd20_fit {n : Int} (h1 : -1152921504606846976 ≤ n) (h2 : n ≤ 1152921504606846976) : -1099511627777 ≤ rnd n 20 ∧ rnd n 20 ≤ 1099511627777 := by
  unfold rnd
  rw [if_neg (by decide)]
  show -1099511627777 ≤ (n + 524288) / 1048576 ∧ (n + 524288) / 1048576 ≤ 1099511627777
  omega
theorem Reg.at_idx (s : Reg) (hs : s.from_ ≤ s.to_) {n : Nat} (hn : n < s.many) : s.at n = s.from_ + idxN s.down s.many n := by
  unfold Reg.at idxN Reg.many at *
  cases s.down <;> simp <;> omega
theorem Reg.part_none (s : Reg) (O Y : List Int) (hO : O.length = 256) : s.part O Y 0 = O := by
  refine list_ext256 (s.part_len _ _ _) hO (fun p hp => ?_)
  rw [s.part_get _ _ _ hp, if_neg (by omega)]
theorem Reg.part_cell (s : Reg) (O Y : List Int) {n : Nat} (hn : n < s.many) (hto : s.to_ ≤ 256) : (s.part O Y n).getD (s.at n) 0 = (s.lines O).getD n 0 := by
  have h := s.at_has hn
  have hp : s.at n < 256 := by have := h.1.2; omega
  rw [s.part_get _ _ _ hp, if_neg (by rw [h.2]; omega), s.lines_get O hn]
theorem Reg.part_next (s : Reg) (O Y : List Int) {n : Nat} (hn : n < s.many) (hto : s.to_ ≤ 256) : ((s.part O Y n).map (Value.int .i64)).set (s.at n) (.int .i64 (Y.getD n 0)) = (s.part O Y (n + 1)).map (Value.int .i64) := by
  have h := s.at_has hn
  have hp : s.at n < 256 := by have := h.1.2; omega
  rw [← List.map_set]
  congr 1
  refine list_ext256 (by rw [List.length_set, s.part_len]) (s.part_len _ _ _) (fun p hp2 => ?_)
  by_cases e : p = s.at n
  · rw [e, List.getD_eq_getElem?_getD, List.getElem?_set_self (by rw [s.part_len]; exact hp), s.part_get _ _ _ hp, h.2, if_pos ⟨h.1.1, h.1.2, by omega⟩]
    rfl
  · rw [List.getD_eq_getElem?_getD, List.getElem?_set_ne (fun e' => e e'.symm), ← List.getD_eq_getElem?_getD, s.part_get _ _ _ hp2, s.part_get _ _ _ hp2]
    by_cases c : s.from_ ≤ p ∧ p < s.to_ ∧ s.inv p < n
    · rw [if_pos c, if_pos ⟨c.1, c.2.1, by omega⟩]
    · rw [if_neg c]
      by_cases c2 : s.from_ ≤ p ∧ p < s.to_ ∧ s.inv p < n + 1
      · exfalso
        have hi := (s.inv_lt ⟨c2.1, c2.2.1⟩).2
        have hin : s.inv p = n := by
          have : ¬ s.inv p < n := fun hh => c ⟨c2.1, c2.2.1, hh⟩
          omega
        rw [hin] at hi
        exact e hi.symm
      · rw [if_neg c2]
/-- The lines that are told of, as many as there are. -/
def nowL (sg : Int) (a xs : List Int) (n : Nat) : List Int := if 0 < sg then xs.take n else filtP sg a xs n
theorem nowL_len (sg : Int) (a xs : List Int) {n : Nat} (h : n ≤ xs.length) : (nowL sg a xs n).length = n := by
  unfold nowL; split
  · rw [List.length_take]; omega
  · exact filtP_len _ _ _ _
theorem nowL_pos {sg : Int} (h : 0 < sg) (a xs : List Int) {n : Nat} (hn : n < xs.length) : nowL sg a xs (n + 1) = nowL sg a xs n ++ [xs.getD n 0] := by
  unfold nowL
  rw [if_pos h, if_pos h, List.take_succ_eq_append_getElem hn]
  simp [List.getD_eq_getElem?_getD, hn]
theorem nowL_neg {sg : Int} (h : ¬ 0 < sg) (a xs : List Int) (n : Nat) : nowL sg a xs (n + 1) = nowL sg a xs n ++ [stepY sg a xs (filtP sg a xs n) n] := by
  unfold nowL
  rw [if_neg h, if_neg h]; rfl
theorem nowL_told (sg : Int) (a xs : List Int) {n j : Nat} (hj : j ≤ n) : toldF a (nowL sg a xs n) n j = toldF a (if 0 < sg then xs else filtP sg a xs n) n j := by
  unfold nowL
  split
  · refine told_congr hj (fun i hi => ?_)
    rw [List.getD_eq_getElem?_getD, List.getElem?_take_of_lt hi, List.getD_eq_getElem?_getD]
  · rfl
theorem nowL_range (sg : Int) (a xs : List Int) (n : Nat) (hx : ∀ j, -268435455 ≤ xs.getD j 0 ∧ xs.getD j 0 ≤ 268435455) (j : Nat) : -268435455 ≤ (nowL sg a xs n).getD j 0 ∧ (nowL sg a xs n).getD j 0 ≤ 268435455 := by
  unfold nowL; split
  · by_cases h : j < n
    · rw [List.getD_eq_getElem?_getD, List.getElem?_take_of_lt h, ← List.getD_eq_getElem?_getD]; exact hx j
    · rw [List.getD_eq_getElem?_getD, List.getElem?_eq_none (by rw [List.length_take]; omega)]; simp
  · exact filtP_range _ _ _ _ _
set_option maxRecDepth 100000 in
set_option maxHeartbeats 8000000 in
theorem tns_filter (sg : Int) (hsg : sg = 1 ∨ sg = -1) (s : Reg) (O : List Int) (hO : O.length = 256) (bO : ∀ j, -268435455 ≤ O.getD j 0 ∧ O.getD j 0 ≤ 268435455) (hs : s.from_ ≤ s.to_) (hto : s.to_ ≤ 256) (ha : s.a.length ≤ 12) (hab : absF s.a s.a.length ≤ 4293918720) (ga ca g cg g20 g22 g23 c22 o22 : Nat) (hca : s.a.length ≤ ca) (w : World)
    (hA : ∀ j, j < s.a.length → w.cell? ⟨ga, j, none⟩ = some (.int .i64 (s.a.getD j 0))) (hS : Spoil w (some ⟨g, 0, none⟩) 256 cg g (g + 1) (O.map (Value.int .i64)))
    (h20 : w.cell? ⟨g20, 2, none⟩ = some (.bool s.down)) (h22 : w.cell? ⟨g22, 0, none⟩ = some (.slice (some ⟨g, o22, none⟩) s.many c22)) (h23 : w.cell? ⟨g23, 0, none⟩ = some (atF g20 g22))
    (ho22 : 0 < s.many → o22 = s.from_) (na : ga ≠ g) (n20 : g20 ≠ g) (n22 : g22 ≠ g) (n23 : g23 ≠ g) :
    Calls Try.prog 37 #[.int .i64 s.many, .int .i64 sg, .slice (some ⟨ga, 0, none⟩) s.a.length ca, getF g22 g23, putF g22 g23] w fun e w' => e = .returned (.tuple #[]) ∧ Spoil w' (some ⟨g, 0, none⟩) 256 cg g (g + 1) ((s.run sg O).map (Value.int .i64)) ∧ StillG g w.heap.size w w' := by
  obtain ⟨i0, hi, hz0, hz1, hz2⟩ := info_parts Try.infoInt
  have hgW : g < w.heap.size := hS.2.1
  have l20 := block_lt h20
  have l22 := block_lt h22
  have l23 := block_lt h23
  have hM : s.many ≤ 256 := by unfold Reg.many; omega
  have bX : ∀ j, -268435455 ≤ (s.lines O).getD j 0 ∧ (s.lines O).getD j 0 ≤ 268435455 := fun j => by
    by_cases hj : j < s.many
    · rw [s.lines_get O hj]; exact bO _
    · rw [List.getD_eq_getElem?_getD, List.getElem?_eq_none (by rw [s.lines_len]; omega)]; simp
  have lX := s.lines_len O
  have HRUN := Lib.hid (show s.part O (filtP sg s.a (s.lines O) s.many) s.many = s.run sg O from rfl)
  rw [← s.part_none O (filtP sg s.a (s.lines O) s.many) hO] at hS
  have HPC := Lib.hid (fun n (hn : n < s.many) => s.part_cell O (filtP sg s.a (s.lines O) s.many) hn hto)
  have HPN := Lib.hid (fun n (hn : n < s.many) => s.part_next O (filtP sg s.a (s.lines O) s.many) hn hto)
  have HYN := Lib.hid (fun n (hn : n < s.many) => filtP_get sg s.a (s.lines O) hn)
  have HIDX := Lib.hid (fun n (hn : n < s.many) => s.at_idx hs hn)
  have HAT := Lib.hid (fun n (hn : n < s.many) => (s.at_has hn).1)
  generalize s.lines O = X at *
  generalize filtP sg s.a X s.many = Y at *
  have HPART := Lib.hid (fun n => s.part_len O Y n)
  have HPG := Lib.hid (fun n p (h : p < 256) => (row_get (s.part O Y n) p (Nat.zero_le _) (by rw [s.part_len]; exact h)))
  obtain ⟨R, hR⟩ : ∃ R : Nat → List Int, (fun n => s.part O Y n) = R := ⟨_, rfl⟩
  have hR' : ∀ n, s.part O Y n = R n := fun n => by rw [← hR]
  simp only [hR'] at HPC HPN HPART HPG HRUN hS
  have HS := Lib.hid hS
  have HA := Lib.hid hA
  have H20 := Lib.hid h20
  have H22 := Lib.hid h22
  have H23 := Lib.hid h23
  have HBX := Lib.hid bX
  have HLX := Lib.hid lX
  have HAB := Lib.hid hab
  have Hsg := Lib.hid hsg
  have hsg2 : -1 ≤ sg ∧ sg ≤ 1 := by omega
  generalize s.a = a at *
  generalize s.many = many at *
  have hla : ga < w.heap.size ∨ a.length = 0 := by
    rcases Nat.eq_zero_or_pos a.length with h | h
    · exact .inr h
    · exact .inl (block_lt (hA 0 h))
  have HLA := Lib.hid hla
  clear hS hA h20 h22 h23 bX lX hab hsg hR hR' bO hO hla
  go_enter Try.func37, Try.ntmps37
  go_wp2
  go_loopw [10, 18] (fun V I wr => ∃ n : Nat, I = .int .i64 n ∧ n ≤ many ∧ wr.ownsRow w.heap.size 3 1 V n ((nowL sg a X n).map (Value.int .i64)) ∧ Hid (Spoil wr (some ⟨g, 0, none⟩) 256 cg g (g + 1) ((R n).map (Value.int .i64))) ∧ StillG g w.heap.size w wr) (fun _ I _ => many - (intOf I).toNat)
  case atStart => exact ⟨0, rfl, Nat.zero_le _, by rw [show nowL sg a X 0 = [] by unfold nowL; split <;> rfl]; exact World.ownsRow_nil _ _ _ _, HS, StillG.refl _ _ _⟩
  case round =>
    obtain ⟨n, rfl, hn, hown, hS, hG⟩ := hrel
    clear HS
    by_cases hlt : n < many
    · have hd : decide ((n : Int) < (many : Int)) = true := decide_eq_true (by omega)
      have hlen := nowL_len sg a X (show n ≤ X.length by rw [HLX.out]; omega)
      obtain ⟨pn, cn, rfl, IN⟩ := owns_n hlen hown
      by_cases hmn : n < a.length
      · have HM3 := Lib.hid (show n = min a.length n by omega)
        have hIN := Lib.hid IN.ints
        have hOWN := Lib.hid hown
        have HLN := Lib.hid hlen
        have u2 : ((n : Nat) : Int) ≤ (ca : Int) := by omega
        have u3 : n ≤ ca := by omega
        have HCA := Lib.hid (fun j (hj : j < a.length) => (hG.cell (a := ⟨ga, j, none⟩) (by rcases HLA.out with h | h; exact h; omega) na).trans (HA.out j hj))
        obtain ⟨N, hN⟩ : ∃ N, nowL sg a X n = N := ⟨_, rfl⟩
        have HNR := Lib.hid (show ∀ j, -268435455 ≤ N.getD j 0 ∧ N.getD j 0 ≤ 268435455 from fun j => by rw [← hN]; exact nowL_range sg a X n HBX.out j)
        have HNE := Lib.hid hN
        rw [hN] at hIN HLN hOWN
        clear hlen IN hown hN
        go_wp2_with fail
        all_goals first | (exfalso; omega) | skip
        go_loop [12, 28] (fun S K => ∃ k : Nat, K = .int .i64 k ∧ k ≤ n ∧ S = .int .i64 (toldF a N n k)) (fun _ K => n - (intOf K).toNat)
        case atStart => exact ⟨0, rfl, Nat.zero_le _, rfl⟩
        case round =>
          obtain ⟨k, rfl, hk, rfl⟩ := hrel
          by_cases hkm : k < n
          · have e1 : decide ((k : Int) < ((n : Nat) : Int)) = true := decide_eq_true (by omega)
            obtain ⟨bn, on, hpn, _, qn⟩ := hIN.out.at (j := n - 1 - k) (by rw [HLN.out]; omega)
            have r1 := qn (n - 1 - k) (by rw [HLN.out]; omega)
            have r2 := HCA.out k (by omega)
            have b1 := HNR.out (n - 1 - k)
            have b2 := ab_two (a.getD k 0)
            have b3 := ab_one a (show k < a.length by omega)
            have b4 := told_abs a N n HNR.out k
            have b5 := told_abs a N n HNR.out (k + 1)
            have b6 := absF_mono a (show k ≤ a.length by omega)
            have b7 := absF_mono a (show k + 1 ≤ a.length by omega)
            have b8 := HAB.out
            have hsucc : toldF a N n (k + 1) = toldF a N n k + a.getD k 0 * N.getD (n - 1 - k) 0 := rfl
            have HSU := Lib.hid hsucc
            obtain ⟨x, hx⟩ : ∃ x, a.getD k 0 = x := ⟨_, rfl⟩
            obtain ⟨y, hy⟩ : ∃ y, N.getD (n - 1 - k) 0 = y := ⟨_, rfl⟩
            obtain ⟨S, hS0⟩ : ∃ S, toldF a N n k = S := ⟨_, rfl⟩
            rw [hx] at r2 b2 b3 HSU hsucc
            rw [hy] at r1 b1 HSU hsucc
            rw [hS0] at b4 HSU hsucc ⊢
            have b9 := mul_ab2 (show -4293918720 ≤ x by omega) (show x ≤ 4293918720 by omega) b1.1 b1.2
            rw [hsucc] at b5
            have v1 : IntKind.i64.wrap (x * y) = x * y := IntWalk.i64_in _ (by omega)
            have v2 : IntKind.i64.wrap (S + x * y) = S + x * y := IntWalk.i64_in _ (by omega)
            have v3 : IntKind.i64.wrap ((n : Int) - 1) = (n : Int) - 1 := IntWalk.i64_in _ (by omega)
            have v4 : IntKind.i64.wrap ((n : Int) - 1 - (k : Int)) = (n : Int) - 1 - (k : Int) := IntWalk.i64_in _ (by omega)
            have v5 : ((n : Int) - 1 - (k : Int)).toNat = n - 1 - k := by omega
            have v6 : (0 : Int) ≤ (n : Int) - 1 - (k : Int) := by omega
            have v7 : (n : Int) - 1 - (k : Int) < (n : Int) := by omega
            have v8 : (k : Int) < ((n : Nat) : Int) := by omega
            have v9 : (k : Int) ≤ (n : Int) - 1 := by omega
            subst hpn
            clear qn hx hy hS0 b2 b3 b4 b5 b6 b7 b8 b1 b9 hsucc
            go_wp2
            go_round
            case rel => exact ⟨k + 1, by go_num, by omega, by rw [HSU.out]⟩
            case measure => simp [intOf]; omega
          · have hkM : k = n := by omega
            have hkE := Lib.hid hkM
            have e1 : decide ((k : Int) < ((n : Nat) : Int)) = false := decide_eq_false (by omega)
            go_wp2_with fail
            have hoE : o22 = s.from_ := ho22 (by omega)
            subst hoE
            have hat := HIDX.out n hlt
            have hp : s.at n < 256 := by have := (HAT.out n hlt).2; omega
            obtain ⟨g', hgp, g1, g2, hc, hf, _⟩ := hS.out.at (k := s.at n) hp
            obtain rfl : g' = g := by omega
            rw [HPG.out n _ hp, HPC.out n hlt] at hc
            have HPN2 := Lib.hid (HPN.out n hlt)
            have hS2 := Lib.hid (fun m v => spoil_put2 (hS.out.drewN m) hp v)
            rw [hat] at hc hf HPN2 hS2
            have HY := Lib.hid (show Y.getD n 0 = keptB (X.getD n 0 + sg * rnd (toldF a N n (n)) 20) by
              rw [HYN.out n hlt]
              unfold stepY
              rw [← nowL_told sg a X (Nat.min_le_right _ _), HNE.out, ← HM3.out])
            have hx := HBX.out n
            have hT := told_abs a N n HNR.out (n)
            have hT2 := absF_mono a (show (n) ≤ a.length by omega)
            have hT3 := HAB.out
            have HGET := Lib.hid (fun x (hc : wr.cell? ⟨g', s.from_ + idxN s.down many n, none⟩ = some (.int .i64 x)) => tns_get s.down n many hlt hM g20 g22 g23 g' s.from_ c22 x wr ((hG.cell l20 n20).trans H20.out) ((hG.cell l22 n22).trans H22.out) ((hG.cell l23 n23).trans H23.out) hc)
            have HPUT := Lib.hid (fun m x y (hy : y = Y.getD n 0) (hc : wr.cell? ⟨g', s.from_ + idxN s.down many n, none⟩ = some (.int .i64 x)) => (tns_put s.down n many hlt hM g20 g22 g23 g' s.from_ c22 y x (wr.drewN m) ((hG.cell l20 n20).trans H20.out) ((hG.cell l22 n22).trans H22.out) ((hG.cell l23 n23).trans H23.out) hc hf).mono (fun e w' h => show e = .returned (.tuple #[]) ∧ Hid (Spoil w' (some ⟨g', 0, none⟩) 256 cg g' (g' + 1) ((R (n + 1)).map (Value.int .i64))) ∧ StillG g' w.heap.size w w' ∧ w'.ownsRow w.heap.size 3 1 (.slice pn n cn) n (N.map (Value.int .i64)) from by
              obtain ⟨h1, d3, h2⟩ := h
              subst h2 hy
              have q := hS2.out (m + d3) (.int .i64 (Y.getD n 0))
              rw [HPN2.out] at q
              exact ⟨h1, Lib.hid q, ((hG.drewN m).drewN d3).set _ _, owns_other (w := (wr.drewN m).drewN d3) hOWN.out (by omega) _ _⟩))
            obtain ⟨x, hxe⟩ : ∃ x, X.getD n 0 = x := ⟨_, rfl⟩
            obtain ⟨T, hTe⟩ : ∃ T, toldF a N n (n) = T := ⟨_, rfl⟩
            rw [hxe] at hc hx HY
            have HXE := Lib.hid hxe
            rw [hTe] at hT HY ⊢
            have hR := rnd20_fit (n := T) (by omega) (by omega)
            have HRO := Lib.hid (fun W => tns_rounded T 20 20 rfl (by omega) (by omega) (by decide) W)
            obtain ⟨Q, hRe⟩ : ∃ R, rnd T 20 = R := ⟨_, rfl⟩
            rw [hRe] at hR HRO HY
            have hq : -1099511627777 ≤ sg * Q ∧ sg * Q ≤ 1099511627777 := by rcases Hsg.out with h | h <;> rw [h] <;> omega
            have v1 : IntKind.i64.wrap (sg * Q) = sg * Q := IntWalk.i64_in _ (by omega)
            have v2 : IntKind.i64.wrap (x + sg * Q) = x + sg * Q := IntWalk.i64_in _ (by omega)
            have HC := Lib.hid hc
            clear hTe hRe hxe hT hT2 hT3 hat hc
            refine (HGET.out x HC.out).mono ?_
            rintro e w1 ⟨rfl, d1, rfl⟩
            go_wp2_with fail
            refine (HRO.out _).mono ?_
            rintro e w2 ⟨rfl, d2, rfl⟩
            rcases (show x + sg * Q < -268435455 ∨ 268435455 < x + sg * Q ∨ (-268435455 ≤ x + sg * Q ∧ x + sg * Q ≤ 268435455) by omega) with cc | cc | ⟨cc, cc2⟩
            · go_wp2_with fail
              all_goals first | (exfalso; omega) | skip
              refine (HPUT.out (d1 + d2) x _ (by rw [HY.out]; unfold keptB; omega) HC.out).mono ?_
              rintro e w3 ⟨rfl, hS3, hG3, hown3⟩
              by_cases hpos : 0 < sg
              · have dpos : decide (0 < sg) = true := decide_eq_true hpos
                have HNX := Lib.hid (show nowL sg a X (n + 1) = N ++ [x] by rw [nowL_pos hpos a X (by rw [HLX.out]; exact hlt), HNE.out, HXE.out])
                have hown1 := hown3.alloc (.cells #[.int .i64 (x)] 3)
                have hG1 := hG3.alloc hG3.size (.cells #[.int .i64 (x)] 3)
                have HS1 := Lib.hid (hS3.out.keep ((Below.refl _ w3).alloc (Nat.le_refl _) (.cells #[.int .i64 (x)] 3)) hS3.out.2.1)
                have hl0 := Lib.hid hown3.lt
                have hsz := hG3.size
                have hgl := hS3.out.2.1
                have hnn : n ≤ 256 := by omega
                have HGW := Lib.hid hgW
                clear hown3 hG3 hS3 hpos
                go_wp2_with (at_builtin; refine wpList_append_own _ rfl _ _ 22 rfl w.heap.size 3 i0 (.int .i64 0) 1 8 Try.underlying22 hi hz0 hz1 hz2 rfl (by decide) _ _ _ rfl hown1 ⟨w3.heap.size, 0, none⟩ 1 1 [.int .i64 (x)] rfl rfl (cell_one_new _ _ _) (one_int _) ?c3 ?c4 ?c5 ?_)
                case c3 => unfold maxLen; omega
                case c4 => omega
                case c5 => simp; omega
                intro v' wA hown' hg _
                have hrow : ∀ k, (Value.slice pn n cn).ownBlock = some k → w.heap.size ≤ k := fun k e => (hl0.out k e).1
                have hG4 := hG1.grown hg (by simp; omega) hrow
                have HS4 := Lib.hid (HS1.out.keep ((Below.refl (g' + 1) _).grown hg (by simp; omega) (fun k e => by have := hrow k e; have := HGW.out; omega)) (Nat.le_refl _))
                have hown4 : wA.ownsRow w.heap.size 3 1 v' (n + 1) ((nowL sg a X (n + 1)).map (Value.int .i64)) := by
                  rw [HNX.out, List.map_append]
                  simpa using hown'
                clear hown' hg hown1 HS1 hG1 hrow HGW
                go_wp2
                exact ⟨⟨n + 1, by go_num, by omega, hown4, HS4, hG4⟩, by simp [intOf]; omega⟩
              · have dpos : decide (0 < sg) = false := decide_eq_false hpos
                have HNX := Lib.hid (show nowL sg a X (n + 1) = N ++ [-268435455] by
                  rw [nowL_neg hpos a X n, HNE.out, ← HYN.out n hlt, HY.out]
                  congr 2
                  unfold keptB; omega)
                have hown1 := hown3.alloc (.cells #[.int .i64 (-268435455)] 3)
                have hG1 := hG3.alloc hG3.size (.cells #[.int .i64 (-268435455)] 3)
                have HS1 := Lib.hid (hS3.out.keep ((Below.refl _ w3).alloc (Nat.le_refl _) (.cells #[.int .i64 (-268435455)] 3)) hS3.out.2.1)
                have hl0 := Lib.hid hown3.lt
                have hsz := hG3.size
                have hgl := hS3.out.2.1
                have hnn : n ≤ 256 := by omega
                have HGW := Lib.hid hgW
                clear hown3 hG3 hS3 hpos
                go_wp2_with (at_builtin; refine wpList_append_own _ rfl _ _ 22 rfl w.heap.size 3 i0 (.int .i64 0) 1 8 Try.underlying22 hi hz0 hz1 hz2 rfl (by decide) _ _ _ rfl hown1 ⟨w3.heap.size, 0, none⟩ 1 1 [.int .i64 (-268435455)] rfl rfl (cell_one_new _ _ _) (one_int _) ?c3 ?c4 ?c5 ?_)
                case c3 => unfold maxLen; omega
                case c4 => omega
                case c5 => simp; omega
                intro v' wA hown' hg _
                have hrow : ∀ k, (Value.slice pn n cn).ownBlock = some k → w.heap.size ≤ k := fun k e => (hl0.out k e).1
                have hG4 := hG1.grown hg (by simp; omega) hrow
                have HS4 := Lib.hid (HS1.out.keep ((Below.refl (g' + 1) _).grown hg (by simp; omega) (fun k e => by have := hrow k e; have := HGW.out; omega)) (Nat.le_refl _))
                have hown4 : wA.ownsRow w.heap.size 3 1 v' (n + 1) ((nowL sg a X (n + 1)).map (Value.int .i64)) := by
                  rw [HNX.out, List.map_append]
                  simpa using hown'
                clear hown' hg hown1 HS1 hG1 hrow HGW
                go_wp2
                exact ⟨⟨n + 1, by go_num, by omega, hown4, HS4, hG4⟩, by simp [intOf]; omega⟩
            · go_wp2_with fail
              all_goals first | (exfalso; omega) | skip
              refine (HPUT.out (d1 + d2) x _ (by rw [HY.out]; unfold keptB; omega) HC.out).mono ?_
              rintro e w3 ⟨rfl, hS3, hG3, hown3⟩
              by_cases hpos : 0 < sg
              · have dpos : decide (0 < sg) = true := decide_eq_true hpos
                have HNX := Lib.hid (show nowL sg a X (n + 1) = N ++ [x] by rw [nowL_pos hpos a X (by rw [HLX.out]; exact hlt), HNE.out, HXE.out])
                have hown1 := hown3.alloc (.cells #[.int .i64 (x)] 3)
                have hG1 := hG3.alloc hG3.size (.cells #[.int .i64 (x)] 3)
                have HS1 := Lib.hid (hS3.out.keep ((Below.refl _ w3).alloc (Nat.le_refl _) (.cells #[.int .i64 (x)] 3)) hS3.out.2.1)
                have hl0 := Lib.hid hown3.lt
                have hsz := hG3.size
                have hgl := hS3.out.2.1
                have hnn : n ≤ 256 := by omega
                have HGW := Lib.hid hgW
                clear hown3 hG3 hS3 hpos
                go_wp2_with (at_builtin; refine wpList_append_own _ rfl _ _ 22 rfl w.heap.size 3 i0 (.int .i64 0) 1 8 Try.underlying22 hi hz0 hz1 hz2 rfl (by decide) _ _ _ rfl hown1 ⟨w3.heap.size, 0, none⟩ 1 1 [.int .i64 (x)] rfl rfl (cell_one_new _ _ _) (one_int _) ?c3 ?c4 ?c5 ?_)
                case c3 => unfold maxLen; omega
                case c4 => omega
                case c5 => simp; omega
                intro v' wA hown' hg _
                have hrow : ∀ k, (Value.slice pn n cn).ownBlock = some k → w.heap.size ≤ k := fun k e => (hl0.out k e).1
                have hG4 := hG1.grown hg (by simp; omega) hrow
                have HS4 := Lib.hid (HS1.out.keep ((Below.refl (g' + 1) _).grown hg (by simp; omega) (fun k e => by have := hrow k e; have := HGW.out; omega)) (Nat.le_refl _))
                have hown4 : wA.ownsRow w.heap.size 3 1 v' (n + 1) ((nowL sg a X (n + 1)).map (Value.int .i64)) := by
                  rw [HNX.out, List.map_append]
                  simpa using hown'
                clear hown' hg hown1 HS1 hG1 hrow HGW
                go_wp2
                exact ⟨⟨n + 1, by go_num, by omega, hown4, HS4, hG4⟩, by simp [intOf]; omega⟩
              · have dpos : decide (0 < sg) = false := decide_eq_false hpos
                have HNX := Lib.hid (show nowL sg a X (n + 1) = N ++ [268435455] by
                  rw [nowL_neg hpos a X n, HNE.out, ← HYN.out n hlt, HY.out]
                  congr 2
                  unfold keptB; omega)
                have hown1 := hown3.alloc (.cells #[.int .i64 (268435455)] 3)
                have hG1 := hG3.alloc hG3.size (.cells #[.int .i64 (268435455)] 3)
                have HS1 := Lib.hid (hS3.out.keep ((Below.refl _ w3).alloc (Nat.le_refl _) (.cells #[.int .i64 (268435455)] 3)) hS3.out.2.1)
                have hl0 := Lib.hid hown3.lt
                have hsz := hG3.size
                have hgl := hS3.out.2.1
                have hnn : n ≤ 256 := by omega
                have HGW := Lib.hid hgW
                clear hown3 hG3 hS3 hpos
                go_wp2_with (at_builtin; refine wpList_append_own _ rfl _ _ 22 rfl w.heap.size 3 i0 (.int .i64 0) 1 8 Try.underlying22 hi hz0 hz1 hz2 rfl (by decide) _ _ _ rfl hown1 ⟨w3.heap.size, 0, none⟩ 1 1 [.int .i64 (268435455)] rfl rfl (cell_one_new _ _ _) (one_int _) ?c3 ?c4 ?c5 ?_)
                case c3 => unfold maxLen; omega
                case c4 => omega
                case c5 => simp; omega
                intro v' wA hown' hg _
                have hrow : ∀ k, (Value.slice pn n cn).ownBlock = some k → w.heap.size ≤ k := fun k e => (hl0.out k e).1
                have hG4 := hG1.grown hg (by simp; omega) hrow
                have HS4 := Lib.hid (HS1.out.keep ((Below.refl (g' + 1) _).grown hg (by simp; omega) (fun k e => by have := hrow k e; have := HGW.out; omega)) (Nat.le_refl _))
                have hown4 : wA.ownsRow w.heap.size 3 1 v' (n + 1) ((nowL sg a X (n + 1)).map (Value.int .i64)) := by
                  rw [HNX.out, List.map_append]
                  simpa using hown'
                clear hown' hg hown1 HS1 hG1 hrow HGW
                go_wp2
                exact ⟨⟨n + 1, by go_num, by omega, hown4, HS4, hG4⟩, by simp [intOf]; omega⟩
            · go_wp2_with fail
              all_goals first | (exfalso; omega) | skip
              refine (HPUT.out (d1 + d2) x _ (by rw [HY.out]; unfold keptB; omega) HC.out).mono ?_
              rintro e w3 ⟨rfl, hS3, hG3, hown3⟩
              by_cases hpos : 0 < sg
              · have dpos : decide (0 < sg) = true := decide_eq_true hpos
                have HNX := Lib.hid (show nowL sg a X (n + 1) = N ++ [x] by rw [nowL_pos hpos a X (by rw [HLX.out]; exact hlt), HNE.out, HXE.out])
                have hown1 := hown3.alloc (.cells #[.int .i64 (x)] 3)
                have hG1 := hG3.alloc hG3.size (.cells #[.int .i64 (x)] 3)
                have HS1 := Lib.hid (hS3.out.keep ((Below.refl _ w3).alloc (Nat.le_refl _) (.cells #[.int .i64 (x)] 3)) hS3.out.2.1)
                have hl0 := Lib.hid hown3.lt
                have hsz := hG3.size
                have hgl := hS3.out.2.1
                have hnn : n ≤ 256 := by omega
                have HGW := Lib.hid hgW
                clear hown3 hG3 hS3 hpos
                go_wp2_with (at_builtin; refine wpList_append_own _ rfl _ _ 22 rfl w.heap.size 3 i0 (.int .i64 0) 1 8 Try.underlying22 hi hz0 hz1 hz2 rfl (by decide) _ _ _ rfl hown1 ⟨w3.heap.size, 0, none⟩ 1 1 [.int .i64 (x)] rfl rfl (cell_one_new _ _ _) (one_int _) ?c3 ?c4 ?c5 ?_)
                case c3 => unfold maxLen; omega
                case c4 => omega
                case c5 => simp; omega
                intro v' wA hown' hg _
                have hrow : ∀ k, (Value.slice pn n cn).ownBlock = some k → w.heap.size ≤ k := fun k e => (hl0.out k e).1
                have hG4 := hG1.grown hg (by simp; omega) hrow
                have HS4 := Lib.hid (HS1.out.keep ((Below.refl (g' + 1) _).grown hg (by simp; omega) (fun k e => by have := hrow k e; have := HGW.out; omega)) (Nat.le_refl _))
                have hown4 : wA.ownsRow w.heap.size 3 1 v' (n + 1) ((nowL sg a X (n + 1)).map (Value.int .i64)) := by
                  rw [HNX.out, List.map_append]
                  simpa using hown'
                clear hown' hg hown1 HS1 hG1 hrow HGW
                go_wp2
                exact ⟨⟨n + 1, by go_num, by omega, hown4, HS4, hG4⟩, by simp [intOf]; omega⟩
              · have dpos : decide (0 < sg) = false := decide_eq_false hpos
                have HNX := Lib.hid (show nowL sg a X (n + 1) = N ++ [x + sg * Q] by
                  rw [nowL_neg hpos a X n, HNE.out, ← HYN.out n hlt, HY.out]
                  congr 2
                  unfold keptB; omega)
                have hown1 := hown3.alloc (.cells #[.int .i64 (x + sg * Q)] 3)
                have hG1 := hG3.alloc hG3.size (.cells #[.int .i64 (x + sg * Q)] 3)
                have HS1 := Lib.hid (hS3.out.keep ((Below.refl _ w3).alloc (Nat.le_refl _) (.cells #[.int .i64 (x + sg * Q)] 3)) hS3.out.2.1)
                have hl0 := Lib.hid hown3.lt
                have hsz := hG3.size
                have hgl := hS3.out.2.1
                have hnn : n ≤ 256 := by omega
                have HGW := Lib.hid hgW
                clear hown3 hG3 hS3 hpos
                go_wp2_with (at_builtin; refine wpList_append_own _ rfl _ _ 22 rfl w.heap.size 3 i0 (.int .i64 0) 1 8 Try.underlying22 hi hz0 hz1 hz2 rfl (by decide) _ _ _ rfl hown1 ⟨w3.heap.size, 0, none⟩ 1 1 [.int .i64 (x + sg * Q)] rfl rfl (cell_one_new _ _ _) (one_int _) ?c3 ?c4 ?c5 ?_)
                case c3 => unfold maxLen; omega
                case c4 => omega
                case c5 => simp; omega
                intro v' wA hown' hg _
                have hrow : ∀ k, (Value.slice pn n cn).ownBlock = some k → w.heap.size ≤ k := fun k e => (hl0.out k e).1
                have hG4 := hG1.grown hg (by simp; omega) hrow
                have HS4 := Lib.hid (HS1.out.keep ((Below.refl (g' + 1) _).grown hg (by simp; omega) (fun k e => by have := hrow k e; have := HGW.out; omega)) (Nat.le_refl _))
                have hown4 : wA.ownsRow w.heap.size 3 1 v' (n + 1) ((nowL sg a X (n + 1)).map (Value.int .i64)) := by
                  rw [HNX.out, List.map_append]
                  simpa using hown'
                clear hown' hg hown1 HS1 hG1 hrow HGW
                go_wp2
                exact ⟨⟨n + 1, by go_num, by omega, hown4, HS4, hG4⟩, by simp [intOf]; omega⟩
      · have HM3 := Lib.hid (show a.length = min a.length n by omega)
        have hIN := Lib.hid IN.ints
        have hOWN := Lib.hid hown
        have HLN := Lib.hid hlen
        have u2 : ((a.length : Nat) : Int) ≤ (ca : Int) := by omega
        have u3 : a.length ≤ ca := by omega
        have HCA := Lib.hid (fun j (hj : j < a.length) => (hG.cell (a := ⟨ga, j, none⟩) (by rcases HLA.out with h | h; exact h; omega) na).trans (HA.out j hj))
        obtain ⟨N, hN⟩ : ∃ N, nowL sg a X n = N := ⟨_, rfl⟩
        have HNR := Lib.hid (show ∀ j, -268435455 ≤ N.getD j 0 ∧ N.getD j 0 ≤ 268435455 from fun j => by rw [← hN]; exact nowL_range sg a X n HBX.out j)
        have HNE := Lib.hid hN
        rw [hN] at hIN HLN hOWN
        clear hlen IN hown hN
        go_wp2_with fail
        all_goals first | (exfalso; omega) | skip
        go_loop [12, 28] (fun S K => ∃ k : Nat, K = .int .i64 k ∧ k ≤ a.length ∧ S = .int .i64 (toldF a N n k)) (fun _ K => a.length - (intOf K).toNat)
        case atStart => exact ⟨0, rfl, Nat.zero_le _, rfl⟩
        case round =>
          obtain ⟨k, rfl, hk, rfl⟩ := hrel
          by_cases hkm : k < a.length
          · have e1 : decide ((k : Int) < ((a.length : Nat) : Int)) = true := decide_eq_true (by omega)
            obtain ⟨bn, on, hpn, _, qn⟩ := hIN.out.at (j := n - 1 - k) (by rw [HLN.out]; omega)
            have r1 := qn (n - 1 - k) (by rw [HLN.out]; omega)
            have r2 := HCA.out k (by omega)
            have b1 := HNR.out (n - 1 - k)
            have b2 := ab_two (a.getD k 0)
            have b3 := ab_one a (show k < a.length by omega)
            have b4 := told_abs a N n HNR.out k
            have b5 := told_abs a N n HNR.out (k + 1)
            have b6 := absF_mono a (show k ≤ a.length by omega)
            have b7 := absF_mono a (show k + 1 ≤ a.length by omega)
            have b8 := HAB.out
            have hsucc : toldF a N n (k + 1) = toldF a N n k + a.getD k 0 * N.getD (n - 1 - k) 0 := rfl
            have HSU := Lib.hid hsucc
            obtain ⟨x, hx⟩ : ∃ x, a.getD k 0 = x := ⟨_, rfl⟩
            obtain ⟨y, hy⟩ : ∃ y, N.getD (n - 1 - k) 0 = y := ⟨_, rfl⟩
            obtain ⟨S, hS0⟩ : ∃ S, toldF a N n k = S := ⟨_, rfl⟩
            rw [hx] at r2 b2 b3 HSU hsucc
            rw [hy] at r1 b1 HSU hsucc
            rw [hS0] at b4 HSU hsucc ⊢
            have b9 := mul_ab2 (show -4293918720 ≤ x by omega) (show x ≤ 4293918720 by omega) b1.1 b1.2
            rw [hsucc] at b5
            have v1 : IntKind.i64.wrap (x * y) = x * y := IntWalk.i64_in _ (by omega)
            have v2 : IntKind.i64.wrap (S + x * y) = S + x * y := IntWalk.i64_in _ (by omega)
            have v3 : IntKind.i64.wrap ((n : Int) - 1) = (n : Int) - 1 := IntWalk.i64_in _ (by omega)
            have v4 : IntKind.i64.wrap ((n : Int) - 1 - (k : Int)) = (n : Int) - 1 - (k : Int) := IntWalk.i64_in _ (by omega)
            have v5 : ((n : Int) - 1 - (k : Int)).toNat = n - 1 - k := by omega
            have v6 : (0 : Int) ≤ (n : Int) - 1 - (k : Int) := by omega
            have v7 : (n : Int) - 1 - (k : Int) < (n : Int) := by omega
            have v8 : (k : Int) < ((a.length : Nat) : Int) := by omega
            have v9 : (k : Int) ≤ (n : Int) - 1 := by omega
            subst hpn
            clear qn hx hy hS0 b2 b3 b4 b5 b6 b7 b8 b1 b9 hsucc
            go_wp2
            go_round
            case rel => exact ⟨k + 1, by go_num, by omega, by rw [HSU.out]⟩
            case measure => simp [intOf]; omega
          · have hkM : k = a.length := by omega
            have hkE := Lib.hid hkM
            have e1 : decide ((k : Int) < ((a.length : Nat) : Int)) = false := decide_eq_false (by omega)
            go_wp2_with fail
            have hoE : o22 = s.from_ := ho22 (by omega)
            subst hoE
            have hat := HIDX.out n hlt
            have hp : s.at n < 256 := by have := (HAT.out n hlt).2; omega
            obtain ⟨g', hgp, g1, g2, hc, hf, _⟩ := hS.out.at (k := s.at n) hp
            obtain rfl : g' = g := by omega
            rw [HPG.out n _ hp, HPC.out n hlt] at hc
            have HPN2 := Lib.hid (HPN.out n hlt)
            have hS2 := Lib.hid (fun m v => spoil_put2 (hS.out.drewN m) hp v)
            rw [hat] at hc hf HPN2 hS2
            have HY := Lib.hid (show Y.getD n 0 = keptB (X.getD n 0 + sg * rnd (toldF a N n (a.length)) 20) by
              rw [HYN.out n hlt]
              unfold stepY
              rw [← nowL_told sg a X (Nat.min_le_right _ _), HNE.out, ← HM3.out])
            have hx := HBX.out n
            have hT := told_abs a N n HNR.out (a.length)
            have hT2 := absF_mono a (show (a.length) ≤ a.length by omega)
            have hT3 := HAB.out
            have HGET := Lib.hid (fun x (hc : wr.cell? ⟨g', s.from_ + idxN s.down many n, none⟩ = some (.int .i64 x)) => tns_get s.down n many hlt hM g20 g22 g23 g' s.from_ c22 x wr ((hG.cell l20 n20).trans H20.out) ((hG.cell l22 n22).trans H22.out) ((hG.cell l23 n23).trans H23.out) hc)
            have HPUT := Lib.hid (fun m x y (hy : y = Y.getD n 0) (hc : wr.cell? ⟨g', s.from_ + idxN s.down many n, none⟩ = some (.int .i64 x)) => (tns_put s.down n many hlt hM g20 g22 g23 g' s.from_ c22 y x (wr.drewN m) ((hG.cell l20 n20).trans H20.out) ((hG.cell l22 n22).trans H22.out) ((hG.cell l23 n23).trans H23.out) hc hf).mono (fun e w' h => show e = .returned (.tuple #[]) ∧ Hid (Spoil w' (some ⟨g', 0, none⟩) 256 cg g' (g' + 1) ((R (n + 1)).map (Value.int .i64))) ∧ StillG g' w.heap.size w w' ∧ w'.ownsRow w.heap.size 3 1 (.slice pn n cn) n (N.map (Value.int .i64)) from by
              obtain ⟨h1, d3, h2⟩ := h
              subst h2 hy
              have q := hS2.out (m + d3) (.int .i64 (Y.getD n 0))
              rw [HPN2.out] at q
              exact ⟨h1, Lib.hid q, ((hG.drewN m).drewN d3).set _ _, owns_other (w := (wr.drewN m).drewN d3) hOWN.out (by omega) _ _⟩))
            obtain ⟨x, hxe⟩ : ∃ x, X.getD n 0 = x := ⟨_, rfl⟩
            obtain ⟨T, hTe⟩ : ∃ T, toldF a N n (a.length) = T := ⟨_, rfl⟩
            rw [hxe] at hc hx HY
            have HXE := Lib.hid hxe
            rw [hTe] at hT HY ⊢
            have hR := rnd20_fit (n := T) (by omega) (by omega)
            have HRO := Lib.hid (fun W => tns_rounded T 20 20 rfl (by omega) (by omega) (by decide) W)
            obtain ⟨Q, hRe⟩ : ∃ R, rnd T 20 = R := ⟨_, rfl⟩
            rw [hRe] at hR HRO HY
            have hq : -1099511627777 ≤ sg * Q ∧ sg * Q ≤ 1099511627777 := by rcases Hsg.out with h | h <;> rw [h] <;> omega
            have v1 : IntKind.i64.wrap (sg * Q) = sg * Q := IntWalk.i64_in _ (by omega)
            have v2 : IntKind.i64.wrap (x + sg * Q) = x + sg * Q := IntWalk.i64_in _ (by omega)
            have HC := Lib.hid hc
            clear hTe hRe hxe hT hT2 hT3 hat hc
            refine (HGET.out x HC.out).mono ?_
            rintro e w1 ⟨rfl, d1, rfl⟩
            go_wp2_with fail
            refine (HRO.out _).mono ?_
            rintro e w2 ⟨rfl, d2, rfl⟩
            rcases (show x + sg * Q < -268435455 ∨ 268435455 < x + sg * Q ∨ (-268435455 ≤ x + sg * Q ∧ x + sg * Q ≤ 268435455) by omega) with cc | cc | ⟨cc, cc2⟩
            · go_wp2_with fail
              all_goals first | (exfalso; omega) | skip
              refine (HPUT.out (d1 + d2) x _ (by rw [HY.out]; unfold keptB; omega) HC.out).mono ?_
              rintro e w3 ⟨rfl, hS3, hG3, hown3⟩
              by_cases hpos : 0 < sg
              · have dpos : decide (0 < sg) = true := decide_eq_true hpos
                have HNX := Lib.hid (show nowL sg a X (n + 1) = N ++ [x] by rw [nowL_pos hpos a X (by rw [HLX.out]; exact hlt), HNE.out, HXE.out])
                have hown1 := hown3.alloc (.cells #[.int .i64 (x)] 3)
                have hG1 := hG3.alloc hG3.size (.cells #[.int .i64 (x)] 3)
                have HS1 := Lib.hid (hS3.out.keep ((Below.refl _ w3).alloc (Nat.le_refl _) (.cells #[.int .i64 (x)] 3)) hS3.out.2.1)
                have hl0 := Lib.hid hown3.lt
                have hsz := hG3.size
                have hgl := hS3.out.2.1
                have hnn : n ≤ 256 := by omega
                have HGW := Lib.hid hgW
                clear hown3 hG3 hS3 hpos
                go_wp2_with (at_builtin; refine wpList_append_own _ rfl _ _ 22 rfl w.heap.size 3 i0 (.int .i64 0) 1 8 Try.underlying22 hi hz0 hz1 hz2 rfl (by decide) _ _ _ rfl hown1 ⟨w3.heap.size, 0, none⟩ 1 1 [.int .i64 (x)] rfl rfl (cell_one_new _ _ _) (one_int _) ?c3 ?c4 ?c5 ?_)
                case c3 => unfold maxLen; omega
                case c4 => omega
                case c5 => simp; omega
                intro v' wA hown' hg _
                have hrow : ∀ k, (Value.slice pn n cn).ownBlock = some k → w.heap.size ≤ k := fun k e => (hl0.out k e).1
                have hG4 := hG1.grown hg (by simp; omega) hrow
                have HS4 := Lib.hid (HS1.out.keep ((Below.refl (g' + 1) _).grown hg (by simp; omega) (fun k e => by have := hrow k e; have := HGW.out; omega)) (Nat.le_refl _))
                have hown4 : wA.ownsRow w.heap.size 3 1 v' (n + 1) ((nowL sg a X (n + 1)).map (Value.int .i64)) := by
                  rw [HNX.out, List.map_append]
                  simpa using hown'
                clear hown' hg hown1 HS1 hG1 hrow HGW
                go_wp2
                exact ⟨⟨n + 1, by go_num, by omega, hown4, HS4, hG4⟩, by simp [intOf]; omega⟩
              · have dpos : decide (0 < sg) = false := decide_eq_false hpos
                have HNX := Lib.hid (show nowL sg a X (n + 1) = N ++ [-268435455] by
                  rw [nowL_neg hpos a X n, HNE.out, ← HYN.out n hlt, HY.out]
                  congr 2
                  unfold keptB; omega)
                have hown1 := hown3.alloc (.cells #[.int .i64 (-268435455)] 3)
                have hG1 := hG3.alloc hG3.size (.cells #[.int .i64 (-268435455)] 3)
                have HS1 := Lib.hid (hS3.out.keep ((Below.refl _ w3).alloc (Nat.le_refl _) (.cells #[.int .i64 (-268435455)] 3)) hS3.out.2.1)
                have hl0 := Lib.hid hown3.lt
                have hsz := hG3.size
                have hgl := hS3.out.2.1
                have hnn : n ≤ 256 := by omega
                have HGW := Lib.hid hgW
                clear hown3 hG3 hS3 hpos
                go_wp2_with (at_builtin; refine wpList_append_own _ rfl _ _ 22 rfl w.heap.size 3 i0 (.int .i64 0) 1 8 Try.underlying22 hi hz0 hz1 hz2 rfl (by decide) _ _ _ rfl hown1 ⟨w3.heap.size, 0, none⟩ 1 1 [.int .i64 (-268435455)] rfl rfl (cell_one_new _ _ _) (one_int _) ?c3 ?c4 ?c5 ?_)
                case c3 => unfold maxLen; omega
                case c4 => omega
                case c5 => simp; omega
                intro v' wA hown' hg _
                have hrow : ∀ k, (Value.slice pn n cn).ownBlock = some k → w.heap.size ≤ k := fun k e => (hl0.out k e).1
                have hG4 := hG1.grown hg (by simp; omega) hrow
                have HS4 := Lib.hid (HS1.out.keep ((Below.refl (g' + 1) _).grown hg (by simp; omega) (fun k e => by have := hrow k e; have := HGW.out; omega)) (Nat.le_refl _))
                have hown4 : wA.ownsRow w.heap.size 3 1 v' (n + 1) ((nowL sg a X (n + 1)).map (Value.int .i64)) := by
                  rw [HNX.out, List.map_append]
                  simpa using hown'
                clear hown' hg hown1 HS1 hG1 hrow HGW
                go_wp2
                exact ⟨⟨n + 1, by go_num, by omega, hown4, HS4, hG4⟩, by simp [intOf]; omega⟩
            · go_wp2_with fail
              all_goals first | (exfalso; omega) | skip
              refine (HPUT.out (d1 + d2) x _ (by rw [HY.out]; unfold keptB; omega) HC.out).mono ?_
              rintro e w3 ⟨rfl, hS3, hG3, hown3⟩
              by_cases hpos : 0 < sg
              · have dpos : decide (0 < sg) = true := decide_eq_true hpos
                have HNX := Lib.hid (show nowL sg a X (n + 1) = N ++ [x] by rw [nowL_pos hpos a X (by rw [HLX.out]; exact hlt), HNE.out, HXE.out])
                have hown1 := hown3.alloc (.cells #[.int .i64 (x)] 3)
                have hG1 := hG3.alloc hG3.size (.cells #[.int .i64 (x)] 3)
                have HS1 := Lib.hid (hS3.out.keep ((Below.refl _ w3).alloc (Nat.le_refl _) (.cells #[.int .i64 (x)] 3)) hS3.out.2.1)
                have hl0 := Lib.hid hown3.lt
                have hsz := hG3.size
                have hgl := hS3.out.2.1
                have hnn : n ≤ 256 := by omega
                have HGW := Lib.hid hgW
                clear hown3 hG3 hS3 hpos
                go_wp2_with (at_builtin; refine wpList_append_own _ rfl _ _ 22 rfl w.heap.size 3 i0 (.int .i64 0) 1 8 Try.underlying22 hi hz0 hz1 hz2 rfl (by decide) _ _ _ rfl hown1 ⟨w3.heap.size, 0, none⟩ 1 1 [.int .i64 (x)] rfl rfl (cell_one_new _ _ _) (one_int _) ?c3 ?c4 ?c5 ?_)
                case c3 => unfold maxLen; omega
                case c4 => omega
                case c5 => simp; omega
                intro v' wA hown' hg _
                have hrow : ∀ k, (Value.slice pn n cn).ownBlock = some k → w.heap.size ≤ k := fun k e => (hl0.out k e).1
                have hG4 := hG1.grown hg (by simp; omega) hrow
                have HS4 := Lib.hid (HS1.out.keep ((Below.refl (g' + 1) _).grown hg (by simp; omega) (fun k e => by have := hrow k e; have := HGW.out; omega)) (Nat.le_refl _))
                have hown4 : wA.ownsRow w.heap.size 3 1 v' (n + 1) ((nowL sg a X (n + 1)).map (Value.int .i64)) := by
                  rw [HNX.out, List.map_append]
                  simpa using hown'
                clear hown' hg hown1 HS1 hG1 hrow HGW
                go_wp2
                exact ⟨⟨n + 1, by go_num, by omega, hown4, HS4, hG4⟩, by simp [intOf]; omega⟩
              · have dpos : decide (0 < sg) = false := decide_eq_false hpos
                have HNX := Lib.hid (show nowL sg a X (n + 1) = N ++ [268435455] by
                  rw [nowL_neg hpos a X n, HNE.out, ← HYN.out n hlt, HY.out]
                  congr 2
                  unfold keptB; omega)
                have hown1 := hown3.alloc (.cells #[.int .i64 (268435455)] 3)
                have hG1 := hG3.alloc hG3.size (.cells #[.int .i64 (268435455)] 3)
                have HS1 := Lib.hid (hS3.out.keep ((Below.refl _ w3).alloc (Nat.le_refl _) (.cells #[.int .i64 (268435455)] 3)) hS3.out.2.1)
                have hl0 := Lib.hid hown3.lt
                have hsz := hG3.size
                have hgl := hS3.out.2.1
                have hnn : n ≤ 256 := by omega
                have HGW := Lib.hid hgW
                clear hown3 hG3 hS3 hpos
                go_wp2_with (at_builtin; refine wpList_append_own _ rfl _ _ 22 rfl w.heap.size 3 i0 (.int .i64 0) 1 8 Try.underlying22 hi hz0 hz1 hz2 rfl (by decide) _ _ _ rfl hown1 ⟨w3.heap.size, 0, none⟩ 1 1 [.int .i64 (268435455)] rfl rfl (cell_one_new _ _ _) (one_int _) ?c3 ?c4 ?c5 ?_)
                case c3 => unfold maxLen; omega
                case c4 => omega
                case c5 => simp; omega
                intro v' wA hown' hg _
                have hrow : ∀ k, (Value.slice pn n cn).ownBlock = some k → w.heap.size ≤ k := fun k e => (hl0.out k e).1
                have hG4 := hG1.grown hg (by simp; omega) hrow
                have HS4 := Lib.hid (HS1.out.keep ((Below.refl (g' + 1) _).grown hg (by simp; omega) (fun k e => by have := hrow k e; have := HGW.out; omega)) (Nat.le_refl _))
                have hown4 : wA.ownsRow w.heap.size 3 1 v' (n + 1) ((nowL sg a X (n + 1)).map (Value.int .i64)) := by
                  rw [HNX.out, List.map_append]
                  simpa using hown'
                clear hown' hg hown1 HS1 hG1 hrow HGW
                go_wp2
                exact ⟨⟨n + 1, by go_num, by omega, hown4, HS4, hG4⟩, by simp [intOf]; omega⟩
            · go_wp2_with fail
              all_goals first | (exfalso; omega) | skip
              refine (HPUT.out (d1 + d2) x _ (by rw [HY.out]; unfold keptB; omega) HC.out).mono ?_
              rintro e w3 ⟨rfl, hS3, hG3, hown3⟩
              by_cases hpos : 0 < sg
              · have dpos : decide (0 < sg) = true := decide_eq_true hpos
                have HNX := Lib.hid (show nowL sg a X (n + 1) = N ++ [x] by rw [nowL_pos hpos a X (by rw [HLX.out]; exact hlt), HNE.out, HXE.out])
                have hown1 := hown3.alloc (.cells #[.int .i64 (x)] 3)
                have hG1 := hG3.alloc hG3.size (.cells #[.int .i64 (x)] 3)
                have HS1 := Lib.hid (hS3.out.keep ((Below.refl _ w3).alloc (Nat.le_refl _) (.cells #[.int .i64 (x)] 3)) hS3.out.2.1)
                have hl0 := Lib.hid hown3.lt
                have hsz := hG3.size
                have hgl := hS3.out.2.1
                have hnn : n ≤ 256 := by omega
                have HGW := Lib.hid hgW
                clear hown3 hG3 hS3 hpos
                go_wp2_with (at_builtin; refine wpList_append_own _ rfl _ _ 22 rfl w.heap.size 3 i0 (.int .i64 0) 1 8 Try.underlying22 hi hz0 hz1 hz2 rfl (by decide) _ _ _ rfl hown1 ⟨w3.heap.size, 0, none⟩ 1 1 [.int .i64 (x)] rfl rfl (cell_one_new _ _ _) (one_int _) ?c3 ?c4 ?c5 ?_)
                case c3 => unfold maxLen; omega
                case c4 => omega
                case c5 => simp; omega
                intro v' wA hown' hg _
                have hrow : ∀ k, (Value.slice pn n cn).ownBlock = some k → w.heap.size ≤ k := fun k e => (hl0.out k e).1
                have hG4 := hG1.grown hg (by simp; omega) hrow
                have HS4 := Lib.hid (HS1.out.keep ((Below.refl (g' + 1) _).grown hg (by simp; omega) (fun k e => by have := hrow k e; have := HGW.out; omega)) (Nat.le_refl _))
                have hown4 : wA.ownsRow w.heap.size 3 1 v' (n + 1) ((nowL sg a X (n + 1)).map (Value.int .i64)) := by
                  rw [HNX.out, List.map_append]
                  simpa using hown'
                clear hown' hg hown1 HS1 hG1 hrow HGW
                go_wp2
                exact ⟨⟨n + 1, by go_num, by omega, hown4, HS4, hG4⟩, by simp [intOf]; omega⟩
              · have dpos : decide (0 < sg) = false := decide_eq_false hpos
                have HNX := Lib.hid (show nowL sg a X (n + 1) = N ++ [x + sg * Q] by
                  rw [nowL_neg hpos a X n, HNE.out, ← HYN.out n hlt, HY.out]
                  congr 2
                  unfold keptB; omega)
                have hown1 := hown3.alloc (.cells #[.int .i64 (x + sg * Q)] 3)
                have hG1 := hG3.alloc hG3.size (.cells #[.int .i64 (x + sg * Q)] 3)
                have HS1 := Lib.hid (hS3.out.keep ((Below.refl _ w3).alloc (Nat.le_refl _) (.cells #[.int .i64 (x + sg * Q)] 3)) hS3.out.2.1)
                have hl0 := Lib.hid hown3.lt
                have hsz := hG3.size
                have hgl := hS3.out.2.1
                have hnn : n ≤ 256 := by omega
                have HGW := Lib.hid hgW
                clear hown3 hG3 hS3 hpos
                go_wp2_with (at_builtin; refine wpList_append_own _ rfl _ _ 22 rfl w.heap.size 3 i0 (.int .i64 0) 1 8 Try.underlying22 hi hz0 hz1 hz2 rfl (by decide) _ _ _ rfl hown1 ⟨w3.heap.size, 0, none⟩ 1 1 [.int .i64 (x + sg * Q)] rfl rfl (cell_one_new _ _ _) (one_int _) ?c3 ?c4 ?c5 ?_)
                case c3 => unfold maxLen; omega
                case c4 => omega
                case c5 => simp; omega
                intro v' wA hown' hg _
                have hrow : ∀ k, (Value.slice pn n cn).ownBlock = some k → w.heap.size ≤ k := fun k e => (hl0.out k e).1
                have hG4 := hG1.grown hg (by simp; omega) hrow
                have HS4 := Lib.hid (HS1.out.keep ((Below.refl (g' + 1) _).grown hg (by simp; omega) (fun k e => by have := hrow k e; have := HGW.out; omega)) (Nat.le_refl _))
                have hown4 : wA.ownsRow w.heap.size 3 1 v' (n + 1) ((nowL sg a X (n + 1)).map (Value.int .i64)) := by
                  rw [HNX.out, List.map_append]
                  simpa using hown'
                clear hown' hg hown1 HS1 hG1 hrow HGW
                go_wp2
                exact ⟨⟨n + 1, by go_num, by omega, hown4, HS4, hG4⟩, by simp [intOf]; omega⟩
    · have hnM : n = many := by omega
      have HE := Lib.hid hnM
      have hd : decide ((n : Int) < (many : Int)) = false := decide_eq_false (by omega)
      clear hown hnM
      go_wp2
      go_end0
      refine ⟨rfl, ?_, hG⟩
      have q := hS.out
      rw [HE.out, HRUN.out] at q
      exact q
end Go.Proofs.Yteijlbblmdclaaa
