/- quant.places: the iterator's contract. -/
import Derived.Test.YtppfbfiigfjncaaGP
import Derived.Test.YtppfbfiigfjncaaLoopAll2
import Derived.WalkKit
import Derived.OwnWalkIn
import Derived.TacticsInMore
import Derived.LoopNIn
import Derived.LoopIn
set_option linter.unusedVariables false
set_option linter.unusedSimpArgs false
namespace Go.Proofs.Ytppfbfiigfjncaa
open Go.ChangeShapes Go.WideShapes Go.ChangeAt Go.RowKit
attribute [local go_sem] Oper.semAt_some

def encP (x : Pl) : Array Value := #[.int .i64 x.n, .agg #[.int .i64 x.g, .int .i64 x.b]]
/-- What is kept from round to round: all but block o, and the loop's own. -/
def KP (o n : Nat) (A B : World) : Prop := ∀ k, k < A.heap.size → k ≠ o → k ≠ n + 1 → B.heap[k]? = A.heap[k]?
structure Kp (o n : Nat) (A B : World) : Prop where
  size : A.heap.size ≤ B.heap.size
  block : KP o n A B
theorem Kp.refl (o n : Nat) (A : World) : Kp o n A A := ⟨Nat.le_refl _, fun _ _ _ _ => rfl⟩
theorem Kp.trans {o n : Nat} {A B C : World} (h : Kp o n A B) (k : Kp o n B C) : Kp o n A C := ⟨Nat.le_trans h.size k.size, fun i hi h1 h2 => (k.block i (Nat.lt_of_lt_of_le hi h.size) h1 h2).trans (h.block i hi h1 h2)⟩
theorem Kp.of {o n : Nat} {A B : World} (h : Below A.heap.size A B) : Kp o n A B := ⟨h.size, fun k hk _ _ => h.block k hk⟩
theorem Kp.cell {o n : Nat} {A B : World} (h : Kp o n A B) {a : Addr} {v : Value} (hc : A.cell? a = some v) (h1 : a.block ≠ o) (h2 : a.block ≠ n + 1) : B.cell? a = some v := by
  have hlt : a.block < A.heap.size := by
    unfold World.cell? at hc
    cases hb : A.heap[a.block]? with
    | none => rw [hb] at hc; simp at hc
    | some o => exact (Array.getElem?_eq_some_iff.1 hb).1
  rw [← hc]
  exact World.cell?_of_block (h.block a.block hlt h1 h2)
theorem Kp.cells {o n : Nat} {A B : World} (h : Kp o n A B) {g : Nat} {t : TypeId} {cs : Array Value} (hc : CellsAt A g t cs) (h1 : g ≠ o) (h2 : g ≠ n + 1) : CellsAt B g t cs := (h.block g hc.lt h1 h2).trans hc
theorem Kp.ints {o n : Nat} {A B : World} (h : Kp o n A B) {p : Option Addr} {l : List Int} {lo hi : Nat} (hc : IntsB A p l lo hi) (h1 : hi ≤ o ∨ o < lo) (h2 : hi ≤ n + 1 ∨ n + 1 < lo) : IntsB B p l lo hi := by
  obtain ⟨h0, hc⟩ := hc
  refine ⟨Nat.le_trans h0 h.size, ?_⟩
  rcases hc with hc | ⟨b, off, hp, a1, a2, hc⟩
  · exact .inl hc
  · exact .inr ⟨b, off, hp, a1, a2, fun j hj => h.cell (hc j hj) (by show b ≠ o; omega) (by show b ≠ n + 1; omega)⟩
theorem bandPl_zero (w g b a : Nat) : bandPl w g b a 0 = [] := rfl
theorem ints_lo {w : World} {g : Nat} {l : List Int} {lo : Nat} (h : IsInts w (some ⟨g, 0, none⟩) l) (hg : lo ≤ g) : IntsB w (some ⟨g, 0, none⟩) l lo w.heap.size := by
  refine ⟨Nat.le_refl _, ?_⟩
  rcases h with h | ⟨b, off, hp, hlt, hc⟩
  · exact .inl h
  · obtain ⟨rfl, rfl⟩ : g = b ∧ 0 = off := by simpa using hp
    exact .inr ⟨g, 0, rfl, hg, hlt, hc⟩
theorem ints_cell {w : World} {g : Nat} {l : List Int} {lo hi : Nat} (h : IntsB w (some ⟨g, 0, none⟩) l lo hi) {j : Nat} (hj : j < l.length) : w.cell? ⟨g, j, none⟩ = some (.int .i64 (l.getD j 0)) := by
  obtain ⟨b, off, hp, hc⟩ := h.at hj
  obtain ⟨rfl, rfl⟩ : g = b ∧ 0 = off := by simpa using hp
  rwa [Nat.zero_add] at hc
set_option maxRecDepth 100000 in
set_option maxHeartbeats 8000000 in
theorem places_all (rate seq shape max : Int) (h0 : 0 ≤ rate) (h1 : rate ≤ 11) (G : List Int) (pg : Option Addr) (cg : Nat) (w : World) (b o : Nat) (hb : b + 2 ≤ w.heap.size) (hob : o < b) (hG : IntsB w pg G 0 o) (hGl : G.length ≤ 100)
    (hm : mayB 11 seq shape max G = true) (mx : Nat) (hmax : max = mx) (offs : List Int) (hoffs : bandL rate (seq == 2) = offs) (hmx : mx < offs.length) (many : Nat) (hmany : winN seq = many)
    (c0 : w.cell? ⟨b, 0, none⟩ = some (.int .i64 rate)) (c1 : CellsAt w (b + 1) 27 (infoC seq shape max pg G.length cg)) :
    SeqAll Try.prog 60 #[.pointer (some ⟨b + 1, 0, none⟩), .pointer (some ⟨b, 0, none⟩)] encP (fun _ x _ => x ∈ allPl offs G mx many) (fun xs => xs = allPl offs G mx many) (KP o w.heap.size) w := by
  intro l J W hW hsz hJ hY hJ0
  have HJ := Lib.hid hJ
  have e0 := (hW.cell (p := ⟨b, 0, none⟩) (by show b < _; omega)).trans c0
  have X0 := Lib.hid (c1.keep hW (by omega))
  have HG0 := Lib.hid (hG.keep hW (by have := hG.1; omega))
  have HO := Lib.hid (offsQ rate seq h0 h1 (hoffs ▸ hmx : mx < (bandL rate (seq == 2)).length))
  have HOF := Lib.hid (fun W => offsets_row rate (seq == 2) h0 h1 W)
  have HWN := Lib.hid (fun (W : World) (h : IsInts W pg G) => info_windows seq shape max G pg cg W h hGl)
  rw [hm] at HWN
  simp only [if_true] at HWN
  have HGP := Lib.hid (fun (W : World) (h : IsInts W pg G) (wi : Nat) (hwi : wi < winN seq) => info_group seq shape max G pg cg wi W h hGl hm (by omega) (by omega))
  have hseq : seq = 2 ∨ (seq == 2) = false := by
    by_cases h : seq = 2
    · exact .inl h
    · exact .inr (by simpa using h)
  have hw8 : winN seq ≤ 8 := by unfold winN; split <;> omega
  rw [hmany] at HO HWN HGP hw8
  rw [hoffs] at HO
  obtain ⟨short, hshort⟩ : ∃ s, (seq == 2) = s := ⟨_, rfl⟩
  rw [hshort] at HOF hoffs hseq
  have HSH := Lib.hid hshort
  rw [hoffs] at HOF
  obtain ⟨ps, hps⟩ : ∃ l, allPl offs G mx many = l := ⟨_, rfl⟩
  rw [hps] at hY ⊢
  dsimp only at hY
  have HY := Lib.hid hY
  have HPS := Lib.hid hps
  have HIN := Lib.hid (fun (wi bi i : Nat) (h1 : wi < many) (h2 : bi < mx) (h3 : i < wideB offs bi) => show (⟨32 * wi + ((offs.getD bi 0).toNat + i), grpOf G wi, bi⟩ : Pl) ∈ ps from hps ▸ allPl_mem h1 (winPl_mem h2 h3))
  have hol := HO.out.len
  subst hmax
  clear hJ hY hG hm c0 c1 hmany hoffs h0 h1 hps
  refine callsIn_of_wp Try.func60 rfl trivial ?_ rfl
  simp only [Try.ntmps60, List.size_toArray, List.length_cons, List.length_nil, Nat.reduceAdd, Nat.reduceSub, Array.replicate_succ, Array.replicate_zero, List.push_toArray, List.append_toArray, List.nil_append, List.cons_append]
  have kx0 := X0.out.cell 0
  simp only [List.getElem?_toArray, List.getElem?_cons_zero] at kx0
  gi_wp2_with fail
  refine ⟨trivial, ?_⟩
  refine (callsIn_wide.2 (HOF.out _)).mono ?_
  rintro e W1 ⟨og, oc, rfl, hOI, hB1, hog⟩
  have hz1 := hB1.size
  have XF := Lib.hid (ints_lo (lo := w.heap.size + 2) hOI (by omega))
  have HJ1 := Lib.hid (HJ.out _ _ _ hJ0 hB1)
  have X1 := Lib.hid (X0.out.keep hB1 X0.out.lt)
  have HG1 := Lib.hid (HG0.out.keep hB1 HG0.out.1)
  clear hOI hB1 hJ0 HOF X0 HG0 kx0 e0 hshort hseq
  have ky0 := X1.out.cell 0
  have ky1 := X1.out.cell 1
  have ky2 := X1.out.cell 2
  have ky3 := X1.out.cell 3
  simp only [List.getElem?_toArray, List.getElem?_cons_zero, List.getElem?_cons_succ] at ky0 ky1 ky2 ky3
  gi_wp2_with fail
  refine ⟨trivial, ?_⟩
  refine (callsIn_wide.2 (HWN.out _ HG1.out.ints)).mono ?_
  rintro e W2 ⟨rfl, hB2⟩
  have hz2 := hB2.size
  have XF2 := Lib.hid (XF.out.keep hB2 XF.out.1)
  have HJ2 := Lib.hid (HJ.out _ _ _ HJ1.out hB2)
  have X2 := Lib.hid (X1.out.keep hB2 X1.out.lt)
  have HG2 := Lib.hid (HG1.out.keep hB2 HG1.out.1)
  have hW12 := hz1
  obtain ⟨hi, hhi⟩ : ∃ h, W1.heap.size = h := ⟨_, rfl⟩
  rw [hhi] at XF XF2 hz2
  clear hB2 HJ1 X1 HG1 XF HWN hz1 ky0 ky1 ky2 ky3
  gi_wp2_with fail
  gi_loopw [29] (fun I wr => ∃ (wi : Nat) (pre : List Pl), I = .int .i64 wi ∧ wi ≤ many ∧ Hid (pre = allPl offs G mx wi) ∧ Hid (J pre wr) ∧ Kp o w.heap.size W2 wr) (fun I _ => many - (intOf I).toNat)
  case atStart => exact ⟨0, [], rfl, Nat.zero_le _, Lib.hid rfl, HJ2, Kp.refl _ _ _⟩
  case round =>
    obtain ⟨wi, pre, rfl, hwi, HP, HJr, hk⟩ := hrel
    clear HJ2
    by_cases hlt : wi < many
    · have hd : decide ((wi : Int) < (many : Int)) = true := decide_eq_true (by omega)
      have Xr := Lib.hid (hk.cells X2.out (by omega) (by omega))
      have HGr := Lib.hid (hk.ints HG2.out (by omega) (by omega))
      have HCG := Lib.hid (HGP.out wr HGr.out.ints wi hlt)
      have HWG : Hid (grpOf G (wi : Int) = grpOf G wi) := Lib.hid rfl
      obtain ⟨gi, hgi⟩ : ∃ g, grpOf G (wi : Int) = g := ⟨_, rfl⟩
      rw [hgi] at HCG
      have HGI := Lib.hid hgi
      have HIN1 := Lib.hid (fun bi i h2 h3 => HIN.out wi bi i hlt h2 h3)
      rw [hgi] at HIN1
      clear hgi HWG
      have kr0 := Xr.out.cell 0
      have kr1 := Xr.out.cell 1
      have kr2 := Xr.out.cell 2
      have kr3 := Xr.out.cell 3
      simp only [List.getElem?_toArray, List.getElem?_cons_zero, List.getElem?_cons_succ] at kr0 kr1 kr2 kr3
      gi_wp2_with fail
      refine ⟨trivial, ?_⟩
      refine (callsIn_wide.2 HCG.out).mono ?_
      rintro e W3 ⟨rfl, hB3⟩
      have hz3 := hB3.size
      have hk3 := hk.trans (Kp.of hB3)
      have HJ3 := Lib.hid (HJ.out _ _ _ HJr.out hB3)
      have X3 := Lib.hid (Xr.out.keep hB3 Xr.out.lt)
      have kx2 := X3.out.cell 2
      simp only [List.getElem?_toArray, List.getElem?_cons_zero, List.getElem?_cons_succ] at kx2
      clear hk hB3 HJr Xr HGr HCG kr0 kr1 kr2 kr3
      gi_wp2_with fail
      gi_loopw [40] (fun I wr' => ∃ (bi : Nat) (pre' : List Pl), I = .int .i64 bi ∧ bi ≤ mx ∧ Hid (pre' = allPl offs G mx wi ++ winPl offs G wi bi) ∧ Hid (J pre' wr') ∧ Kp o w.heap.size W2 wr') (fun I _ => mx - (intOf I).toNat)
      case atStart => exact ⟨0, pre, rfl, Nat.zero_le _, Lib.hid (by rw [HP.out]; exact (List.append_nil _).symm), HJ3, hk3⟩
      case round =>
        rename_i wr2 _ _
        obtain ⟨bi, pre', rfl, hbi, HP', HJb, hkb⟩ := hrel
        clear HJ3 hk3 X3 kx2 HP
        by_cases hlb : bi < mx
        · have hd : decide ((bi : Int) < (mx : Int)) = true := decide_eq_true (by omega)
          have hbl : bi + 1 < offs.length := by omega
          have XFb := Lib.hid (hkb.ints XF2.out (by omega) (by omega))
          have q0 := ints_cell XFb.out (show bi < offs.length by omega)
          have q1 := ints_cell XFb.out hbl
          have p0 := HO.out.pos bi (by omega)
          have p1 := HO.out.mono bi (bi + 1) (by omega) hbl
          have p2 : offs.getD (bi + 1) 0 ≤ 256 := by
            rcases HO.out.top with ⟨_, h⟩ | ⟨_, h⟩
            · have := h (bi + 1) hbl; omega
            · exact h (bi + 1) hbl
          have HW := Lib.hid (show winPl offs G wi (bi + 1) = winPl offs G wi bi ++ bandPl wi gi bi (offs.getD bi 0).toNat (wideB offs bi) from by rw [← HGI.out]; rfl)
          have HIN2 := Lib.hid (fun i h3 => HIN1.out bi i hlb h3)
          obtain ⟨a, ha⟩ : ∃ a : Nat, offs.getD bi 0 = a := ⟨(offs.getD bi 0).toNat, by omega⟩
          obtain ⟨K, hK⟩ : ∃ K, wideB offs bi = K := ⟨_, rfl⟩
          have hK2 : offs.getD (bi + 1) 0 = ((a + K : Nat) : Int) := by rw [← hK]; unfold wideB; omega
          rw [ha] at q0
          rw [hK2] at q1
          rw [hK, ha, Int.toNat_natCast] at HW HIN2
          have haK : a + K ≤ 256 := by omega
          have HK2 := Lib.hid hK2
          clear p0 p1 p2 ha hK hK2
          have XK := Lib.hid (hkb.cells X2.out (by omega) (by omega))
          gi_wp2_with fail
          gi_loopw [13] (fun V wr' => ∃ (k : Nat) (pr : List Pl), V = .int .i64 ((a + k : Nat) : Int) ∧ k ≤ K ∧ Hid (pr = pre' ++ bandPl wi gi bi a k) ∧ Hid (J pr wr') ∧ Kp o w.heap.size W2 wr') (fun V _ => a + K - (intOf V).toNat)
          case atStart => exact ⟨0, pre', rfl, Nat.zero_le _, Lib.hid (List.append_nil _).symm, HJb, hkb⟩
          case round =>
            obtain ⟨k, pr, rfl, hkk, HPR, HJk, hkr⟩ := hrel
            clear hkb HJb q0 q1 XFb XK
            have XFk := Lib.hid (hkr.ints XF2.out (by omega) (by omega))
            have q1 := ints_cell XFk.out hbl
            have hK2 : offs.getD (bi + 1) 0 = ((a + K : Nat) : Int) := HK2.out
            rw [hK2] at q1
            clear hK2
            by_cases hlk : k < K
            · have hd2 : decide (((a + k : Nat) : Int) < ((a + K : Nat) : Int)) = true := decide_eq_true (by omega)
              have hmem := HIN2.out k hlk
              obtain ⟨c, hc⟩ : ∃ c : Nat, a + k = c := ⟨_, rfl⟩
              obtain ⟨M, hM⟩ : ∃ M : Nat, 32 * wi = M := ⟨_, rfl⟩
              obtain ⟨N, hN⟩ : ∃ N : Nat, M + c = N := ⟨_, rfl⟩
              obtain ⟨E, hE⟩ : ∃ E : Nat, a + K = E := ⟨_, rfl⟩
              rw [hc, hM, hN] at hmem
              rw [hc]
              rw [hc, hE] at hd2
              rw [hE] at q1
              have v1 : IntKind.i64.wrap ((wi : Int) * 32) = (M : Int) := by rw [IntKind.wrap_i64]; omega
              have v2 : IntKind.i64.wrap ((M : Int) + (c : Int)) = (N : Int) := by rw [IntKind.wrap_i64]; omega
              have hsk := hkr.size
              obtain ⟨fn, tmps, assign, body, hy, hR⟩ := HY.out pr ⟨N, gi, bi⟩ _ HJk.out (by omega) hmem
              have HN := Lib.hid (show N = 32 * wi + (a + k) by omega)
              have HC := Lib.hid hc
              have hcE : c < E := by omega
              have hE256 : E ≤ 256 := by omega
              clear hN hM hE hc
              dsimp only [encP] at hy
              clear HJk
              gi_wp2_with fail
              refine hR.mono ?_
              rintro e W5 ⟨rfl, hJ5, hz5, hK5⟩
              have hk5 := hkr.trans ⟨hz5, hK5⟩
              have HJ5 := Lib.hid hJ5
              clear hJ5 hK5 hkr q1 hy hR XFk
              gi_wp2
              have hc := HC.out
              go_roundw
              case rel => exact ⟨k + 1, pr ++ [⟨N, gi, bi⟩], by subst hc; go_num, by omega, Lib.hid (by rw [HPR.out, bandPl_succ, List.append_assoc, HN.out]), HJ5, hk5⟩
              case measure => simp [intOf]; omega
            · have hkK : k = K := by omega
              subst hkK
              have hd2 : decide (((a + k : Nat) : Int) < ((a + k : Nat) : Int)) = false := decide_eq_false (by omega)
              gi_wp2
              go_roundw
              case rel => exact ⟨bi + 1, pr, by go_num, by omega, Lib.hid (by rw [HPR.out, HP'.out, HW.out, List.append_assoc]), HJk, hkr⟩
              case measure => simp [intOf]; omega
        · have hd : decide ((bi : Int) < (mx : Int)) = false := decide_eq_false (by omega)
          have hbm : bi = mx := by omega
          subst hbm
          gi_wp2
          go_roundw
          case rel => exact ⟨wi + 1, pre', by go_num, by omega, HP', HJb, hkb⟩
          case measure => simp [intOf]; omega
    · have hd : decide ((wi : Int) < (many : Int)) = false := decide_eq_false (by omega)
      have hwm : wi = many := by omega
      subst hwm
      gi_wp2
      go_end0
      exact ⟨⟨_, rfl⟩, pre, HP.out.trans HPS.out, HJr.out⟩
end Go.Proofs.Ytppfbfiigfjncaa
