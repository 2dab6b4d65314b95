/- reedpiperef12: asked, Window, Analyse, Synth. -/
import Derived.Test.YtcmbbmilldhnnaaRef12e
set_option linter.unusedVariables false
set_option linter.unusedSimpArgs false
namespace Go.Proofs.Ytcmbbmilldhnnaa
open Go.ChangeShapes Go.WideShapes Go.ChangeAt Go.RowKit

theorem zero_range (n : Nat) : zeroL n = (List.range n).map (fun _ => (0 : Int)) := by
  apply List.ext_getElem?
  intro j
  unfold zeroL
  by_cases hj : j < n
  · rw [List.getElem?_replicate_of_lt hj, List.getElem?_map, List.getElem?_range hj]; rfl
  · rw [List.getElem?_eq_none (by rw [List.length_replicate]; omega), List.getElem?_eq_none (by rw [List.length_map, List.length_range]; omega)]
theorem back_256 (z : List Int) (hz : z.length = 256) (hm : ∀ j, -268435455 ≤ z.getD j 0 ∧ z.getD j 0 ≤ 268435455) (W' : World) (q : Option Addr) (d : Nat) (hq : IsInts W' q z) : Calls Try.prog 59 #[.slice q z.length d] W' (RRow (linesI z) W') := by
  have hR := refback_256 z q d hz (fun j _ => hm j) W' hq
  rw [inv_lines_256 _ hz, hz]
  exact hR
theorem back_32 (z : List Int) (hz : z.length = 32) (hm : ∀ j, -268435455 ≤ z.getD j 0 ∧ z.getD j 0 ≤ 268435455) (W' : World) (q : Option Addr) (d : Nat) (hq : IsInts W' q z) : Calls Try.prog 59 #[.slice q 32 d] W' (RRow (linesI z) W') := by
  have hR := refback_32 z q d hz (fun j _ => hm j) W' hq
  rw [inv_lines_32 _ hz]
  exact hR
theorem ref_Numbers (seq was shape : Int) (hs : seq = 0 ∨ seq = 1 ∨ seq = 2 ∨ seq = 3) (h0 : was = 0 ∨ was = 1) (h1 : shape = 0 ∨ shape = 1) (l : List Int) (hl : l.length = 256) (hm : ∀ j, -268435455 ≤ l.getD j 0 ∧ l.getD j 0 ≤ 268435455) (p : Option Addr) (c : Nat) (hc : 256 ≤ c) (w : World) (hI : IsInts w p l) :
    Calls Try.prog 48 #[.int .u8 seq, .int .u8 was, .int .u8 shape, .slice p l.length c] w (RRow (synL (winsL seq was shape) l) w) := by
  by_cases h2 : seq = 2
  · subst h2
    have hw := fun k (hk : k < 8) => shorts_at was shape hk
    have hk32 : ∀ k : Nat, k < 8 → ((l.drop (32 * k)).take 32).length = 32 := fun k hk => by rw [List.length_take, List.length_drop]; omega
    have hkm : ∀ k j : Nat, -268435455 ≤ ((l.drop (32 * k)).take 32).getD j 0 ∧ ((l.drop (32 * k)).take 32).getD j 0 ≤ 268435455 := fun k j => getD_take_drop l _ _ hm j
    have hst : ∀ k : Nat, k ≤ 8 → ∀ n, (synP ((winsL 2 was shape).take k) l).1 n = sumF (addW was shape l n) k ∧ (synP ((winsL 2 was shape).take k) l).2 = l.drop (32 * k) := fun k hk n => syn_sum was shape l n k hk
    have e8 : (winsL 2 was shape).take 8 = winsL 2 was shape := List.take_of_length_le (by rw [wins_count, if_pos rfl]; exact Nat.le_refl _)
    have hyl : ∀ k : Nat, k < 8 → (linesI ((l.drop (32 * k)).take 32)).length = 64 := fun k hk => by unfold linesI; rw [List.length_map, List.length_range, hk32 k hk]
    have key := refnums_short was shape l (fun k => linesI ((l.drop (32 * k)).take 32)) (fun k => littleL k was shape) (fun k => (List.range 512).map (synP ((winsL 2 was shape).take k) l).1) p c hl hc
      (by rw [zero_range]; rfl)
      (Lib.hid (fun k hk => by
        have hs2 := (hst k (by omega) 0).2
        have hp := put_step (p := (112 + 32 * (k : Int), littleL k was shape)) (t := 112 + 32 * k) (H := 32) (synP ((winsL 2 was shape).take k) l) (show (112 + 32 * (k : Int)).toNat = 112 + 32 * k by omega) (little_len k was shape) (by rw [hs2]; exact hk32 k hk) (by omega)
        rw [hs2] at hp
        show (List.range 512).map (synP ((winsL 2 was shape).take (k + 1)) l).1 = putL _ _ _ _ (linesI ((l.drop (32 * k)).take 32)).length
        rw [List.take_add_one, hw k hk]
        simp only [Option.toList_some]
        rw [synP_snoc, hyl k hk]
        exact hp.symm))
      (Lib.hid (fun k hk => ⟨hyl k hk, little_len k was shape⟩))
      (Lib.hid (fun k hk => ⟨by rw [List.length_map, List.length_range], fun j => getD_range (a := -1099511627776) (b := 1099511627776) (fun x hx => by
        obtain ⟨n, _, rfl⟩ := List.mem_map.1 hx
        rw [(hst k hk n).1]
        have := sumW_fit was shape h0 h1 l hl hm n k hk
        omega) (by omega) (by omega) j⟩))
      (Lib.hid (fun k hk W' q d hq => back_32 _ (hk32 k hk) (hkm k) W' q d hq))
      (Lib.hid (fun k _ W' => ref_little k was shape h0 h1 W'))
      (Lib.hid (fun k hk j => linesI_any (.inr (hk32 k hk)) (hkm k) j))
      (Lib.hid (fun k hk j => getD_range (little_range k was shape h0 h1) (by omega) (by omega) j)) w hI
    simp only [e8] at key
    rw [hl]
    exact key
  · have hs' : seq = 0 ∨ seq = 1 ∨ seq = 3 := by omega
    have hw : winsL seq was shape = [(0, winL seq was shape)] := by unfold winsL; rw [if_neg h2]
    have hlen := winL_len seq was shape hs'
    have d2 : (seq == 2) = false := beq_eq_false_iff_ne.2 h2
    have hyl : (linesI l).length = 512 := by unfold linesI; rw [List.length_map, List.length_range, hl]
    have ht : l.take 256 = l := List.take_of_length_le (by omega)
    have hp := put_step (p := (0, winL seq was shape)) (t := 0) (H := 256) (fun _ => 0, l) rfl hlen (by show (l.take 256).length = 256; rw [ht, hl]) (by omega)
    simp only at hp
    rw [ht, ← zero_range] at hp
    have e : synL (winsL seq was shape) l = putL (zeroL 512) (linesI l) (winL seq was shape) 0 (linesI l).length := by
      rw [hw, hyl]
      exact hp.symm
    rw [e]
    exact refnums_long seq was shape d2 (by simp [bne, d2]) l (linesI l) (winL seq was shape) p c (Lib.hid ⟨by rw [hyl, hlen], by rw [hyl]; omega⟩)
      (Lib.hid (fun W' hq => back_256 l hl hm W' p c hq))
      (Lib.hid (fun W' => ref_vals seq was shape hs' h0 h1 W'))
      (Lib.hid (fun j => linesI_any (.inl hl) hm j))
      (Lib.hid (fun j => getD_range (winL_range seq was shape hs' h0 h1) (by omega) (by omega) j)) w hI
def outB (lo hi x : Int) : Bool := decide (x < lo) || decide (hi < x)
theorem askedE_any {seq was shape : Int} {l : List Int} {many : Nat} {lo hi : Int} (hm : 0 < many) (h1 : seq ≤ 3) (h2 : was ≤ 1) (h3 : shape ≤ 1) (h4 : l.length = many) : askedE seq was shape l many lo hi = if l.any (outB lo hi) = true then 2 else 0 := by
  have hz := askedE_zero (seq := seq) (was := was) (shape := shape) (l := l) (many := many) (lo := lo) (hi := hi) hm
  by_cases ha : l.any (outB lo hi) = true
  · rw [if_pos ha]
    have hne : askedE seq was shape l many lo hi ≠ 0 := fun e => by
      have hall := (hz.1 e).2.2.2.2
      obtain ⟨x, hx, hb⟩ := List.any_eq_true.1 ha
      have := hall x hx
      unfold outB at hb
      simp only [Bool.or_eq_true, decide_eq_true_eq] at hb
      omega
    unfold askedE at hne ⊢
    rw [if_neg (show ¬ 3 < seq by omega), if_neg (show ¬ (decide (was ≤ 1) && decide (shape ≤ 1)) = false by simp [h2, h3]), if_neg (show ¬ l.length ≠ many by omega)] at hne ⊢
    split
    · rfl
    · rename_i a
      rw [if_neg a] at hne
      split
      · rfl
      · rename_i b
        rw [if_neg b] at hne
        exact absurd rfl hne
  · rw [if_neg ha]
    refine hz.2 ⟨h1, h2, h3, h4, fun x hx => ?_⟩
    have hf : l.any (outB lo hi) = false := by simpa using ha
    have := List.any_eq_false.1 hf x hx
    unfold outB at this
    simp only [Bool.or_eq_true, decide_eq_true_eq, not_or] at this
    omega
section
variable (seq was shape : Int) (l : List Int) (p : Option Addr) (c : Nat) (many : Int) (lo hi : Int) (w : World)
set_option maxRecDepth 100000 in
theorem rask_1 (d : decide (3 < seq) = true) : Calls Try.prog 47 #[.int .u8 seq, .int .u8 was, .int .u8 shape, .slice p l.length c, .int .i64 many, .int .i64 lo, .int .i64 hi] w (RAsked 2 w) := by
  go_enter Try.func47, Try.ntmps47
  go_wp2
  go_ret
  exact ⟨rfl, rfl⟩
set_option maxRecDepth 100000 in
theorem rask_2 (d : decide (3 < seq) = false) (d2 : decide (1 < was) = true) : Calls Try.prog 47 #[.int .u8 seq, .int .u8 was, .int .u8 shape, .slice p l.length c, .int .i64 many, .int .i64 lo, .int .i64 hi] w (RAsked 2 w) := by
  go_enter Try.func47, Try.ntmps47
  go_wp2
  go_ret
  exact ⟨rfl, rfl⟩
set_option maxRecDepth 100000 in
theorem rask_3 (d : decide (3 < seq) = false) (d2 : decide (1 < was) = false) (d3 : decide (1 < shape) = true) : Calls Try.prog 47 #[.int .u8 seq, .int .u8 was, .int .u8 shape, .slice p l.length c, .int .i64 many, .int .i64 lo, .int .i64 hi] w (RAsked 2 w) := by
  go_enter Try.func47, Try.ntmps47
  go_wp2
  go_ret
  exact ⟨rfl, rfl⟩
set_option maxRecDepth 100000 in
theorem rask_4 (d : decide (3 < seq) = false) (d2 : decide (1 < was) = false) (d3 : decide (1 < shape) = false) (d4 : ((l.length : Int) == many) = false) (d4' : ((l.length : Int) != many) = true) : Calls Try.prog 47 #[.int .u8 seq, .int .u8 was, .int .u8 shape, .slice p l.length c, .int .i64 many, .int .i64 lo, .int .i64 hi] w (RAsked 4 w) := by
  go_enter Try.func47, Try.ntmps47
  go_wp2
  go_ret
  exact ⟨rfl, rfl⟩
set_option maxRecDepth 100000 in
set_option maxHeartbeats 1000000 in
theorem rask_5 (d : decide (3 < seq) = false) (d2 : decide (1 < was) = false) (d3 : decide (1 < shape) = false) (hl : l.length ≤ 9223372036854775807) (hI : IsInts w p l) : Calls Try.prog 47 #[.int .u8 seq, .int .u8 was, .int .u8 shape, .slice p l.length c, .int .i64 (l.length : Nat), .int .i64 lo, .int .i64 hi] w (RAsked (if l.any (outB lo hi) = true then 2 else 0) w) := by
  have HI := Lib.hid hI
  obtain ⟨r, hr⟩ : ∃ r, (if l.any (outB lo hi) = true then (2 : Int) else 0) = r := ⟨_, rfl⟩
  have HE := Lib.hid hr
  rw [hr]
  clear hI hr
  go_enter Try.func47, Try.ntmps47
  go_wp2
  go_loop [15] (fun I => ∃ k : Nat, I = .int .i64 k ∧ k ≤ l.length ∧ Hid (l.any (outB lo hi) = (l.drop k).any (outB lo hi))) (fun I => l.length - (intOf I).toNat)
  case atStart => exact ⟨0, rfl, Nat.zero_le _, Lib.hid (by simp)⟩
  case round =>
    obtain ⟨k, rfl, hk, hany⟩ := hrel
    by_cases hlt : k < l.length
    · have hd0 : decide ((k : Int) < (l.length : Int)) = true := decide_eq_true (by omega)
      obtain ⟨b, off, rfl, _, hc⟩ := HI.out.at hlt
      have h1 := hc k hlt
      have hdr : l.drop k = l.getD k 0 :: l.drop (k + 1) := by rw [List.drop_eq_getElem_cons hlt]; simp [List.getD_eq_getElem?_getD, hlt]
      have hst : Hid (l.any (outB lo hi) = (outB lo hi (l.getD k 0) || (l.drop (k + 1)).any (outB lo hi))) := by
        have := hany.out; rw [hdr, List.any_cons] at this; exact this
      generalize l.getD k 0 = x at h1 hst
      have hkI : (k : Int) < (l.length : Int) := by omega
      clear hc hdr hany HI
      by_cases hx1 : x < lo
      · have e1 : decide (x < lo) = true := decide_eq_true hx1
        have HR : Hid (l.any (outB lo hi) = true) := by
          have := hst.out
          rw [show outB lo hi x = true by unfold outB; simp; omega, Bool.true_or] at this; exact this
        clear hst hx1
        go_wp2
        go_ret
        exact ⟨ret_int (by rw [← HE.out, if_pos HR.out]), rfl⟩
      · have e1 : decide (x < lo) = false := decide_eq_false hx1
        by_cases hx2 : hi < x
        · have e2 : decide (hi < x) = true := decide_eq_true hx2
          have HR : Hid (l.any (outB lo hi) = true) := by
            have := hst.out
            rw [show outB lo hi x = true by unfold outB; simp; omega, Bool.true_or] at this; exact this
          clear hst hx1 hx2
          go_wp2
          go_ret
          exact ⟨ret_int (by rw [← HE.out, if_pos HR.out]), rfl⟩
        · have e2 : decide (hi < x) = false := decide_eq_false hx2
          have HR : Hid (l.any (outB lo hi) = (l.drop (k + 1)).any (outB lo hi)) := by
            have := hst.out
            rw [show outB lo hi x = false by unfold outB; simp; omega, Bool.false_or] at this; exact this
          clear hst hx1 hx2
          go_wp2
          go_round
          case rel => exact ⟨k + 1, by go_num, by omega, HR⟩
          case measure => simp [intOf]; omega
    · have hkM : k = l.length := by omega
      subst hkM
      have hd : decide ((l.length : Int) < (l.length : Int)) = false := by simp
      have HR : Hid (l.any (outB lo hi) = false) := by
        have := hany.out
        rw [List.drop_length, List.any_nil] at this; exact this
      clear hany hlt
      go_wp2
      go_ret
      exact ⟨ret_int (by rw [← HE.out, if_neg (by rw [HR.out]; simp)]), rfl⟩
end
theorem ref_asked (seq was shape : Int) (l : List Int) (p : Option Addr) (c many : Nat) (hm : 0 < many) (lo hi : Int) (hl : l.length ≤ 9223372036854775807) (w : World) (hI : IsInts w p l) : Calls Try.prog 47 #[.int .u8 seq, .int .u8 was, .int .u8 shape, .slice p l.length c, .int .i64 many, .int .i64 lo, .int .i64 hi] w (RAsked (askedE seq was shape l many lo hi) w) := by
  by_cases h1 : 3 < seq
  · have : askedE seq was shape l many lo hi = 2 := by unfold askedE; rw [if_pos h1]
    rw [this]; exact rask_1 seq was shape l p c many lo hi w (decide_eq_true h1)
  by_cases h2 : 1 < was
  · have : askedE seq was shape l many lo hi = 2 := by unfold askedE; rw [if_neg h1, if_pos (by simp; intro h; omega)]
    rw [this]; exact rask_2 seq was shape l p c many lo hi w (decide_eq_false h1) (decide_eq_true h2)
  by_cases h3 : 1 < shape
  · have : askedE seq was shape l many lo hi = 2 := by unfold askedE; rw [if_neg h1, if_pos (by simp; intro h; omega)]
    rw [this]; exact rask_3 seq was shape l p c many lo hi w (decide_eq_false h1) (decide_eq_false h2) (decide_eq_true h3)
  by_cases h4 : l.length = many
  · rw [askedE_any hm (by omega) (by omega) (by omega) h4]
    subst h4
    exact rask_5 seq was shape l p c lo hi w (decide_eq_false h1) (decide_eq_false h2) (decide_eq_false h3) hl hI
  · have : askedE seq was shape l many lo hi = 4 := by unfold askedE; rw [if_neg h1, if_neg (by simp; omega), if_pos h4]
    have d4 : ((l.length : Int) == (many : Int)) = false := beq_eq_false_iff_ne.2 (by omega)
    rw [this]; exact rask_4 seq was shape l p c many lo hi w (decide_eq_false h1) (decide_eq_false h2) (decide_eq_false h3) d4 (by simp [bne, d4])
set_option maxRecDepth 100000 in
theorem ref_syn (seq was shape E : Int) (R : List Int) (n c : Nat) (p : Option Addr) (w : World) (HA : Hid (∀ W, Below w.heap.size w W → Calls Try.prog 47 #[.int .u8 seq, .int .u8 was, .int .u8 shape, .slice p n c, .int .i64 256, .int .i64 (-268435455), .int .i64 268435455] W (RAsked E W)))
    (HL : Hid (E = 0 → ∀ W, Below w.heap.size w W → Calls Try.prog 48 #[.int .u8 seq, .int .u8 was, .int .u8 shape, .slice p n c] W (RRow R W))) : Calls Try.prog 31 #[.int .u8 seq, .int .u8 was, .int .u8 shape, .slice p n c] w (RRowE (if E = 0 then (R, 0) else ([], E)) w) := by
  have hb := Below.refl w.heap.size w
  by_cases hE : E = 0
  · have HL2 := Lib.hid (HL.out hE)
    rw [if_pos hE]
    subst hE
    clear HL
    go_enter Try.func31, Try.ntmps31
    go_wp2_with fail
    refine (HA.out _ hb).mono ?_
    rintro e w1 ⟨rfl, rfl⟩
    go_wp2_with fail
    refine (HL2.out _ hb).mono ?_
    rintro e w1 ⟨v, rfl, hO, hB⟩
    have HO := Lib.hid hO
    clear hO
    go_wp2
    go_ret2
    exact ⟨_, rfl, HO.out, hB⟩
  · rw [if_neg hE]
    have d1 : (E == 0) = false := beq_eq_false_iff_ne.2 hE
    have d2 : (E != 0) = true := by simp [bne, d1]
    clear HL
    go_enter Try.func31, Try.ntmps31
    go_wp2_with fail
    refine (HA.out _ hb).mono ?_
    rintro e w1 ⟨rfl, rfl⟩
    go_wp2
    go_ret2
    exact bad_row ⟨rfl, rfl⟩
theorem refsyn_any (seq was shape : Int) (hs : 0 ≤ seq) (h0 : 0 ≤ was) (h1 : 0 ≤ shape) (lines : List Int) (hl : lines.length ≤ 9223372036854775807) (p : Option Addr) (c : Nat) (hc : lines.length ≤ c) (w : World) (hI : IsInts w p lines) :
    Calls Try.prog 31 #[.int .u8 seq, .int .u8 was, .int .u8 shape, .slice p lines.length c] w (RRowE (synN seq was shape lines) w) :=
  ref_syn seq was shape (synE seq was shape lines) _ lines.length c p w (Lib.hid (fun W hW => ref_asked seq was shape lines p c 256 (by omega) (-268435455) 268435455 hl W (hI.keep hW)))
    (Lib.hid (fun h W hW => by
      obtain ⟨a1, a2, a3, a4, a5⟩ := (askedE_zero (by omega)).1 h
      exact ref_Numbers seq was shape (by omega) (by omega) (by omega) lines a4 (fun j => getD_range a5 (by omega) (by omega) j) p c (by omega) W (hI.keep hW)))
end Go.Proofs.Ytcmbbmilldhnnaa
