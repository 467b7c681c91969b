/- The law of powers: the walks. No condition. -/
import Derived.Test.YtebbekdebanabaaDoorYY11
import Derived.Test.YtebbekdebanabaaDoorYN11
import Derived.Test.YtebbekdebanabaaDoorYY8

set_option linter.unusedSimpArgs false
set_option linter.unusedVariables false
set_option maxHeartbeats 4000000
set_option maxRecDepth 8000
namespace Go.Proofs.YtebbekdebanabaaDoor
open Go Go.RowKit Go.PP Go.Dm Go.Bn
theorem lenBl {m k : Nat} (h : blen m ≤ 32 * k) : (dig BW m).length ≤ k := len_bits (Nat.lt_of_lt_of_le (blen_up m) (Nat.pow_le_pow_right (by decide) h))
theorem len_two2 {j : Nat} (h : j ≤ 65536) : (dig BW (2 ^ j)).length ≤ 100000 := by
  rw [(pow_dig j).2]
  omega
theorem two_blen (k : Nat) : blen (2 ^ k) = k + 1 := blen_of (Nat.le_refl _) (by rw [Nat.pow_succ]; have := Nat.pow_pos (n := k) (show 0 < 2 by decide); omega)
theorem pow_low_bits {x n : Nat} (h : x ≠ 0) (hn : n ≠ 0) : (blen x - 1) * n < blen (x ^ n) := by
  have h1 := blen_low h
  have h2 : 2 ^ ((blen x - 1) * n) ≤ x ^ n := by
    rw [Nat.pow_mul]
    exact Nat.pow_le_pow_left h1 n
  exact blen_ge h2
theorem pow_up_bits {x n : Nat} (hn : n ≠ 0) : blen (x ^ n) ≤ blen x * n := by
  refine blen_le ?_
  rw [Nat.pow_mul]
  exact Nat.pow_lt_pow_left (blen_up x) hn
theorem w10_1 (la : List UInt8) (hl : la.length ≤ 20) (x k : Nat) (fa : DFun Tryd.prog 19 [byD la] (natD x)) (hk : k ≤ 30) (hx : x < 2 ^ 67) (hx10 : x < 10 ^ 20) (ga : DFun Tryd.prog 20 [byD la] (refD x)) : DFun Tryd.prog 10 [byD la, .flat (.int .i64 (k : Nat))] (.flat (.bool true)) := by
  have lx := lenB hx (by decide)
  have p1 := pow_few x k hx (by omega)
  have lp := lenC (blen_pow (e := k) hx) (by omega)
  have s1 := string_d (x ^ k) lp
  have hd : ∀ i, i ≤ k → (dig 10 (x ^ i)).length ≤ 90000 := fun i hi => by
    by_cases h0 : i = 0
    · subst h0
      rw [Nat.pow_zero]
      exact dLen (k := 1) (by decide) (by decide)
    · have : x ^ i < 10 ^ (20 * i) := by
        rw [Nat.pow_mul]
        exact Nat.pow_lt_pow_left hx10 h0
      exact dLen this (by omega)
  have q1 := power10_d x k hd (dLen hx10 (by decide)) (by omega)
  have t1 := text_d (x ^ k) (by have := hd k (Nat.le_refl _); omega)
  clear hd hx10 lp
  generalize Lib.decDigits (x ^ k) = sa at *
  generalize x ^ k = p at *
  have r1 : sa = sa := rfl
  have hkn := known_d
  have h2 := pow2_d k (by omega)
  have l2 := len_two2 (j := k) (by omega)
  have h3 := bitlen_d (2 ^ k) l2
  rw [two_blen] at h3
  have h3 : DFun Tryd.prog 32 [natD (2 ^ k)] (.flat (.int .i64 ((k : Int) + 1))) := h3
  have h4 := bit_w (2 ^ k) k l2 (by omega)
  rw [Nat.testBit_two_pow_self] at h4
  clear l2
  generalize 2 ^ k = two at *
  refine DFun.enterA Tryd.func10 Tryd.ntmps10 ?_
  refine DW.walkTo 5 ?_
  refine DW.regR ?_
  apply DC.is_move
  refine DC.k_move ?_
  apply DC.is_eql
  refine DC.k_eql ?_
  apply DC.is_move
  refine DC.k_move ?_
  apply DC.is_geq
  refine DC.k_geq ?_
  apply DC.is_move
  refine DC.k_move ?_
  apply DC.is_move
  refine DC.k_move ?_
  apply DC.is_lss
  refine DC.k_lss ?_
  rw [decide_eq_true (show (k : Int) < 65536 by omega)]
  refine DC.walkTo 7 ?_
  refine DW.walk ?_
  exact ⟨.inr rfl, ResOk.one [] rfl rfl trivial (by rw [decide_eq_true (rfl : sa = sa)]; exact Vw.pers rfl)⟩
theorem w10_2a (la : List UInt8) (hl : la.length ≤ 20) (x k : Nat) (fa : DFun Tryd.prog 19 [byD la] (natD x)) (hk : k < 65536) (hk3 : 30 < k) (lx : (dig BW x).length ≤ 100000) (hb : blen x < 2) : DFun Tryd.prog 10 [byD la, .flat (.int .i64 (k : Nat))] (.flat (.bool true)) := by
  have p1 := pow_low x k lx (by omega) hb
  have c1 := bitlen_d x lx
  have e1 := eq_self x (by omega)
  generalize blen x = b at *
  have hkn := known_d
  have h2 := pow2_d k (by omega)
  have l2 := len_two2 (j := k) (by omega)
  have h3 := bitlen_d (2 ^ k) l2
  rw [two_blen] at h3
  have h3 : DFun Tryd.prog 32 [natD (2 ^ k)] (.flat (.int .i64 ((k : Int) + 1))) := h3
  have h4 := bit_w (2 ^ k) k l2 (by omega)
  rw [Nat.testBit_two_pow_self] at h4
  clear l2
  generalize 2 ^ k = two at *
  refine DFun.enterA Tryd.func10 Tryd.ntmps10 ?_
  refine DW.walkTo 5 ?_
  refine DW.regR ?_
  apply DC.is_move
  refine DC.k_move ?_
  apply DC.is_eql
  refine DC.k_eql ?_
  apply DC.is_move
  refine DC.k_move ?_
  apply DC.is_geq
  refine DC.k_geq ?_
  apply DC.is_move
  refine DC.k_move ?_
  apply DC.is_move
  refine DC.k_move ?_
  apply DC.is_lss
  refine DC.k_lss ?_
  rw [decide_eq_true (show (k : Int) < 65536 by omega)]
  refine DC.walkTo 7 ?_
  refine DW.walk ?_
  exact ⟨.inr rfl, ResOk.one [] rfl rfl trivial (Vw.pers rfl)⟩
theorem w10_3a (la : List UInt8) (hl : la.length ≤ 20) (x k : Nat) (fa : DFun Tryd.prog 19 [byD la] (natD x)) (hk : k < 65536) (hk3 : 30 < k) (lx : (dig BW x).length ≤ 100000) (hb : 2 ≤ blen x) (hb2 : blen x ≤ 67) (hf : 65536 ≤ (blen x - 1) * k) : DFun Tryd.prog 10 [byD la, .flat (.int .i64 (k : Nat))] (.flat (.bool true)) := by
  have p1 := pow_far x k lx hb (.inr ⟨by omega, hf⟩) (by omega)
  have c1 := bitlen_d x lx
  have z0 := isz_0
  have hM := Nat.mul_le_mul (show blen x - 1 ≤ 66 by omega) (show k ≤ 65536 by omega)
  have eM : (((blen x - 1) * k : Nat) : Int) = ((blen x : Int) - 1) * (k : Int) := by rw [Int.natCast_mul, show ((blen x - 1 : Nat) : Int) = (blen x : Int) - 1 by omega]
  have hX : 65536 ≤ ((blen x : Int) - 1) * (k : Int) ∧ ((blen x : Int) - 1) * (k : Int) ≤ 66 * 65536 := by omega
  clear hM eM hf
  generalize blen x = b at *
  have hkn := known_d
  have h2 := pow2_d k (by omega)
  have l2 := len_two2 (j := k) (by omega)
  have h3 := bitlen_d (2 ^ k) l2
  rw [two_blen] at h3
  have h3 : DFun Tryd.prog 32 [natD (2 ^ k)] (.flat (.int .i64 ((k : Int) + 1))) := h3
  have h4 := bit_w (2 ^ k) k l2 (by omega)
  rw [Nat.testBit_two_pow_self] at h4
  clear l2
  generalize 2 ^ k = two at *
  refine DFun.enterA Tryd.func10 Tryd.ntmps10 ?_
  refine DW.walkTo 5 ?_
  refine DW.regR ?_
  apply DC.is_move
  refine DC.k_move ?_
  apply DC.is_eql
  refine DC.k_eql ?_
  apply DC.is_move
  refine DC.k_move ?_
  apply DC.is_geq
  refine DC.k_geq ?_
  apply DC.is_move
  refine DC.k_move ?_
  apply DC.is_move
  refine DC.k_move ?_
  apply DC.is_lss
  refine DC.k_lss ?_
  rw [decide_eq_true (show (k : Int) < 65536 by omega)]
  refine DC.walkTo 7 ?_
  refine DW.walk ?_
  exact ⟨.inr rfl, ResOk.one [] rfl rfl trivial (Vw.pers rfl)⟩
theorem w10_2b (la : List UInt8) (hl : la.length ≤ 20) (x k : Nat) (fa : DFun Tryd.prog 19 [byD la] (natD x)) (hk : 65536 ≤ k) (hk63 : k < 9223372036854775808) (hk2 : k ≤ 1048576) (hk3 : 30 < k) (lx : (dig BW x).length ≤ 100000) (hb : blen x < 2) : DFun Tryd.prog 10 [byD la, .flat (.int .i64 (k : Nat))] (.flat (.bool true)) := by
  have p1 := pow_low x k lx (by omega) hb
  have c1 := bitlen_d x lx
  have e1 := eq_self x (by omega)
  generalize blen x = b at *
  have hkn := known_d
  have h2 := pow2_no (k : Int) (.inr (by omega))
  have z0 := isz_0
  refine DFun.enterA Tryd.func10 Tryd.ntmps10 ?_
  refine DW.walkTo 5 ?_
  refine DW.regR ?_
  apply DC.is_move
  refine DC.k_move ?_
  apply DC.is_eql
  refine DC.k_eql ?_
  apply DC.is_move
  refine DC.k_move ?_
  apply DC.is_geq
  refine DC.k_geq ?_
  apply DC.is_move
  refine DC.k_move ?_
  apply DC.is_move
  refine DC.k_move ?_
  apply DC.is_lss
  refine DC.k_lss ?_
  rw [decide_eq_false (show ¬ (k : Int) < 65536 by omega)]
  refine DC.walkTo 7 ?_
  refine DW.walk ?_
  exact ⟨.inr rfl, ResOk.one [] rfl rfl trivial (Vw.pers rfl)⟩
theorem w10_3b (la : List UInt8) (hl : la.length ≤ 20) (x k : Nat) (fa : DFun Tryd.prog 19 [byD la] (natD x)) (hk : 65536 ≤ k) (hk63 : k < 9223372036854775808) (hk3 : 30 < k) (lx : (dig BW x).length ≤ 100000) (hb : 2 ≤ blen x) (hb2 : blen x ≤ 67)  : DFun Tryd.prog 10 [byD la, .flat (.int .i64 (k : Nat))] (.flat (.bool true)) := by
  have p1 := pow_far x k lx hb (by
      rcases Nat.lt_or_ge 65536 k with h | h
      · exact .inl h
      · exact .inr ⟨h, by have := Nat.mul_le_mul (show 1 ≤ blen x - 1 by omega) hk; omega⟩) (by omega)
  have c1 := bitlen_d x lx
  have hX : k ≤ 65536 → 65536 ≤ ((blen x : Int) - 1) * (k : Int) ∧ ((blen x : Int) - 1) * (k : Int) ≤ 66 * 65536 := fun h => by
    have hM := Nat.mul_le_mul (show blen x - 1 ≤ 66 by omega) h
    have hM2 := Nat.mul_le_mul (show 1 ≤ blen x - 1 by omega) hk
    have eM : (((blen x - 1) * k : Nat) : Int) = ((blen x : Int) - 1) * (k : Int) := by rw [Int.natCast_mul, show ((blen x - 1 : Nat) : Int) = (blen x : Int) - 1 by omega]
    omega
  generalize blen x = b at *
  rcases Nat.lt_or_ge 65536 k with h65 | h65
  · clear hX
    rcases Nat.lt_or_ge 1048576 k with hM1 | hM1
    · have hn1 : True := trivial
      have hkn := known_d
      have h2 := pow2_no (k : Int) (.inr (by omega))
      have z0 := isz_0
      refine DFun.enterA Tryd.func10 Tryd.ntmps10 ?_
      refine DW.walkTo 5 ?_
      refine DW.regR ?_
      apply DC.is_move
      refine DC.k_move ?_
      apply DC.is_eql
      refine DC.k_eql ?_
      apply DC.is_move
      refine DC.k_move ?_
      apply DC.is_geq
      refine DC.k_geq ?_
      apply DC.is_move
      refine DC.k_move ?_
      apply DC.is_move
      refine DC.k_move ?_
      apply DC.is_lss
      refine DC.k_lss ?_
      rw [decide_eq_false (show ¬ (k : Int) < 65536 by omega)]
      refine DC.walkTo 7 ?_
      refine DW.walk ?_
      exact ⟨.inr rfl, ResOk.one [] rfl rfl trivial (Vw.pers rfl)⟩
    · have hn1 : True := trivial
      have hkn := known_d
      have h2 := pow2_no (k : Int) (.inr (by omega))
      have z0 := isz_0
      refine DFun.enterA Tryd.func10 Tryd.ntmps10 ?_
      refine DW.walkTo 5 ?_
      refine DW.regR ?_
      apply DC.is_move
      refine DC.k_move ?_
      apply DC.is_eql
      refine DC.k_eql ?_
      apply DC.is_move
      refine DC.k_move ?_
      apply DC.is_geq
      refine DC.k_geq ?_
      apply DC.is_move
      refine DC.k_move ?_
      apply DC.is_move
      refine DC.k_move ?_
      apply DC.is_lss
      refine DC.k_lss ?_
      rw [decide_eq_false (show ¬ (k : Int) < 65536 by omega)]
      refine DC.walkTo 7 ?_
      refine DW.walk ?_
      exact ⟨.inr rfl, ResOk.one [] rfl rfl trivial (Vw.pers rfl)⟩
  · have hX := hX h65
    have hkn := known_d
    have h2 := pow2_no (k : Int) (.inr (by omega))
    have z0 := isz_0
    refine DFun.enterA Tryd.func10 Tryd.ntmps10 ?_
    refine DW.walkTo 5 ?_
    refine DW.regR ?_
    apply DC.is_move
    refine DC.k_move ?_
    apply DC.is_eql
    refine DC.k_eql ?_
    apply DC.is_move
    refine DC.k_move ?_
    apply DC.is_geq
    refine DC.k_geq ?_
    apply DC.is_move
    refine DC.k_move ?_
    apply DC.is_move
    refine DC.k_move ?_
    apply DC.is_lss
    refine DC.k_lss ?_
    rw [decide_eq_false (show ¬ (k : Int) < 65536 by omega)]
    refine DC.walkTo 7 ?_
    refine DW.walk ?_
    exact ⟨.inr rfl, ResOk.one [] rfl rfl trivial (Vw.pers rfl)⟩
theorem w10_4 (la : List UInt8) (hl : la.length ≤ 20) (x k : Nat) (fa : DFun Tryd.prog 19 [byD la] (natD x)) (hk : k < 65536) (hk3 : 30 < k) (lx : (dig BW x).length ≤ 100000) (hb : 2 ≤ blen x) (hb2 : blen x ≤ 67) (hf : (blen x - 1) * k < 65536) : DFun Tryd.prog 10 [byD la, .flat (.int .i64 (k : Nat))] (.flat (.bool true)) := by
  have p1 := pow_main x k (by omega) hb (by omega) hf
  have c1 := bitlen_d x lx
  have z0 := isz_0
  have hx0 : x ≠ 0 := fun e => by subst e; rw [blen_zero] at hb; omega
  have lo := pow_low_bits hx0 (show k ≠ 0 by omega)
  have up := pow_up_bits (x := x) (show k ≠ 0 by omega)
  have eM : (((blen x - 1) * k : Nat) : Int) = ((blen x : Int) - 1) * (k : Int) := by rw [Int.natCast_mul, show ((blen x - 1 : Nat) : Int) = (blen x : Int) - 1 by omega]
  have eN : ((blen x * k : Nat) : Int) = (blen x : Int) * (k : Int) := Int.natCast_mul ..
  have hN := Nat.mul_le_mul hb2 (show k ≤ 65536 by omega)
  have hX : 0 ≤ ((blen x : Int) - 1) * (k : Int) ∧ ((blen x : Int) - 1) * (k : Int) < 65536 := by omega
  have hY : 0 ≤ (blen x : Int) * (k : Int) ∧ (blen x : Int) * (k : Int) ≤ 67 * 65536 := by omega
  by_cases hbig : 65536 < blen (x ^ k)
  · rw [if_pos hbig] at p1
    have hZ : 65536 < (blen x : Int) * (k : Int) := by omega
    clear eM eN hN lo up hf hx0 hbig
    generalize blen x = b at *
    have hkn := known_d
    have h2 := pow2_d k (by omega)
    have l2 := len_two2 (j := k) (by omega)
    have h3 := bitlen_d (2 ^ k) l2
    rw [two_blen] at h3
    have h3 : DFun Tryd.prog 32 [natD (2 ^ k)] (.flat (.int .i64 ((k : Int) + 1))) := h3
    have h4 := bit_w (2 ^ k) k l2 (by omega)
    rw [Nat.testBit_two_pow_self] at h4
    clear l2
    generalize 2 ^ k = two at *
    refine DFun.enterA Tryd.func10 Tryd.ntmps10 ?_
    refine DW.walkTo 5 ?_
    refine DW.regR ?_
    apply DC.is_move
    refine DC.k_move ?_
    apply DC.is_eql
    refine DC.k_eql ?_
    apply DC.is_move
    refine DC.k_move ?_
    apply DC.is_geq
    refine DC.k_geq ?_
    apply DC.is_move
    refine DC.k_move ?_
    apply DC.is_move
    refine DC.k_move ?_
    apply DC.is_lss
    refine DC.k_lss ?_
    rw [decide_eq_true (show (k : Int) < 65536 by omega)]
    refine DC.walkTo 7 ?_
    refine DW.walk ?_
    exact ⟨.inr rfl, ResOk.one [] rfl rfl trivial (Vw.pers rfl)⟩
  · rw [if_neg hbig] at p1
    have c2 := bitlen_d (x ^ k) (Nat.le_trans (lenBl (k := 2048) (by omega)) (by decide))
    have lo : ((blen x : Int) - 1) * (k : Int) < (blen (x ^ k) : Int) := by omega
    have up : (blen (x ^ k) : Int) ≤ (blen x : Int) * (k : Int) := by omega
    clear eM eN hN hf hx0
    generalize blen x = b at *
    generalize x ^ k = p at *
    generalize blen p = bp at *
    by_cases hfit : (b : Int) * (k : Int) ≤ 65536
    · have hn1 : True := trivial
      have hkn := known_d
      have h2 := pow2_d k (by omega)
      have l2 := len_two2 (j := k) (by omega)
      have h3 := bitlen_d (2 ^ k) l2
      rw [two_blen] at h3
      have h3 : DFun Tryd.prog 32 [natD (2 ^ k)] (.flat (.int .i64 ((k : Int) + 1))) := h3
      have h4 := bit_w (2 ^ k) k l2 (by omega)
      rw [Nat.testBit_two_pow_self] at h4
      clear l2
      generalize 2 ^ k = two at *
      refine DFun.enterA Tryd.func10 Tryd.ntmps10 ?_
      refine DW.walkTo 5 ?_
      refine DW.regR ?_
      apply DC.is_move
      refine DC.k_move ?_
      apply DC.is_eql
      refine DC.k_eql ?_
      apply DC.is_move
      refine DC.k_move ?_
      apply DC.is_geq
      refine DC.k_geq ?_
      apply DC.is_move
      refine DC.k_move ?_
      apply DC.is_move
      refine DC.k_move ?_
      apply DC.is_lss
      refine DC.k_lss ?_
      rw [decide_eq_true (show (k : Int) < 65536 by omega)]
      refine DC.walkTo 7 ?_
      refine DW.walk ?_
      exact ⟨.inr rfl, ResOk.one [] rfl rfl trivial (by rw [decide_eq_true (up)]; exact Vw.pers rfl)⟩
    · have hn1 : True := trivial
      have hkn := known_d
      have h2 := pow2_d k (by omega)
      have l2 := len_two2 (j := k) (by omega)
      have h3 := bitlen_d (2 ^ k) l2
      rw [two_blen] at h3
      have h3 : DFun Tryd.prog 32 [natD (2 ^ k)] (.flat (.int .i64 ((k : Int) + 1))) := h3
      have h4 := bit_w (2 ^ k) k l2 (by omega)
      rw [Nat.testBit_two_pow_self] at h4
      clear l2
      generalize 2 ^ k = two at *
      refine DFun.enterA Tryd.func10 Tryd.ntmps10 ?_
      refine DW.walkTo 5 ?_
      refine DW.regR ?_
      apply DC.is_move
      refine DC.k_move ?_
      apply DC.is_eql
      refine DC.k_eql ?_
      apply DC.is_move
      refine DC.k_move ?_
      apply DC.is_geq
      refine DC.k_geq ?_
      apply DC.is_move
      refine DC.k_move ?_
      apply DC.is_move
      refine DC.k_move ?_
      apply DC.is_lss
      refine DC.k_lss ?_
      rw [decide_eq_true (show (k : Int) < 65536 by omega)]
      refine DC.walkTo 7 ?_
      refine DW.walk ?_
      exact ⟨.inr rfl, ResOk.one [] rfl rfl trivial (Vw.pers rfl)⟩
theorem w10_6 (la : List UInt8) (hl : la.length ≤ 20) (x k : Nat) (fa : DFun Tryd.prog 19 [byD la] (natD x)) (hk : 1048576 < k) (hk63 : k < 9223372036854775808) (lx : (dig BW x).length ≤ 100000) (hb : blen x < 2) : DFun Tryd.prog 10 [byD la, .flat (.int .i64 (k : Nat))] (.flat (.bool true)) := by
  have c1 := bitlen_d x lx
  generalize blen x = b at *
  have hkn := known_d
  have h2 := pow2_no (k : Int) (.inr (by omega))
  have z0 := isz_0
  refine DFun.enterA Tryd.func10 Tryd.ntmps10 ?_
  refine DW.walkTo 5 ?_
  refine DW.regR ?_
  apply DC.is_move
  refine DC.k_move ?_
  apply DC.is_eql
  refine DC.k_eql ?_
  apply DC.is_move
  refine DC.k_move ?_
  apply DC.is_geq
  refine DC.k_geq ?_
  apply DC.is_move
  refine DC.k_move ?_
  apply DC.is_move
  refine DC.k_move ?_
  apply DC.is_lss
  refine DC.k_lss ?_
  rw [decide_eq_false (show ¬ (k : Int) < 65536 by omega)]
  refine DC.walkTo 7 ?_
  refine DW.walk ?_
  exact ⟨.inr rfl, ResOk.one [] rfl rfl trivial (Vw.pers rfl)⟩
theorem w10_0 (la : List UInt8) (hl : la.length ≤ 20) (x : Nat) (z : Int) (hz : z < 0) (fa : DFun Tryd.prog 19 [byD la] (natD x)) (hz2 : -9223372036854775808 ≤ z) : DFun Tryd.prog 10 [byD la, .flat (.int .i64 z)] (.flat (.bool true)) := by
  have hkn := known_d
  have h2 := pow2_no z (.inl hz)
  have z0 := isz_0
  have p1 := pow_neg x z hz
  refine DFun.enterA Tryd.func10 Tryd.ntmps10 ?_
  refine DW.walk ?_
  exact ⟨.inr rfl, ResOk.one [] rfl rfl trivial (Vw.pers rfl)⟩
end Go.Proofs.YtebbekdebanabaaDoor
