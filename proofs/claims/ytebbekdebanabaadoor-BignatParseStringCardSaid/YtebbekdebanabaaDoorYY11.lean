/- The laws of powers, over data. No condition. -/
import Derived.Test.YtebbekdebanabaaDoorYY0

set_option linter.unusedSimpArgs false
set_option linter.unusedVariables false
set_option maxHeartbeats 4000000
set_option maxRecDepth 8000
namespace Go.Proofs.YtebbekdebanabaaDoor
open Go Go.RowKit Go.PP Go.Dm Go.Bn
theorem top_bit {n : Nat} (h : n ≠ 0) : n.testBit (blen n - 1) = true := by
  have h1 := blen_low h
  have h2 := blen_up n
  have h3 := blen_ne h
  rw [Nat.testBit_eq_decide_div_mod_eq, decide_eq_true_eq]
  have h4 : 2 ^ blen n = 2 ^ (blen n - 1) * 2 := by rw [← Nat.pow_succ, show (blen n - 1).succ = blen n by omega]
  have h5 : n / 2 ^ (blen n - 1) < 2 := (Nat.div_lt_iff_lt_mul (Nat.pow_pos (by decide))).2 (by omega)
  have h6 : 1 ≤ n / 2 ^ (blen n - 1) := (Nat.one_le_div_iff (Nat.pow_pos (by decide))).2 h1
  omega
theorem pow_few (x n : Nat) (hx : x < 2 ^ 67) (hn : n ≤ 80) : DFun Tryd.prog 43 [natD x, .flat (.int .i64 (n : Nat))] (.tup [natD (x ^ n), .flat (.int .i64 0)]) := by
  have lx : (dig BW x).length ≤ 100000 := lenB hx (by decide)
  have hb := blen_le hx
  by_cases h0 : n = 0
  · subst h0
    exact pow_0 x
  · by_cases h2 : blen x < 2
    · have e : x ^ n = x := by
        have h3 : x < 2 := by
          have := blen_up x
          exact Nat.lt_of_lt_of_le this (Nat.pow_le_pow_right (by decide) (show blen x ≤ 1 by omega))
        rcases Nat.lt_or_ge x 1 with h | h
        · obtain rfl : x = 0 := by omega
          exact Nat.zero_pow (by omega)
        · obtain rfl : x = 1 := by omega
          exact Nat.one_pow _
      rw [e]
      exact pow_low x n lx (by omega) h2
    · have hm : (blen x - 1) * n ≤ 66 * 80 := Nat.mul_le_mul (by omega) hn
      have h := pow_main x n (by omega) (by omega) (by omega) (by omega)
      have hp := blen_pow (e := n) hx
      rw [if_neg (by omega)] at h
      exact h
theorem law11_n (x : D) (n i k : Nat) (hi : i < 256) (hk : k < 256) (lx : List UInt8) (hx : x = byD lx) (hl : lx.length ≤ 20) (fa : DFun Tryd.prog 19 [x] (natD n)) (hn : n < 2 ^ 67) : DFun Tryd.prog 11 [x, .flat (.int .u8 (i : Nat)), .flat (.int .u8 (k : Nat))] (.flat (.bool true)) := by
  subst hx
  have hkn := known_d
  have hi2 : i % 40 < 40 := Nat.mod_lt _ (by decide)
  have hk2 : k % 40 < 40 := Nat.mod_lt _ (by decide)
  have B : ∀ {e : Nat}, e ≤ 80 → blen (n ^ e) ≤ 5361 := fun {e} he => by
    have := blen_pow (e := e) hn
    omega
  have p1 := pow_few n (i % 40) hn (by omega)
  have p2 := pow_few n (k % 40) hn (by omega)
  have p3 := pow_few n (i % 40 + k % 40) hn (by omega)
  have e0 : ((i % 40 + k % 40 : Nat) : Int) = ((i % 40 : Nat) : Int) + ((k % 40 : Nat) : Int) := Int.natCast_add _ _
  rw [e0] at p3
  have l1 := lenC (B (e := i % 40) (by omega)) (by decide)
  have l2 := lenC (B (e := k % 40) (by omega)) (by decide)
  have b3 := B (e := i % 40 + k % 40) (by omega)
  have l3 := lenC b3 (by decide)
  have m1 := mul_n (n ^ (i % 40)) (n ^ (k % 40)) l1 l2
  rw [← Nat.pow_add] at m1
  have e1 := eq_self (n ^ (i % 40 + k % 40)) (by omega)
  have c1 := bitlen_d (n ^ (i % 40 + k % 40)) l3
  have hj := b3
  have d1 := pow2_d (blen (n ^ (i % 40 + k % 40))) (by omega)
  have up := blen_up (n ^ (i % 40 + k % 40))
  have lj := len_two (j := blen (n ^ (i % 40 + k % 40))) (by omega)
  have q1 := cmp_less (by omega) (by omega) up
  have t1 := bit_w (n ^ (i % 40 + k % 40)) (blen (n ^ (i % 40 + k % 40))) l3 (by omega)
  rw [Nat.testBit_lt_two_pow up] at t1
  have t2 := bit_neg (n ^ (i % 40 + k % 40)) (-1) (by decide)
  clear B b3 e0
  have w1 : IntKind.i64.wrap ((i % 40 : Nat) : Int) = ((i % 40 : Nat) : Int) := w64 (by omega) (by omega)
  have w2 : IntKind.i64.wrap ((k % 40 : Nat) : Int) = ((k % 40 : Nat) : Int) := w64 (by omega) (by omega)
  have w3 : IntKind.i64.wrap (((i % 40 : Nat) : Int) + ((k % 40 : Nat) : Int)) = ((i % 40 : Nat) : Int) + ((k % 40 : Nat) : Int) := w64 (by omega) (by omega)
  generalize n ^ (i % 40 + k % 40) = r at *
  generalize n ^ (i % 40) = A at *
  generalize n ^ (k % 40) = C at *
  by_cases h0 : r = 0
  · have z0 := isz_0
    subst h0
    rw [blen_zero] at c1 d1 lj q1 t1
    clear up hj lj
    have c1 : DFun Tryd.prog 32 [natD 0] (.flat (.int .i64 0)) := c1
    have d1 : DFun Tryd.prog 36 [.flat (.int .i64 0)] (.tup [natD 1, .flat (.int .i64 0)]) := d1
    have q1 : DFun Tryd.prog 30 [natD 0, natD 1] (.flat (.int .i64 (-1))) := q1
    have t1 : DFun Tryd.prog 33 [natD 0, .flat (.int .i64 0)] (.flat (.bool false)) := t1
    refine DFun.enterA Tryd.func11 Tryd.ntmps11 ?_
    refine DW.walk ?_
    exact ⟨.inr rfl, ResOk.one [] rfl rfl trivial (Vw.pers rfl)⟩
  · have hp := blen_ne h0
    have low := blen_low h0
    have d2 := pow2_d (blen r - 1) (by omega)
    have ec : ((blen r - 1 : Nat) : Int) = (blen r : Int) - 1 := by omega
    rw [ec] at d2
    have lj2 := len_le (Nat.pow_le_pow_right (by decide : 1 ≤ 2) (Nat.sub_le (blen r) 1)) lj
    have q2 := cmp_d r (2 ^ (blen r - 1)) (by omega) (by omega)
    have hq : 0 ≤ cmpZ r (2 ^ (blen r - 1)) := by
      unfold cmpZ
      rw [if_neg (by omega)]
      split <;> decide
    have t3 := bit_w r (blen r - 1) l3 (by omega)
    rw [ec, top_bit h0] at t3
    clear h0 up low ec lj lj2
    generalize cmpZ r (2 ^ (blen r - 1)) = z at *
    generalize 2 ^ (blen r - 1) = low at *
    generalize 2 ^ (blen r) = up at *
    generalize blen r = j at *
    refine DFun.enterA Tryd.func11 Tryd.ntmps11 ?_
    refine DW.walk ?_
    exact ⟨.inr rfl, ResOk.one [] rfl rfl trivial (Vw.pers rfl)⟩
theorem law11_d (a : List UInt8) (i k : Nat) (ha : a.length ≤ 140737488351232) (hi : i < 256) (hk : k < 256) : DFun Tryd.prog 11 [byD a, .flat (.int .u8 (i : Nat)), .flat (.int .u8 (k : Nat))] (.flat (.bool true)) := by
  have hkn := known_d
  by_cases h1 : a.length ≤ 20
  · have hn : numB a < 2 ^ 67 := Nat.lt_of_lt_of_le (numB_lt a) (Nat.le_trans (Nat.pow_le_pow_right (by decide) h1) (by decide))
    exact law11_n _ (numB a) i k hi hk a rfl h1 (of_d a (by omega)) hn
  · refine DFun.enterA Tryd.func11 Tryd.ntmps11 ?_
    refine DW.walk ?_
    exact ⟨.inr rfl, ResOk.one [] rfl rfl trivial (Vw.pers rfl)⟩
end Go.Proofs.YtebbekdebanabaaDoor
