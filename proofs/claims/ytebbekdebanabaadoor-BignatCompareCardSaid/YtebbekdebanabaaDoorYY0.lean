/- Laws over data: of numbers that are compared. No condition. -/
import Derived.Test.YtebbekdebanabaaDoorYN4
import Derived.Test.YtebbekdebanabaaDoorYKN
import Derived.Test.YtebbekdebanabaaDoorYV3
import Derived.Test.YtebbekdebanabaaDoorYX1

set_option linter.unusedSimpArgs false
set_option linter.unusedVariables false
set_option maxHeartbeats 4000000
set_option maxRecDepth 8000
namespace Go.Proofs.YtebbekdebanabaaDoor
open Go Go.RowKit Go.PP Go.Dm Go.Bn
theorem eq_self (n : Nat) (h : (dig BW n).length ≤ 1000000) : DFun Tryd.prog 23 [natD n, natD n] (.flat (.bool true)) := by
  have := equal_d n n h h
  rwa [decide_eq_true rfl] at this
theorem cmp_less {m n : Nat} (la : (dig BW m).length ≤ 1000000) (lb : (dig BW n).length ≤ 1000000) (h : m < n) : DFun Tryd.prog 30 [natD m, natD n] (.flat (.int .i64 (-1))) := by
  have := cmp_d m n la lb
  unfold cmpZ at this
  rwa [if_pos h] at this
theorem isz_0 : DFun Tryd.prog 21 [natD 0] (.flat (.bool true)) := by
  have := isz_d 0
  rwa [decide_eq_true rfl] at this
theorem isz_no {n : Nat} (h : n ≠ 0) : DFun Tryd.prog 21 [natD n] (.flat (.bool false)) := by
  have := isz_d n
  rwa [decide_eq_false h] at this
/-- A number of few words. -/
theorem lenG {m i k : Nat} (h : m < 2 ^ i) (hi : i ≤ 32 * k) (hk : k ≤ 100000) : (dig BW m).length ≤ 100000 := Nat.le_trans (len_bits (k := k) (Nat.lt_of_lt_of_le h (Nat.pow_le_pow_right (by decide) hi))) hk
theorem lenB {m i : Nat} (h : m < 2 ^ i) (hi : i ≤ 12800) : (dig BW m).length ≤ 100000 := lenG (k := 400) h hi (by decide)
theorem lenC {m i : Nat} (h : blen m ≤ i) (hi : i ≤ 12800) : (dig BW m).length ≤ 100000 := lenB (Nat.lt_of_lt_of_le (blen_up m) (Nat.pow_le_pow_right (by decide) h)) hi
theorem blen_pow {n w e : Nat} (h : n < 2 ^ w) : blen (n ^ e) ≤ w * e + 1 := by
  by_cases h0 : e = 0
  · subst h0
    rw [Nat.pow_zero, Nat.mul_zero]
    exact blen_le (by decide)
  · have : n ^ e < 2 ^ (w * e) := by
      rw [Nat.pow_mul]
      exact Nat.pow_lt_pow_left h h0
    have := blen_le this
    omega
theorem len_two {j : Nat} (h : j ≤ 12800) : (dig BW (2 ^ j)).length ≤ 100000 := by
  rw [(pow_dig j).2]
  omega
theorem lt_add1 {m n i : Nat} (h : m < 2 ^ (i + 1)) (k : n < 2 ^ i) : m + n < 2 ^ (i + 1 + 1) := by
  rw [Nat.pow_succ _ (i + 1)]
  have := Nat.pow_le_pow_right (n := 2) (by decide) (Nat.le_succ i)
  omega
theorem lt_more {m i j : Nat} (h : m < 2 ^ i) (hij : i ≤ j) : m < 2 ^ j := Nat.lt_of_lt_of_le h (Nat.pow_le_pow_right (by decide) hij)
theorem lt_mul {m n i j : Nat} (h : m < 2 ^ i) (k : n < 2 ^ j) : m * n < 2 ^ (i + j) := by
  rw [Nat.pow_add]
  exact Nat.mul_lt_mul'' h k
theorem lt_add {m n i : Nat} (h : m < 2 ^ i) (k : n < 2 ^ i) : m + n < 2 ^ (i + 1) := by
  rw [Nat.pow_succ]
  omega
end Go.Proofs.YtebbekdebanabaaDoor
