/- The order of sets is total; the laws of set algebra: plain laws. No condition. -/
import Derived.Test.YtgcmajgkcahbnaaDoorYAZ

set_option linter.unusedSimpArgs false
set_option linter.unusedVariables false
namespace Go.Bs

theorem cmpN_anti (a b : Nat) : cmpN b a = -(cmpN a b) := by
  rcases Nat.lt_trichotomy a b with h | h | h
  · rw [cmpN_lt h, cmpN_gt h]; rfl
  · subst h; rw [cmpN_eq]; rfl
  · rw [cmpN_gt h, cmpN_lt h]
theorem cmpN_zero (a b : Nat) : cmpN a b = 0 ↔ a = b := by
  rcases Nat.lt_trichotomy a b with h | h | h
  · rw [cmpN_lt h]; omega
  · subst h; rw [cmpN_eq]; simp
  · rw [cmpN_gt h]; omega
theorem cmpN_range (a b : Nat) : -1 ≤ cmpN a b ∧ cmpN a b ≤ 1 := by
  rcases Nat.lt_trichotomy a b with h | h | h
  · rw [cmpN_lt h]; omega
  · subst h; rw [cmpN_eq]; omega
  · rw [cmpN_gt h]; omega
theorem cmpN_le (a b : Nat) : cmpN a b ≤ 0 ↔ a ≤ b := by
  rcases Nat.lt_trichotomy a b with h | h | h
  · rw [cmpN_lt h]; omega
  · subst h; rw [cmpN_eq]; omega
  · rw [cmpN_gt h]; omega
theorem cmpN_ge (a b : Nat) : 0 ≤ cmpN a b ↔ b ≤ a := by
  rcases Nat.lt_trichotomy a b with h | h | h
  · rw [cmpN_lt h]; omega
  · subst h; rw [cmpN_eq]; omega
  · rw [cmpN_gt h]; omega
theorem cmpN_pos (a b : Nat) : 0 < cmpN a b ↔ b < a := by
  rcases Nat.lt_trichotomy a b with h | h | h
  · rw [cmpN_lt h]; omega
  · subst h; rw [cmpN_eq]; omega
  · rw [cmpN_gt h]; omega
theorem or_ge (a b : Nat) : 0 ≤ cmpN (a ||| b) a := (cmpN_ge _ _).2 Nat.left_le_or
theorem and_le (a b : Nat) : cmpN (a &&& b) a ≤ 0 := (cmpN_le _ _).2 Nat.and_le_left
theorem min_zero {b a : Nat} (h : a ||| b = a) : minS b a = 0 := by
  refine Nat.eq_of_testBit_eq fun i => ?_
  have := congrArg (fun x => x.testBit i) h
  simp only [Nat.testBit_or] at this
  rw [tb_minS, Nat.zero_testBit]
  cases ha : a.testBit i <;> cases hb : b.testBit i <;> simp_all
theorem or_gt (a b : Nat) : a = b ∨ 0 < cmpN (a ||| b) a ∨ minS b a = 0 := by
  by_cases h : a ||| b = a
  · exact .inr (.inr (min_zero h))
  · refine .inr (.inl ((cmpN_pos _ _).2 ?_))
    have : a ≤ a ||| b := Nat.left_le_or
    omega
/-! algebra -/
theorem bool_ext {x y : Nat} (h : ∀ i, x.testBit i = y.testBit i) : x = y := Nat.eq_of_testBit_eq h
theorem min_or (a b c : Nat) : minS a (b ||| c) = minS a b &&& minS a c := bool_ext fun i => by
  rw [tb_minS, Nat.testBit_or, Nat.testBit_and, tb_minS, tb_minS]
  cases a.testBit i <;> cases b.testBit i <;> cases c.testBit i <;> rfl
theorem and_or (a b c : Nat) : a &&& (b ||| c) = (a &&& b) ||| (a &&& c) := bool_ext fun i => by
  rw [Nat.testBit_and, Nat.testBit_or, Nat.testBit_or, Nat.testBit_and, Nat.testBit_and]
  cases a.testBit i <;> cases b.testBit i <;> cases c.testBit i <;> rfl
theorem min_or_and (a b : Nat) : minS a b ||| (a &&& b) = a := bool_ext fun i => by
  rw [Nat.testBit_or, tb_minS, Nat.testBit_and]
  cases a.testBit i <;> cases b.testBit i <;> rfl
theorem min_self (a : Nat) : minS a a = 0 := bool_ext fun i => by
  rw [tb_minS, Nat.zero_testBit]; cases a.testBit i <;> rfl
theorem sub_iff (a b : Nat) : minS a b = 0 ↔ a &&& b = a := by
  constructor
  · intro h
    refine bool_ext fun i => ?_
    have := congrArg (fun x => x.testBit i) h
    simp only [tb_minS, Nat.zero_testBit] at this
    rw [Nat.testBit_and]
    cases ha : a.testBit i <;> cases hb : b.testBit i <;> simp_all
  · intro h
    refine bool_ext fun i => ?_
    have := congrArg (fun x => x.testBit i) h
    simp only [Nat.testBit_and] at this
    rw [tb_minS, Nat.zero_testBit]
    cases ha : a.testBit i <;> cases hb : b.testBit i <;> simp_all
end Go.Bs
