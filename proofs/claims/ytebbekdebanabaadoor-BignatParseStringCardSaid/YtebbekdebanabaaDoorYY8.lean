/- The law of sums, differences and products, over data. No condition. -/
import Derived.Test.YtebbekdebanabaaDoorYY0
import Derived.Test.YtebbekdebanabaaDoorYN9
import Derived.Test.YtebbekdebanabaaDoorYT2

set_option linter.unusedSimpArgs false
set_option linter.unusedVariables false
set_option maxHeartbeats 4000000
set_option maxRecDepth 8000
namespace Go.Proofs.YtebbekdebanabaaDoor
open Go Go.RowKit Go.PP Go.Dm Go.Bn
/-- A number of few digits: of its digits there are few. -/
theorem dLen {m k : Nat} (h : m < 10 ^ k) (hk : k ≤ 90000) : (dig 10 m).length ≤ 90000 := Nat.le_trans (dig_len hB10 h) hk
theorem cmpZ_lt {m n : Nat} (h : m < n) : cmpZ m n = -1 := by unfold cmpZ; rw [if_pos h]
theorem cmpZ_ge {m n : Nat} (h : n ≤ m) : cmpZ m n = 0 ∨ cmpZ m n = 1 := by
  unfold cmpZ
  rw [if_neg (by omega)]
  split <;> decide
theorem lt_ten {m n i : Nat} (h : m < 10 ^ i) (k : n < 10 ^ i) : n * m < 10 ^ (i + i) := by rw [Nat.pow_add]; exact Nat.mul_lt_mul'' k h
theorem dLen2 {m k : Nat} (h : m < 10 ^ (k + k)) (hk : k ≤ 45000) : (dig 10 m).length ≤ 90000 := dLen h (by omega)
theorem law8_n (la lb : List UInt8) (n m : Nat) (hf : DFun Tryd.prog 18 [.sl false 1 2 [byD la, byD lb]] (.flat (.bool true))) (fa : DFun Tryd.prog 19 [byD la] (natD n)) (fb : DFun Tryd.prog 19 [byD lb] (natD m)) (ga : DFun Tryd.prog 20 [byD la] (refD n)) (gb : DFun Tryd.prog 20 [byD lb] (refD m)) (hn : n < 10 ^ 150) (hm : m < 10 ^ 150) : DFun Tryd.prog 8 [byD la, byD lb] (.flat (.bool true)) := by
  have hkn := known_d
  have ln := few_len (few_pow (Nat.le_refl _) hn)
  have lm := few_len (few_pow (Nat.le_refl _) hm)
  have en := dLen hn (by decide)
  have em := dLen hm (by decide)
  have cc := cmp10_d n m (by omega) (by omega)
  have a1 := add_n n m ln lm
  have a2 := add10_d n m (by omega) (by omega)
  have m1 := mul_n n m ln lm
  have m2 := mul10_d n m (by omega) (by omega)
  have ba := lt_add (few_pow (Nat.le_refl _) hn) (few_pow (Nat.le_refl _) hm)
  have bm := lt_mul (few_pow (Nat.le_refl _) hn) (few_pow (Nat.le_refl _) hm)
  have s1 := string_d (n + m) (lenB ba (by decide))
  have s2 := string_d (n * m) (lenB bm (by decide))
  have hma : n + m < 10 ^ 151 := by rw [Nat.pow_succ]; omega
  have lmm := dLen2 (lt_ten hm hn) (by decide)
  have t1 := text_d (n + m) (by have := dLen hma (by decide); omega)
  have t2 := text_d (n * m) (by omega)
  have z0 := isz_0
  by_cases hlt : n < m
  · rw [cmpZ_lt hlt] at cc
    have d1 := sub_no n m ln lm hlt
    clear hn hm ba bm hma lmm
    generalize Lib.decDigits (n + m) = sa at *
    generalize Lib.decDigits (n * m) = sm at *
    generalize n + m = p at *
    generalize n * m = q at *
    have r1 : sa = sa := rfl
    refine DFun.enterA Tryd.func8 Tryd.ntmps8 ?_
    refine DW.walk ?_
    exact ⟨.inr rfl, ResOk.one [] rfl rfl trivial (by rw [decide_eq_true (rfl : sm = sm)]; exact Vw.pers rfl)⟩
  · have hz := cmpZ_ge (Nat.le_of_not_lt hlt)
    have d1 := sub_d n m ln lm (Nat.le_of_not_lt hlt)
    have d2 := sub10_d n m (by omega) (by omega) (Nat.le_of_not_lt hlt)
    have s3 := string_d (n - m) (len_le (Nat.sub_le _ _) ln)
    have t3 := text_d (n - m) (by have := dLen (Nat.lt_of_le_of_lt (Nat.sub_le n m) hn) (by decide); omega)
    clear hn hm ba bm hma lmm
    generalize cmpZ n m = z at *
    generalize Lib.decDigits (n - m) = sd at *
    generalize Lib.decDigits (n + m) = sa at *
    generalize Lib.decDigits (n * m) = sm at *
    generalize n + m = p at *
    generalize n * m = q at *
    generalize n - m = d at *
    have r1 : sa = sa := rfl
    have r2 : ¬ sd ≠ sd := fun h => h rfl
    refine DFun.enterA Tryd.func8 Tryd.ntmps8 ?_
    refine DW.walkTo 7 ?_
    refine DW.sub (s' := ⟨[(5, .ref 5 0), (6, .ref 6 0), (7, refD n), (8, refD m), (9, .ref 9 0), (10, .flat (.int .i64 0)), (11, .flat (.bool false))], [(5, some (.box [wsD (dig BW n)])), (6, some (.box [wsD (dig BW m)])), (9, some (.box [wsD (dig BW d)]))]⟩) (by rcases hz with rfl | rfl <;> exact Sub.auto) ?_
    clear hz cc
    refine DW.walk ?_
    exact ⟨.inr rfl, ResOk.one [] rfl rfl trivial (by rw [decide_eq_true (rfl : sm = sm)]; exact Vw.pers rfl)⟩
theorem law8_d (a b : List UInt8) (ha : a.length ≤ 140737488351232) (hb : b.length ≤ 140737488351232) : DFun Tryd.prog 8 [byD a, byD b] (.flat (.bool true)) := by
  have hk := known_d
  have hf := few2_d a b ha hb
  unfold fewB at hf
  by_cases h1 : a.length ≤ 150
  · by_cases h2 : b.length ≤ 150
    · rw [decide_eq_true h1, decide_eq_true h2] at hf
      exact law8_n _ _ (numB a) (numB b) hf (of_d a h1) (of_d b h2) (digits_d a (by omega)) (digits_d b (by omega)) (Nat.lt_of_lt_of_le (numB_lt a) (Nat.pow_le_pow_right (by decide) h1)) (Nat.lt_of_lt_of_le (numB_lt b) (Nat.pow_le_pow_right (by decide) h2))
    · rw [decide_eq_true h1, decide_eq_false h2] at hf
      refine DFun.enterA Tryd.func8 Tryd.ntmps8 ?_
      refine DW.walk ?_
      exact ⟨.inr rfl, ResOk.one [] rfl rfl trivial (Vw.pers rfl)⟩
  · rw [decide_eq_false h1] at hf
    refine DFun.enterA Tryd.func8 Tryd.ntmps8 ?_
    refine DW.walk ?_
    exact ⟨.inr rfl, ResOk.one [] rfl rfl trivial (Vw.pers rfl)⟩
end Go.Proofs.YtebbekdebanabaaDoor
