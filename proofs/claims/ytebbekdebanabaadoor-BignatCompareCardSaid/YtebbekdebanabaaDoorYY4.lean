/- The law of quotients, remainders and greatest common divisors, over data. No condition. -/
import Derived.Test.YtebbekdebanabaaDoorYY0
import Derived.Test.YtebbekdebanabaaDoorYN13
import Derived.Test.YtebbekdebanabaaDoorYT2

set_option linter.unusedSimpArgs false
set_option linter.unusedVariables false
set_option maxHeartbeats 4000000
set_option maxRecDepth 8000
namespace Go.Proofs.YtebbekdebanabaaDoor
open Go Go.RowKit Go.PP Go.Dm Go.Bn
/-- A number of few digits: of its digits there are few. -/
theorem dLen4 {m k : Nat} (h : m < 10 ^ k) (hk : k ≤ 90000) : (dig 10 m).length ≤ 90000 := Nat.le_trans (dig_len hB10 h) hk
theorem law4_0 (la lb : List UInt8) (n : Nat) (hf : DFun Tryd.prog 18 [.sl false 1 2 [byD la, byD lb]] (.flat (.bool true))) (fa : DFun Tryd.prog 19 [byD la] (natD n)) (fb : DFun Tryd.prog 19 [byD lb] (natD 0)) (ga : DFun Tryd.prog 20 [byD la] (refD n)) (gb : DFun Tryd.prog 20 [byD lb] (refD 0)) (hn : n < 10 ^ 150) : DFun Tryd.prog 4 [byD la, byD lb] (.flat (.bool true)) := by
  have hkn := known_d
  have ln := few_len (few_pow (Nat.le_refl _) hn)
  have dm := divmod_0 n
  have gg := gcd_d n 0 ln (by rw [dig_zero]; exact Nat.zero_le _)
  rw [Nat.gcd_zero_right] at gg
  have es := eq_self n (by omega)
  have z0 := isz_0
  have hl : (dig 10 0).length = 0 := by rw [dig_zero]; rfl
  clear hn
  refine DFun.enterA Tryd.func4 Tryd.ntmps4 ?_
  refine DW.walk ?_
  exact ⟨.inr rfl, ResOk.one [] rfl rfl trivial (Vw.pers rfl)⟩
theorem law4_n (la lb : List UInt8) (n m : Nat) (hf : DFun Tryd.prog 18 [.sl false 1 2 [byD la, byD lb]] (.flat (.bool true))) (fa : DFun Tryd.prog 19 [byD la] (natD n)) (fb : DFun Tryd.prog 19 [byD lb] (natD m)) (ga : DFun Tryd.prog 20 [byD la] (refD n)) (gb : DFun Tryd.prog 20 [byD lb] (refD m)) (hn : n < 10 ^ 150) (hm : m < 10 ^ 150) (h0 : 0 < m) : DFun Tryd.prog 4 [byD la, byD lb] (.flat (.bool true)) := by
  have hkn := known_d
  have ln := few_len (few_pow (Nat.le_refl _) hn)
  have lm := few_len (few_pow (Nat.le_refl _) hm)
  have en := dLen4 hn (by decide)
  have em := dLen4 hm (by decide)
  have hl := dlen_pos (show m ≠ 0 by omega)
  have dm := divmod_d n m ln lm h0
  have d2 := div10_d n m en em h0
  have gg := gcd_d n m ln lm
  have g2 := common10_d n m en em
  have hr := Nat.mod_lt n h0
  have hg := Nat.gcd_le_right n h0
  have hq := Nat.div_le_self n m
  have s1 := string_d (n / m) (len_le hq ln)
  have s2 := string_d (n % m) (len_le (Nat.le_of_lt hr) lm)
  have s3 := string_d (Nat.gcd n m) (len_le hg lm)
  have t1 := text_d (n / m) (by have := dlen_le hq en; omega)
  have t2 := text_d (n % m) (by have := dlen_le (Nat.le_of_lt hr) em; omega)
  have t3 := text_d (Nat.gcd n m) (by have := dlen_le hg em; omega)
  clear hn hm hr hg hq
  generalize Lib.decDigits (n / m) = sa at *
  generalize Lib.decDigits (n % m) = sb at *
  generalize Lib.decDigits (Nat.gcd n m) = sg at *
  generalize n / m = q at *
  generalize n % m = r at *
  generalize Nat.gcd n m = g at *
  have r1 : sa = sa := rfl
  have r2 : sb = sb := rfl
  refine DFun.enterA Tryd.func4 Tryd.ntmps4 ?_
  refine DW.walk ?_
  exact ⟨.inr rfl, ResOk.one [] rfl rfl trivial (by rw [decide_eq_true (rfl : sg = sg)]; exact Vw.pers rfl)⟩
theorem law4_d (a b : List UInt8) (ha : a.length ≤ 140737488351232) (hb : b.length ≤ 140737488351232) : DFun Tryd.prog 4 [byD a, byD b] (.flat (.bool true)) := by
  have hk := known_d
  have hf := few2_d a b ha hb
  unfold fewB at hf
  by_cases h1 : a.length ≤ 150
  · by_cases h2 : b.length ≤ 150
    · rw [decide_eq_true h1, decide_eq_true h2] at hf
      have na := Nat.lt_of_lt_of_le (numB_lt a) (Nat.pow_le_pow_right (by decide) h1)
      have nb := Nat.lt_of_lt_of_le (numB_lt b) (Nat.pow_le_pow_right (by decide) h2)
      have fb := of_d b h2
      have gb := digits_d b (by omega)
      by_cases hz : numB b = 0
      · rw [hz] at fb gb
        exact law4_0 _ _ (numB a) hf (of_d a h1) fb (digits_d a (by omega)) gb na
      · exact law4_n _ _ (numB a) (numB b) hf (of_d a h1) fb (digits_d a (by omega)) gb na nb (Nat.pos_of_ne_zero hz)
    · rw [decide_eq_true h1, decide_eq_false h2] at hf
      refine DFun.enterA Tryd.func4 Tryd.ntmps4 ?_
      refine DW.walk ?_
      exact ⟨.inr rfl, ResOk.one [] rfl rfl trivial (Vw.pers rfl)⟩
  · rw [decide_eq_false h1] at hf
    refine DFun.enterA Tryd.func4 Tryd.ntmps4 ?_
    refine DW.walk ?_
    exact ⟨.inr rfl, ResOk.one [] rfl rfl trivial (Vw.pers rfl)⟩
end Go.Proofs.YtebbekdebanabaaDoor
