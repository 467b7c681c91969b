/- The law of quotients, over data. No condition. -/
import Derived.Test.YtebbekdebanabaaDoorYY0

set_option linter.unusedSimpArgs false
set_option linter.unusedVariables false
set_option maxHeartbeats 4000000
set_option maxRecDepth 8000
namespace Go.Proofs.YtebbekdebanabaaDoor
open Go Go.RowKit Go.PP Go.Dm Go.Bn
theorem law7_n (x y : D) (n m : Nat) (hf : DFun Tryd.prog 18 [.sl false 1 2 [x, y]] (.flat (.bool true))) (fa : DFun Tryd.prog 19 [x] (natD n)) (fb : DFun Tryd.prog 19 [y] (natD m)) (hn : n < 2 ^ 499) (hm : m < 2 ^ 499) (hx : ∃ l, x = byD l) (hy : ∃ l, y = byD l) : DFun Tryd.prog 7 [x, y] (.flat (.bool true)) := by
  obtain ⟨la, rfl⟩ := hx
  obtain ⟨lb, rfl⟩ := hy
  have hk := known_d
  by_cases h0 : m = 0
  · subst h0
    have hz := isz_0
    refine DFun.enterA Tryd.func7 Tryd.ntmps7 ?_
    refine DW.walk ?_
    exact ⟨.inr rfl, ResOk.one [] rfl rfl trivial (Vw.pers rfl)⟩
  · have hz := isz_no h0
    have ln := few_len hn
    have lm := few_len hm
    have d1 := divmod_d n m ln lm (by omega)
    have hr := Nat.mod_lt n (show 0 < m by omega)
    have hq : n / m ≤ n := Nat.div_le_self _ _
    have he : n / m * m + n % m = n := by have := Nat.div_add_mod n m; rw [Nat.mul_comm]; exact this
    have lr : (dig BW (n % m)).length ≤ 100000 := few_len (Nat.lt_trans hr hm)
    have lq : (dig BW (n / m)).length ≤ 100000 := few_len (Nat.lt_of_le_of_lt hq hn)
    have c1 := cmp_less (by omega) (by omega) hr
    have c2 := mul_n (n / m) m lq lm
    have c3 := add_n (n / m * m) (n % m) (few_len (by omega)) lr
    rw [he] at c3
    have c4 := eq_self n (by omega)
    have g1 := gcd_d n m ln lm
    have g2 := gcd_d m n lm ln
    rw [Nat.gcd_comm] at g2
    have hg0 : Nat.gcd n m ≠ 0 := fun e => h0 (Nat.eq_zero_of_gcd_eq_zero_right e)
    have hg1 : n % Nat.gcd n m = 0 := Nat.mod_eq_zero_of_dvd (Nat.gcd_dvd_left n m)
    have hg2 : m % Nat.gcd n m = 0 := Nat.mod_eq_zero_of_dvd (Nat.gcd_dvd_right n m)
    have hg3 : Nat.gcd (n / Nat.gcd n m) (m / Nat.gcd n m) = 1 := by rw [Nat.gcd_div (Nat.gcd_dvd_left n m) (Nat.gcd_dvd_right n m), Nat.div_self (by omega)]
    have lg : (dig BW (Nat.gcd n m)).length ≤ 100000 := few_len (Nat.lt_of_le_of_lt (Nat.le_of_dvd (by omega) (Nat.gcd_dvd_right n m)) hm)
    have z1 := isz_no hg0
    have d2 := divmod_d n (Nat.gcd n m) ln lg (by omega)
    rw [hg1] at d2
    have d3 := divmod_d m (Nat.gcd n m) lm lg (by omega)
    rw [hg2] at d3
    have lu : (dig BW (n / Nat.gcd n m)).length ≤ 100000 := few_len (Nat.lt_of_le_of_lt (Nat.div_le_self _ _) hn)
    have lv : (dig BW (m / Nat.gcd n m)).length ≤ 100000 := few_len (Nat.lt_of_le_of_lt (Nat.div_le_self _ _) hm)
    have g3 := gcd_d (n / Nat.gcd n m) (m / Nat.gcd n m) lu lv
    rw [hg3] at g3
    have f1 := fromU_d 1 (by decide)
    have e1 := eq_self 1 (by have := small_len (n := 1) (by decide); omega)
    have e2 := eq_self (Nat.gcd n m) (by omega)
    have z0 := isz_0
    clear hn hm hr hq hg1 hg2 hg3 he
    generalize n / Nat.gcd n m = u at *
    generalize m / Nat.gcd n m = v at *
    generalize Nat.gcd n m = g at *
    generalize n / m * m = qm at *
    generalize n / m = q at *
    generalize n % m = r at *
    refine DFun.enterA Tryd.func7 Tryd.ntmps7 ?_
    refine DW.walk ?_
    exact ⟨.inr rfl, ResOk.one [] rfl rfl trivial (Vw.pers rfl)⟩
theorem law7_d (a b : List UInt8) (ha : a.length ≤ 140737488351232) (hb : b.length ≤ 140737488351232) : DFun Tryd.prog 7 [byD a, byD b] (.flat (.bool true)) := by
  have hk := known_d
  have hf := few2_d a b ha hb
  unfold fewB at hf
  by_cases h1 : a.length ≤ 150
  · by_cases h2 : b.length ≤ 150
    · rw [decide_eq_true h1, decide_eq_true h2] at hf
      exact law7_n _ _ (numB a) (numB b) hf (of_d a h1) (of_d b h2) (few_pow h1 (numB_lt a)) (few_pow h2 (numB_lt b)) ⟨_, rfl⟩ ⟨_, rfl⟩
    · rw [decide_eq_true h1, decide_eq_false h2] at hf
      refine DFun.enterA Tryd.func7 Tryd.ntmps7 ?_
      refine DW.walk ?_
      exact ⟨.inr rfl, ResOk.one [] rfl rfl trivial (Vw.pers rfl)⟩
  · rw [decide_eq_false h1] at hf
    refine DFun.enterA Tryd.func7 Tryd.ntmps7 ?_
    refine DW.walk ?_
    exact ⟨.inr rfl, ResOk.one [] rfl rfl trivial (Vw.pers rfl)⟩
end Go.Proofs.YtebbekdebanabaaDoor
