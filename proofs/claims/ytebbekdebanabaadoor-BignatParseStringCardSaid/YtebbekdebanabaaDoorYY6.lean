/- The law of texts, over data. No condition. -/
import Derived.Test.YtebbekdebanabaaDoorYY10
import Derived.Test.YtebbekdebanabaaDoorYN12

set_option linter.unusedSimpArgs false
set_option linter.unusedVariables false
set_option maxHeartbeats 4000000
set_option maxRecDepth 8000
namespace Go.Proofs.YtebbekdebanabaaDoor
open Go Go.RowKit Go.PP Go.Dm Go.Bn
theorem dec_big {m c : Nat} (h : m < 2 ^ (93 * c)) (hc : 0 < c) : (Lib.decDigits m).length ≤ 28 * c := by
  obtain ⟨k, hk⟩ : ∃ k, 28 * c = k + 1 := ⟨28 * c - 1, by omega⟩
  rw [hk]
  refine decLen ?_
  rw [← hk]
  refine Nat.lt_of_lt_of_le h ?_
  rw [Nat.pow_mul, Nat.pow_mul]
  exact Nat.pow_le_pow_left (by decide) c
theorem ten_two {m c : Nat} (h : m < 10 ^ c) : m < 2 ^ (4 * c) := by
  refine Nat.lt_of_lt_of_le h ?_
  rw [Nat.pow_mul]
  exact Nat.pow_le_pow_left (by decide) c
theorem lt_pow {i j : Nat} (h : i < j) : 2 ^ i < 2 ^ j := Nat.pow_lt_pow_right (by decide) h
theorem two_two (t : Nat) : 2 ^ t + 2 ^ t = 2 ^ (t + 1) := by rw [Nat.pow_succ]; omega
theorem len_pow (j k : Nat) (h : j / 32 + 1 ≤ k) : (dig BW (2 ^ j)).length ≤ k := by
  rw [(pow_dig j).2]
  exact h
theorem big_g (t c : Nat) (ht : t + 1 = 65536) (hc : t + 1 < 93 * c) (hc2 : 28 * c ≤ 20000) (hc3 : 0 < c) : ∃ (T U M : Nat) (sM sU : List UInt8), DFun Tryd.prog 36 [.flat (.int .i64 (t : Nat))] (.tup [natD T, .flat (.int .i64 0)]) ∧ DFun Tryd.prog 15 [natD T, natD T] (natD U) ∧ DFun Tryd.prog 37 [natD U, natD 1] (.tup [natD M, .flat (.int .i64 0)])
    ∧ DFun Tryd.prog 25 [natD M] (strD sM) ∧ DFun Tryd.prog 34 [strD sM] (.tup [natD M, .flat (.int .i64 0)]) ∧ DFun Tryd.prog 25 [natD U] (strD sU) ∧ DFun Tryd.prog 34 [strD sU] (.tup [natD 0, .flat (.int .i64 2)]) ∧ DFun Tryd.prog 23 [natD M, natD M] (.flat (.bool true)) := by
  have lT := len_pow t 100000 (by omega)
  have lU := len_pow (t + 1) 100000 (by omega)
  have p1 := pow2_d t (by omega)
  have a1 := add_n (2 ^ t) (2 ^ t) lT lT
  rw [two_two] at a1
  have l1 : (dig BW 1).length ≤ 100000 := small_len (by decide)
  have hU : 1 ≤ 2 ^ (t + 1) := Nat.pow_pos (by decide)
  have s1 := sub_d (2 ^ (t + 1)) 1 lU l1 hU
  have lM : (dig BW (2 ^ (t + 1) - 1)).length ≤ 100000 := len_le (Nat.sub_le _ _) lU
  have hM : 2 ^ (t + 1) - 1 < 2 ^ (t + 1) := by omega
  have dU := dec_big (m := 2 ^ (t + 1)) (c := c) (lt_pow hc) hc3
  have dM := dec_big (m := 2 ^ (t + 1) - 1) (c := c) (Nat.lt_trans hM (lt_pow hc)) hc3
  have bU := two_blen (t + 1)
  have bM := blen_le hM
  have q1 := parse_ok (Lib.decDigits (2 ^ (t + 1) - 1)) (by omega) (dig_ok _).1
  rw [(dig_ok (2 ^ (t + 1) - 1)).2.1, if_neg (by omega)] at q1
  have q2 := parse_ok (Lib.decDigits (2 ^ (t + 1))) (by omega) (dig_ok _).1
  rw [(dig_ok (2 ^ (t + 1))).2.1, if_pos (by omega)] at q2
  exact ⟨_, _, _, _, _, p1, a1, s1, string_d _ lM, q1, string_d _ lU, q2, eq_self _ (by omega)⟩
theorem w6_c (s : List UInt8) (hl : s.length ≤ 200) (n m : Nat) (hn : n < 18446744073709551616) (hm : m < 256) (v : Nat) (c1 : DFun Tryd.prog 34 [strD s] (.tup [natD v, .flat (.int .i64 0)])) (c2 : DFun Tryd.prog 35 [strD s] (.tup [refD v, .flat (.bool true)])) (c3 : DFun Tryd.prog 25 [natD v] (strD s)) (c4 : DFun Tryd.prog 26 [refD v] (strD s)) :
    DFun Tryd.prog 6 [strD s, .flat (.int .u64 (n : Nat)), .flat (.int .u8 (m : Nat))] (.flat (.bool true)) := by
  have hkn := known_d
  obtain ⟨tw, up, mo, sM, sU, g1, g2, g3, g4, g5, g6, g7, g8⟩ := big_g 65535 705 rfl (by decide) (by decide) (by decide)
  have f1 := fromU_d 1 (by decide)
  have f2 := fromU_d n hn
  have s2 := string_d n (small_len hn)
  have o1 := of10_d n hn
  have t1 := text_d n (Nat.le_trans (dig_len hB10 (Nat.lt_trans hn (by decide : 18446744073709551616 < 10 ^ 20))) (by decide))
  generalize Lib.decDigits n = sn at *
  have r1 : ¬ s ≠ s := fun h => h rfl
  have r2 : sn = sn := rfl
  by_cases hm8 : m % 8 = 0
  · refine DFun.enterA Tryd.func6 Tryd.ntmps6 ?_
    refine DW.walk ?_
    exact ⟨.inr rfl, ResOk.one [] rfl rfl trivial (by rw [decide_eq_true (rfl : sn = sn)]; exact Vw.pers rfl)⟩
  · refine DFun.enterA Tryd.func6 Tryd.ntmps6 ?_
    refine DW.walk ?_
    exact ⟨.inr rfl, ResOk.one [] rfl rfl trivial (by rw [decide_eq_true (rfl : sn = sn)]; exact Vw.pers rfl)⟩
theorem w6_n (s : List UInt8) (hl : s.length ≤ 200) (n m : Nat) (hn : n < 18446744073709551616) (hm : m < 256) (c1 : DFun Tryd.prog 34 [strD s] (.tup [natD 0, .flat (.int .i64 3)])) (c2 : DFun Tryd.prog 35 [strD s] (.tup [refD 0, .flat (.bool false)])) :
    DFun Tryd.prog 6 [strD s, .flat (.int .u64 (n : Nat)), .flat (.int .u8 (m : Nat))] (.flat (.bool true)) := by
  have hkn := known_d
  obtain ⟨tw, up, mo, sM, sU, g1, g2, g3, g4, g5, g6, g7, g8⟩ := big_g 65535 705 rfl (by decide) (by decide) (by decide)
  have f1 := fromU_d 1 (by decide)
  have f2 := fromU_d n hn
  have s2 := string_d n (small_len hn)
  have o1 := of10_d n hn
  have t1 := text_d n (Nat.le_trans (dig_len hB10 (Nat.lt_trans hn (by decide : 18446744073709551616 < 10 ^ 20))) (by decide))
  have z0 := isz_0
  generalize Lib.decDigits n = sn at *
  have r2 : sn = sn := rfl
  by_cases hm8 : m % 8 = 0
  · refine DFun.enterA Tryd.func6 Tryd.ntmps6 ?_
    refine DW.walk ?_
    exact ⟨.inr rfl, ResOk.one [] rfl rfl trivial (by rw [decide_eq_true (rfl : sn = sn)]; exact Vw.pers rfl)⟩
  · refine DFun.enterA Tryd.func6 Tryd.ntmps6 ?_
    refine DW.walk ?_
    exact ⟨.inr rfl, ResOk.one [] rfl rfl trivial (by rw [decide_eq_true (rfl : sn = sn)]; exact Vw.pers rfl)⟩
theorem law6_d (s : List UInt8) (n m : Nat) (hs : s.length ≤ 140737488351232) (hn : n < 18446744073709551616) (hm : m < 256) : DFun Tryd.prog 6 [strD s, .flat (.int .u64 (n : Nat)), .flat (.int .u8 (m : Nat))] (.flat (.bool true)) := by
  by_cases hl : s.length ≤ 200
  · by_cases hc : Canon s
    · have hv := valN_lt s hc.2.1
      have hv2 := ten_two hv
      have hb := blen_le hv2
      have p1 := parse_ok s (by omega) hc
      rw [if_neg (by omega)] at p1
      have c3 := string_d (valN s) (lenB hv2 (by omega))
      rw [Canon.dig s hc] at c3
      have c4 := text_d (valN s) (Nat.le_trans (dig_len hB10 hv) (by omega))
      rw [Canon.dig s hc] at c4
      exact w6_c s hl n m hn hm (valN s) p1 (parse10_ok s (by omega) hc) c3 c4
    · exact w6_n s hl n m hn hm (parse_bad s (by omega) hc) (parse10_bad s (by omega) hc)
  · have hkn := known_d
    refine DFun.enterA Tryd.func6 Tryd.ntmps6 ?_
    refine DW.walk ?_
    exact ⟨.inr rfl, ResOk.one [] rfl rfl trivial (Vw.pers rfl)⟩
end Go.Proofs.YtebbekdebanabaaDoor
