/- The laws of sums and products, over data. No condition. -/
import Derived.Test.YtebbekdebanabaaDoorYY0

set_option linter.unusedSimpArgs false
set_option linter.unusedVariables false
set_option maxHeartbeats 4000000
set_option maxRecDepth 8000
namespace Go.Proofs.YtebbekdebanabaaDoor
open Go Go.RowKit Go.PP Go.Dm Go.Bn
theorem law9_n (x y z : D) (n m k : Nat) (hf : DFun Tryd.prog 18 [.sl false 1 3 [x, y, z]] (.flat (.bool true))) (fa : DFun Tryd.prog 19 [x] (natD n)) (fb : DFun Tryd.prog 19 [y] (natD m)) (fc : DFun Tryd.prog 19 [z] (natD k)) (hn : n < 2 ^ 499) (hm : m < 2 ^ 499) (hk : k < 2 ^ 499) (hx : ∃ l, x = byD l) (hy : ∃ l, y = byD l) (hz : ∃ l, z = byD l) : DFun Tryd.prog 9 [x, y, z] (.flat (.bool true)) := by
  obtain ⟨la, rfl⟩ := hx
  obtain ⟨lb, rfl⟩ := hy
  obtain ⟨lc, rfl⟩ := hz
  have hkn := known_d
  have B : ∀ {i : Nat} {m : Nat}, m < 2 ^ i → i ≤ 12800 → (dig BW m).length ≤ 100000 := fun h hi => lenB h hi
  have ln := B hn (by decide)
  have lm := B hm (by decide)
  have lk := B hk (by decide)
  have bs := lt_add hn hm
  have ls := B bs (by decide)
  have bt := lt_add hm hk
  have lt := B bt (by decide)
  have bu := lt_add1 bs hk
  have lu := B bu (by decide)
  have bp := lt_mul hn hm
  have lp := B bp (by decide)
  have bq := lt_mul hm hk
  have lq := B bq (by decide)
  have br := lt_mul hn hk
  have lr := B br (by decide)
  have bw := lt_mul bp hk
  have lw := B bw (by decide)
  have bd := lt_add bp br
  have ld := B bd (by decide)
  have a1 := add_n n m ln lm
  have a2 := add_n m n lm ln
  rw [Nat.add_comm m n] at a2
  have e1 := eq_self (n + m) (by omega)
  have m1 := mul_n n m ln lm
  have m2 := mul_n m n lm ln
  rw [Nat.mul_comm m n] at m2
  have e2 := eq_self (n * m) (by omega)
  have a3 := add_n (n + m) k ls lk
  have a4 := add_n m k lm lk
  have a5 := add_n n (m + k) ln lt
  rw [← Nat.add_assoc] at a5
  have e3 := eq_self (n + m + k) (by omega)
  have m3 := mul_n (n * m) k lp lk
  have m4 := mul_n m k lm lk
  have m5 := mul_n n (m * k) ln lq
  rw [← Nat.mul_assoc] at m5
  have e4 := eq_self (n * m * k) (by omega)
  have m6 := mul_n n (m + k) ln lt
  have m7 := mul_n n k ln lk
  rw [Nat.mul_add] at m6
  have a6 := add_n (n * m) (n * k) lp lr
  have e5 := eq_self (n * m + n * k) (by omega)
  have l0 : (dig BW 0).length ≤ 100000 := small_len (by decide)
  have l1 : (dig BW 1).length ≤ 100000 := small_len (by decide)
  have a7 := add_n n 0 ln l0
  rw [Nat.add_zero] at a7
  have e6 := eq_self n (by omega)
  have f1 := fromU_d 1 (by decide)
  have m8 := mul_n n 1 ln l1
  rw [Nat.mul_one] at m8
  have m9 := mul_n n 0 ln l0
  rw [Nat.mul_zero] at m9
  have z0 := isz_0
  have nl : LeL [natD n, .agg [.flat (.slice none 0 0)]] [natD n, natD 0] := ⟨Le.refl _, by rw [nat0]; exact Le.agg ⟨Le.nil _ _, trivial⟩, trivial⟩
  have a7 : DFun Tryd.prog 15 [natD n, .agg [.flat (.slice none 0 0)]] (natD n) := a7.le nl (Le.refl _)
  have m9 : DFun Tryd.prog 13 [natD n, .agg [.flat (.slice none 0 0)]] (natD 0) := m9.le nl (Le.refl _)
  clear nl
  have s1 := sub_d (n + m) m ls lm (Nat.le_add_left _ _)
  rw [Nat.add_sub_cancel] at s1
  have t1 := sum_d [n, m, k] (by show 3 ≤ 100; decide) (fun i hi => by
      refine len_le ?_ lu
      have hi : i ≤ 3 := hi
      rcases i with _ | _ | _ | _ | i
      · show 0 ≤ _; omega
      · show n + 0 ≤ _; omega
      · show n + (m + 0) ≤ _; omega
      · show n + (m + (k + 0)) ≤ _; omega
      · omega) (fun i hi => by
      simp only [List.mem_cons, List.not_mem_nil, or_false] at hi
      rcases hi with rfl | rfl | rfl <;> assumption)
  have t1 : DFun Tryd.prog 42 [.sl true 1 3 [wsD (dig BW n), wsD (dig BW m), wsD (dig BW k)]] (natD (n + m + k)) := by
    have e : [n, m, k].sum = n + m + k := by show n + (m + (k + 0)) = _; omega
    rw [e] at t1; exact t1
  have t0 := sum_d [] (by show 0 ≤ 100; decide) (fun i hi => by rw [List.take_nil]; exact l0) (fun i hi => by cases hi)
  have t0 : DFun Tryd.prog 42 [.flat (.slice none 0 0)] (natD 0) := t0.le ⟨Le.nil _ _, trivial⟩ (Le.refl _)
  clear bs bt bu bp bq br bw bd hn hm hk B
  generalize n * m + n * k = d at *
  generalize n * m * k = w at *
  generalize n * m = p at *
  generalize m * k = q at *
  generalize n * k = r at *
  generalize n + m + k = u at *
  generalize n + m = s at *
  generalize m + k = t at *
  refine DFun.enterA Tryd.func9 Tryd.ntmps9 ?_
  refine DW.walk ?_
  exact ⟨.inr rfl, ResOk.one [] rfl rfl trivial (Vw.pers rfl)⟩
theorem law9_d (a b c : List UInt8) (ha : a.length ≤ 140737488351232) (hb : b.length ≤ 140737488351232) (hc : c.length ≤ 140737488351232) : DFun Tryd.prog 9 [byD a, byD b, byD c] (.flat (.bool true)) := by
  have hk := known_d
  have hf := few3_d a b c ha hb hc
  by_cases h : fewB a && fewB b && fewB c
  · rw [h] at hf
    unfold fewB at h
    simp only [Bool.and_eq_true, decide_eq_true_eq] at h
    obtain ⟨⟨h1, h2⟩, h3⟩ := h
    exact law9_n _ _ _ (numB a) (numB b) (numB c) hf (of_d a h1) (of_d b h2) (of_d c h3) (few_pow h1 (numB_lt a)) (few_pow h2 (numB_lt b)) (few_pow h3 (numB_lt c)) ⟨_, rfl⟩ ⟨_, rfl⟩ ⟨_, rfl⟩
  · rw [Bool.eq_false_iff.2 h] at hf
    refine DFun.enterA Tryd.func9 Tryd.ntmps9 ?_
    refine DW.walk ?_
    exact ⟨.inr rfl, ResOk.one [] rfl rfl trivial (Vw.pers rfl)⟩
end Go.Proofs.YtebbekdebanabaaDoor
