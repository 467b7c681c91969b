/- Contracts over data: the reference: Common, Bits. No condition. -/
import Derived.Test.YtebbekdebanabaaDoorYN10
import Derived.Test.YtebbekdebanabaaDoorYNG

set_option linter.unusedSimpArgs false
set_option linter.unusedVariables false
set_option maxHeartbeats 4000000
set_option maxRecDepth 8000
namespace Go.Proofs.YtebbekdebanabaaDoor
open Go Go.RowKit Go.PP Go.Dm Go.Bn
theorem dlen_le {m n k : Nat} (h : m ≤ n) (hk : (dig 10 n).length ≤ k) : (dig 10 m).length ≤ k := Nat.le_trans (dig_len hB10 (Nat.lt_of_le_of_lt h (dig_up hB10 n))) hk
theorem dlen_pos {n : Nat} (h : n ≠ 0) : 0 < (dig 10 n).length := by rw [dig_pos hB10 h]; exact Nat.succ_pos _
theorem common10_d (a b : Nat) (la : (dig 10 a).length ≤ 90000) (lb : (dig 10 b).length ≤ 90000) : DFun Tryd.prog 27 [refD a, refD b] (refD (Nat.gcd a b)) := by
  refine DFun.enterA Tryd.func27 Tryd.ntmps27 ?_
  refine DW.walk ?_
  refine DW.loopA (fun s : Nat × Nat => ⟨[(0, refD s.1), (1, refD s.2)], []⟩) (fun s => Nat.gcd s.1 s.2 = Nat.gcd a b ∧ (dig 10 s.1).length ≤ 90000 ∧ (dig 10 s.2).length ≤ 90000) (fun s => s.2) (a, b) ?_ ⟨rfl, la, lb⟩
  rintro ⟨x, y⟩ ⟨hg, lx, ly⟩
  have hg : Nat.gcd x y = Nat.gcd a b := hg
  have lx : (dig 10 x).length ≤ 90000 := lx
  have ly : (dig 10 y).length ≤ 90000 := ly
  rw [← hg]
  by_cases h0 : y = 0
  · subst h0
    rw [Nat.gcd_zero_right]
    have hl : (dig 10 0).length = 0 := by rw [dig_zero]; rfl
    clear hg
    refine DW.walk ?_
    exact ⟨.inr rfl, ResOk.one [] rfl rfl trivial (Vw.pers rfl)⟩
  · have hl := dlen_pos h0
    have hd := div10_d x y lx ly (by omega)
    have hr := Nat.mod_lt x (show 0 < y by omega)
    have hm : Nat.gcd y (x % y) = Nat.gcd x y := by rw [Nat.gcd_comm y, ← Nat.gcd_rec, Nat.gcd_comm]
    have lm := dlen_le (Nat.le_of_lt hr) ly
    generalize x % y = r at *
    generalize x / y = q at *
    refine DW.walk ?_
    exact ⟨(y, r), ⟨hm, ly, lm⟩, hr, Sub.auto⟩
/-- Is this binary digit one, and among the first k? -/
def isB (n : Nat) (z : Int) (k : Nat) : Bool := decide (0 ≤ z ∧ z < k) && n.testBit z.toNat
theorem isB_at {n k : Nat} {m : Nat} (h : m = n / 2 ^ k) : decide (((dig 10 (m % 2)).length : Int) > 0) = isB n (k : Int) (k + 1) := by
  unfold isB
  rw [decide_eq_true (show (0 : Int) ≤ (k : Int) ∧ (k : Int) < ((k + 1 : Nat) : Int) by omega), Bool.true_and, Int.toNat_natCast, Nat.testBit_eq_decide_div_mod_eq, ← h]
  rcases Nat.mod_two_eq_zero_or_one m with e | e
  · rw [e, dig_zero]; rfl
  · rw [e, dig_pos hB10 (by decide)]
    have : 0 < (1 % 10 :: dig 10 (1 / 10)).length := Nat.succ_pos _
    rw [decide_eq_true (by omega)]
    rfl
theorem isB_ne {n k : Nat} {z : Int} (h : (k : Int) ≠ z) : isB n z (k + 1) = isB n z k := by
  unfold isB
  congr 1
  by_cases h1 : 0 ≤ z ∧ z < k
  · rw [decide_eq_true h1, decide_eq_true (by omega)]
  · rw [decide_eq_false h1, decide_eq_false (by omega)]
theorem isB_all {n : Nat} {z : Int} : isB n z (blen n) = (decide (0 ≤ z) && n.testBit z.toNat) := by
  unfold isB
  by_cases h0 : 0 ≤ z
  · rw [decide_eq_true h0, Bool.true_and]
    by_cases h1 : z < blen n
    · rw [decide_eq_true (by omega), Bool.true_and]
    · rw [decide_eq_false (by omega), Bool.false_and]
      exact (Nat.testBit_lt_two_pow (Nat.lt_of_lt_of_le (blen_up n) (Nat.pow_le_pow_right (by decide) (by omega)))).symm
  · rw [decide_eq_false h0, decide_eq_false (by omega)]
theorem bits10_d (n : Nat) (z : Int) (ln : (dig 10 n).length ≤ 90000) (hb : blen n ≤ 1000000) : DFun Tryd.prog 28 [refD n, .flat (.int .i64 z)] (.tup [.flat (.int .i64 (blen n : Nat)), .flat (.bool (isB n z (blen n)))]) := by
  refine DFun.enterA Tryd.func28 Tryd.ntmps28 ?_
  refine DW.walk ?_
  have h00 : isB n z 0 = false := by unfold isB; rw [decide_eq_false (by omega), Bool.false_and]
  refine DW.loopA (fun s : Nat × Nat × Bool => ⟨[(0, refD s.1), (1, .flat (.int .i64 z)), (6, .flat (.int .i64 (s.2.1 : Nat))), (7, .flat (.bool s.2.2))], []⟩) (fun s => s.1 = n / 2 ^ s.2.1 ∧ s.2.1 + blen s.1 = blen n ∧ s.2.2 = isB n z s.2.1) (fun s => blen s.1) (n, 0, false) ?_ ⟨by show n = n / 2 ^ 0; rw [Nat.pow_zero, Nat.div_one], by show 0 + blen n = blen n; omega, h00.symm⟩
  rintro ⟨m, k, is⟩ ⟨hm, hk, hi⟩
  have hm : m = n / 2 ^ k := hm
  have hk : k + blen m = blen n := hk
  have hi : is = isB n z k := hi
  by_cases h0 : m = 0
  · subst h0
    rw [blen_zero, Nat.add_zero] at hk
    rw [← hk, ← hi]
    have hl : (dig 10 0).length = 0 := by rw [dig_zero]; rfl
    clear hm hi
    refine DW.walk ?_
    exact ⟨.inr rfl, ResOk.two [] rfl rfl rfl trivial (Vw.pers rfl) (Vw.pers rfl)⟩
  · have hl := dlen_pos h0
    have lm : (dig 10 m).length ≤ 90000 := dlen_le (by rw [hm]; exact Nat.div_le_self _ _) ln
    have l2 : (dig 10 2).length ≤ 90000 := Nat.le_trans (dig_len hB10 (show 2 < 10 ^ 1 by decide)) (by decide)
    have o2 : DFun Tryd.prog 38 [.flat (.int .u64 2)] (refD 2) := of10_d 2 (by decide)
    have hd := div10_d m 2 lm l2 (by decide)
    have hb2 := blen_pos h0
    have hm2 : m / 2 = n / 2 ^ (k + 1) := by rw [hm, Nat.div_div_eq_div_mul, Nat.pow_succ]
    by_cases hz : (k : Int) = z
    · subst hz
      have hat := isB_at hm
      generalize m % 2 = r at *
      generalize m / 2 = q at *
      clear hm hi h00
      refine DW.walk ?_
      exact ⟨(q, k + 1, _), ⟨hm2, by show k + 1 + blen q = blen n; omega, hat⟩, by show blen q < blen m; omega, Sub.auto⟩
    · have hat := isB_ne (n := n) hz
      generalize m % 2 = r at *
      generalize m / 2 = q at *
      have hi2 : is = isB n z (k + 1) := hi.trans hat.symm
      clear hm hi h00
      refine DW.walk ?_
      exact ⟨(q, k + 1, is), ⟨hm2, by show k + 1 + blen q = blen n; omega, hi2⟩, by show blen q < blen m; omega, Sub.auto⟩
end Go.Proofs.YtebbekdebanabaaDoor
