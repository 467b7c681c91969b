/- Contracts over data: the reference: Small. No condition. -/
import Derived.Test.YtebbekdebanabaaDoorYN13
import Derived.Test.YtebbekdebanabaaDoorYN11

set_option linter.unusedSimpArgs false
set_option linter.unusedVariables false
set_option maxHeartbeats 4000000
set_option maxRecDepth 8000
namespace Go.Proofs.YtebbekdebanabaaDoor
open Go Go.RowKit Go.PP Go.Dm Go.Bn
theorem val_drop_le : ∀ (l : List Nat) (i : Nat), val 10 (l.drop i) ≤ val 10 l
  | [], i => by rw [List.drop_nil]; exact Nat.le_refl _
  | d :: r, 0 => Nat.le_refl _
  | d :: r, i + 1 => by
    have := val_drop_le r i
    show val 10 (r.drop i) ≤ d + 10 * val 10 r
    omega
theorem two_pow_lens : ∀ i, i ≤ 64 → (dig 10 (2 ^ i)).length ≤ 90000 := fun i hi => Nat.le_trans (dig_len hB10 (Nat.lt_of_le_of_lt (Nat.pow_le_pow_right (by decide) hi) (show 2 ^ 64 < 10 ^ 20 by decide))) (by decide)
theorem two_64 : DFun Tryd.prog 44 [refD 2, .flat (.int .i64 64)] (refD 18446744073709551616) := by
  have := power10_d 2 64 two_pow_lens (Nat.le_trans (dig_len hB10 (show 2 < 10 ^ 1 by decide)) (by decide)) (by decide)
  rwa [show 2 ^ 64 = 18446744073709551616 from rfl] at this
theorem big_len : (dig 10 18446744073709551616).length ≤ 90000 := Nat.le_trans (dig_len hB10 (show 18446744073709551616 < 10 ^ 20 by decide)) (by decide)
theorem small10_no (n : Nat) (ln : (dig 10 n).length ≤ 90000) (h : 18446744073709551616 ≤ n) : DFun Tryd.prog 29 [refD n] (.tup [.flat (.int .u64 0), .flat (.bool false)]) := by
  have o2 : DFun Tryd.prog 38 [.flat (.int .u64 2)] (refD 2) := of10_d 2 (by decide)
  have p2 := two_64
  have lp := big_len
  have cc := cmp10_d n 18446744073709551616 (by omega) (by omega)
  have hz : cmpZ n 18446744073709551616 = 0 ∨ cmpZ n 18446744073709551616 = 1 := by
    unfold cmpZ
    rw [if_neg (by omega)]
    split <;> decide
  generalize cmpZ n 18446744073709551616 = z at *
  generalize 18446744073709551616 = B at *
  refine DFun.enterA Tryd.func29 Tryd.ntmps29 ?_
  have hz : 0 ≤ z := by omega
  refine DW.walk ?_
  exact ⟨.inr rfl, ResOk.two [] rfl rfl rfl trivial (Vw.pers rfl) (Vw.pers rfl)⟩
theorem small10_d (n : Nat) (ln : (dig 10 n).length ≤ 90000) (h : n < 18446744073709551616) : DFun Tryd.prog 29 [refD n] (.tup [.flat (.int .u64 (n : Nat)), .flat (.bool true)]) := by
  have o2 : DFun Tryd.prog 38 [.flat (.int .u64 2)] (refD 2) := of10_d 2 (by decide)
  have p2 := two_64
  have lp := big_len
  have cc := cmp10_d n 18446744073709551616 (by omega) (by omega)
  have hz : cmpZ n 18446744073709551616 = -1 := by
    unfold cmpZ
    rw [if_pos h]
  rw [hz] at cc
  clear hz
  refine DFun.enterA Tryd.func29 Tryd.ntmps29 ?_
  refine DW.walkTo 4 ?_
  refine DW.sub (s' := ⟨[(0, refD n), (4, .flat (.int .u64 0))], []⟩) Sub.auto ?_
  clear cc o2 p2 lp
  refine DW.walk ?_
  have hv0 : val 10 ((dig 10 n).drop (dig 10 n).length) = 0 := by rw [List.drop_of_length_le (Nat.le_refl _)]; rfl
  refine DW.loopA (fun s : Nat × Nat => ⟨[(0, refD n), (4, .flat (.int .u64 (s.2 : Nat))), (5, .flat (.int .i64 ((s.1 : Int) - 1)))], []⟩) (fun s => s.1 ≤ (dig 10 n).length ∧ val 10 ((dig 10 n).drop s.1) = s.2) (fun s => s.1) ((dig 10 n).length, 0) ?_ ⟨Nat.le_refl _, hv0⟩
  rintro ⟨i, v⟩ ⟨hi, hv⟩
  have hi : i ≤ (dig 10 n).length := hi
  have hv : val 10 ((dig 10 n).drop i) = v := hv
  by_cases h0 : i = 0
  · subst h0
    rw [List.drop_zero, val_dig hB10] at hv
    subst hv
    clear hv0
    refine DW.walk ?_
    exact ⟨.inr rfl, ResOk.two [] rfl rfl rfl trivial (Vw.pers rfl) (Vw.pers rfl)⟩
  · obtain ⟨i, rfl⟩ : ∃ k, i = k + 1 := ⟨i - 1, by omega⟩
    obtain ⟨d, hd⟩ : ∃ d, (dig 10 n)[i]? = some d := ⟨_, List.getElem?_eq_getElem (by omega)⟩
    have hdB := (dig_dg hB10 n).at hd
    have h1 := part_id hd
    have hv1 := val_drop hd
    rw [hv] at hv1
    have hv2 := val_drop_le (dig 10 n) i
    rw [val_dig hB10, hv1] at hv2
    have ei : ((i + 1 : Nat) : Int) - 1 = (i : Int) := by omega
    rw [show d + 10 * v = v * 10 + d by omega] at hv1
    clear hv hv0
    refine DW.walk ?_
    exact ⟨(i, v * 10 + d), ⟨by show i ≤ _; omega, hv1⟩, Nat.lt_succ_self i, Sub.auto⟩
end Go.Proofs.YtebbekdebanabaaDoor
