/- Contracts over data: sets of numbers, their words. No condition. -/
import Derived.Test.YtgcmajgkcahbnaaDoorYA
import Derived.Test.YtgcmajgkcahbnaaDoorYAW

set_option linter.unusedSimpArgs false
set_option linter.unusedVariables false
set_option maxHeartbeats 4000000
set_option maxRecDepth 8000
namespace Go.Proofs.YtgcmajgkcahbnaaDoor
open Go Go.RowKit Go.PP Go.Dm Go.Bs

theorem fits_t (n : Nat) (h : n < 1024) : DFun Tryd.prog 55 [.flat (.int .i64 n)] (.flat (.bool true)) := by
  refine DFun.enterA Tryd.func55 Tryd.ntmps55 ?_
  have h2 : decide ((n : Int) < 1024) = true := decide_eq_true (by omega)
  refine DW.walk ?_
  have e : (D.flat (.bool (decide ((n : Int) < 1024)))) = .flat (.bool true) := by rw [h2]
  exact ⟨.inr rfl, ResOk.one [] rfl rfl trivial (Vw.le (Vw.pers rfl) (Le.of_eq e))⟩
theorem fits_f (z : Int) (h : z < 0 ∨ 1023 < z) : DFun Tryd.prog 55 [.flat (.int .i64 z)] (.flat (.bool false)) := by
  refine DFun.enterA Tryd.func55 Tryd.ntmps55 ?_
  rcases h with h | h
  · refine DW.walk ?_
    exact ⟨.inr rfl, ResOk.one [] rfl rfl trivial (Vw.pers rfl)⟩
  · have h2 : decide (z < 1024) = false := decide_eq_false (by omega)
    refine DW.walk ?_
    have e : (D.flat (.bool (decide (z < 1024)))) = .flat (.bool false) := by rw [h2]
    exact ⟨.inr rfl, ResOk.one [] rfl rfl trivial (Vw.le (Vw.pers rfl) (Le.of_eq e))⟩
theorem rem64n (n : Nat) : (n : Int).tmod 64 = ((n % 64 : Nat) : Int) := by rw [Int.tmod_eq_emod_of_nonneg (by omega)]; omega
theorem quo64n (n : Nat) (h : n < 1024) : IntKind.i64.wrap ((n : Int).tdiv 64) = ((n / 64 : Nat) : Int) := by
  rw [Int.tdiv_eq_ediv_of_nonneg (by omega)]
  exact (w64 (by omega) (by omega)).trans (by omega)
theorem bit_d (n : Nat) (h : n < 1024) : DFun Tryd.prog 56 [.flat (.int .i64 n)] (.flat (.int .u64 (2 ^ (n % 64) : Nat))) := by
  have hr := rem64n n
  refine DFun.enterA Tryd.func56 Tryd.ntmps56 ?_
  refine DW.walk ?_
  have e : (D.flat (.int .u64 ((1 * 2 ^ (n % 64) % 18446744073709551616 : Nat) : Int))) = .flat (.int .u64 ((2 ^ (n % 64) : Nat) : Int)) := by rw [Nat.one_mul, Nat.mod_eq_of_lt (pow_mod_lt n)]
  exact ⟨.inr rfl, ResOk.one [] rfl rfl trivial (Vw.le (Vw.pers rfl) (Le.of_eq e))⟩
theorem with_c (S n a b : Nat) (h : n < 1024) (h1 : DFun Tryd.prog 55 [.flat (.int .i64 n)] (.flat (.bool true))) (h2 : DFun Tryd.prog 56 [.flat (.int .i64 n)] (.flat (.int .u64 (b : Nat))))
  (ha : a < 18446744073709551616) (hb : b < 18446744073709551616) (h3 : partD false 1 (0 + n / 64 * 1) (setC S) = some (.flat (.int .u64 (a : Nat)))) (U : Nat) (hcs : List.take (0 + n / 64 * 1) (setC S) ++ [.flat (.int .u64 ((a ||| b : Nat)))] ++ List.drop (0 + n / 64 * 1 + 1) (setC S) = setC U) (hq : IntKind.i64.wrap ((n : Int).tdiv 64) = ((n / 64 : Nat) : Int)) : DFun Tryd.prog 21 [setD S, .flat (.int .i64 n)] (setD U) := by
  refine DFun.enterA Tryd.func21 Tryd.ntmps21 ?_
  refine DW.walkTo 3 ?_
  rw [hcs]
  refine DW.walk ?_
  exact ⟨.inr rfl, ResOk.cellA [] rfl rfl rfl ag24 (by rw [setC_len]; exact sz24) trivial (VwL.pers (setC_pers U)) (Le.refl _)⟩
theorem with_o (S : Nat) (z : Int) (h : z < 0 ∨ 1023 < z) : DFun Tryd.prog 21 [setD S, .flat (.int .i64 z)] (setD S) := by
  have h1 := fits_f z h
  refine DFun.enterA Tryd.func21 Tryd.ntmps21 ?_
  refine DW.walk ?_
  exact ⟨.inr rfl, ResOk.cellA [] rfl rfl rfl ag24 (by rw [setC_len]; exact sz24) trivial (VwL.pers (setC_pers S)) (Le.refl _)⟩
theorem without_c (S n a b : Nat) (h : n < 1024) (h1 : DFun Tryd.prog 55 [.flat (.int .i64 n)] (.flat (.bool true))) (h2 : DFun Tryd.prog 56 [.flat (.int .i64 n)] (.flat (.int .u64 (b : Nat))))
  (ha : a < 18446744073709551616) (hb : b < 18446744073709551616) (h3 : partD false 1 (0 + n / 64 * 1) (setC S) = some (.flat (.int .u64 (a : Nat)))) (U : Nat) (hcs : List.take (0 + n / 64 * 1) (setC S) ++ [.flat (.int .u64 ((a ^^^ (a &&& b) : Nat)))] ++ List.drop (0 + n / 64 * 1 + 1) (setC S) = setC U) (hq : IntKind.i64.wrap ((n : Int).tdiv 64) = ((n / 64 : Nat) : Int)) : DFun Tryd.prog 25 [setD S, .flat (.int .i64 n)] (setD U) := by
  refine DFun.enterA Tryd.func25 Tryd.ntmps25 ?_
  refine DW.walkTo 3 ?_
  rw [hcs]
  refine DW.walk ?_
  exact ⟨.inr rfl, ResOk.cellA [] rfl rfl rfl ag24 (by rw [setC_len]; exact sz24) trivial (VwL.pers (setC_pers U)) (Le.refl _)⟩
theorem without_o (S : Nat) (z : Int) (h : z < 0 ∨ 1023 < z) : DFun Tryd.prog 25 [setD S, .flat (.int .i64 z)] (setD S) := by
  have h1 := fits_f z h
  refine DFun.enterA Tryd.func25 Tryd.ntmps25 ?_
  refine DW.walk ?_
  exact ⟨.inr rfl, ResOk.cellA [] rfl rfl rfl ag24 (by rw [setC_len]; exact sz24) trivial (VwL.pers (setC_pers S)) (Le.refl _)⟩

theorem with_d (S : Nat) (z : Int) : DFun Tryd.prog 21 [setD S, .flat (.int .i64 z)] (setD (wthS S z)) := by
  unfold wthS
  by_cases hz : z < 0 ∨ z > 1023
  · rw [if_pos hz]; exact with_o S z hz
  · rw [if_neg hz]
    obtain ⟨n, rfl⟩ : ∃ n : Nat, z = n := ⟨z.toNat, by omega⟩
    rw [Int.toNat_natCast]
    have hn : n < 1024 := by omega
    exact with_c S n (wdS S (n / 64)) (2 ^ (n % 64)) hn (fits_t n hn) (bit_d n hn) (wdS_lt _ _) (pow_mod_lt n) (setC_get S (by omega)) _ (put_withL hn) (quo64n n hn)
theorem without_d (S : Nat) (z : Int) : DFun Tryd.prog 25 [setD S, .flat (.int .i64 z)] (setD (wtoS S z)) := by
  unfold wtoS
  by_cases hz : z < 0 ∨ z > 1023
  · rw [if_pos hz]; exact without_o S z hz
  · rw [if_neg hz]
    obtain ⟨n, rfl⟩ : ∃ n : Nat, z = n := ⟨z.toNat, by omega⟩
    rw [Int.toNat_natCast]
    have hn : n < 1024 := by omega
    exact without_c S n (wdS S (n / 64)) (2 ^ (n % 64)) hn (fits_t n hn) (bit_d n hn) (wdS_lt _ _) (pow_mod_lt n) (setC_get S (by omega)) _ (put_withoutL hn) (quo64n n hn)
end Go.Proofs.YtgcmajgkcahbnaaDoor
