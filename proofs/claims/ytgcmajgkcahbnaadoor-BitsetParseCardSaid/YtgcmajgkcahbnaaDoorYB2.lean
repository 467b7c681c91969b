/- Contracts over data: sets of numbers, membership. No condition. -/
import Derived.Test.YtgcmajgkcahbnaaDoorYB1

set_option linter.unusedSimpArgs false
set_option linter.unusedVariables false
set_option maxHeartbeats 4000000
set_option maxRecDepth 8000
namespace Go.Proofs.YtgcmajgkcahbnaaDoor
open Go Go.RowKit Go.PP Go.Dm Go.Bs

theorem has_o (S : Nat) (z : Int) (h : z < 0 ∨ 1023 < z) : DFun Tryd.prog 46 [setD S, .flat (.int .i64 z)] (.flat (.bool false)) := by
  have h1 := fits_f z h
  refine DFun.enterA Tryd.func46 Tryd.ntmps46 ?_
  refine DW.walk ?_
  exact ⟨.inr rfl, ResOk.one [] rfl rfl trivial (Vw.pers rfl)⟩
theorem has_c (S n a b : Nat) (h : n < 1024) (h1 : DFun Tryd.prog 55 [.flat (.int .i64 n)] (.flat (.bool true))) (h2 : DFun Tryd.prog 56 [.flat (.int .i64 n)] (.flat (.int .u64 (b : Nat))))
  (ha : a < 18446744073709551616) (hb : b < 18446744073709551616) (h3 : partD false 1 (0 + n / 64 * 1) (setC S) = some (.flat (.int .u64 (a : Nat)))) (hq : IntKind.i64.wrap ((n : Int).tdiv 64) = ((n / 64 : Nat) : Int)) : DFun Tryd.prog 46 [setD S, .flat (.int .i64 n)] (.flat (.bool (decide (((a &&& b : Nat) : Int) ≠ 0)))) := by
  refine DFun.enterA Tryd.func46 Tryd.ntmps46 ?_
  refine DW.walk ?_
  exact ⟨.inr rfl, ResOk.one [] rfl rfl trivial (Vw.pers rfl)⟩
def hasS (S : Nat) (z : Int) : Bool := if z < 0 ∨ z > 1023 then false else S.testBit z.toNat
theorem has_d (S : Nat) (z : Int) : DFun Tryd.prog 46 [setD S, .flat (.int .i64 z)] (.flat (.bool (hasS S z))) := by
  unfold hasS
  by_cases hz : z < 0 ∨ z > 1023
  · rw [if_pos hz]; exact has_o S z hz
  · rw [if_neg hz]
    obtain ⟨n, rfl⟩ : ∃ n : Nat, z = n := ⟨z.toNat, by omega⟩
    rw [Int.toNat_natCast, ← has_bit]
    have hn : n < 1024 := by omega
    exact has_c S n (wdS S (n / 64)) (2 ^ (n % 64)) hn (fits_t n hn) (bit_d n hn) (wdS_lt _ _) (pow_mod_lt n) (setC_get S (by omega)) (quo64n n hn)
end Go.Proofs.YtgcmajgkcahbnaaDoor
