/- The law of 64 bits, over data. No condition. -/
import Derived.Test.YtebbekdebanabaaDoorYKN
import Derived.Test.YtebbekdebanabaaDoorYV3
import Derived.Test.YtebbekdebanabaaDoorYX1

set_option linter.unusedSimpArgs false
set_option linter.unusedVariables false
set_option maxHeartbeats 4000000
set_option maxRecDepth 8000
namespace Go.Proofs.YtebbekdebanabaaDoor
open Go Go.RowKit Go.PP Go.Dm Go.Bn
theorem law3_d (a b : Nat) (ha : a < 4294967296) (hb : b < 4294967296) : DFun Tryd.prog 3 [.flat (.int .u32 (a : Nat)), .flat (.int .u32 (b : Nat))] (.flat (.bool true)) := by
  have hk := known_d
  have la := small_len (n := a) (by omega)
  have lb := small_len (n := b) (by omega)
  have hm := mul_le32 ha hb
  have hab : a * b < 18446744073709551616 := by
    have : ((a * b : Nat) : Int) = (a : Int) * (b : Int) := Int.natCast_mul ..
    omega
  have fa := fromU_d a (by omega)
  have fb := fromU_d b (by omega)
  have c1 := mul_n a b la lb
  have c2 := u64_d (a * b) (small_len hab) hab
  have c3 := add_n a b la lb
  have c4 := u64_d (a + b) (small_len (by omega)) (by omega)
  have e1 : ((a * b : Nat) : Int) = (a : Int) * (b : Int) := Int.natCast_mul ..
  have e2 : ((a + b : Nat) : Int) = (a : Int) + (b : Int) := Int.natCast_add ..
  have n1 : ¬ ((a * b : Nat) : Int) ≠ (a : Int) * (b : Int) := fun h => h e1
  have n2 : ¬ ((a + b : Nat) : Int) ≠ (a : Int) + (b : Int) := fun h => h e2
  generalize hAB : a * b = ab at *
  generalize hS : a + b = ss at *
  by_cases h0 : b = 0
  · subst h0
    refine DFun.enterA Tryd.func3 Tryd.ntmps3 ?_
    refine DW.walk ?_
    exact ⟨.inr rfl, ResOk.one [] rfl rfl trivial (Vw.pers rfl)⟩
  · have c5 := divmod_d a b la lb (by omega)
    have hq : a / b < 4294967296 := Nat.lt_of_le_of_lt (Nat.div_le_self _ _) ha
    have hr : a % b < 4294967296 := Nat.lt_of_lt_of_le (Nat.mod_lt _ (by omega)) (by omega)
    have hq6 : a / b < 18446744073709551616 := Nat.lt_trans hq (by decide)
    have hr6 : a % b < 18446744073709551616 := Nat.lt_trans hr (by decide)
    have c6 := u64_d (a / b) (small_len hq6) hq6
    have c7 := u64_d (a % b) (small_len hr6) hr6
    have w1 : IntKind.u64.wrap ((a / b : Nat) : Int) = ((a / b : Nat) : Int) := wu64 (Int.natCast_nonneg _) (Int.ofNat_lt.mpr hq6)
    refine DFun.enterA Tryd.func3 Tryd.ntmps3 ?_
    refine DW.walk ?_
    exact ⟨.inr rfl, ResOk.one [] rfl rfl trivial (by rw [decide_eq_true (rfl : ((a % b : Nat) : Int) = _)]; exact Vw.pers rfl)⟩
end Go.Proofs.YtebbekdebanabaaDoor
