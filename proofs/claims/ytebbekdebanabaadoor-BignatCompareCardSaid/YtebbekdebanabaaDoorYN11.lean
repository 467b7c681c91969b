/- Contracts over data: the reference: Power. No condition. -/
import Derived.Test.YtebbekdebanabaaDoorYN9

set_option linter.unusedSimpArgs false
set_option linter.unusedVariables false
set_option maxHeartbeats 4000000
set_option maxRecDepth 8000
namespace Go.Proofs.YtebbekdebanabaaDoor
open Go Go.RowKit Go.PP Go.Dm Go.Bn
theorem power10_d (x n : Nat) (hb : ∀ i, i ≤ n → (dig 10 (x ^ i)).length ≤ 90000) (lx : (dig 10 x).length ≤ 90000) (hn : n ≤ 1000000) : DFun Tryd.prog 44 [refD x, .flat (.int .i64 (n : Nat))] (refD (x ^ n)) := by
  have c0 := of10_d 1 (by decide)
  refine DFun.enterA Tryd.func44 Tryd.ntmps44 ?_
  refine DW.walk ?_
  have e0 : refD 1 = refD (x ^ 0) := by rw [Nat.pow_zero]
  refine DW.loopA (fun i : Nat => ⟨[(0, refD x), (1, .flat (.int .i64 (n : Nat))), (5, refD (x ^ i)), (6, .flat (.int .i64 (i : Nat)))], []⟩) (fun i => i ≤ n) (fun i => n - i) 0 ?_ (Nat.zero_le _)
  intro i hi
  by_cases h : i < n
  · have c1 := mul10_d (x ^ i) x (by have := hb i hi; omega) (by omega)
    rw [← Nat.pow_succ] at c1
    have c1 : DFun Tryd.prog 41 [refD (x ^ i), refD x] (refD (x ^ (i + 1))) := c1
    clear hb e0
    generalize hA : x ^ (i + 1) = A at *
    generalize x ^ i = B at *
    refine DW.walk ?_
    subst hA
    exact ⟨i + 1, by omega, by omega, Sub.auto⟩
  · obtain rfl : i = n := by omega
    clear hb e0
    generalize x ^ i = B at *
    refine DW.walk ?_
    exact ⟨.inr rfl, ResOk.one [] rfl rfl trivial (Vw.pers rfl)⟩
end Go.Proofs.YtebbekdebanabaaDoor
