/- The law of truncation: the end. No condition. -/
import Derived.Test.YtjmljmappfhiaaaDoorYT8

set_option linter.unusedSimpArgs false
set_option linter.unusedVariables false
set_option maxHeartbeats 8000000
set_option maxRecDepth 8000
namespace Go.Proofs.YtjmljmappfhiaaaDoor
open Go Go.RowKit Go.PP Go.Dm

theorem tail8 {c : Code} (hsel : selC [1, 1, 1, 1, 1, 1, 1, 1, 1, 1] code8 = some c) (w o : List (Bs × Bs)) (k n : Nat) (z : Int) (hn : n ≤ k) (hk : k ≤ 10000) (hw : w.length ≤ 30) (h16 : DFun Tryd.prog 16 [] (.flat (.bool true))) :
    DW Tryd.prog 132 c (st8 w o k n (if n < k then 19 else 0) z w.length) (QF Tryd.prog Tryd.f8 (.flat (.bool true))) := by
  refine DW.sel hsel (by rfl) ?_
  by_cases h : n < k
  · rw [if_pos h]
    have hb2 : ((decide ((19 : Int) = 0)) == (decide ((n : Int) = (k : Int)))) = true := by
      rw [decide_eq_false (by omega), decide_eq_false (by omega)]; rfl
    refine DW.walk ?_
    exact ⟨.inr rfl, ResOk.one [] rfl rfl trivial (Vw.pers rfl)⟩
  · rw [if_neg h]
    have hb2 : ((decide ((0 : Int) = 0)) == (decide ((n : Int) = (k : Int)))) = true := by
      rw [decide_eq_true rfl, decide_eq_true (by omega)]; rfl
    refine DW.walk ?_
    exact ⟨.inr rfl, ResOk.one [] rfl rfl trivial (Vw.pers rfl)⟩
end Go.Proofs.YtjmljmappfhiaaaDoor
