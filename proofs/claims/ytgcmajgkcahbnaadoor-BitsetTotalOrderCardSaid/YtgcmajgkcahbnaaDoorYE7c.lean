/- The law of the order, over data. No condition. -/
import Derived.Test.YtgcmajgkcahbnaaDoorXSl
import Derived.Test.YtgcmajgkcahbnaaDoorYB3
import Derived.Test.YtgcmajgkcahbnaaDoorYC6

set_option linter.unusedSimpArgs false
set_option linter.unusedVariables false
set_option maxHeartbeats 16000000
set_option maxRecDepth 8000
namespace Go.Proofs.YtgcmajgkcahbnaaDoor
open Go Go.RowKit Go.PP Go.Dm Go.Bs
noncomputable abbrev code7c : Code := Tryd.f7.body.getD .skip
theorem part7b {cc : Code} (hsel : selC [1, 1, 1, 0, 0] code7c = some cc) (a b c : Nat) (x y z : Int) (t1 : x ≤ 0 → y ≤ 0 → z ≤ 0) (t2 : 0 ≤ x → 0 ≤ y → 0 ≤ z) : DW Tryd.prog 98 cc ⟨[(3, .ref 3 0), (4, .ref 4 0), (5, .ref 5 0), (7, .flat (.int .i64 x)), (8, .flat (.int .i64 y)), (9, .flat (.int .i64 z))], [(3, some (.box (setC a))), (4, some (.box (setC b))), (5, some (.box (setC c)))]⟩ (fun e s => e = .normal ∧ Sub 98 s ⟨[(3, .ref 3 0), (4, .ref 4 0), (5, .ref 5 0), (62, .flat (.bool false))], [(3, some (.box (setC a))), (4, some (.box (setC b))), (5, some (.box (setC c)))]⟩) := by
  refine DW.sel hsel (by rfl) ?_
  by_cases c1 : x ≤ 0 ∧ y ≤ 0
  · have hz := t1 c1.1 c1.2
    obtain ⟨q1, q2⟩ := c1
    by_cases c2 : 0 ≤ x
    · by_cases c3 : 0 ≤ y
      · have hz2 := t2 c2 c3
        have ez : D.flat (.bool (decide (z < 0))) = D.flat (.bool false) := by rw [decide_eq_false (by omega)]
        clear t1 t2
        refine DW.walk ?_
        exact ⟨rfl, Sub.auto⟩
      · clear t1 t2
        refine DW.walk ?_
        exact ⟨rfl, Sub.auto⟩
    · clear t1 t2
      refine DW.walk ?_
      exact ⟨rfl, Sub.auto⟩
  · by_cases c0 : x ≤ 0
    · have c4 : ¬ y ≤ 0 := fun h => c1 ⟨c0, h⟩
      by_cases c2 : 0 ≤ x
      · have hz2 := t2 c2 (by omega)
        have ez : D.flat (.bool (decide (z < 0))) = D.flat (.bool false) := by rw [decide_eq_false (by omega)]
        clear t1 t2 c1
        refine DW.walk ?_
        exact ⟨rfl, Sub.auto⟩
      · clear t1 t2 c1
        refine DW.walk ?_
        exact ⟨rfl, Sub.auto⟩
    · by_cases c3 : 0 ≤ y
      · have hz2 := t2 (by omega) c3
        have ez : D.flat (.bool (decide (z < 0))) = D.flat (.bool false) := by rw [decide_eq_false (by omega)]
        clear t1 t2 c1
        refine DW.walk ?_
        exact ⟨rfl, Sub.auto⟩
      · clear t1 t2 c1
        refine DW.walk ?_
        exact ⟨rfl, Sub.auto⟩
end Go.Proofs.YtgcmajgkcahbnaaDoor
