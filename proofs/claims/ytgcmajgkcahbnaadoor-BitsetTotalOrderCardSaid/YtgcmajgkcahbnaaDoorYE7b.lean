/- The law of the order, over data. No condition. -/
import Derived.Test.YtgcmajgkcahbnaaDoorXSl
import Derived.Test.YtgcmajgkcahbnaaDoorYB3
import Derived.Test.YtgcmajgkcahbnaaDoorYC6

set_option linter.unusedSimpArgs false
set_option linter.unusedVariables false
set_option maxHeartbeats 16000000
set_option maxRecDepth 8000
namespace Go.Proofs.YtgcmajgkcahbnaaDoor
open Go Go.RowKit Go.PP Go.Dm Go.Bs
noncomputable abbrev code7b : Code := Tryd.f7.body.getD .skip
theorem part7a {cc : Code} (hsel : selC [1, 1, 0, 0] code7b = some cc) (a b c : Nat) (x y z : Int) (e : Bool) (h4 : DFun Tryd.prog 35 [setD b, setD a] (.flat (.int .i64 (-x)))) (hE : EqlD Tryd.prog 24 (setC a) (setC b) e)
    (hx : (x = -1 ∧ e = false) ∨ (x = 0 ∧ e = true) ∨ (x = 1 ∧ e = false)) : DW Tryd.prog 98 cc ⟨[(3, .ref 3 0), (4, .ref 4 0), (5, .ref 5 0), (7, .flat (.int .i64 x)), (8, .flat (.int .i64 y)), (9, .flat (.int .i64 z))], [(3, some (.box (setC a))), (4, some (.box (setC b))), (5, some (.box (setC c)))]⟩ (fun e s => e = .normal ∧ Sub 98 s ⟨[(3, .ref 3 0), (4, .ref 4 0), (5, .ref 5 0), (7, .flat (.int .i64 x)), (8, .flat (.int .i64 y)), (9, .flat (.int .i64 z)), (40, .flat (.bool false))], [(3, some (.box (setC a))), (4, some (.box (setC b))), (5, some (.box (setC c)))]⟩) := by
  refine DW.sel hsel (by rfl) ?_
  rcases hx with ⟨rfl, rfl⟩ | ⟨rfl, rfl⟩ | ⟨rfl, rfl⟩
  · refine DW.walk ?_
    exact ⟨rfl, Sub.auto⟩
  · refine DW.walk ?_
    exact ⟨rfl, Sub.auto⟩
  · refine DW.walk ?_
    exact ⟨rfl, Sub.auto⟩
end Go.Proofs.YtgcmajgkcahbnaaDoor
