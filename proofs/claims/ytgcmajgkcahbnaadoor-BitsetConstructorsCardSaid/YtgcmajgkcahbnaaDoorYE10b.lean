/- The law of the constructors, over data. No condition. -/
import Derived.Test.YtgcmajgkcahbnaaDoorXSl
import Derived.Test.YtgcmajgkcahbnaaDoorYAG
import Derived.Test.YtgcmajgkcahbnaaDoorYB2
import Derived.Test.YtgcmajgkcahbnaaDoorYB3
import Derived.Test.YtgcmajgkcahbnaaDoorYB4
import Derived.Test.YtgcmajgkcahbnaaDoorYB5
import Derived.Test.YtgcmajgkcahbnaaDoorYB6
import Derived.Test.YtgcmajgkcahbnaaDoorYD1
import Derived.Test.YtgcmajgkcahbnaaDoorYD6
import Derived.Test.YtgcmajgkcahbnaaDoorYD11

set_option linter.unusedSimpArgs false
set_option linter.unusedVariables false
set_option maxHeartbeats 16000000
set_option maxRecDepth 8000
namespace Go.Proofs.YtgcmajgkcahbnaaDoor
open Go Go.RowKit Go.PP Go.Dm Go.Bs
noncomputable abbrev code10b : Code := Tryd.f10.body.getD .skip
theorem part10b {cc : Code} (hsel : selC [1, 1, 1, 1, 1, 1, 0, 0] code10b = some cc) (w : List Int) (hl : w.length ≤ 1024) (z lo hi : Int) (h0 : w.length = 0 → lo = 0 ∧ hi = 0) (h1 : 0 < w.length → w[0]? = some lo ∧ w[w.length - 1]? = some hi) :
    DW Tryd.prog 117 cc ⟨[(1, .flat (.int .i64 z)), (6, intsD w), (7, .flat (.int .i64 lo)), (8, .flat (.bool (decide (0 < (w.length : Int))))), (9, .flat (.int .i64 hi))], []⟩ (fun e s => e = .normal ∧ Sub 117 s ⟨[(1, .flat (.int .i64 z)), (102, .flat (.bool false))], []⟩) := by
  refine DW.sel hsel (by rfl) ?_
  by_cases hp : 0 < w.length
  · obtain ⟨q1, q2⟩ := h1 hp
    have p1 : partD false 1 ((0 : Int).toNat * 1) (w.map (fun x => D.flat (.int .i64 x))) = some (.flat (.int .i64 lo)) := part_map (f := fun x => D.flat (.int .i64 x)) (j := 0) q1
    have p2 : partD false 1 (((w.length : Int) - 1).toNat * 1) (w.map (fun x => D.flat (.int .i64 x))) = some (.flat (.int .i64 hi)) := by
      rw [show ((w.length : Int) - 1) = ((w.length - 1 : Nat) : Int) by omega]
      exact part_map (f := fun x => D.flat (.int .i64 x)) q2
    clear h0 h1 q1 q2
    have hn : (!decide (0 < (w.length : Int))) = false := by rw [decide_eq_true (by omega)]; rfl
    refine DW.walk ?_
    exact ⟨rfl, Sub.auto⟩
  · obtain ⟨rfl, rfl⟩ := h0 (by omega)
    clear h0 h1
    have hn : (!decide (0 < (w.length : Int))) = true := by rw [decide_eq_false (by omega)]; rfl
    refine DW.walk ?_
    exact ⟨rfl, Sub.auto⟩
end Go.Proofs.YtgcmajgkcahbnaaDoor
