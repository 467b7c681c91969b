/- The law of truncation: its state, and the sizes of what was written. No condition. -/
import Derived.Test.YtjmljmappfhiaaaDoorYS10
import Derived.Test.YtjmljmappfhiaaaDoorYZe

set_option linter.unusedSimpArgs false
set_option linter.unusedVariables false
set_option maxHeartbeats 8000000
set_option maxRecDepth 8000
namespace Go.Proofs.YtjmljmappfhiaaaDoor
open Go Go.RowKit Go.PP Go.Dm

noncomputable abbrev code8 : Code := Tryd.f8.body.getD .skip
abbrev st8 (w o : List (Bs × Bs)) (k n : Nat) (er z i : Int) : DS := ⟨[(6, entsD w), (8, .flat (.int .i64 k)), (10, .flat (.int .i64 n)), (11, .flat (.int .i64 er)), (12, entsD o), (13, .flat (.int .i64 z)), (14, .flat (.int .i64 i))], []⟩
theorem allW_mono (w : List (Bs × Bs)) {i j : Nat} (h : i ≤ j) : (allW (w.take i)).length ≤ (allW (w.take j)).length := by
  have : allW (w.take i) <+: allW (w.take j) := by
    have h2 : w.take i = (w.take j).take i := by rw [List.take_take, Nat.min_eq_left h]
    rw [h2]
    unfold allW
    conv => rhs; rw [← List.take_append_drop i (w.take j), List.flatMap_append]
    exact List.prefix_append _ _
  exact this.length_le
end Go.Proofs.YtjmljmappfhiaaaDoor
