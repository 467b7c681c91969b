/- Contracts over data: All. No condition. -/
import Derived.Test.YtohjapcafkhabaaDoorYC8
import Derived.Test.YtohjapcafkhabaaDoorYC2

set_option linter.unusedSimpArgs false
set_option linter.unusedVariables false
set_option maxHeartbeats 4000000
set_option maxRecDepth 8000
namespace Go.Proofs.YtohjapcafkhabaaDoor
open Go Go.RowKit Go.PP Go.Dm Go.Rt
theorem all34_d (a : List Int) (ha : a.length ≤ 1000000) : DFun Tryd.prog 34 [.sl false 1 a.length (a.map fun x => .flat (.int .i64 x))] (.clo (.func 59) [] [.ptr [.sl false 1 a.length (a.map fun x => .flat (.int .i64 x))] 0]) := by
  have hc := clone58_d a (by omega)
  have hp := ints_pers a
  have hpl : (a.map fun x => D.flat (.int .i64 x)).length = a.length := List.length_map _
  generalize (a.map fun x => D.flat (.int .i64 x)) = L at *
  refine DFun.enterA Tryd.func34 Tryd.ntmps34 ?_
  refine DW.walk ?_
  exact ⟨.inr rfl, ResOk.one [(1, some (.box [.sl false 1 a.length L]))] rfl rfl ⟨rfl, trivial⟩ (Vw.clo trivial ⟨Vw.ref (.head _) (VwL.pers (by simp [persL, Dm.pers, hp])) (by intro h; cases h), trivial⟩)⟩
end Go.Proofs.YtohjapcafkhabaaDoor

set_option linter.unusedSimpArgs false
set_option linter.unusedVariables false
set_option maxHeartbeats 4000000
set_option maxRecDepth 8000
namespace Go.Proofs.YtohjapcafkhabaaDoor
open Go Go.RowKit Go.PP Go.Dm Go.Rt
theorem great_t (t : Tr) (ts : TSm t) (h : 40 < deepW t ∨ 300 < sizeW t) : DFun Tryd.prog 11 [treeD t] (.flat (.bool true)) := by
  have h1 := size38_d _ t (Nat.le_refl _) ts
  have h2 := deep40_d _ t (Nat.le_refl _) ts
  generalize sizeW t = x at *
  generalize deepW t = y at *
  obtain ⟨s, l⟩ := t
  rw [treeD_node] at *
  clear ts
  refine DFun.enterA Tryd.func11 Tryd.ntmps11 ?_
  by_cases hy : 40 < y
  · clear h
    refine DW.walk ?_
    exact ⟨.inr rfl, ResOk.one [] rfl rfl trivial (Vw.pers rfl)⟩
  · have hx := h.resolve_left hy
    clear h
    refine DW.walk ?_
    exact ⟨.inr rfl, ResOk.one [] rfl rfl trivial (Vw.le (Vw.pers rfl) (Le.of_eq (bT hx)))⟩
theorem great_f (t : Tr) (ts : TSm t) (hy : ¬ 40 < deepW t) (hx : ¬ 300 < sizeW t) : DFun Tryd.prog 11 [treeD t] (.flat (.bool false)) := by
  have h1 := size38_d _ t (Nat.le_refl _) ts
  have h2 := deep40_d _ t (Nat.le_refl _) ts
  generalize sizeW t = x at *
  generalize deepW t = y at *
  obtain ⟨s, l⟩ := t
  rw [treeD_node] at *
  clear ts
  refine DFun.enterA Tryd.func11 Tryd.ntmps11 ?_
  refine DW.walk ?_
  exact ⟨.inr rfl, ResOk.one [] rfl rfl trivial (Vw.le (Vw.pers rfl) (Le.of_eq (bF hx)))⟩
end Go.Proofs.YtohjapcafkhabaaDoor
