/- Contracts over data: the reference, Of. No condition. -/
import Derived.Test.YtgcmajgkcahbnaaDoorXSl
import Derived.Test.YtgcmajgkcahbnaaDoorYB1
import Derived.Test.YtgcmajgkcahbnaaDoorYAT
import Derived.Test.YtgcmajgkcahbnaaDoorYD7

set_option linter.unusedSimpArgs false
set_option linter.unusedVariables false
set_option maxHeartbeats 4000000
set_option maxRecDepth 8000
namespace Go.Proofs.YtgcmajgkcahbnaaDoor
open Go Go.RowKit Go.PP Go.Dm Go.Bs
theorem rof_d (l : List Int) (hl : l.length ≤ 1000) : DFun Tryd.prog 43 [intsD l] (intsD (ofL l)) := by
  have o5 : OwnAt 5 := .of _
  refine DFun.enterA Tryd.func43 Tryd.ntmps43 ?_
  refine DW.walk ?_
  refine DW.loopA (fun j : Nat => ⟨[(0, intsD l), (3, .sl false 1 ((l.take j).foldl withL []).length (((l.take j).foldl withL []).map fun x => .flat (.int .i64 x))), (4, .flat (.int .i64 j))], []⟩) (fun j => j ≤ l.length) (fun j => l.length - j) 0 ?_ (by omega)
  intro j hj
  rcases Nat.lt_or_ge j l.length with hlt | hge
  · obtain ⟨x, hx⟩ : ∃ x, l[j]? = some x := ⟨l[j], by simp⟩
    have h0 := part_map (f := fun x => D.flat (.int .i64 x)) hx
    have hY : (l.take (j + 1)).foldl withL [] = withL ((l.take j).foldl withL []) x := by
      rw [List.take_add_one, hx, Option.toList_some, List.foldl_append]; rfl
    have hq := foldW_len (l.take j) []
    rw [List.length_take, List.length_nil] at hq
    have hW := rwith_d ((l.take j).foldl withL []) x (by omega)
    rw [← hY] at hW
    generalize (l.take j).foldl withL [] = X at *
    generalize hZ : (l.take (j + 1)).foldl withL [] = Z at *
    clear hY hq
    refine DW.walk ?_
    refine ⟨j + 1, by omega, by omega, ?_⟩
    rw [hZ]
    exact Sub.auto
  · have hje : j = l.length := by omega
    subst hje
    rw [List.take_length]
    unfold ofL
    generalize l.foldl withL [] = X
    refine DW.walk ?_
    exact ⟨.inr rfl, ResOk.one [] rfl rfl trivial (Vw.pers rfl)⟩
end Go.Proofs.YtgcmajgkcahbnaaDoor
