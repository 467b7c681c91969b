/- Contracts over data: the reference, more of lists. No condition. -/
import Derived.Test.YtgcmajgkcahbnaaDoorXSl
import Derived.Test.YtgcmajgkcahbnaaDoorYB1
import Derived.Test.YtgcmajgkcahbnaaDoorYAT
import Derived.Test.YtgcmajgkcahbnaaDoorYD2

set_option linter.unusedSimpArgs false
set_option linter.unusedVariables false
set_option maxHeartbeats 4000000
set_option maxRecDepth 8000
namespace Go.Proofs.YtgcmajgkcahbnaaDoor
open Go Go.RowKit Go.PP Go.Dm Go.Bs
theorem rand_d (a : List Int) (b : List Int) (ha : a.length ≤ 1000000) (hb : b.length ≤ 1000000) : DFun Tryd.prog 28 [intsD a, intsD b] (intsD (a.filter (fun x => decide (x ∈ b)))) := by
  have o7 : OwnAt 7 := .of _
  refine DFun.enterA Tryd.func28 Tryd.ntmps28 ?_
  refine DW.walk ?_
  refine DW.loopA (fun j : Nat => ⟨[(0, intsD a), (1, intsD b), (5, .own 7 ((a.take j).filter (fun x => decide (x ∈ b))).length), (6, .flat (.int .i64 j))], [(7, some (.row 3 1 ((a.take j).filter (fun x => decide (x ∈ b))).length (((a.take j).filter (fun x => decide (x ∈ b))).map fun x => .flat (.int .i64 x))))]⟩) (fun j => j ≤ a.length) (fun j => a.length - j) 0 ?_ (by omega)
  intro j hj
  rcases Nat.lt_or_ge j a.length with hlt | hge
  · obtain ⟨x, hx⟩ : ∃ x, a[j]? = some x := ⟨a[j], by simp⟩
    have h0 := part_map (f := fun x => D.flat (.int .i64 x)) hx
    have hY : (a.take (j + 1)).filter (fun x => decide (x ∈ b)) = ((a.take j).filter (fun x => decide (x ∈ b))) ++ [x].filter (fun x => decide (x ∈ b)) := by rw [List.take_add_one, hx, List.filter_append]; rfl
    have hXl : ((a.take j).filter (fun x => decide (x ∈ b))).length ≤ j := Nat.le_trans (List.length_filter_le _ _) (by rw [List.length_take]; omega)
    generalize hX : ((a.take j).filter (fun x => decide (x ∈ b))) = X at *
    by_cases hm : x ∈ b
    · have hH := rhas_d b x hb
      rw [decide_eq_true hm] at hH
      rw [List.filter_cons_of_pos (by simpa using hm), List.filter_nil] at hY
      refine DW.walk ?_
      refine ⟨j + 1, by omega, by omega, ?_⟩
      rw [hY]
      exact Sub.auto
    · have hH := rhas_d b x hb
      rw [decide_eq_false hm] at hH
      rw [List.filter_cons_of_neg (by simpa using hm), List.filter_nil, List.append_nil] at hY
      refine DW.walk ?_
      refine ⟨j + 1, by omega, by omega, ?_⟩
      rw [hY]
      exact Sub.auto
  · have hje : j = a.length := by omega
    subst hje
    rw [List.take_length]
    have hXl : (a.filter (fun x => decide (x ∈ b))).length ≤ a.length := List.length_filter_le _ _
    refine DW.walk ?_
    exact ⟨.inr rfl, ResOk.one [(7, some (.row 3 1 (a.filter (fun x => decide (x ∈ b))).length ((a.filter (fun x => decide (x ∈ b))).map fun x => .flat (.int .i64 x))))] rfl rfl ⟨rfl, trivial⟩ (Vw.own (.head _) (VwL.pers (persL_map (fun _ => rfl) _)))⟩
theorem rwithout_d (a : List Int) (n : Int) (ha : a.length ≤ 1000000) : DFun Tryd.prog 26 [intsD a, .flat (.int .i64 n)] (intsD (a.filter (fun x => decide (x ≠ n)))) := by
  have o7 : OwnAt 7 := .of _
  refine DFun.enterA Tryd.func26 Tryd.ntmps26 ?_
  refine DW.walk ?_
  refine DW.loopA (fun j : Nat => ⟨[(0, intsD a), (1, .flat (.int .i64 n)), (5, .own 7 ((a.take j).filter (fun x => decide (x ≠ n))).length), (6, .flat (.int .i64 j))], [(7, some (.row 3 1 ((a.take j).filter (fun x => decide (x ≠ n))).length (((a.take j).filter (fun x => decide (x ≠ n))).map fun x => .flat (.int .i64 x))))]⟩) (fun j => j ≤ a.length) (fun j => a.length - j) 0 ?_ (by omega)
  intro j hj
  rcases Nat.lt_or_ge j a.length with hlt | hge
  · obtain ⟨x, hx⟩ : ∃ x, a[j]? = some x := ⟨a[j], by simp⟩
    have h0 := part_map (f := fun x => D.flat (.int .i64 x)) hx
    have hY : (a.take (j + 1)).filter (fun x => decide (x ≠ n)) = ((a.take j).filter (fun x => decide (x ≠ n))) ++ [x].filter (fun x => decide (x ≠ n)) := by rw [List.take_add_one, hx, List.filter_append]; rfl
    have hXl : ((a.take j).filter (fun x => decide (x ≠ n))).length ≤ j := Nat.le_trans (List.length_filter_le _ _) (by rw [List.length_take]; omega)
    generalize hX : ((a.take j).filter (fun x => decide (x ≠ n))) = X at *
    by_cases hm : x ≠ n
    · skip
      rw [List.filter_cons_of_pos (by simpa using hm), List.filter_nil] at hY
      refine DW.walk ?_
      refine ⟨j + 1, by omega, by omega, ?_⟩
      rw [hY]
      exact Sub.auto
    · skip
      rw [List.filter_cons_of_neg (by simpa using hm), List.filter_nil, List.append_nil] at hY
      refine DW.walk ?_
      refine ⟨j + 1, by omega, by omega, ?_⟩
      rw [hY]
      exact Sub.auto
  · have hje : j = a.length := by omega
    subst hje
    rw [List.take_length]
    have hXl : (a.filter (fun x => decide (x ≠ n))).length ≤ a.length := List.length_filter_le _ _
    refine DW.walk ?_
    exact ⟨.inr rfl, ResOk.one [(7, some (.row 3 1 (a.filter (fun x => decide (x ≠ n))).length ((a.filter (fun x => decide (x ≠ n))).map fun x => .flat (.int .i64 x))))] rfl rfl ⟨rfl, trivial⟩ (Vw.own (.head _) (VwL.pers (persL_map (fun _ => rfl) _)))⟩
end Go.Proofs.YtgcmajgkcahbnaaDoor
