/- Contracts over data: the reference, lists. No condition. -/
import Derived.Test.YtgcmajgkcahbnaaDoorXSl
import Derived.Test.YtgcmajgkcahbnaaDoorYB1
import Derived.Test.YtgcmajgkcahbnaaDoorYAT

set_option linter.unusedSimpArgs false
set_option linter.unusedVariables false
set_option maxHeartbeats 4000000
set_option maxRecDepth 8000
namespace Go.Proofs.YtgcmajgkcahbnaaDoor
open Go Go.RowKit Go.PP Go.Dm Go.Bs
theorem rhas_d (r : List Int) (n : Int) (hr : r.length ≤ 1000000) : DFun Tryd.prog 47 [intsD r, .flat (.int .i64 n)] (.flat (.bool (decide (n ∈ r)))) := by
  refine DFun.enterA Tryd.func47 Tryd.ntmps47 ?_
  refine DW.walk ?_
  refine DW.loopA (fun j : Nat => ⟨[(0, intsD r), (1, .flat (.int .i64 n)), (5, .flat (.int .i64 j))], []⟩) (fun j => j ≤ r.length ∧ ¬ n ∈ r.take j) (fun j => r.length - j) 0 ?_ ⟨by omega, by simp⟩
  intro j ⟨hj, hn⟩
  rcases Nat.lt_or_ge j r.length with hlt | hge
  · obtain ⟨x, hx⟩ : ∃ x, r[j]? = some x := ⟨r[j], by simp⟩
    have h0 := part_map (f := fun x => D.flat (.int .i64 x)) hx
    by_cases he : x = n
    · have hm : n ∈ r := he ▸ List.mem_of_getElem? hx
      rw [decide_eq_true hm]
      clear hn hm
      refine DW.walk ?_
      exact ⟨.inr rfl, ResOk.one [] rfl rfl trivial (Vw.pers rfl)⟩
    · have hn2 : ¬ n ∈ r.take (j + 1) := by
        rw [List.take_add_one, hx, List.mem_append]
        rintro (h | h)
        · exact hn h
        · exact he (List.mem_singleton.1 h).symm
      clear hn
      refine DW.walk ?_
      exact ⟨j + 1, ⟨by omega, hn2⟩, by omega, Sub.auto⟩
  · have hje : j = r.length := by omega
    subst hje
    rw [List.take_length] at hn
    rw [decide_eq_false hn]
    clear hn
    refine DW.walk ?_
    exact ⟨.inr rfl, ResOk.one [] rfl rfl trivial (Vw.pers rfl)⟩
theorem rminus_d (a : List Int) (b : List Int) (ha : a.length ≤ 1000000) (hb : b.length ≤ 1000000) : DFun Tryd.prog 32 [intsD a, intsD b] (intsD (a.filter (fun x => decide (¬ x ∈ b)))) := by
  have o7 : OwnAt 7 := .of _
  refine DFun.enterA Tryd.func32 Tryd.ntmps32 ?_
  refine DW.walk ?_
  refine DW.loopA (fun j : Nat => ⟨[(0, intsD a), (1, intsD b), (5, .own 7 ((a.take j).filter (fun x => decide (¬ x ∈ b))).length), (6, .flat (.int .i64 j))], [(7, some (.row 3 1 ((a.take j).filter (fun x => decide (¬ x ∈ b))).length (((a.take j).filter (fun x => decide (¬ x ∈ b))).map fun x => .flat (.int .i64 x))))]⟩) (fun j => j ≤ a.length) (fun j => a.length - j) 0 ?_ (by omega)
  intro j hj
  rcases Nat.lt_or_ge j a.length with hlt | hge
  · obtain ⟨x, hx⟩ : ∃ x, a[j]? = some x := ⟨a[j], by simp⟩
    have h0 := part_map (f := fun x => D.flat (.int .i64 x)) hx
    have hY : (a.take (j + 1)).filter (fun x => decide (¬ x ∈ b)) = ((a.take j).filter (fun x => decide (¬ x ∈ b))) ++ [x].filter (fun x => decide (¬ x ∈ b)) := by rw [List.take_add_one, hx, List.filter_append]; rfl
    have hXl : ((a.take j).filter (fun x => decide (¬ x ∈ b))).length ≤ j := Nat.le_trans (List.length_filter_le _ _) (by rw [List.length_take]; omega)
    generalize hX : ((a.take j).filter (fun x => decide (¬ x ∈ b))) = X at *
    by_cases hm : x ∈ b
    · have hH := rhas_d b x hb
      rw [decide_eq_true hm] at hH
      rw [List.filter_cons_of_neg (by simpa using hm), List.filter_nil, List.append_nil] at hY
      refine DW.walk ?_
      refine ⟨j + 1, by omega, by omega, ?_⟩
      rw [hY]
      exact Sub.auto
    · have hH := rhas_d b x hb
      rw [decide_eq_false hm] at hH
      rw [List.filter_cons_of_pos (by simpa using hm), List.filter_nil] at hY
      refine DW.walk ?_
      refine ⟨j + 1, by omega, by omega, ?_⟩
      rw [hY]
      exact Sub.auto
  · have hje : j = a.length := by omega
    subst hje
    rw [List.take_length]
    have hXl : (a.filter (fun x => decide (¬ x ∈ b))).length ≤ a.length := List.length_filter_le _ _
    refine DW.walk ?_
    exact ⟨.inr rfl, ResOk.one [(7, some (.row 3 1 (a.filter (fun x => decide (¬ x ∈ b))).length ((a.filter (fun x => decide (¬ x ∈ b))).map fun x => .flat (.int .i64 x))))] rfl rfl ⟨rfl, trivial⟩ (Vw.own (.head _) (VwL.pers (persL_map (fun _ => rfl) _)))⟩

theorem rwithin_d (a b : List Int) (ha : a.length ≤ 1000000) (hb : b.length ≤ 1000000) : DFun Tryd.prog 34 [intsD a, intsD b] (.flat (.bool (decide (minusL a b = [])))) := by
  have h1 := rminus_d a b ha hb
  have e : decide (minusL a b = []) = decide (((minusL a b).length : Int) = 0) := decide_eq_decide.2 (by rw [← List.length_eq_zero_iff]; omega)
  rw [e]
  refine DFun.enterA Tryd.func34 Tryd.ntmps34 ?_
  refine DW.walk ?_
  exact ⟨.inr rfl, ResOk.one [] rfl rfl trivial (Vw.pers rfl)⟩
end Go.Proofs.YtgcmajgkcahbnaaDoor
