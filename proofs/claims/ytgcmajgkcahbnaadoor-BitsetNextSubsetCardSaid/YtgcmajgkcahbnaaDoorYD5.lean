/- Contracts over data: the reference, Next. No condition. -/
import Derived.Test.YtgcmajgkcahbnaaDoorXSl
import Derived.Test.YtgcmajgkcahbnaaDoorYB1
import Derived.Test.YtgcmajgkcahbnaaDoorYAT
import Derived.Test.YtgcmajgkcahbnaaDoorYD2
import Derived.Test.YtgcmajgkcahbnaaDoorYAT2

set_option linter.unusedSimpArgs false
set_option linter.unusedVariables false
set_option maxHeartbeats 4000000
set_option maxRecDepth 8000
namespace Go.Proofs.YtgcmajgkcahbnaaDoor
open Go Go.RowKit Go.PP Go.Dm Go.Bs
theorem rnext_d (r w : List Int) (hr : r.length ≤ 100000) (hw : w.length ≤ 100000) : DFun Tryd.prog 14 [intsD r, intsD w] (.tup [intsD ((nextL r w w).getD []), .flat (.bool (nextL r w w).isSome)]) := by
  have o23 : OwnAt 23 := .of _
  have o47 : OwnAt 47 := .of _
  have o50 : OwnAt 50 := .of _
  refine DFun.enterA Tryd.func14 Tryd.ntmps14 ?_
  refine DW.walk ?_
  refine DW.loopA (fun i : Nat => ⟨[(0, intsD r), (1, intsD w), (6, .flat (.int .i64 i))], []⟩) (fun i => i ≤ w.length ∧ nextL r w w = nextL r w (w.drop i)) (fun i => w.length - i) 0 ?_ ⟨by omega, rfl⟩
  intro i ⟨hi, hn⟩
  rcases Nat.lt_or_ge i w.length with hlt | hge
  · obtain ⟨n, hx⟩ : ∃ n, w[i]? = some n := ⟨w[i], by simp⟩
    have h0 := part_map (f := fun x => D.flat (.int .i64 x)) hx
    have hd : w.drop i = n :: w.drop (i + 1) := by
      rw [List.drop_eq_getElem_cons hlt]
      rw [List.getElem?_eq_getElem hlt] at hx
      rw [Option.some.inj hx]
    rw [hd] at hn
    rw [show nextL r w (n :: w.drop (i + 1)) = (if n ∈ r then nextL r w (w.drop (i + 1)) else if minusL (r.filter fun x => decide (x > n)) w = [] then some (n :: r.filter fun x => decide (x > n)) else nextL r w (w.drop (i + 1))) from rfl] at hn
    have hH := rhas_d r n (by omega)
    by_cases hm : n ∈ r
    · rw [if_pos hm] at hn
      rw [decide_eq_true hm] at hH
      refine DW.walk ?_
      exact ⟨i + 1, ⟨by omega, hn⟩, by omega, Sub.auto⟩
    · rw [if_neg hm] at hn
      rw [decide_eq_false hm] at hH
      have hS := rwithin_d (aboveL r n) w (by have : (aboveL r n).length ≤ r.length := List.length_filter_le _ _; omega) (by omega)
      refine DW.walk ?_
      refine DW.loopA (fun k : Nat => ⟨[(0, intsD r), (1, intsD w), (6, .flat (.int .i64 i)), (7, .flat (.int .i64 n)), (8, .own 23 ((r.take k).filter (fun x => decide (x > n))).length), (9, .flat (.int .i64 k))], [(23, some (.row 3 1 ((r.take k).filter (fun x => decide (x > n))).length (((r.take k).filter (fun x => decide (x > n))).map fun x => .flat (.int .i64 x))))]⟩) (fun k => k ≤ r.length) (fun k => r.length - k) 0 ?_ (by omega)
      intro k hk
      rcases Nat.lt_or_ge k r.length with hlt2 | hge2
      · obtain ⟨x, hx2⟩ : ∃ x, r[k]? = some x := ⟨r[k], by simp⟩
        have h1 := part_map (f := fun x => D.flat (.int .i64 x)) hx2
        have hY : (r.take (k + 1)).filter (fun x => decide (x > n)) = (r.take k).filter (fun x => decide (x > n)) ++ [x].filter (fun x => decide (x > n)) := by rw [List.take_add_one, hx2, List.filter_append]; rfl
        have hXl : ((r.take k).filter (fun x => decide (x > n))).length ≤ k := Nat.le_trans (List.length_filter_le _ _) (by rw [List.length_take]; omega)
        generalize hX : (r.take k).filter (fun x => decide (x > n)) = X at *
        clear hS hH h0
        by_cases hc : x > n
        · rw [List.filter_cons_of_pos (by simpa using hc), List.filter_nil] at hY
          refine DW.walk ?_
          refine ⟨k + 1, by omega, by omega, ?_⟩
          rw [hY]
          exact Sub.auto
        · rw [List.filter_cons_of_neg (by simpa using hc), List.filter_nil, List.append_nil] at hY
          refine DW.walk ?_
          refine ⟨k + 1, by omega, by omega, ?_⟩
          rw [hY]
          exact Sub.auto
      · have hke : k = r.length := by omega
        subst hke
        rw [List.take_length]
        have hXl : (aboveL r n).length ≤ r.length := List.length_filter_le _ _
        change DFun Tryd.prog 34 [intsD (r.filter fun x => decide (x > n)), intsD w] (.flat (.bool (decide (minusL (r.filter fun x => decide (x > n)) w = [])))) at hS
        change (r.filter fun x => decide (x > n)).length ≤ _ at hXl
        generalize r.filter (fun x => decide (x > n)) = X at *
        clear hH h0
        by_cases hc : minusL X w = []
        · rw [decide_eq_true hc] at hS
          rw [if_pos hc] at hn
          rw [hn]
          clear hn
          refine DW.walk ?_
          exact ⟨.inr rfl, ResOk.two [(47, some (.row 3 1 (1 + X.length) ([.flat (.int .i64 n)] ++ X.map fun x => .flat (.int .i64 x))))] rfl rfl rfl ⟨rfl, trivial⟩ (Vw.le (Vw.own (.head _) (VwL.pers (by simp [persL, Dm.pers]; exact persL_map (fun _ => rfl) _))) (Le.of_eq (by simp [intsD, Nat.add_comm]))) (Vw.pers rfl)⟩
        · rw [decide_eq_false hc] at hS
          rw [if_neg hc] at hn
          refine DW.walk ?_
          exact ⟨i + 1, ⟨by omega, hn⟩, by omega, Sub.auto⟩
  · have hie : i = w.length := by omega
    subst hie
    rw [List.drop_length] at hn
    rw [hn]
    refine DW.walk ?_
    exact ⟨.inr rfl, ResOk.two [(50, some (.row 3 1 0 []))] rfl rfl rfl ⟨rfl, trivial⟩ (Vw.own (.head _) VwL.nil) (Vw.pers rfl)⟩
end Go.Proofs.YtgcmajgkcahbnaaDoor
