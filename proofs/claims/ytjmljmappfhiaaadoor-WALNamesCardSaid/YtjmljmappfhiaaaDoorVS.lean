/- The law of names and filters. No condition. -/
import Derived.Test.YtjmljmappfhiaaaDoorVPb
set_option linter.unusedSimpArgs false
set_option linter.unusedVariables false
set_option maxHeartbeats 8000000
set_option maxRecDepth 8000
namespace Go.Proofs.YtjmljmappfhiaaaDoor
open Go Go.RowKit Go.PP Go.Dm

theorem law4_d (l : List (Bs × Bs)) (ns : List Bs) (hl : l.length ≤ 140737488351232) (hb : ∀ e ∈ l, e.1.length ≤ 140737488351232 ∧ e.2.length ≤ 140737488351232) (hnl : ns.length ≤ 140737488351232) : DFun Tryd.prog 4 [entsD l, strsD ns] (.flat (.bool true)) := by
  have hcut := cut_d l (by omega) (fun e he => by have := (hb e he).2; omega)
  have hcl := cut_small l
  have hcm := cut_mem (l := l) (fun e he => by have := (hb e he).1; omega)
  generalize cutE l = c at hcut hcl hcm
  have hmade := made_d c (by omega) hcm
  have hgl : (goodE c).length ≤ 30 := Nat.le_trans (List.length_filter_le _ _) hcl
  generalize goodE c = w at hmade hgl
  have hmin : (if (10 : Int) < (ns.length : Int) then 10 else (ns.length : Int)) = ((min ns.length 10 : Nat) : Int) := by split <;> omega
  have hml : min ns.length 10 ≤ ns.length := Nat.min_le_left _ _
  have hbt : D.sl false 1 (min ns.length 10) ((ns.map strD).take (min ns.length 10 * 1)) = strsD (ns.take 10) := by
    unfold strsD
    rw [List.length_take, Nat.min_comm, Nat.mul_one]
    congr 1
    rw [← List.map_take]
    congr 1
    exact List.take_eq_take_min.symm
  have hbl2 : (ns.take 10).length ≤ 10 := by simp; omega
  generalize ns.take 10 = n2 at hbt hbl2
  have h27 := names_d w (by omega)
  have h28 := namesR_d w (by omega)
  have hnn := names_len w w.length
  rw [List.take_length] at hnn
  have h26 := texts_d (namesOf w) (namesOf w) (by omega) (by omega)
  rw [decide_eq_true rfl] at h26
  have h16 := known_d
  have h19 := entries_d w (by omega)
  have h18 := to_d w (by omega)
  have h17 := same_d w w (by omega) (by omega)
  rw [decide_eq_true rfl] at h17
  refine DFun.enterA Tryd.func4 Tryd.ntmps4 ?_
  refine DW.walkTo 3 ?_
  refine DW.sub (s' := ⟨[(5, .ptr [entsD w] 0), (6, entsD w), (1, strsD n2)], []⟩) Sub.auto ?_
  refine DW.walk ?_
  refine DW.loopA (fun j : Nat => ⟨[(5, .ptr [entsD w] 0), (6, entsD w), (1, strsD n2), (7, .flat (.int .i64 j))], []⟩) (fun j => j ≤ n2.length) (fun j => n2.length - j) 0 ?_ (by omega)
  intro j hj
  rcases Nat.lt_or_ge j n2.length with hlt | hge
  · obtain ⟨s, hs⟩ : ∃ s, n2[j]? = some s := ⟨n2[j], by simp⟩
    have hp := str_at hs
    have h29 := byName_d w s (by omega)
    have hfl : (w.filter fun e => decide (e.1 = s)).length ≤ w.length := List.length_filter_le _ _
    have h18b := to_d (w.filter fun e => decide (e.1 = s)) (by omega)
    have h17b := same_d (w.filter fun e => decide (e.1 = s)) (w.filter fun e => decide (e.1 = s)) (by omega) (by omega)
    rw [decide_eq_true rfl] at h17b
    refine DW.walk ?_
    refine DW.adopt 9 9 31 2 rfl rfl ?_
    refine DW.loopA (fun k : Nat => ⟨[(5, .ptr [entsD w] 0), (6, entsD w), (1, strsD n2), (7, .flat (.int .i64 j)), (8, entsD (w.filter fun e => decide (e.1 = s))), (9, .own 9 ((w.take k).filter fun e => decide (e.1 = s)).length), (10, .flat (.int .i64 k))], [(9, some (.row 31 2 ((w.take k).filter fun e => decide (e.1 = s)).length (entsC ((w.take k).filter fun e => decide (e.1 = s)))))]⟩) (fun k => k ≤ w.length) (fun k => w.length - k) 0 ?_ (by omega)
    intro k hk
    rcases Nat.lt_or_ge k w.length with hlt2 | hge2
    · obtain ⟨e, he⟩ : ∃ e, w[k]? = some e := ⟨w[k], by simp⟩
      have h0 := ent_f0 he
      have h1 := ent_part he
      have hf := filter_take (fun e => decide (e.1 = s)) he
      have hfk : ((w.take k).filter fun e => decide (e.1 = s)).length ≤ k := Nat.le_trans (List.length_filter_le _ _) (by simp; omega)
      by_cases hes : e.1 = s
      · rw [decide_eq_true hes, if_pos rfl] at hf
        have hrow : entsC ((w.take k).filter fun e => decide (e.1 = s)) ++ [strD e.1, strD e.2] = entsC ((w.take (k + 1)).filter fun e => decide (e.1 = s)) := by rw [hf]; simp [entsC, entC]
        have hpe := entsC_pers ((w.take (k + 1)).filter fun e => decide (e.1 = s))
        have hlen : ((w.take k).filter fun e => decide (e.1 = s)).length + 1 = ((w.take (k + 1)).filter fun e => decide (e.1 = s)).length := by rw [hf]; simp
        refine DW.walk ?_
        exact ⟨k + 1, by omega, by omega, Sub.auto⟩
      · rw [decide_eq_false hes] at hf
        simp only [Bool.false_eq_true, if_false, List.append_nil] at hf
        have hpe := entsC_pers ((w.take k).filter fun e => decide (e.1 = s))
        refine DW.walk ?_
        refine ⟨k + 1, by omega, by omega, ?_⟩
        rw [hf]
        exact Sub.auto
    · have hke : k = w.length := by omega
      subst hke
      rw [List.take_length]
      have hpe := entsC_pers (w.filter fun e => decide (e.1 = s))
      refine DW.walkTo 15 ?_
      refine DW.sub (s' := ⟨[(5, .ptr [entsD w] 0), (6, entsD w), (1, strsD n2), (7, .flat (.int .i64 j)), (8, entsD (w.filter fun e => decide (e.1 = s))), (9, entsD (w.filter fun e => decide (e.1 = s)))], []⟩) Sub.auto ?_
      refine DW.walk ?_
      exact ⟨j + 1, by omega, by omega, Sub.auto⟩
  · have hje : j = n2.length := by omega
    subst hje
    have h30 := without_d w n2 (by omega) (by omega)
    have h31 := cutR_d w n2 (by omega) (by omega)
    have hfl : (w.filter fun e => !decide (e.1 ∈ n2)).length ≤ w.length := List.length_filter_le _ _
    generalize w.filter (fun e => !decide (e.1 ∈ n2)) = v at h30 h31 hfl
    have h19b := entries_d v (by omega)
    have h18b := to_d v (by omega)
    have h17b := same_d v v (by omega) (by omega)
    rw [decide_eq_true rfl] at h17b
    refine DW.walk ?_
    exact ⟨.inr rfl, ResOk.one [] rfl rfl trivial (Vw.pers rfl)⟩
end Go.Proofs.YtjmljmappfhiaaaDoor
