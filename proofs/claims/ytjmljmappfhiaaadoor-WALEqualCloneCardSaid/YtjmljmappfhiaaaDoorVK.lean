/- Contracts over data: names, filters, comparisons of logs. No condition. -/
import Derived.Test.YtjmljmappfhiaaaDoorVJ
set_option linter.unusedSimpArgs false
set_option linter.unusedVariables false
set_option maxHeartbeats 1000000
set_option maxRecDepth 8000
namespace Go.Proofs.YtjmljmappfhiaaaDoor
open Go Go.RowKit Go.PP Go.Dm

theorem entries_d (l : List (Bs × Bs)) (hl : l.length ≤ 100000) : DFun Tryd.prog 19 [.ptr [entsD l] 0] (entsD l) := ents_fun (entries_l l hl)
theorem len_d (l : List (Bs × Bs)) (hl : l.length ≤ 100000) : DFun Tryd.prog 22 [.ptr [entsD l] 0] (.flat (.int .i64 l.length)) := by
  have hc := entries_d l hl
  refine DFun.enterA Tryd.func22 Tryd.ntmps22 ?_
  refine DW.walk ?_
  exact ⟨.inr rfl, ResOk.one [] rfl rfl trivial (Vw.pers rfl)⟩
theorem equal46_d (l m : List (Bs × Bs)) (hl : l.length ≤ 100000) (hm : m.length ≤ 100000) : DFun Tryd.prog 46 [entsD l, entsD m] (.flat (.bool (decide (l = m)))) := by
  refine DFun.enterA Tryd.func46 Tryd.ntmps46 ?_
  by_cases hne : l.length = m.length
  · refine DW.walk ?_
    refine DW.loopA (fun j : Nat => ⟨[(0, entsD l), (1, entsD m), (12, .flat (.int .i64 l.length)), (13, .flat (.int .i64 j))], []⟩) (fun j => j ≤ l.length ∧ l.take j = m.take j) (fun j => l.length - j) 0 ?_ ⟨by omega, rfl⟩
    intro j ⟨hj, heq⟩
    rcases Nat.lt_or_ge j l.length with hlt | hge
    · obtain ⟨e, he⟩ : ∃ e, l[j]? = some e := ⟨l[j], by simp⟩
      obtain ⟨f, hf⟩ : ∃ f, m[j]? = some f := ⟨m[j], by simp⟩
      have h0 := ent_part he
      have h1 := ent_part hf
      by_cases hef : e = f
      · subst hef
        have ht : l.take (j + 1) = m.take (j + 1) := by rw [List.take_add_one, List.take_add_one, he, hf, heq]
        have hb : (!(decide (e.1 = e.1) && decide (e.2 = e.2))) = false := by simp
        refine DW.walk ?_
        exact ⟨j + 1, ⟨by omega, ht⟩, by omega, Sub.auto⟩
      · have hb : (!(decide (e.1 = f.1) && decide (e.2 = f.2))) = true := by
          rcases e with ⟨e1, e2⟩; rcases f with ⟨f1, f2⟩
          simp only [Prod.mk.injEq] at hef
          simp only [Bool.not_eq_true', Bool.and_eq_false_imp, decide_eq_true_eq, decide_eq_false_iff_not]
          exact fun h1 h2 => hef ⟨h1, h2⟩
        have hr : decide (l = m) = false := decide_eq_false fun h => by subst h; rw [he] at hf; cases hf; exact hef rfl
        rw [hr]
        refine DW.walk ?_
        exact ⟨.inr rfl, ResOk.one [] rfl rfl trivial (Vw.pers rfl)⟩
    · have hje : j = l.length := by omega
      subst hje
      rw [List.take_length, hne, List.take_length] at heq
      rw [decide_eq_true heq]
      refine DW.walk ?_
      exact ⟨.inr rfl, ResOk.one [] rfl rfl trivial (Vw.pers rfl)⟩
  · have hr : decide (l = m) = false := decide_eq_false fun h => hne (by rw [h])
    rw [hr]
    refine DW.walk ?_
    exact ⟨.inr rfl, ResOk.one [] rfl rfl trivial (Vw.pers rfl)⟩
theorem equal_d (l m : List (Bs × Bs)) (hl : l.length ≤ 100000) (hm : m.length ≤ 100000) : DFun Tryd.prog 32 [.ptr [entsD l] 0, .ptr [entsD m] 0] (.flat (.bool (decide (l = m)))) := by
  have hc := equal46_d l m hl hm
  refine DFun.enterA Tryd.func32 Tryd.ntmps32 ?_
  refine DW.walk ?_
  exact ⟨.inr rfl, ResOk.one [] rfl rfl trivial (Vw.pers rfl)⟩
theorem equal_n (l : List (Bs × Bs)) : DFun Tryd.prog 32 [.ptr [entsD l] 0, .flat (.pointer none)] (.flat (.bool false)) := by
  refine DFun.enterA Tryd.func32 Tryd.ntmps32 ?_
  refine DW.walk ?_
  exact ⟨.inr rfl, ResOk.one [] rfl rfl trivial (Vw.pers rfl)⟩
theorem equal_m (l : List (Bs × Bs)) : DFun Tryd.prog 32 [.flat (.pointer none), .ptr [entsD l] 0] (.flat (.bool false)) := by
  refine DFun.enterA Tryd.func32 Tryd.ntmps32 ?_
  refine DW.walk ?_
  exact ⟨.inr rfl, ResOk.one [] rfl rfl trivial (Vw.pers rfl)⟩
theorem equal_nn : DFun Tryd.prog 32 [.flat (.pointer none), .flat (.pointer none)] (.flat (.bool true)) := by
  refine DFun.enterA Tryd.func32 Tryd.ntmps32 ?_
  refine DW.walk ?_
  exact ⟨.inr rfl, ResOk.one [] rfl rfl trivial (Vw.pers rfl)⟩
theorem texts_d (l m : List Bs) (hl : l.length ≤ 100000) (hm : m.length ≤ 100000) : DFun Tryd.prog 26 [strsD l, strsD m] (.flat (.bool (decide (l = m)))) := by
  refine DFun.enterA Tryd.func26 Tryd.ntmps26 ?_
  by_cases hne : l.length = m.length
  · refine DW.walk ?_
    refine DW.loopA (fun j : Nat => ⟨[(0, strsD l), (1, strsD m), (5, .flat (.int .i64 j))], []⟩) (fun j => j ≤ l.length ∧ l.take j = m.take j) (fun j => l.length - j) 0 ?_ ⟨by omega, rfl⟩
    intro j ⟨hj, heq⟩
    rcases Nat.lt_or_ge j l.length with hlt | hge
    · obtain ⟨e, he⟩ : ∃ e, l[j]? = some e := ⟨l[j], by simp⟩
      obtain ⟨f, hf⟩ : ∃ f, m[j]? = some f := ⟨m[j], by simp⟩
      have h0 := str_at he
      have h1 := str_at hf
      by_cases hef : e = f
      · subst hef
        have ht : l.take (j + 1) = m.take (j + 1) := by rw [List.take_add_one, List.take_add_one, he, hf, heq]
        have hb : decide (e ≠ e) = false := by simp
        refine DW.walk ?_
        exact ⟨j + 1, ⟨by omega, ht⟩, by omega, Sub.auto⟩
      · have hr : decide (l = m) = false := decide_eq_false fun h => by subst h; rw [he] at hf; cases hf; exact hef rfl
        rw [hr]
        refine DW.walk ?_
        exact ⟨.inr rfl, ResOk.one [] rfl rfl trivial (Vw.pers rfl)⟩
    · have hje : j = l.length := by omega
      subst hje
      rw [List.take_length, hne, List.take_length] at heq
      rw [decide_eq_true heq]
      refine DW.walk ?_
      exact ⟨.inr rfl, ResOk.one [] rfl rfl trivial (Vw.pers rfl)⟩
  · have hr : decide (l = m) = false := decide_eq_false fun h => hne (by rw [h])
    rw [hr]
    refine DW.walk ?_
    exact ⟨.inr rfl, ResOk.one [] rfl rfl trivial (Vw.pers rfl)⟩
theorem cutR_d (l : List (Bs × Bs)) (ns : List Bs) (hl : l.length ≤ 100000) (hn : ns.length ≤ 100000) : DFun Tryd.prog 31 [entsD l, strsD ns] (entsD (l.filter fun e => !decide (e.1 ∈ ns))) := by
  refine DFun.enterA Tryd.func31 Tryd.ntmps31 ?_
  refine DW.walk ?_
  refine DW.adopt 5 5 31 2 rfl rfl ?_
  refine DW.loopA (fun j : Nat => ⟨[(0, entsD l), (1, strsD ns), (5, .own 5 ((l.take j).filter fun e => !decide (e.1 ∈ ns)).length), (6, .flat (.int .i64 j))], [(5, some (.row 31 2 ((l.take j).filter fun e => !decide (e.1 ∈ ns)).length (entsC ((l.take j).filter fun e => !decide (e.1 ∈ ns)))))]⟩) (fun j => j ≤ l.length) (fun j => l.length - j) 0 ?_ (by omega)
  intro j hj
  rcases Nat.lt_or_ge j l.length with hlt | hge
  · obtain ⟨e, he⟩ : ∃ e, l[j]? = some e := ⟨l[j], by simp⟩
    have h0 := ent_f0 he
    have h1 := ent_part he
    have hin := in_d ns e.1 (by omega)
    have hf := filter_take (fun e => !decide (e.1 ∈ ns)) he
    have hfl : ((l.take j).filter fun e => !decide (e.1 ∈ ns)).length ≤ j := Nat.le_trans (List.length_filter_le _ _) (by simp; omega)
    by_cases hp : e.1 ∈ ns
    · rw [decide_eq_true hp] at hf hin
      simp only [Bool.not_true, Bool.false_eq_true, if_false, List.append_nil] at hf
      have hpe := entsC_pers ((l.take j).filter fun e => !decide (e.1 ∈ ns))
      refine DW.walk ?_
      refine ⟨j + 1, by omega, by omega, ?_⟩
      rw [hf]
      exact Sub.auto
    · rw [decide_eq_false hp] at hf hin
      simp only [Bool.not_false, if_true] at hf
      have hrow : entsC ((l.take j).filter fun e => !decide (e.1 ∈ ns)) ++ [strD e.1, strD e.2] = entsC ((l.take (j + 1)).filter fun e => !decide (e.1 ∈ ns)) := by rw [hf]; simp [entsC, entC]
      have hpe := entsC_pers ((l.take (j + 1)).filter fun e => !decide (e.1 ∈ ns))
      have hlen : ((l.take j).filter fun e => !decide (e.1 ∈ ns)).length + 1 = ((l.take (j + 1)).filter fun e => !decide (e.1 ∈ ns)).length := by rw [hf]; simp
      refine DW.walk ?_
      exact ⟨j + 1, by omega, by omega, Sub.auto⟩
  · have hje : j = l.length := by omega
    subst hje
    rw [List.take_length]
    refine DW.walk ?_
    exact ⟨.inr rfl, ResOk.one [(5, some (.row 31 2 _ _))] rfl rfl ⟨rfl, trivial⟩ (Vw.own (.head _) (VwL.pers (entsC_pers _)))⟩
end Go.Proofs.YtjmljmappfhiaaaDoor
