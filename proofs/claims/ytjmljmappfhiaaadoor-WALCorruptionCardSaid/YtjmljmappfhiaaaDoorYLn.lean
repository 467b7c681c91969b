/- Contracts over data: names, filters, comparisons of logs. No condition. -/
import Derived.Test.YtjmljmappfhiaaaDoorYJ

set_option linter.unusedSimpArgs false
set_option linter.unusedVariables false
set_option maxHeartbeats 1000000
set_option maxRecDepth 8000
namespace Go.Proofs.YtjmljmappfhiaaaDoor
open Go Go.RowKit Go.PP Go.Dm

theorem entries_d (l : List (Bs × Bs)) (hl : l.length ≤ 100000) : DFun Tryd.prog 19 [.ptr [entsD l] 0] (entsD l) := ents_fun (entries_l l hl)
theorem len_d (l : List (Bs × Bs)) (hl : l.length ≤ 100000) : DFun Tryd.prog 22 [.ptr [entsD l] 0] (.flat (.int .i64 l.length)) := by
  have hc := entries_d l hl
  refine DFun.enterA Tryd.func22 Tryd.ntmps22 ?_
  refine DW.walk ?_
  exact ⟨.inr rfl, ResOk.one [] rfl rfl trivial (Vw.pers rfl)⟩
theorem equal46_d (l m : List (Bs × Bs)) (hl : l.length ≤ 100000) (hm : m.length ≤ 100000) : DFun Tryd.prog 46 [entsD l, entsD m] (.flat (.bool (decide (l = m)))) := by
  refine DFun.enterA Tryd.func46 Tryd.ntmps46 ?_
  by_cases hne : l.length = m.length
  · refine DW.walk ?_
    refine DW.loopA (fun j : Nat => ⟨[(0, entsD l), (1, entsD m), (12, .flat (.int .i64 l.length)), (13, .flat (.int .i64 j))], []⟩) (fun j => j ≤ l.length ∧ l.take j = m.take j) (fun j => l.length - j) 0 ?_ ⟨by omega, rfl⟩
    intro j ⟨hj, heq⟩
    rcases Nat.lt_or_ge j l.length with hlt | hge
    · obtain ⟨e, he⟩ : ∃ e, l[j]? = some e := ⟨l[j], by simp⟩
      obtain ⟨f, hf⟩ : ∃ f, m[j]? = some f := ⟨m[j], by simp⟩
      have h0 := ent_part he
      have h1 := ent_part hf
      by_cases hef : e = f
      · subst hef
        have ht : l.take (j + 1) = m.take (j + 1) := by rw [List.take_add_one, List.take_add_one, he, hf, heq]
        have hb : (!(decide (e.1 = e.1) && decide (e.2 = e.2))) = false := by simp
        refine DW.walk ?_
        exact ⟨j + 1, ⟨by omega, ht⟩, by omega, Sub.auto⟩
      · have hb : (!(decide (e.1 = f.1) && decide (e.2 = f.2))) = true := by
          rcases e with ⟨e1, e2⟩; rcases f with ⟨f1, f2⟩
          simp only [Prod.mk.injEq] at hef
          simp only [Bool.not_eq_true', Bool.and_eq_false_imp, decide_eq_true_eq, decide_eq_false_iff_not]
          exact fun h1 h2 => hef ⟨h1, h2⟩
        have hr : decide (l = m) = false := decide_eq_false fun h => by subst h; rw [he] at hf; cases hf; exact hef rfl
        rw [hr]
        refine DW.walk ?_
        exact ⟨.inr rfl, ResOk.one [] rfl rfl trivial (Vw.pers rfl)⟩
    · have hje : j = l.length := by omega
      subst hje
      rw [List.take_length, hne, List.take_length] at heq
      rw [decide_eq_true heq]
      refine DW.walk ?_
      exact ⟨.inr rfl, ResOk.one [] rfl rfl trivial (Vw.pers rfl)⟩
  · have hr : decide (l = m) = false := decide_eq_false fun h => hne (by rw [h])
    rw [hr]
    refine DW.walk ?_
    exact ⟨.inr rfl, ResOk.one [] rfl rfl trivial (Vw.pers rfl)⟩
theorem equal_d (l m : List (Bs × Bs)) (hl : l.length ≤ 100000) (hm : m.length ≤ 100000) : DFun Tryd.prog 32 [.ptr [entsD l] 0, .ptr [entsD m] 0] (.flat (.bool (decide (l = m)))) := by
  have hc := equal46_d l m hl hm
  refine DFun.enterA Tryd.func32 Tryd.ntmps32 ?_
  refine DW.walk ?_
  exact ⟨.inr rfl, ResOk.one [] rfl rfl trivial (Vw.pers rfl)⟩
theorem equal_n (l : List (Bs × Bs)) : DFun Tryd.prog 32 [.ptr [entsD l] 0, .flat (.pointer none)] (.flat (.bool false)) := by
  refine DFun.enterA Tryd.func32 Tryd.ntmps32 ?_
  refine DW.walk ?_
  exact ⟨.inr rfl, ResOk.one [] rfl rfl trivial (Vw.pers rfl)⟩
theorem equal_m (l : List (Bs × Bs)) : DFun Tryd.prog 32 [.flat (.pointer none), .ptr [entsD l] 0] (.flat (.bool false)) := by
  refine DFun.enterA Tryd.func32 Tryd.ntmps32 ?_
  refine DW.walk ?_
  exact ⟨.inr rfl, ResOk.one [] rfl rfl trivial (Vw.pers rfl)⟩
theorem equal_nn : DFun Tryd.prog 32 [.flat (.pointer none), .flat (.pointer none)] (.flat (.bool true)) := by
  refine DFun.enterA Tryd.func32 Tryd.ntmps32 ?_
  refine DW.walk ?_
  exact ⟨.inr rfl, ResOk.one [] rfl rfl trivial (Vw.pers rfl)⟩
theorem texts_d (l m : List Bs) (hl : l.length ≤ 100000) (hm : m.length ≤ 100000) : DFun Tryd.prog 26 [strsD l, strsD m] (.flat (.bool (decide (l = m)))) := by
  refine DFun.enterA Tryd.func26 Tryd.ntmps26 ?_
  by_cases hne : l.length = m.length
  · refine DW.walk ?_
    refine DW.loopA (fun j : Nat => ⟨[(0, strsD l), (1, strsD m), (5, .flat (.int .i64 j))], []⟩) (fun j => j ≤ l.length ∧ l.take j = m.take j) (fun j => l.length - j) 0 ?_ ⟨by omega, rfl⟩
    intro j ⟨hj, heq⟩
    rcases Nat.lt_or_ge j l.length with hlt | hge
    · obtain ⟨e, he⟩ : ∃ e, l[j]? = some e := ⟨l[j], by simp⟩
      obtain ⟨f, hf⟩ : ∃ f, m[j]? = some f := ⟨m[j], by simp⟩
      have h0 := str_at he
      have h1 := str_at hf
      by_cases hef : e = f
      · subst hef
        have ht : l.take (j + 1) = m.take (j + 1) := by rw [List.take_add_one, List.take_add_one, he, hf, heq]
        have hb : decide (e ≠ e) = false := by simp
        refine DW.walk ?_
        exact ⟨j + 1, ⟨by omega, ht⟩, by omega, Sub.auto⟩
      · have hr : decide (l = m) = false := decide_eq_false fun h => by subst h; rw [he] at hf; cases hf; exact hef rfl
        rw [hr]
        refine DW.walk ?_
        exact ⟨.inr rfl, ResOk.one [] rfl rfl trivial (Vw.pers rfl)⟩
    · have hje : j = l.length := by omega
      subst hje
      rw [List.take_length, hne, List.take_length] at heq
      rw [decide_eq_true heq]
      refine DW.walk ?_
      exact ⟨.inr rfl, ResOk.one [] rfl rfl trivial (Vw.pers rfl)⟩
  · have hr : decide (l = m) = false := decide_eq_false fun h => hne (by rw [h])
    rw [hr]
    refine DW.walk ?_
    exact ⟨.inr rfl, ResOk.one [] rfl rfl trivial (Vw.pers rfl)⟩
theorem cutR_d (l : List (Bs × Bs)) (ns : List Bs) (hl : l.length ≤ 100000) (hn : ns.length ≤ 100000) : DFun Tryd.prog 31 [entsD l, strsD ns] (entsD (l.filter fun e => !decide (e.1 ∈ ns))) := by
  refine DFun.enterA Tryd.func31 Tryd.ntmps31 ?_
  refine DW.walk ?_
  refine DW.adopt 5 5 31 2 rfl rfl ?_
  refine DW.loopA (fun j : Nat => ⟨[(0, entsD l), (1, strsD ns), (5, .own 5 ((l.take j).filter fun e => !decide (e.1 ∈ ns)).length), (6, .flat (.int .i64 j))], [(5, some (.row 31 2 ((l.take j).filter fun e => !decide (e.1 ∈ ns)).length (entsC ((l.take j).filter fun e => !decide (e.1 ∈ ns)))))]⟩) (fun j => j ≤ l.length) (fun j => l.length - j) 0 ?_ (by omega)
  intro j hj
  rcases Nat.lt_or_ge j l.length with hlt | hge
  · obtain ⟨e, he⟩ : ∃ e, l[j]? = some e := ⟨l[j], by simp⟩
    have h0 := ent_f0 he
    have h1 := ent_part he
    have hin := in_d ns e.1 (by omega)
    have hf := filter_take (fun e => !decide (e.1 ∈ ns)) he
    have hfl : ((l.take j).filter fun e => !decide (e.1 ∈ ns)).length ≤ j := Nat.le_trans (List.length_filter_le _ _) (by simp; omega)
    by_cases hp : e.1 ∈ ns
    · rw [decide_eq_true hp] at hf hin
      simp only [Bool.not_true, Bool.false_eq_true, if_false, List.append_nil] at hf
      have hpe := entsC_pers ((l.take j).filter fun e => !decide (e.1 ∈ ns))
      refine DW.walk ?_
      refine ⟨j + 1, by omega, by omega, ?_⟩
      rw [hf]
      exact Sub.auto
    · rw [decide_eq_false hp] at hf hin
      simp only [Bool.not_false, if_true] at hf
      have hrow : entsC ((l.take j).filter fun e => !decide (e.1 ∈ ns)) ++ [strD e.1, strD e.2] = entsC ((l.take (j + 1)).filter fun e => !decide (e.1 ∈ ns)) := by rw [hf]; simp [entsC, entC]
      have hpe := entsC_pers ((l.take (j + 1)).filter fun e => !decide (e.1 ∈ ns))
      have hlen : ((l.take j).filter fun e => !decide (e.1 ∈ ns)).length + 1 = ((l.take (j + 1)).filter fun e => !decide (e.1 ∈ ns)).length := by rw [hf]; simp
      refine DW.walk ?_
      exact ⟨j + 1, by omega, by omega, Sub.auto⟩
  · have hje : j = l.length := by omega
    subst hje
    rw [List.take_length]
    refine DW.walk ?_
    exact ⟨.inr rfl, ResOk.one [(5, some (.row 31 2 _ _))] rfl rfl ⟨rfl, trivial⟩ (Vw.own (.head _) (VwL.pers (entsC_pers _)))⟩
end Go.Proofs.YtjmljmappfhiaaaDoor

set_option linter.unusedSimpArgs false
set_option linter.unusedVariables false
set_option maxHeartbeats 1000000
set_option maxRecDepth 8000
namespace Go.Proofs.YtjmljmappfhiaaaDoor
open Go Go.RowKit Go.PP Go.Dm

/-- Small lists of entries: few, with short names and data. -/
def Sm (l : List (Bs × Bs)) : Prop := l.length ≤ 5000 ∧ ∀ e ∈ l, e.1.length ≤ 32 ∧ e.2.length ≤ 65536
def allW (l : List (Bs × Bs)) : Bs := l.flatMap encW
theorem encW_len (e : Bs × Bs) (h1 : e.1.length ≤ 32) (h2 : e.2.length ≤ 65536) : (encW e).length ≤ 65600 := by
  have hdl : (Lib.decDigits e.2.length).length ≤ 6 := by
    rw [dec_digs]
    exact Nat.le_trans (digs_len1 10 (by omega) 5 e.2.length (by omega)) (by omega)
  unfold encW
  have := nibs_len (sumB (e.1 ++ [10] ++ e.2)).toNat 8
  simp only [List.length_append, List.length_cons, List.length_nil, this]
  omega
theorem allW_take {l : List (Bs × Bs)} {j : Nat} {e : Bs × Bs} (h : l[j]? = some e) : allW (l.take (j + 1)) = allW (l.take j) ++ encW e := by
  unfold allW
  rw [List.take_add_one, h, List.flatMap_append]; simp
theorem allW_len {l : List (Bs × Bs)} (h : Sm l) : ∀ j ≤ l.length, (allW (l.take j)).length ≤ j * 65600
  | 0, _ => by simp [allW]
  | j + 1, hj => by
    have he : l[j]? = some l[j] := by simp
    have := allW_len h j (by omega)
    have h2 := h.2 l[j] (List.getElem_mem _)
    have := encW_len l[j] h2.1 h2.2
    rw [allW_take he, List.length_append]; omega
theorem bytesL_l (l : List (Bs × Bs)) (h : Sm l) : DLend Tryd.prog 20 [.ptr [entsD l] 0] [(1050, none)] [(1050, some (.row 5 1 (allW l).length (bD (allW l))))] (.own 1050 (allW l).length) := by
  have hc := entries_d l (by have := h.1; omega)
  have hl := h.1
  refine DLend.enterA Tryd.func20 Tryd.ntmps20 ?_
  refine DW.walk ?_
  refine DW.adopt 3 1050 5 1 rfl rfl ?_
  refine DW.loopA (fun j : Nat => ⟨[(3, .own 1050 (allW (l.take j)).length), (7, entsD l), (8, .flat (.int .i64 l.length)), (9, .flat (.int .i64 j))], [(1050, some (.row 5 1 (allW (l.take j)).length (bD (allW (l.take j))))), (5, none)]⟩) (fun j => j ≤ l.length) (fun j => l.length - j) 0 ?_ (by omega)
  intro j hj
  have hal := allW_len h j hj
  rcases Nat.lt_or_ge j l.length with hlt | hge
  · obtain ⟨e, he⟩ : ∃ e, l[j]? = some e := ⟨l[j], by simp⟩
    have h0 := ent_part he
    have hw := allW_take he
    have hs := h.2 e (List.mem_of_getElem? he)
    have hb := bytes_d e hs.1 hs.2
    have hbl := encW_len e hs.1 hs.2
    have hrow : bD (allW (l.take j)) ++ bD (encW e) = bD (allW (l.take (j + 1))) := by rw [hw]; simp [bD]
    have hlen : (allW (l.take j)).length + (encW e).length = (allW (l.take (j + 1))).length := by rw [hw]; simp
    have hpe := bD_pers (allW (l.take (j + 1)))
    refine DW.walk ?_
    exact ⟨j + 1, by omega, by omega, Sub.auto⟩
  · have hje : j = l.length := by omega
    subst hje
    rw [List.take_length]
    have hpe := bD_pers (allW l)
    refine DW.walk ?_
    exact ⟨.inr rfl, ResL.oneA⟩
theorem bytesL_d (l : List (Bs × Bs)) (h : Sm l) : DFun Tryd.prog 20 [.ptr [entsD l] 0] (bytesD (allW l)) :=
  (bytesL_l l h).toFun rfl ⟨by simp [lkE], trivial⟩ (Vw.own (.head _) (VwL.pers (bD_pers _)))
theorem allR_d (l : List (Bs × Bs)) (h : Sm l) : DFun Tryd.prog 21 [entsD l] (bytesD (allW l)) := by
  have hl := h.1
  refine DFun.enterA Tryd.func21 Tryd.ntmps21 ?_
  refine DW.walk ?_
  refine DW.adopt 3 3 5 1 rfl rfl ?_
  refine DW.loopA (fun j : Nat => ⟨[(0, entsD l), (3, .own 3 (allW (l.take j)).length), (4, .flat (.int .i64 j))], [(3, some (.row 5 1 (allW (l.take j)).length (bD (allW (l.take j)))))]⟩) (fun j => j ≤ l.length) (fun j => l.length - j) 0 ?_ (by omega)
  intro j hj
  have hal := allW_len h j hj
  rcases Nat.lt_or_ge j l.length with hlt | hge
  · obtain ⟨e, he⟩ : ∃ e, l[j]? = some e := ⟨l[j], by simp⟩
    have h0 := ent_part he
    have hw := allW_take he
    have hs := h.2 e (List.mem_of_getElem? he)
    have hb := bytesN_d e hs.1 hs.2
    rw [← encW_eq] at hb
    have hbl := encW_len e hs.1 hs.2
    have hrow : bD (allW (l.take j)) ++ bD (encW e) = bD (allW (l.take (j + 1))) := by rw [hw]; simp [bD]
    have hlen : (allW (l.take j)).length + (encW e).length = (allW (l.take (j + 1))).length := by rw [hw]; simp
    have hpe := bD_pers (allW (l.take (j + 1)))
    refine DW.walk ?_
    exact ⟨j + 1, by omega, by omega, Sub.auto⟩
  · have hje : j = l.length := by omega
    subst hje
    rw [List.take_length]
    refine DW.walk ?_
    exact ⟨.inr rfl, ResOk.one [(3, some (.row 5 1 _ _))] rfl rfl ⟨rfl, trivial⟩ (Vw.own (.head _) (VwL.pers (bD_pers _)))⟩

end Go.Proofs.YtjmljmappfhiaaaDoor

set_option linter.unusedSimpArgs false
set_option linter.unusedVariables false
set_option maxHeartbeats 1000000
set_option maxRecDepth 8000
namespace Go.Proofs.YtjmljmappfhiaaaDoor
open Go Go.RowKit Go.PP Go.Dm

/-! names -/
def namesOf : List (Bs × Bs) → List Bs
  | l => l.foldl (fun a e => if e.1 ∈ a then a else a ++ [e.1]) []
theorem names_take {l : List (Bs × Bs)} {j : Nat} {e : Bs × Bs} (h : l[j]? = some e) : namesOf (l.take (j + 1)) = if e.1 ∈ namesOf (l.take j) then namesOf (l.take j) else namesOf (l.take j) ++ [e.1] := by
  unfold namesOf
  rw [List.take_add_one, h, List.foldl_append]; rfl
theorem names_len (l : List (Bs × Bs)) : ∀ j, (namesOf (l.take j)).length ≤ j
  | 0 => by simp [namesOf]
  | j + 1 => by
    have := names_len l j
    cases he : l[j]? with
    | none => 
      have : l.take (j + 1) = l.take j := by rw [List.take_add_one, he]; simp
      rw [this]; omega
    | some e =>
      rw [names_take he]
      split
      · omega
      · simp; omega
theorem namesR_d (l : List (Bs × Bs)) (hl : l.length ≤ 100000) : DFun Tryd.prog 28 [entsD l] (strsD (namesOf l)) := by
  refine DFun.enterA Tryd.func28 Tryd.ntmps28 ?_
  refine DW.walk ?_
  refine DW.adopt 3 3 9 1 rfl rfl ?_
  refine DW.loopA (fun j : Nat => ⟨[(0, entsD l), (3, .own 3 (namesOf (l.take j)).length), (4, .flat (.int .i64 j))], [(3, some (.row 9 1 (namesOf (l.take j)).length ((namesOf (l.take j)).map strD)))]⟩) (fun j => j ≤ l.length) (fun j => l.length - j) 0 ?_ (by omega)
  intro j hj
  have hnl := names_len l j
  rcases Nat.lt_or_ge j l.length with hlt | hge
  · obtain ⟨e, he⟩ : ∃ e, l[j]? = some e := ⟨l[j], by simp⟩
    have h0 := ent_f0 he
    have hf := names_take he
    have hin := in_d (namesOf (l.take j)) e.1 (by omega)
    by_cases hp : e.1 ∈ namesOf (l.take j)
    · rw [decide_eq_true hp] at hin
      rw [if_pos hp] at hf
      have hpe := strs_pers (namesOf (l.take j))
      refine DW.walk ?_
      refine ⟨j + 1, by omega, by omega, ?_⟩
      rw [hf]
      exact Sub.auto
    · rw [decide_eq_false hp] at hin
      rw [if_neg hp] at hf
      have hrow : (namesOf (l.take j)).map strD ++ [strD e.1] = (namesOf (l.take (j + 1))).map strD := by rw [hf]; simp
      have hlen : (namesOf (l.take j)).length + 1 = (namesOf (l.take (j + 1))).length := by rw [hf]; simp
      have hpe := strs_pers (namesOf (l.take (j + 1)))
      refine DW.walk ?_
      exact ⟨j + 1, by omega, by omega, Sub.auto⟩
  · have hje : j = l.length := by omega
    subst hje
    rw [List.take_length]
    refine DW.walk ?_
    exact ⟨.inr rfl, ResOk.one [(3, some (.row 9 1 _ _))] rfl rfl ⟨rfl, trivial⟩ (Vw.own (.head _) (VwL.pers (strs_pers _)))⟩
end Go.Proofs.YtjmljmappfhiaaaDoor
