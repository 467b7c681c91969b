/- Contracts over data: rows of entries. No condition. -/
import Derived.Test.YtjmljmappfhiaaaDoorYE

set_option linter.unusedSimpArgs false
set_option linter.unusedVariables false
set_option maxHeartbeats 1000000
set_option maxRecDepth 8000
namespace Go.Proofs.YtjmljmappfhiaaaDoor
open Go Go.RowKit Go.PP Go.Dm

def entC (e : Bs × Bs) : List D := [strD e.1, strD e.2]
def entsC (l : List (Bs × Bs)) : List D := l.flatMap entC
abbrev entsD (l : List (Bs × Bs)) : D := .sl false 2 l.length (entsC l)
theorem entsC_len : ∀ l : List (Bs × Bs), (entsC l).length = l.length * 2
  | [] => rfl
  | e :: l => by
    have := entsC_len l
    unfold entsC at this ⊢
    rw [List.flatMap_cons, List.length_append, this]
    simp [entC]; omega
theorem entsC_pers (l : List (Bs × Bs)) : persL (entsC l) = true := persL_flat (fun _ => rfl) l
theorem entsC_one : ∀ l : List (Bs × Bs), oneL (entsC l) = true
  | [] => rfl
  | e :: l => by
    have := entsC_one l
    show oneL (strD e.1 :: strD e.2 :: entsC l) = true
    simp [oneL, oneD, Value.oneCell', this]
theorem entsC_at : ∀ {l : List (Bs × Bs)} {j : Nat} {e : Bs × Bs}, l[j]? = some e → (entsC l)[j * 2]? = some (strD e.1) ∧ (entsC l)[j * 2 + 1]? = some (strD e.2) ∧ ((entsC l).drop (j * 2)).take 2 = [strD e.1, strD e.2]
  | [], j, e, h => by simp at h
  | a :: l, 0, e, h => by
    simp at h; subst h
    exact ⟨rfl, rfl, rfl⟩
  | a :: l, j + 1, e, h => by
    have := entsC_at (l := l) (j := j) (e := e) (by simpa using h)
    have h2 : (j + 1) * 2 = j * 2 + 2 := by omega
    rw [h2]
    exact ⟨this.1, this.2.1, this.2.2⟩
theorem ent_part {l : List (Bs × Bs)} {j : Nat} {e : Bs × Bs} (h : l[j]? = some e) : partD true 2 (j * 2) (entsC l) = some (.agg [strD e.1, strD e.2]) := by
  have hl := (List.getElem?_eq_some_iff.1 h).1
  unfold partD
  rw [if_pos rfl, if_pos (by rw [entsC_len]; omega), (entsC_at h).2.2]
theorem ent_f0 {l : List (Bs × Bs)} {j : Nat} {e : Bs × Bs} (h : l[j]? = some e) : partD false 1 (j * 2 + 0) (entsC l) = some (strD e.1) := (entsC_at h).1
theorem ent_f1 {l : List (Bs × Bs)} {j : Nat} {e : Bs × Bs} (h : l[j]? = some e) : partD false 1 (j * 2 + 1) (entsC l) = some (strD e.2) := (entsC_at h).2.1
theorem ents_take {l : List (Bs × Bs)} {j : Nat} {e : Bs × Bs} (h : l[j]? = some e) : entsC (l.take j) ++ [strD e.1, strD e.2] = entsC (l.take (j + 1)) := by
  rw [List.take_add_one, h]
  simp [entsC, entC]

theorem to_d (l : List (Bs × Bs)) (hl : l.length ≤ 100000) : DFun Tryd.prog 18 [entsD l] (entsD l) := by
  refine DFun.enterA Tryd.func18 Tryd.ntmps18 ?_
  refine DW.walk ?_
  refine DW.adopt 3 3 31 2 rfl rfl ?_
  refine DW.loopA (fun j : Nat => ⟨[(0, entsD l), (3, .own 3 j), (4, .flat (.int .i64 j))], [(3, some (.row 31 2 j (entsC (l.take j))))]⟩) (fun j => j ≤ l.length) (fun j => l.length - j) 0 ?_ (by omega)
  intro j hj
  rcases Nat.lt_or_ge j l.length with hlt | hge
  · obtain ⟨e, he⟩ : ∃ e, l[j]? = some e := ⟨l[j], by simp⟩
    have h0 := ent_f0 he
    have h1 := ent_f1 he
    have hrow := ents_take he
    have hpe := entsC_pers (l.take (j + 1))
    refine DW.walk ?_
    exact ⟨j + 1, by omega, by omega, Sub.auto⟩
  · have hje : j = l.length := by omega
    subst hje
    rw [List.take_length]
    refine DW.walk ?_
    exact ⟨.inr rfl, ResOk.one [(3, some (.row 31 2 _ _))] rfl rfl ⟨rfl, trivial⟩ (Vw.own (.head _) (VwL.pers (entsC_pers _)))⟩
theorem same_d (l m : List (Bs × Bs)) (hl : l.length ≤ 100000) (hm : m.length ≤ 100000) : DFun Tryd.prog 17 [entsD l, entsD m] (.flat (.bool (decide (l = m)))) := by
  refine DFun.enterA Tryd.func17 Tryd.ntmps17 ?_
  by_cases hne : l.length = m.length
  · refine DW.walk ?_
    refine DW.loopA (fun j : Nat => ⟨[(0, entsD l), (1, entsD m), (5, .flat (.int .i64 j))], []⟩) (fun j => j ≤ l.length ∧ l.take j = m.take j) (fun j => l.length - j) 0 ?_ ⟨by omega, rfl⟩
    intro j ⟨hj, heq⟩
    rcases Nat.lt_or_ge j l.length with hlt | hge
    · obtain ⟨e, he⟩ : ∃ e, l[j]? = some e := ⟨l[j], by simp⟩
      obtain ⟨f, hf⟩ : ∃ f, m[j]? = some f := ⟨m[j], by simp⟩
      have h0 := ent_part he
      have h1 := ent_part hf
      by_cases hef : e = f
      · subst hef
        have ht : l.take (j + 1) = m.take (j + 1) := by rw [List.take_add_one, List.take_add_one, he, hf, heq]
        have hb : (!(decide (e.1 = e.1) && decide (e.2 = e.2))) = false := by simp
        refine DW.walk ?_
        exact ⟨j + 1, ⟨by omega, ht⟩, by omega, Sub.auto⟩
      · have hb : (!(decide (e.1 = f.1) && decide (e.2 = f.2))) = true := by
          rcases e with ⟨e1, e2⟩; rcases f with ⟨f1, f2⟩
          simp only [Prod.mk.injEq] at hef
          simp only [Bool.not_eq_true', Bool.and_eq_false_imp, decide_eq_true_eq, decide_eq_false_iff_not]
          exact fun h1 h2 => hef ⟨h1, h2⟩
        have hr : decide (l = m) = false := decide_eq_false fun h => by subst h; rw [he] at hf; cases hf; exact hef rfl
        rw [hr]
        refine DW.walk ?_
        exact ⟨.inr rfl, ResOk.one [] rfl rfl trivial (Vw.pers rfl)⟩
    · have hje : j = l.length := by omega
      subst hje
      rw [List.take_length, hne, List.take_length] at heq
      rw [decide_eq_true heq]
      refine DW.walk ?_
      exact ⟨.inr rfl, ResOk.one [] rfl rfl trivial (Vw.pers rfl)⟩
  · have hr : decide (l = m) = false := decide_eq_false fun h => hne (by rw [h])
    rw [hr]
    refine DW.walk ?_
    exact ⟨.inr rfl, ResOk.one [] rfl rfl trivial (Vw.pers rfl)⟩
end Go.Proofs.YtjmljmappfhiaaaDoor

set_option linter.unusedSimpArgs false
set_option linter.unusedVariables false
set_option maxHeartbeats 1000000
set_option maxRecDepth 8000
namespace Go.Proofs.YtjmljmappfhiaaaDoor
open Go Go.RowKit Go.PP Go.Dm

/-- At most 30 entries of at most 200 bytes. -/
def cut1 (e : Bs × Bs) : Bs × Bs := (e.1, e.2.take 200)
def cutE (l : List (Bs × Bs)) : List (Bs × Bs) := (l.take 30).map cut1
theorem cut_at {l : List (Bs × Bs)} {j : Nat} {e : Bs × Bs} (h : l[j]? = some e) (hj : j < 30) : (cutE l)[j]? = some (cut1 e) := by
  unfold cutE
  rw [List.getElem?_map, List.getElem?_take, if_pos hj, h]; rfl
theorem cut_len (l : List (Bs × Bs)) : (cutE l).length = min 30 l.length := by simp [cutE]
theorem cut_d (l : List (Bs × Bs)) (hl : l.length ≤ 281474976710656) (hb : ∀ e ∈ l, e.2.length ≤ 281474976710656) : DFun Tryd.prog 11 [entsD l] (entsD (cutE l)) := by
  have hcl := cut_len l
  refine DFun.enterA Tryd.func11 Tryd.ntmps11 ?_
  refine DW.walk ?_
  refine DW.adopt 3 3 29 2 rfl rfl ?_
  refine DW.loopA (fun j : Nat => ⟨[(0, entsD l), (3, .own 3 j), (4, .flat (.int .i64 j))], [(3, some (.row 29 2 j (entsC ((cutE l).take j)))), (5, none)]⟩) (fun j => j ≤ (cutE l).length) (fun j => (cutE l).length - j) 0 ?_ (by omega)
  intro j hj
  rcases Nat.lt_or_ge j (cutE l).length with hlt | hge
  · obtain ⟨e, he⟩ : ∃ e, l[j]? = some e := ⟨l[j]'(by omega), List.getElem?_eq_getElem (by omega)⟩
    have h0 := ent_part he
    have hc := cut_at he (by omega)
    have hmin : (if (200 : Int) < (e.2.length : Int) then 200 else (e.2.length : Int)) = ((min e.2.length 200 : Nat) : Int) := by split <;> omega
    have hrow : entsC ((cutE l).take j) ++ [strD e.1, strD (e.2.take (min e.2.length 200))] = entsC ((cutE l).take (j + 1)) := by
      rw [← ents_take hc]
      unfold cut1
      simp only
      rw [show e.2.take (min e.2.length 200) = e.2.take 200 by rw [Nat.min_comm, ← List.take_take, List.take_length]]
    have hpe := entsC_pers ((cutE l).take (j + 1))
    have hbe := hb e (List.mem_of_getElem? he)
    have hml : min e.2.length 200 ≤ e.2.length := Nat.min_le_left _ _
    refine DW.walk ?_
    exact ⟨j + 1, by omega, by omega, Sub.auto⟩
  · have hje : j = (cutE l).length := by omega
    subst hje
    rw [List.take_length]
    by_cases h30 : (cutE l).length < l.length
    · have h3 : ¬ (cutE l).length < 30 := by omega
      refine DW.walk ?_
      exact ⟨.inr rfl, ResOk.one [(3, some (.row 29 2 _ _))] rfl rfl ⟨rfl, trivial⟩ (Vw.own (.head _) (VwL.pers (entsC_pers _)))⟩
    · refine DW.walk ?_
      exact ⟨.inr rfl, ResOk.one [(3, some (.row 29 2 _ _))] rfl rfl ⟨rfl, trivial⟩ (Vw.own (.head _) (VwL.pers (entsC_pers _)))⟩
end Go.Proofs.YtjmljmappfhiaaaDoor
