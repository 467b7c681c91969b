/- Contracts over data: encodings of lists; names. No condition. -/
import Derived.Test.YtjmljmappfhiaaaDoorVL
set_option linter.unusedSimpArgs false
set_option linter.unusedVariables false
set_option maxHeartbeats 1000000
set_option maxRecDepth 8000
namespace Go.Proofs.YtjmljmappfhiaaaDoor
open Go Go.RowKit Go.PP Go.Dm

/-! names -/
def namesOf : List (Bs × Bs) → List Bs
  | l => l.foldl (fun a e => if e.1 ∈ a then a else a ++ [e.1]) []
theorem names_take {l : List (Bs × Bs)} {j : Nat} {e : Bs × Bs} (h : l[j]? = some e) : namesOf (l.take (j + 1)) = if e.1 ∈ namesOf (l.take j) then namesOf (l.take j) else namesOf (l.take j) ++ [e.1] := by
  unfold namesOf
  rw [List.take_add_one, h, List.foldl_append]; rfl
theorem names_len (l : List (Bs × Bs)) : ∀ j, (namesOf (l.take j)).length ≤ j
  | 0 => by simp [namesOf]
  | j + 1 => by
    have := names_len l j
    cases he : l[j]? with
    | none => 
      have : l.take (j + 1) = l.take j := by rw [List.take_add_one, he]; simp
      rw [this]; omega
    | some e =>
      rw [names_take he]
      split
      · omega
      · simp; omega
theorem namesR_d (l : List (Bs × Bs)) (hl : l.length ≤ 100000) : DFun Tryd.prog 28 [entsD l] (strsD (namesOf l)) := by
  refine DFun.enterA Tryd.func28 Tryd.ntmps28 ?_
  refine DW.walk ?_
  refine DW.adopt 3 3 9 1 rfl rfl ?_
  refine DW.loopA (fun j : Nat => ⟨[(0, entsD l), (3, .own 3 (namesOf (l.take j)).length), (4, .flat (.int .i64 j))], [(3, some (.row 9 1 (namesOf (l.take j)).length ((namesOf (l.take j)).map strD)))]⟩) (fun j => j ≤ l.length) (fun j => l.length - j) 0 ?_ (by omega)
  intro j hj
  have hnl := names_len l j
  rcases Nat.lt_or_ge j l.length with hlt | hge
  · obtain ⟨e, he⟩ : ∃ e, l[j]? = some e := ⟨l[j], by simp⟩
    have h0 := ent_f0 he
    have hf := names_take he
    have hin := in_d (namesOf (l.take j)) e.1 (by omega)
    by_cases hp : e.1 ∈ namesOf (l.take j)
    · rw [decide_eq_true hp] at hin
      rw [if_pos hp] at hf
      have hpe := strs_pers (namesOf (l.take j))
      refine DW.walk ?_
      refine ⟨j + 1, by omega, by omega, ?_⟩
      rw [hf]
      exact Sub.auto
    · rw [decide_eq_false hp] at hin
      rw [if_neg hp] at hf
      have hrow : (namesOf (l.take j)).map strD ++ [strD e.1] = (namesOf (l.take (j + 1))).map strD := by rw [hf]; simp
      have hlen : (namesOf (l.take j)).length + 1 = (namesOf (l.take (j + 1))).length := by rw [hf]; simp
      have hpe := strs_pers (namesOf (l.take (j + 1)))
      refine DW.walk ?_
      exact ⟨j + 1, by omega, by omega, Sub.auto⟩
  · have hje : j = l.length := by omega
    subst hje
    rw [List.take_length]
    refine DW.walk ?_
    exact ⟨.inr rfl, ResOk.one [(3, some (.row 9 1 _ _))] rfl rfl ⟨rfl, trivial⟩ (Vw.own (.head _) (VwL.pers (strs_pers _)))⟩
end Go.Proofs.YtjmljmappfhiaaaDoor
