/- Contracts over data: entries cut. No condition. -/
import Derived.Test.YtjmljmappfhiaaaDoorVF
set_option linter.unusedSimpArgs false
set_option linter.unusedVariables false
set_option maxHeartbeats 1000000
set_option maxRecDepth 8000
namespace Go.Proofs.YtjmljmappfhiaaaDoor
open Go Go.RowKit Go.PP Go.Dm

/-- At most 30 entries of at most 200 bytes. -/
def cut1 (e : Bs × Bs) : Bs × Bs := (e.1, e.2.take 200)
def cutE (l : List (Bs × Bs)) : List (Bs × Bs) := (l.take 30).map cut1
theorem cut_at {l : List (Bs × Bs)} {j : Nat} {e : Bs × Bs} (h : l[j]? = some e) (hj : j < 30) : (cutE l)[j]? = some (cut1 e) := by
  unfold cutE
  rw [List.getElem?_map, List.getElem?_take, if_pos hj, h]; rfl
theorem cut_len (l : List (Bs × Bs)) : (cutE l).length = min 30 l.length := by simp [cutE]
theorem cut_d (l : List (Bs × Bs)) (hl : l.length ≤ 281474976710656) (hb : ∀ e ∈ l, e.2.length ≤ 281474976710656) : DFun Tryd.prog 11 [entsD l] (entsD (cutE l)) := by
  have hcl := cut_len l
  refine DFun.enterA Tryd.func11 Tryd.ntmps11 ?_
  refine DW.walk ?_
  refine DW.adopt 3 3 29 2 rfl rfl ?_
  refine DW.loopA (fun j : Nat => ⟨[(0, entsD l), (3, .own 3 j), (4, .flat (.int .i64 j))], [(3, some (.row 29 2 j (entsC ((cutE l).take j)))), (5, none)]⟩) (fun j => j ≤ (cutE l).length) (fun j => (cutE l).length - j) 0 ?_ (by omega)
  intro j hj
  rcases Nat.lt_or_ge j (cutE l).length with hlt | hge
  · obtain ⟨e, he⟩ : ∃ e, l[j]? = some e := ⟨l[j]'(by omega), List.getElem?_eq_getElem (by omega)⟩
    have h0 := ent_part he
    have hc := cut_at he (by omega)
    have hmin : (if (200 : Int) < (e.2.length : Int) then 200 else (e.2.length : Int)) = ((min e.2.length 200 : Nat) : Int) := by split <;> omega
    have hrow : entsC ((cutE l).take j) ++ [strD e.1, strD (e.2.take (min e.2.length 200))] = entsC ((cutE l).take (j + 1)) := by
      rw [← ents_take hc]
      unfold cut1
      simp only
      rw [show e.2.take (min e.2.length 200) = e.2.take 200 by rw [Nat.min_comm, ← List.take_take, List.take_length]]
    have hpe := entsC_pers ((cutE l).take (j + 1))
    have hbe := hb e (List.mem_of_getElem? he)
    have hml : min e.2.length 200 ≤ e.2.length := Nat.min_le_left _ _
    refine DW.walk ?_
    exact ⟨j + 1, by omega, by omega, Sub.auto⟩
  · have hje : j = (cutE l).length := by omega
    subst hje
    rw [List.take_length]
    by_cases h30 : (cutE l).length < l.length
    · have h3 : ¬ (cutE l).length < 30 := by omega
      refine DW.walk ?_
      exact ⟨.inr rfl, ResOk.one [(3, some (.row 29 2 _ _))] rfl rfl ⟨rfl, trivial⟩ (Vw.own (.head _) (VwL.pers (entsC_pers _)))⟩
    · refine DW.walk ?_
      exact ⟨.inr rfl, ResOk.one [(3, some (.row 29 2 _ _))] rfl rfl ⟨rfl, trivial⟩ (Vw.own (.head _) (VwL.pers (entsC_pers _)))⟩
end Go.Proofs.YtjmljmappfhiaaaDoor
