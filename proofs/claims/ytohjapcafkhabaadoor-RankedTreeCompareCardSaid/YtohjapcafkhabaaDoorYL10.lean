/- The law RankedTreeCompare over data. No condition. -/
import Derived.Test.YtohjapcafkhabaaDoorYP9
import Derived.Test.YtohjapcafkhabaaDoorYL0
import Derived.Test.YtohjapcafkhabaaDoorYC3
import Derived.Test.YtohjapcafkhabaaDoorYC6
import Derived.Test.YtohjapcafkhabaaDoorYC8
import Derived.Test.YtohjapcafkhabaaDoorYTE

set_option linter.unusedSimpArgs false
set_option linter.unusedVariables false
set_option maxHeartbeats 4000000
set_option maxRecDepth 8000
namespace Go.Proofs.YtohjapcafkhabaaDoor
open Go Go.RowKit Go.PP Go.Dm Go.Rt
mutual
theorem cmpT_rng : ∀ t u : Tr, cmpT t u = -1 ∨ cmpT t u = 0 ∨ cmpT t u = 1
  | .node s l, .node s' l' => by
    rw [cmpT_node]
    have h1 := cmpI_rng (sizeL 1 l) (sizeL 1 l')
    have h2 := cmpI_rng s s'
    have h3 := cmpI_rng l.length l'.length
    split
    · exact h1
    · split
      · exact h2
      · split
        · exact h3
        · exact cmpL_rng l l'
theorem cmpL_rng : ∀ l l' : List Tr, cmpL l l' = -1 ∨ cmpL l l' = 0 ∨ cmpL l l' = 1
  | [], us => by rw [cmpL_nil]; exact .inr (.inl rfl)
  | t :: ts, [] => by rw [cmpL_nil2]; exact .inr (.inl rfl)
  | t :: ts, u :: us => by
    rw [cmpL_cons]
    split
    · exact cmpT_rng t u
    · exact cmpL_rng ts us
end
theorem law10_d (s t : Tr) (os : TSm s ∧ SymR s) (ot : TSm t ∧ SymR t) : DFun Tryd.prog 10 [treeD s, treeD t] (.flat (.bool true)) := by
  have hK := known_d
  by_cases gs : 40 < deepW s ∨ 300 < sizeW s
  · have g1 := great_t s os.1 gs
    clear gs os ot
    obtain ⟨s1, l1⟩ := s
    obtain ⟨s2, l2⟩ := t
    rw [treeD_node] at *
    rw [treeD_node]
    refine DFun.enterA Tryd.func10 Tryd.ntmps10 ?_
    refine DW.walk ?_
    exact ⟨.inr rfl, ResOk.one [] rfl rfl trivial (Vw.pers rfl)⟩
  · by_cases gt : 40 < deepW t ∨ 300 < sizeW t
    · have g1 := great_f s os.1 (fun h => gs (.inl h)) (fun h => gs (.inr h))
      have g2 := great_t t ot.1 gt
      clear gs gt os ot
      obtain ⟨s1, l1⟩ := s
      obtain ⟨s2, l2⟩ := t
      rw [treeD_node] at *
      rw [treeD_node] at *
      refine DFun.enterA Tryd.func10 Tryd.ntmps10 ?_
      refine DW.walk ?_
      exact ⟨.inr rfl, ResOk.one [] rfl rfl trivial (Vw.pers rfl)⟩
    · have g1 := great_f s os.1 (fun h => gs (.inl h)) (fun h => gs (.inr h))
      have g2 := great_f t ot.1 (fun h => gt (.inl h)) (fun h => gt (.inr h))
      have a1 := own_d _ s (Nat.le_refl _) os.1
      have a2 := own_d _ t (Nat.le_refl _) ot.1
      have a3 := cmp18_d _ s t (Nat.le_refl _) os.1 ot.1
      have a4 := size37_d _ s (Nat.le_refl _) os.1
      have a5 := size38_d _ s (Nat.le_refl _) os.1
      have a6 := deep39_d _ s (Nat.le_refl _) os.1
      have a7 := deep40_d _ s (Nat.le_refl _) os.1
      have a8 := cmp33_d _ s t (Nat.le_refl _) os.1 ot.1
      have a9 := cmp33_d _ t s (Nat.le_refl _) ot.1 os.1
      rw [cmpT_swap s t] at a9
      have b1 := equal_d _ s t (Nat.le_refl _) os.1 ot.1
      have b2 := clone_d _ s (Nat.le_refl _) os.1
      have b3 := equal_d _ s s (Nat.le_refl _) os.1 os.1
      rw [eqB_t rfl] at b3
      have hr := cmpT_rng s t
      have he : eqB s t = decide (cmpT s t = 0) := by
        by_cases h : s = t
        · rw [eqB_t h, h, cmpT_self, decide_eq_true rfl]
        · rw [eqB_f h, decide_eq_false (fun e => h (cmpT_eq _ _ e))]
      rw [he] at b1
      clear he gs gt os ot
      generalize cmpT s t = c at *
      generalize sizeW s = z at *
      generalize deepW s = y at *
      obtain ⟨s1, l1⟩ := s
      obtain ⟨s2, l2⟩ := t
      rw [treeD_node] at *
      rw [treeD_node] at *
      by_cases hc : c = 0
      · subst hc
        rw [decide_eq_true rfl] at b1
        refine DFun.enterA Tryd.func10 Tryd.ntmps10 ?_
        refine DW.walk ?_
        exact ⟨.inr rfl, ResOk.one [] rfl rfl trivial (Vw.pers rfl)⟩
      · rw [decide_eq_false hc] at b1
        have he : (false == decide (c = 0)) = true := by rw [decide_eq_false hc]; rfl
        refine DFun.enterA Tryd.func10 Tryd.ntmps10 ?_
        refine DW.walk ?_
        exact ⟨.inr rfl, ResOk.one [] rfl rfl trivial (Vw.pers rfl)⟩
end Go.Proofs.YtohjapcafkhabaaDoor
