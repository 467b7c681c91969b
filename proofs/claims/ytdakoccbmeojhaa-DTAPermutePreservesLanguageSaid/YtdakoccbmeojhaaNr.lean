/- palmettelaw33.DTAPermutePreservesLanguage over data. No condition. -/
import Derived.Test.YtdakoccbmeojhaaNn
set_option linter.unusedSimpArgs false
set_option linter.unusedVariables false
set_option maxHeartbeats 1000000
set_option maxRecDepth 8000
namespace Go.Proofs.Ytdakoccbmeojhaa
open Go Go.RowKit Go.PP Go.Dm

theorem intsD_cut (l : List Int) (h : Nat) (hh : h ≤ l.length) : D.sl false 1 h ((l.map fun x => D.flat (.int .i64 x)).take (h * 1)) = intsD (l.take h) := by
  simp [intsD, List.map_take, Nat.min_eq_left hh]
theorem law12_d (A : Au) (to : List Int) (t : Tr) (hs : TSm t) : DFun Try.prog 12 [auD A, intsD to, treeD t] (boolD true) := by
  have hfew := few_d A
  have hkn := known_d
  have hfr := from_d A
  have htd := tree_d t hs
  have how := own_d _ t (Nat.le_refl _) hs
  by_cases hf : fewB A = true
  · rw [hf] at hfew
    by_cases ht : treeB (depT t) t = true
    · rw [ht] at htd
      have hpm := permute_d A (to.take (min to.length 8))
      have hmin : (if (8 : Int) < (to.length : Nat) then (8 : Int) else (to.length : Nat)) = ((min to.length 8 : Nat) : Int) := by split <;> omega
      have hml : min to.length 8 ≤ to.length := by omega
      have hcut := intsD_cut to (min to.length 8) hml
      generalize hto : to.take (min to.length 8) = tt at *
      generalize hm8 : min to.length 8 = m8 at *
      rw [← hcut] at hpm
      by_cases hk : (permuteE A tt).2 = 0
      · have hk1 : chk A = 0 := by
          refine Classical.byContradiction fun h => ?_
          rw [permuteE_bad h] at hk; exact h hk
        have hp : PermOk A.final.length tt := by
          refine Classical.byContradiction fun h => ?_
          rw [permuteE_ok hk1, permE_no h] at hk; cases hk
        have hok := chk_ok hk1
        have hpe : permuteE A tt = (keptA A (backL tt), 0) := by rw [permuteE_ok hk1, permE_ok hp]
        rw [hpe] at hpm
        have hsh := backL_shut hok hp
        have hkc := kept_chk hk1 hsh
        have htr := trim_d A
        rw [trimE_ok hk1] at htr
        have htr2 := trim_d (keptA A (backL tt))
        rw [trimE_ok hkc, trim_kept hk1 hsh] at htr2
        have heq := equal_d (keptA A (foundA A)) (keptA A (foundA A))
        rw [eqAu_self] at heq
        have hacY := accepts_d (keptA A (backL tt)) t hs
        have hacA := accepts_d A t hs
        rw [acc_kept hk1 hsh] at hacY
        generalize keptA A (foundA A) = K at *
        generalize keptA A (backL tt) = Y at *
        generalize acceptsB (depT t) A t = ac at *
        generalize depT t = dt at *
        obtain ⟨s, l⟩ := t
        simp only [treeD, treeC] at *
        unfold auD boolsD at *
        unfold intsD
        refine DFun.enterA Try.func12 Try.ntmps12 ?_
        refine DW.walk ?_
        exact ⟨.inr rfl, ResOk.one [] rfl rfl trivial (Vw.pers rfl)⟩
      · have hne : (((permuteE A tt).2 : Nat) : Int) ≠ 0 := by omega
        generalize permuteE A tt = pe at *
        generalize depT t = dt at *
        obtain ⟨s, l⟩ := t
        simp only [treeD, treeC] at *
        unfold auD boolsD at *
        unfold intsD
        refine DFun.enterA Try.func12 Try.ntmps12 ?_
        refine DW.walk ?_
        exact ⟨.inr rfl, ResOk.one [] rfl rfl trivial (Vw.pers rfl)⟩
    · have ht' : treeB (depT t) t = false := by simpa using ht
      rw [ht'] at htd
      generalize depT t = dt at *
      obtain ⟨s, l⟩ := t
      simp only [treeD, treeC] at *
      unfold auD boolsD at *
      refine DFun.enterA Try.func12 Try.ntmps12 ?_
      refine DW.walk ?_
      exact ⟨.inr rfl, ResOk.one [] rfl rfl trivial (Vw.pers rfl)⟩
  · have hf' : fewB A = false := by simpa using hf
    rw [hf'] at hfew
    generalize depT t = dt at *
    obtain ⟨s, l⟩ := t
    simp only [treeD, treeC] at *
    unfold auD boolsD at *
    refine DFun.enterA Try.func12 Try.ntmps12 ?_
    refine DW.walk ?_
    exact ⟨.inr rfl, ResOk.one [] rfl rfl trivial (Vw.pers rfl)⟩
end Go.Proofs.Ytdakoccbmeojhaa
