/- palmettelaw33.DTATrimPreservesLanguage over data. No condition. -/
import Derived.Test.YtdakoccbmeojhaaNn
set_option linter.unusedSimpArgs false
set_option linter.unusedVariables false
set_option maxHeartbeats 1000000
set_option maxRecDepth 8000
namespace Go.Proofs.Ytdakoccbmeojhaa
open Go Go.RowKit Go.PP Go.Dm

theorem law11_d (A : Au) (t : Tr) (hs : TSm t) : DFun Try.prog 11 [auD A, treeD t] (boolD true) := by
  have hfew := few_d A
  have hkn := known_d
  have hfr := from_d A
  have htd := tree_d t hs
  have how := own_d _ t (Nat.le_refl _) hs
  by_cases hf : fewB A = true
  · rw [hf] at hfew
    by_cases ht : treeB (depT t) t = true
    · rw [ht] at htd
      have hre := reach_d A
      have htr := trim_d A
      have hch := check_d A
      by_cases hk : chk A = 0
      · rw [hk] at hch
        rw [reachE_ok hk] at hre
        rw [trimE_ok hk] at htr
        have hok := chk_ok hk
        have hn := hok.hi
        have hsh := found_shutL hok (chk_zero hk)
        have ho : OutOk A (foundA A) := foundK_ok hok _
        have hlen := ho.len
        have hbl := isB_len A.final.length (foundA A)
        have hkc := kept_chk hk hsh
        have htr2 := trim_d (keptA A (foundA A))
        rw [trimE_ok hkc, trim_kept hk hsh] at htr2
        have hrun := run_d A t hs
        have heq := equal_d (keptA A (foundA A)) (keptA A (foundA A))
        rw [eqAu_self] at heq
        have hch2 := check_d (keptA A (foundA A))
        rw [hkc] at hch2
        have hacY := accepts_d (keptA A (foundA A)) t hs
        have hacA := accepts_d A t hs
        rw [acc_kept hk hsh] at hacY
        have hKl : (keptA A (foundA A)).final.length = (foundA A).length := kept_len
        by_cases hr : rightE (depT t) A.ranks t = 0
        · rw [runE_good hk hr] at hrun
          have hst := state_kept hk hsh (depT t) t (Nat.le_refl _) (right_nodes hr)
          have hsr := state_rng (kept_ok hk hsh) (depT t) t (right_nodes hr)
          rw [kept_len] at hsr
          have hsm : stateT A (depT t) t ∈ foundA A := by rw [hst]; exact phi_mem hsr
          have hsr2 := ho.rng _ hsm
          generalize stateT A (depT t) t = q at *
          obtain ⟨m, rfl⟩ := Int.eq_ofNat_of_zero_le hsr2.1
          have hm : m < A.final.length := by omega
          have hget := isB_get hm (foundA A)
          rw [decide_eq_true hsm] at hget
          generalize isB A.final.length (foundA A) = bs at *
          generalize keptA A (foundA A) = K at *
          generalize acceptsB (depT t) A t = ac at *
          have hp := part_map (f := fun x => D.flat (.bool x)) hget
          generalize depT t = dt at *
          obtain ⟨s, l⟩ := t
          simp only [treeD, treeC] at *
          unfold auD boolsD at *
          rw [hbl] at hre
          refine DFun.enterA Try.func11 Try.ntmps11 ?_
          refine DW.walk ?_
          exact ⟨.inr rfl, ResOk.one [] rfl rfl trivial (Vw.pers rfl)⟩
        · rw [runE_right hk hr] at hrun
          have hac : acceptsB (depT t) A t = false := acc_bad hr
          rw [hac] at hacY
          have hne : ((rightE (depT t) A.ranks t : Nat) : Int) ≠ 0 := by omega
          generalize isB A.final.length (foundA A) = bs at *
          generalize keptA A (foundA A) = K at *
          generalize depT t = dt at *
          obtain ⟨s, l⟩ := t
          simp only [treeD, treeC] at *
          unfold auD boolsD at *
          rw [hbl] at hre
          refine DFun.enterA Try.func11 Try.ntmps11 ?_
          refine DW.walk ?_
          exact ⟨.inr rfl, ResOk.one [] rfl rfl trivial (Vw.pers rfl)⟩
      · rw [trimE_bad hk] at htr
        have hne : ((chk A : Nat) : Int) ≠ 0 := by omega
        generalize depT t = dt at *
        obtain ⟨s, l⟩ := t
        simp only [treeD, treeC] at *
        unfold auD boolsD at *
        refine DFun.enterA Try.func11 Try.ntmps11 ?_
        refine DW.walk ?_
        exact ⟨.inr rfl, ResOk.one [] rfl rfl trivial (Vw.le (Vw.pers rfl) (Le.of_eq (by rw [decide_eq_true rfl]; rfl)))⟩
    · have ht' : treeB (depT t) t = false := by simpa using ht
      rw [ht'] at htd
      generalize depT t = dt at *
      obtain ⟨s, l⟩ := t
      simp only [treeD, treeC] at *
      unfold auD boolsD at *
      refine DFun.enterA Try.func11 Try.ntmps11 ?_
      refine DW.walk ?_
      exact ⟨.inr rfl, ResOk.one [] rfl rfl trivial (Vw.pers rfl)⟩
  · have hf' : fewB A = false := by simpa using hf
    rw [hf'] at hfew
    generalize depT t = dt at *
    obtain ⟨s, l⟩ := t
    simp only [treeD, treeC] at *
    unfold auD boolsD at *
    refine DFun.enterA Try.func11 Try.ntmps11 ?_
    refine DW.walk ?_
    exact ⟨.inr rfl, ResOk.one [] rfl rfl trivial (Vw.pers rfl)⟩
end Go.Proofs.Ytdakoccbmeojhaa
