/- Contracts over data: sets of numbers, operations. No condition. -/
import Derived.Test.YtgcmajgkcahbnaaDoorYA
import Derived.Test.YtgcmajgkcahbnaaDoorYAV

set_option linter.unusedSimpArgs false
set_option linter.unusedVariables false
set_option maxHeartbeats 4000000
set_option maxRecDepth 8000
namespace Go.Proofs.YtgcmajgkcahbnaaDoor
open Go Go.RowKit Go.PP Go.Dm Go.Bs
theorem inter_d (S U : Nat) : DFun Tryd.prog 27 [setD S, setD U] (setD (S &&& U)) := by
  refine DFun.enterA Tryd.func27 Tryd.ntmps27 ?_
  refine DW.walk ?_
  rw [← mix_zero S (S &&& U)]
  refine DW.loopA (fun j : Nat => ⟨[(2, .ref 2 0), (3, .ref 3 0), (4, .ref 4 0), (6, .flat (.int .i64 j))], [(2, some (.box (setC (mixS S (S &&& U) j)))), (3, some (.box (setC U))), (4, some (.box (setC 0)))]⟩) (fun j => j ≤ 16) (fun j => 16 - j) 0 ?_ (by omega)
  intro j hj
  rcases Nat.lt_or_ge j 16 with hlt | hge
  · have h1 := mix_put S (S &&& U) hlt (v := wdS S j &&& wdS U j) (wd_and _ _ _)
    have h2 := setC_get (mixS S (S &&& U) j) hlt
    have h3 := setC_get U hlt
    have h4 := wdS_lt S j
    have h5 := wdS_lt U j
    rw [mix_get S _ hlt] at h2
    generalize wdS S j = a at *
    generalize wdS U j = b at *
    generalize mixS S (S &&& U) j = X at *
    generalize hY : mixS S (S &&& U) (j + 1) = Y at *
    refine DW.walk ?_
    rw [h1, ← hY]
    exact ⟨j + 1, by omega, by omega, Sub.auto⟩
  · have hje : j = 16 := by omega
    subst hje
    rw [mix_all]
    refine DW.walk ?_
    exact ⟨.inr rfl, ResOk.cellA [] rfl rfl rfl ag24 (by rw [setC_len]; exact sz24) trivial (VwL.pers (setC_pers _)) (Le.refl _)⟩
theorem union_d (S U : Nat) : DFun Tryd.prog 29 [setD S, setD U] (setD (S ||| U)) := by
  refine DFun.enterA Tryd.func29 Tryd.ntmps29 ?_
  refine DW.walk ?_
  rw [← mix_zero S (S ||| U)]
  refine DW.loopA (fun j : Nat => ⟨[(2, .ref 2 0), (3, .ref 3 0), (4, .ref 4 0), (6, .flat (.int .i64 j))], [(2, some (.box (setC (mixS S (S ||| U) j)))), (3, some (.box (setC U))), (4, some (.box (setC 0)))]⟩) (fun j => j ≤ 16) (fun j => 16 - j) 0 ?_ (by omega)
  intro j hj
  rcases Nat.lt_or_ge j 16 with hlt | hge
  · have h1 := mix_put S (S ||| U) hlt (v := wdS S j ||| wdS U j) (wd_or _ _ _)
    have h2 := setC_get (mixS S (S ||| U) j) hlt
    have h3 := setC_get U hlt
    have h4 := wdS_lt S j
    have h5 := wdS_lt U j
    rw [mix_get S _ hlt] at h2
    generalize wdS S j = a at *
    generalize wdS U j = b at *
    generalize mixS S (S ||| U) j = X at *
    generalize hY : mixS S (S ||| U) (j + 1) = Y at *
    refine DW.walk ?_
    rw [h1, ← hY]
    exact ⟨j + 1, by omega, by omega, Sub.auto⟩
  · have hje : j = 16 := by omega
    subst hje
    rw [mix_all]
    refine DW.walk ?_
    exact ⟨.inr rfl, ResOk.cellA [] rfl rfl rfl ag24 (by rw [setC_len]; exact sz24) trivial (VwL.pers (setC_pers _)) (Le.refl _)⟩
theorem minus_d (S U : Nat) : DFun Tryd.prog 31 [setD S, setD U] (setD (minS S U)) := by
  refine DFun.enterA Tryd.func31 Tryd.ntmps31 ?_
  refine DW.walk ?_
  rw [← mix_zero S (minS S U)]
  refine DW.loopA (fun j : Nat => ⟨[(2, .ref 2 0), (3, .ref 3 0), (4, .ref 4 0), (6, .flat (.int .i64 j))], [(2, some (.box (setC (mixS S (minS S U) j)))), (3, some (.box (setC U))), (4, some (.box (setC 0)))]⟩) (fun j => j ≤ 16) (fun j => 16 - j) 0 ?_ (by omega)
  intro j hj
  rcases Nat.lt_or_ge j 16 with hlt | hge
  · have h1 := mix_put S (minS S U) hlt (v := wdS S j ^^^ (wdS S j &&& wdS U j)) (wd_min _ _ _)
    have h2 := setC_get (mixS S (minS S U) j) hlt
    have h3 := setC_get U hlt
    have h4 := wdS_lt S j
    have h5 := wdS_lt U j
    rw [mix_get S _ hlt] at h2
    generalize wdS S j = a at *
    generalize wdS U j = b at *
    generalize mixS S (minS S U) j = X at *
    generalize hY : mixS S (minS S U) (j + 1) = Y at *
    refine DW.walk ?_
    rw [h1, ← hY]
    exact ⟨j + 1, by omega, by omega, Sub.auto⟩
  · have hje : j = 16 := by omega
    subst hje
    rw [mix_all]
    refine DW.walk ?_
    exact ⟨.inr rfl, ResOk.cellA [] rfl rfl rfl ag24 (by rw [setC_len]; exact sz24) trivial (VwL.pers (setC_pers _)) (Le.refl _)⟩

theorem isEmpty_d (S : Nat) (hS : SetOk S) : DFun Tryd.prog 41 [setD S] (.flat (.bool (decide (S = 0)))) := by
  have h1 := eqlS hS ok_zero
  refine DFun.enterA Tryd.func41 Tryd.ntmps41 ?_
  refine DW.walk ?_
  exact ⟨.inr rfl, ResOk.one [] rfl rfl trivial (Vw.pers rfl)⟩
theorem subset_d (S U : Nat) (hS : SetOk S) : DFun Tryd.prog 33 [setD S, setD U] (.flat (.bool (decide (minS S U = 0)))) := by
  have h1 := minus_d S U
  have h2 := isEmpty_d (minS S U) (ok_min hS)
  refine DFun.enterA Tryd.func33 Tryd.ntmps33 ?_
  refine DW.walk ?_
  exact ⟨.inr rfl, ResOk.one [] rfl rfl trivial (Vw.pers rfl)⟩
end Go.Proofs.YtgcmajgkcahbnaaDoor
