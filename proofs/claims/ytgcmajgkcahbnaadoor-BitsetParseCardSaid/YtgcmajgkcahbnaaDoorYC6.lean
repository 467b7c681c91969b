/- Contracts over data: the order of sets. No condition. -/
import Derived.Test.YtgcmajgkcahbnaaDoorYB1
import Derived.Test.YtgcmajgkcahbnaaDoorYAT

set_option linter.unusedSimpArgs false
set_option linter.unusedVariables false
set_option maxHeartbeats 4000000
set_option maxRecDepth 8000
namespace Go.Proofs.YtgcmajgkcahbnaaDoor
open Go Go.RowKit Go.PP Go.Dm Go.Bs
theorem nan_d (x : Nat) : DFun Tryd.prog 70 [.flat (.int .u64 (x : Nat))] (.flat (.bool false)) := by
  refine DFun.enterA Tryd.func70 Tryd.ntmps70 ?_
  refine DW.walk ?_
  have e : (D.flat (.bool (decide ((x : Int) ≠ (x : Int))))) = .flat (.bool false) := by rw [decide_eq_false (by simp)]
  exact ⟨.inr rfl, ResOk.one [] rfl rfl trivial (Vw.le (Vw.pers rfl) (Le.of_eq e))⟩
theorem cmp64_d (x y : Nat) : DFun Tryd.prog 58 [.flat (.int .u64 (x : Nat)), .flat (.int .u64 (y : Nat))] (.flat (.int .i64 (cmpN x y))) := by
  have h1 := nan_d x
  have h2 := nan_d y
  refine DFun.enterA Tryd.func58 Tryd.ntmps58 ?_
  unfold cmpN
  rcases Nat.lt_trichotomy x y with h | h | h
  · rw [if_pos h]
    refine DW.walk ?_
    exact ⟨.inr rfl, ResOk.one [] rfl rfl trivial (Vw.pers rfl)⟩
  · rw [if_neg (by omega), if_pos h]
    refine DW.walk ?_
    exact ⟨.inr rfl, ResOk.one [] rfl rfl trivial (Vw.pers rfl)⟩
  · rw [if_neg (by omega), if_neg (by omega)]
    refine DW.walk ?_
    exact ⟨.inr rfl, ResOk.one [] rfl rfl trivial (Vw.pers rfl)⟩
theorem compare_d (S U : Nat) (hS : SetOk S) (hU : SetOk U) : DFun Tryd.prog 35 [setD S, setD U] (.flat (.int .i64 (cmpN S U))) := by
  refine DFun.enterA Tryd.func35 Tryd.ntmps35 ?_
  refine DW.walk ?_
  refine DW.loopA (fun x : Nat => ⟨[(2, .ref 2 0), (3, .ref 3 0), (5, .flat (.int .i64 ((x : Int) - 1)))], [(2, some (.box (setC S))), (3, some (.box (setC U)))]⟩) (fun x => x ≤ 16 ∧ ∀ j, x ≤ j → j < 16 → wdS S j = wdS U j) (fun x => x) 16 ?_ ⟨by omega, fun j h1 h2 => by omega⟩
  intro x ⟨hx, hw⟩
  cases x with
  | zero =>
    have he : S = U := set_ext hS hU fun i hi => hw i (Nat.zero_le _) hi
    subst he
    rw [cmpN_eq, show (((0 : Nat) : Int) - 1) = -1 from rfl]
    clear hw
    refine DW.walk ?_
    exact ⟨.inr rfl, ResOk.one [] rfl rfl trivial (Vw.pers rfl)⟩
  | succ j =>
    rw [show (((j + 1 : Nat) : Int) - 1) = (j : Int) by omega]
    have h2 := setC_get S (i := j) (by omega)
    have h3 := setC_get U (i := j) (by omega)
    have h4 := cmp64_d (wdS S j) (wdS U j)
    rcases Nat.lt_trichotomy (wdS S j) (wdS U j) with h | h | h
    · rw [cmpN_lt (lt_of_wd hS hU hw h)]
      rw [cmpN_lt h] at h4
      clear hw h
      generalize wdS S j = a at *
      generalize wdS U j = b at *
      refine DW.walk ?_
      exact ⟨.inr rfl, ResOk.one [] rfl rfl trivial (Vw.pers rfl)⟩
    · have hw2 : ∀ i, j ≤ i → i < 16 → wdS S i = wdS U i := fun i h1 h2 => by
        by_cases e : i = j
        · subst e; exact h
        · exact hw i (by omega) h2
      rw [h, cmpN_eq] at h4
      rw [h] at h2
      clear hw h
      generalize wdS U j = b at *
      refine DW.walk ?_
      exact ⟨j, ⟨by omega, hw2⟩, by omega, Sub.auto⟩
    · rw [cmpN_gt (lt_of_wd hU hS (fun k h1 h2 => (hw k h1 h2).symm) h)]
      rw [cmpN_gt h] at h4
      clear hw h
      generalize wdS S j = a at *
      generalize wdS U j = b at *
      refine DW.walk ?_
      exact ⟨.inr rfl, ResOk.one [] rfl rfl trivial (Vw.pers rfl)⟩
end Go.Proofs.YtgcmajgkcahbnaaDoor
