/- The subsets in their order, as sets. No condition. -/
import Derived.Test.YtgcmajgkcahbnaaDoorYAZ
import Derived.Test.YtgcmajgkcahbnaaDoorYAT2

set_option linter.unusedSimpArgs false
set_option linter.unusedVariables false
set_option maxRecDepth 8000
namespace Go.Bs
/-- The subset with the number k. -/
def subK (w k : Nat) : Nat := fromL ((subsL (els w))[k]?.getD [])
theorem subK_zero (w : Nat) : subK w 0 = 0 := by unfold subK; rw [subsL_first]; rfl
theorem subK_end (w : Nat) : subK w (subsL (els w)).length = 0 := by unfold subK; rw [List.getElem?_eq_none (Nat.le_refl _)]; rfl
theorem ok_subK (w k : Nat) : SetOk (subK w k) := ok_fromL _
theorem subK_next {w k : Nat} (hw : SetOk w) (hk : k < (subsL (els w)).length) : (nextP (subK w k) w (els w)).getD 0 = subK w (k + 1) ∧ (nextP (subK w k) w (els w)).isSome = decide (k + 1 < (subsL (els w)).length) := by
  obtain ⟨u, hu⟩ : ∃ u, (subsL (els w))[k]? = some u := ⟨_, List.getElem?_eq_getElem hk⟩
  have h := next_sub hw hu
  have e : subK w k = fromL u := by unfold subK; rw [hu]; rfl
  rw [← e] at h
  cases ho : nextP (subK w k) w (els w) with
  | none =>
    rw [ho] at h
    have h2 : (subsL (els w))[k + 1]? = none := h.symm
    have h3 : (subsL (els w)).length ≤ k + 1 := List.getElem?_eq_none_iff.1 h2
    refine ⟨?_, (decide_eq_false (by omega)).symm⟩
    unfold subK; rw [h2]; rfl
  | some s =>
    rw [ho] at h
    have h2 : (subsL (els w))[k + 1]? = some (els s) := h.symm
    have hs := ok_next (ok_subK w k) (fun z hz => els_range hz) ho
    refine ⟨?_, (decide_eq_true (List.getElem?_eq_some_iff.1 h2).1).symm⟩
    unfold subK; rw [h2]
    show s = fromL (els s)
    rw [from_els hs]
end Go.Bs
