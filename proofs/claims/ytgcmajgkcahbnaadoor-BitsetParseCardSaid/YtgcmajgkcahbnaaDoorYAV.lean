/- Sets whose words are put one by one. No condition. -/
import Derived.Test.YtgcmajgkcahbnaaDoorYAW

set_option linter.unusedSimpArgs false
set_option linter.unusedVariables false
set_option linter.unusedSectionVars false
namespace Go.Bs
open Go Go.Dm
variable [GlobW]
/-- The words below k are those of U, the others those of S. -/
def mixS (S U k : Nat) : Nat := ofWs (fun i => if i < k then wdS U i else wdS S i) 16
theorem wd_mix (S U k : Nat) {i : Nat} (hi : i < 16) : wdS (mixS S U k) i = if i < k then wdS U i else wdS S i := by
  unfold mixS
  rw [wdS_ofWs _ _ hi]
  intro j _
  show (if j < k then wdS U j else wdS S j) < _
  split
  · exact wdS_lt _ _
  · exact wdS_lt _ _
theorem setC_congr {S U : Nat} (h : ∀ i, i < 16 → wdS S i = wdS U i) : setC S = setC U := by
  rw [setC_aD, setC_aD]
  exact aD_congr fun i hi => by unfold wI; rw [h i hi]
theorem mix_zero (S U : Nat) : setC (mixS S U 0) = setC S := setC_congr fun i hi => by rw [wd_mix S U 0 hi, if_neg (by omega)]
theorem mix_all (S U : Nat) : setC (mixS S U 16) = setC U := setC_congr fun i hi => by rw [wd_mix S U 16 hi, if_pos hi]
theorem mix_get (S U : Nat) {j : Nat} (hj : j < 16) : wdS (mixS S U j) j = wdS S j := by rw [wd_mix S U j hj, if_neg (by omega)]
theorem mix_put (S U : Nat) {j v : Nat} (hj : j < 16) (hv : wdS U j = v) : List.take (0 + j * 1) (setC (mixS S U j)) ++ [.flat (.int .u64 (v : Nat))] ++ List.drop (0 + j * 1 + 1) (setC (mixS S U j)) = setC (mixS S U (j + 1)) :=
  setC_put hj (by rw [wd_mix S U (j + 1) hj, if_pos (by omega)]; exact hv) (fun i hi hne => by
    rw [wd_mix S U (j + 1) hi, wd_mix S U j hi]
    by_cases h : i < j
    · rw [if_pos h, if_pos (by omega)]
    · rw [if_neg h, if_neg (by omega)])
theorem map_at {α : Type} {f : α → D} {l : List α} {j : Nat} {x : α} (h : l[j]? = some x) : partD false 1 ((j : Int).toNat * 1) (l.map f) = some (f x) := by
  rw [Int.toNat_natCast, Nat.mul_one]
  unfold partD
  rw [List.getElem?_map, h]; rfl
end Go.Bs
