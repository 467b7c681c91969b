/- Contracts over data: the iterator of a set; NextSubset goes over it. No condition. -/
import Derived.Test.YtgcmajgkcahbnaaDoorXSl
import Derived.Test.YtgcmajgkcahbnaaDoorYB1
import Derived.Test.YtgcmajgkcahbnaaDoorYAT2
import Derived.Test.YtgcmajgkcahbnaaDoorYB5

set_option linter.unusedSimpArgs false
set_option linter.unusedVariables false
set_option maxHeartbeats 8000000
set_option maxRecDepth 8000
namespace Go.Proofs.YtgcmajgkcahbnaaDoor
open Go Go.RowKit Go.PP Go.Dm Go.Bs
theorem min_k {w : Nat} (hw : SetOk w) (k : Nat) (hk : k ≤ (els w).length) : DFun Tryd.prog 44 [setD (restS w k)] (.tup [.flat (.int .i64 (nthE w k)), .flat (.bool (decide (k < (els w).length)))]) := by
  rcases Nat.lt_or_ge k (els w).length with h | h
  · obtain ⟨n, h1, h2, h3, h4, h5⟩ := rest_lst h
    have := min_d (restS w k) n h2 h3
    rw [h1, decide_eq_true h]; exact this
  · have hke : k = (els w).length := by omega
    subst hke
    have := min_0
    rw [rest_end hw, nth_end, decide_eq_false (Nat.lt_irrefl _)]; exact this
theorem rest_without {w k : Nat} (hw : SetOk w) (hk : k < (els w).length) : DFun Tryd.prog 25 [setD (restS w k), .flat (.int .i64 (nthE w k))] (setD (restS w (k + 1))) := by
  obtain ⟨n, h1, h2, h3, h4, h5⟩ := rest_lst hk
  have := without_d (restS w k) (nthE w k)
  have e : wtoS (restS w k) (nthE w k) = restS w (k + 1) := by
    unfold wtoS
    rw [h1, if_neg (by omega), Int.toNat_natCast, h4]
  rwa [e] at this
theorem all_d (w : Nat) : DFun Tryd.prog 20 [setD w] (.clo (.func 54) [] [.ptr (setC w) 0]) := by
  refine DFun.enterA Tryd.func20 Tryd.ntmps20 ?_
  refine DW.walk ?_
  exact ⟨.inr rfl, ResOk.one [(1, some (.box (setC w)))] rfl rfl ⟨rfl, trivial⟩ (Vw.clo trivial ⟨Vw.ref (.head _) (VwL.pers PersL.h) (by intro h; cases h), trivial⟩)⟩
end Go.Proofs.YtgcmajgkcahbnaaDoor
