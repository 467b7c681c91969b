/- Contracts over data: the subsets of a set, one after the other. No condition. -/
import Derived.Test.YtgcmajgkcahbnaaDoorXSl
import Derived.Test.YtgcmajgkcahbnaaDoorYC4
import Derived.Test.YtgcmajgkcahbnaaDoorYAS

set_option linter.unusedSimpArgs false
set_option linter.unusedVariables false
set_option maxHeartbeats 4000000
set_option maxRecDepth 8000
namespace Go.Proofs.YtgcmajgkcahbnaaDoor
open Go Go.RowKit Go.PP Go.Dm Go.Bs
theorem subsets_d (w : Nat) : DFun Tryd.prog 23 [setD w] (.clo (.func 57) [] [.ptr (setC w) 0]) := by
  refine DFun.enterA Tryd.func23 Tryd.ntmps23 ?_
  refine DW.walk ?_
  exact ⟨.inr rfl, ResOk.one [(1, some (.box (setC w)))] rfl rfl ⟨rfl, trivial⟩ (Vw.clo trivial ⟨Vw.ref (.head _) (VwL.pers PersL.h) (by intro h; cases h), trivial⟩)⟩
theorem sub_next {w k : Nat} (hw : SetOk w) (hk : k < (subsL (els w)).length) : DFun Tryd.prog 13 [setD (subK w k), setD w] (.tup [setD (subK w (k + 1)), .flat (.bool (decide (k + 1 < (subsL (els w)).length)))]) := by
  have h := next_d (subK w k) w (ok_subK w k) hw
  obtain ⟨e1, e2⟩ := subK_next hw hk
  rwa [e1, e2] at h
end Go.Proofs.YtgcmajgkcahbnaaDoor
