/- The law of corruption: nothing to change. No condition. -/
import Derived.Test.YtjmljmappfhiaaaDoorYT9

set_option linter.unusedSimpArgs false
set_option linter.unusedVariables false
set_option maxHeartbeats 8000000
set_option maxRecDepth 8000
namespace Go.Proofs.YtjmljmappfhiaaaDoor
open Go Go.RowKit Go.PP Go.Dm

theorem law9_a (l : List (Bs × Bs)) (c w : List (Bs × Bs)) (z1 z2 : Int) (by_ : UInt8) (hz0 : 0 ≤ z1 ∧ z1 ≤ 255) (hz1 : 0 ≤ z2 ∧ z2 ≤ 255) (hcut : DFun Tryd.prog 11 [entsD l] (entsD c)) (hmade : DFun Tryd.prog 25 [entsD c] (.tup [.ptr [entsD w] 0, entsD w])) (hgl : w.length ≤ 30) (hal : (allW w).length ≤ 30 * 260) (hsm : Sm w) (hok : ∀ e ∈ w, errE e = 0) (h16 : DFun Tryd.prog 16 [] (.flat (.bool true))) (hw0 : w = []) : DFun Tryd.prog 9 [entsD l, .flat (.int .u8 z1), .flat (.int .u8 z2), .flat (.int .u8 by_.toNat)] (.flat (.bool true)) := by
  subst hw0
  have h20 := bytesL_d [] hsm
  refine DFun.enterA Tryd.func9 Tryd.ntmps9 ?_
  refine DW.walk ?_
  exact ⟨.inr rfl, ResOk.one [] rfl rfl trivial (Vw.pers rfl)⟩
end Go.Proofs.YtjmljmappfhiaaaDoor
