/- Contracts over data: no number at the front. No condition. -/
import Derived.Test.YtgcmajgkcahbnaaDoorXSl
import Derived.Test.YtgcmajgkcahbnaaDoorYBL
import Derived.Test.YtgcmajgkcahbnaaDoorYV1
import Derived.Test.YtgcmajgkcahbnaaDoorYB1

set_option linter.unusedSimpArgs false
set_option linter.unusedVariables false
set_option maxHeartbeats 4000000
set_option maxRecDepth 8000
namespace Go.Proofs.YtgcmajgkcahbnaaDoor
open Go Go.RowKit Go.PP Go.Dm Go.Bs
theorem numB0 (s R : List UInt8) (hs : s.length ≤ 1000000) (hR : R.length ≤ s.length) (hd : List.take (s.length - R.length) s = []) (h1 : DFun Tryd.prog 77 [strD s, strD [48, 49, 50, 51, 52, 53, 54, 55, 56, 57]] (strD R)) : DFun Tryd.prog 67 [strD s] (.tup [.flat (.int .i64 0), strD R, .flat (.int .i64 3)]) := by
  refine DFun.enterA Tryd.func67 Tryd.ntmps67 ?_
  refine DW.walkTo 3 ?_
  refine DC.t (T.strH' _ _ _ TyStr.h (IsN.sub (IsN.c _) (IsN.c _) (by omega)) (by omega)) ⟨rfl, rfl, trivial⟩ trivial ?_
  rw [hd]
  have e0 : decide (([] : List UInt8) = []) = true := rfl
  refine DC.walk ?_
  exact ⟨.inr rfl, ResOk.three [] rfl rfl rfl rfl trivial (Vw.pers rfl) (Vw.pers rfl) (Vw.pers rfl)⟩
theorem numB1 (s R d : List UInt8) (x : UInt8) (hs : s.length ≤ 1000000) (hR : R.length ≤ s.length) (hd : List.take (s.length - R.length) s = d) (h1 : DFun Tryd.prog 77 [strD s, strD [48, 49, 50, 51, 52, 53, 54, 55, 56, 57]] (strD R)) (e0 : decide (d = []) = false) (hx : d[0]? = some x) (hl : 1 < d.length) (hl2 : d.length ≤ 1000000) (h48 : (x.toNat : Int) = 48) : DFun Tryd.prog 67 [strD s] (.tup [.flat (.int .i64 0), strD R, .flat (.int .i64 3)]) := by
  refine DFun.enterA Tryd.func67 Tryd.ntmps67 ?_
  refine DW.walkTo 3 ?_
  refine DC.t (T.strH' _ _ _ TyStr.h (IsN.sub (IsN.c _) (IsN.c _) (by omega)) (by omega)) ⟨rfl, rfl, trivial⟩ trivial ?_
  rw [hd]
  refine DC.walk ?_
  exact ⟨.inr rfl, ResOk.three [] rfl rfl rfl rfl trivial (Vw.pers rfl) (Vw.pers rfl) (Vw.pers rfl)⟩
theorem numL (s R d : List UInt8) (x : UInt8) (hs : s.length ≤ 1000000) (hR : R.length ≤ s.length) (hd : List.take (s.length - R.length) s = d) (h1 : DFun Tryd.prog 77 [strD s, strD [48, 49, 50, 51, 52, 53, 54, 55, 56, 57]] (strD R)) (e0 : decide (d = []) = false) (hx : d[0]? = some x) (hl : 4 < d.length) (hl2 : d.length ≤ 1000000) (h48 : ¬ (x.toNat : Int) = 48) : DFun Tryd.prog 67 [strD s] (.tup [.flat (.int .i64 0), strD R, .flat (.int .i64 2)]) := by
  refine DFun.enterA Tryd.func67 Tryd.ntmps67 ?_
  refine DW.walkTo 3 ?_
  refine DC.t (T.strH' _ _ _ TyStr.h (IsN.sub (IsN.c _) (IsN.c _) (by omega)) (by omega)) ⟨rfl, rfl, trivial⟩ trivial ?_
  rw [hd]
  refine DC.walk ?_
  exact ⟨.inr rfl, ResOk.three [] rfl rfl rfl rfl trivial (Vw.pers rfl) (Vw.pers rfl) (Vw.pers rfl)⟩
end Go.Proofs.YtgcmajgkcahbnaaDoor
