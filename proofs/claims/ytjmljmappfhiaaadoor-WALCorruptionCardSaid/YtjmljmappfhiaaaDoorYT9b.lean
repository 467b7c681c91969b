/- The law of corruption: an empty text, or nothing changed. No condition. -/
import Derived.Test.YtjmljmappfhiaaaDoorYT9

set_option linter.unusedSimpArgs false
set_option linter.unusedVariables false
set_option maxHeartbeats 8000000
set_option maxRecDepth 8000
namespace Go.Proofs.YtjmljmappfhiaaaDoor
open Go Go.RowKit Go.PP Go.Dm

theorem law9_b (l : List (Bs × Bs)) (c w : List (Bs × Bs)) (z1 z2 : Int) (by_ : UInt8) (hz0 : 0 ≤ z1 ∧ z1 ≤ 255) (hz1 : 0 ≤ z2 ∧ z2 ≤ 255) (hcut : DFun Tryd.prog 11 [entsD l] (entsD c)) (hmade : DFun Tryd.prog 25 [entsD c] (.tup [.ptr [entsD w] 0, entsD w])) (hgl : w.length ≤ 30) (hal : (allW w).length ≤ 30 * 260) (hsm : Sm w) (hok : ∀ e ∈ w, errE e = 0) (h16 : DFun Tryd.prog 16 [] (.flat (.bool true))) (hw0 : ¬ w = []) (k : Nat) (hk : z1.tmod (w.length : Int) = k) (hkl : k < w.length) (e : Bs × Bs) (he : w[k]? = some e) (h0 : e.2.length = 0 ∨ (¬ e.2.length = 0 ∧ (by_.toNat : Int) = 0)) : DFun Tryd.prog 9 [entsD l, .flat (.int .u8 z1), .flat (.int .u8 z2), .flat (.int .u8 by_.toNat)] (.flat (.bool true)) := by
  have hwp : 0 < w.length := List.length_pos_iff.2 hw0
  have hp := ent_part he
  have hp1 := ent_f1 he
  obtain ⟨e1, e2⟩ := hsm.2 e (List.mem_of_getElem? he)
  rcases h0 with h0 | ⟨h0, hb0⟩
  · refine DFun.enterA Tryd.func9 Tryd.ntmps9 ?_
    refine DW.walk ?_
    exact ⟨.inr rfl, ResOk.one [] rfl rfl trivial (Vw.pers rfl)⟩
  · refine DFun.enterA Tryd.func9 Tryd.ntmps9 ?_
    refine DW.walk ?_
    exact ⟨.inr rfl, ResOk.one [] rfl rfl trivial (Vw.pers rfl)⟩
end Go.Proofs.YtjmljmappfhiaaaDoor
