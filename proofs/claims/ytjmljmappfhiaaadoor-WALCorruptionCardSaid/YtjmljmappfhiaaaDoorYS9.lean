/- The law of corruption. No condition. -/
import Derived.Test.YtjmljmappfhiaaaDoorYT9a
import Derived.Test.YtjmljmappfhiaaaDoorYT9m

set_option linter.unusedSimpArgs false
set_option linter.unusedVariables false
set_option maxHeartbeats 8000000
set_option maxRecDepth 8000
namespace Go.Proofs.YtjmljmappfhiaaaDoor
open Go Go.RowKit Go.PP Go.Dm

theorem law9_d (l : List (Bs × Bs)) (z1 z2 : Int) (by_ : UInt8) (hl : l.length ≤ 140737488351232) (hb : ∀ e ∈ l, e.1.length ≤ 140737488351232 ∧ e.2.length ≤ 140737488351232) (hz0 : 0 ≤ z1 ∧ z1 ≤ 255) (hz1 : 0 ≤ z2 ∧ z2 ≤ 255) : DFun Tryd.prog 9 [entsD l, .flat (.int .u8 z1), .flat (.int .u8 z2), .flat (.int .u8 by_.toNat)] (.flat (.bool true)) := by
  have hcut := cut_d l (by omega) (fun e he => by have := (hb e he).2; omega)
  have hcl := cut_small l
  have hcm := cut_mem (l := l) (fun e he => by have := (hb e he).1; omega)
  have hmade := made_d (cutE l) (by omega) hcm
  have hgl : (goodE (cutE l)).length ≤ 30 := Nat.le_trans (List.length_filter_le _ _) hcl
  have hal := good_small hgl
  have hsm := good_sm (l := cutE l) (by omega)
  have hok := good_ok (l := cutE l)
  generalize goodE (cutE l) = w at hmade hgl hal hsm hok
  generalize cutE l = c at hcut hmade
  have h16 := known_d
  by_cases hw0 : w = []
  · exact law9_a l c w z1 z2 by_ hz0 hz1 hcut hmade hgl hal hsm hok h16 hw0
  · exact law9_m l c w z1 z2 by_ hz0 hz1 hcut hmade hgl hal hsm hok h16 hw0 hl
end Go.Proofs.YtjmljmappfhiaaaDoor
