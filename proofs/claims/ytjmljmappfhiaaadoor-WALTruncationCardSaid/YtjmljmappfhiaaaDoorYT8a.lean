/- The law of truncation: a round within what was recovered. No condition. -/
import Derived.Test.YtjmljmappfhiaaaDoorYT8

set_option linter.unusedSimpArgs false
set_option linter.unusedVariables false
set_option maxHeartbeats 8000000
set_option maxRecDepth 8000
namespace Go.Proofs.YtjmljmappfhiaaaDoor
open Go Go.RowKit Go.PP Go.Dm

theorem round8a {c : Code} (hsel : selC [1, 1, 1, 1, 1, 1, 1, 1, 1, 0, 1, 2, 2] code8 = some c) (w o : List (Bs × Bs)) (e : Bs × Bs) (zz : Bs) (k n i : Nat) (er z : Int) (hw : w.length ≤ 30) (ho : o.length ≤ 30) (he : w[i]? = some e) (hoe : o[i]? = some e) (hz0 : 0 ≤ z) (hz1 : z ≤ 1099511627776) (hzl : zz.length ≤ 10000) (hA : z + (zz.length : Int) ≤ (k : Int)) (hk : k ≤ 10000)
    (hby : DFun Tryd.prog 15 [entD e] (bytesD zz)) (Q : Exit → DS → Prop) :
    DW Tryd.prog 132 c (st8 w o k n er z i) (Thn (fun s' => Sub 132 s' (st8 w o k n er (z + zz.length) (i + 1))) Q) := by
  refine DW.sel hsel (by rfl) ?_
  have hi := (List.getElem?_eq_some_iff.1 he).1
  have hio := (List.getElem?_eq_some_iff.1 hoe).1
  have hp := ent_part he
  have hp0 := ent_f0 he
  have hp1 := ent_f1 he
  have ho1 := ent_f0 hoe
  have ho2 := ent_f1 hoe
  have hbb : (!(decide (z + (zz.length : Int) ≤ (k : Int)) == decide ((i : Int) < (o.length : Int)))) = false := by
    rw [decide_eq_true hA, decide_eq_true (by omega)]; rfl
  have hn1 : decide (e.1 ≠ e.1) = false := by simp
  have hn2 : decide (e.2 ≠ e.2) = false := by simp
  refine DW.walk ?_
  exact Sub.auto
end Go.Proofs.YtjmljmappfhiaaaDoor
