/- The law of the order, over data. No condition. -/
import Derived.Test.YtgcmajgkcahbnaaDoorXSl
import Derived.Test.YtgcmajgkcahbnaaDoorYB3
import Derived.Test.YtgcmajgkcahbnaaDoorYC6
import Derived.Test.YtgcmajgkcahbnaaDoorYC7

set_option linter.unusedSimpArgs false
set_option linter.unusedVariables false
set_option maxHeartbeats 16000000
set_option maxRecDepth 8000
namespace Go.Proofs.YtgcmajgkcahbnaaDoor
open Go Go.RowKit Go.PP Go.Dm Go.Bs
noncomputable abbrev code7 : Code := Tryd.f7.body.getD .skip
theorem tail7 {cc : Code} (hsel : selC [1, 1, 1, 1, 0] code7 = some cc) (a b c : Nat) (ha : SetOk a) (hb : SetOk b) : DW Tryd.prog 98 cc ⟨[(3, .ref 3 0), (4, .ref 4 0), (5, .ref 5 0)], [(3, some (.box (setC a))), (4, some (.box (setC b))), (5, some (.box (setC c)))]⟩
    (Thn (fun s' => DW Tryd.prog 98 .ret s' (QF Tryd.prog Tryd.f7 (.flat (.bool true)))) (QF Tryd.prog Tryd.f7 (.flat (.bool true)))) := by
  have h5 := union_d a b
  have h6 := inter_d a b
  have h7 := compare_d (a ||| b) a (ok_or ha hb) ha
  have h8 := compare_d (a &&& b) a (ok_and ha) ha
  have h9 := subset_d b a hb
  have hE := eqlS ha hb
  have hK := known_d
  have q4 := or_ge a b
  have q5 := and_le a b
  have q6 := or_gt a b
  generalize cmpN (a ||| b) a = u at *
  generalize cmpN (a &&& b) a = v at *
  generalize a ||| b = U at *
  generalize a &&& b = V at *
  refine DW.sel hsel (by rfl) ?_
  by_cases he : a = b
  · rw [decide_eq_true he] at hE
    clear q6 he
    refine DW.walk ?_
    exact ⟨.inr rfl, ResOk.one [] rfl rfl trivial (Vw.pers rfl)⟩
  · rw [decide_eq_false he] at hE
    by_cases hu : 0 < u
    · clear q6 he
      refine DW.walk ?_
      exact ⟨.inr rfl, ResOk.one [] rfl rfl trivial (Vw.pers rfl)⟩
    · have hs : minS b a = 0 := by
        rcases q6 with q | q | q
        · exact absurd q he
        · exact absurd q hu
        · exact q
      rw [decide_eq_true hs] at h9
      clear q6 he hs
      refine DW.walk ?_
      exact ⟨.inr rfl, ResOk.one [] rfl rfl trivial (Vw.pers rfl)⟩
end Go.Proofs.YtgcmajgkcahbnaaDoor
