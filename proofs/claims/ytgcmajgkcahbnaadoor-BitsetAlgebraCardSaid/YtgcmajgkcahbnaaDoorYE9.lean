/- The law of set algebra, over data. No condition. -/
import Derived.Test.YtgcmajgkcahbnaaDoorXSl
import Derived.Test.YtgcmajgkcahbnaaDoorYK1
import Derived.Test.YtgcmajgkcahbnaaDoorYB3
import Derived.Test.YtgcmajgkcahbnaaDoorYB6
import Derived.Test.YtgcmajgkcahbnaaDoorYC7

set_option linter.unusedSimpArgs false
set_option linter.unusedVariables false
set_option maxHeartbeats 16000000
set_option maxRecDepth 8000
namespace Go.Proofs.YtgcmajgkcahbnaaDoor
open Go Go.RowKit Go.PP Go.Dm Go.Bs
noncomputable abbrev code9 : Code := Tryd.f9.body.getD .skip
/-- What the law asks of its map: equal sets are equal keys. -/
theorem tail9t {cc : Code} (hsel : selC [1, 1, 1] code9 = some cc) (A B C I U : Nat) (kA kB : Value) (iA : IsV (setD A) kA) (iB : IsV (setD B) kB)
    (h1 : LookN Tryd.prog 24 [] kA) (h2 : LookT Tryd.prog 24 [kA] kB 0) (h3 : LookT Tryd.prog 24 [kA] kA 0)
    (a1 : DFun Tryd.prog 27 [setD A, setD B] (setD I)) (a2 : DFun Tryd.prog 27 [setD B, setD A] (setD I)) (a3 : DFun Tryd.prog 29 [setD A, setD B] (setD U)) (a4 : DFun Tryd.prog 29 [setD B, setD A] (setD U)) (a5 : DFun Tryd.prog 31 [setD A, setD A] (setD 0)) (a6 : DFun Tryd.prog 41 [setD 0] (.flat (.bool true)))
    (e1 : EqlD Tryd.prog 24 (setC I) (setC I) true) (e2 : EqlD Tryd.prog 24 (setC U) (setC U) true) (e3 : EqlD Tryd.prog 24 (setC A) (setC B) true) :
    DW Tryd.prog 123 cc ⟨[(3, .ref 3 0), (4, .ref 4 0), (5, .ref 5 0)], [(3, some (.box (setC A))), (4, some (.box (setC B))), (5, some (.box (setC C)))]⟩ (QF Tryd.prog Tryd.f9 (.flat (.bool true))) := by
  have hK := known_d
  have hv1 : ([.flat (.int .i64 2)] : List D)[0]? = some (.flat (.int .i64 2)) := rfl
  refine DW.sel hsel (by rfl) ?_
  refine DW.walk ?_
  exact ⟨.inr rfl, ResOk.one [] rfl rfl trivial (Vw.pers rfl)⟩
theorem tail9f {cc : Code} (hsel : selC [1, 1, 1] code9 = some cc) (A B C I U : Nat) (kA kB : Value) (iA : IsV (setD A) kA) (iB : IsV (setD B) kB)
    (h1 : LookN Tryd.prog 24 [] kA) (h2 : LookN Tryd.prog 24 [kA] kB) (h3 : LookT Tryd.prog 24 [kA, kB] kA 0)
    (a1 : DFun Tryd.prog 27 [setD A, setD B] (setD I)) (a2 : DFun Tryd.prog 27 [setD B, setD A] (setD I)) (a3 : DFun Tryd.prog 29 [setD A, setD B] (setD U)) (a4 : DFun Tryd.prog 29 [setD B, setD A] (setD U)) (a5 : DFun Tryd.prog 31 [setD A, setD A] (setD 0)) (a6 : DFun Tryd.prog 41 [setD 0] (.flat (.bool true)))
    (e1 : EqlD Tryd.prog 24 (setC I) (setC I) true) (e2 : EqlD Tryd.prog 24 (setC U) (setC U) true) (e3 : EqlD Tryd.prog 24 (setC A) (setC B) false) :
    DW Tryd.prog 123 cc ⟨[(3, .ref 3 0), (4, .ref 4 0), (5, .ref 5 0)], [(3, some (.box (setC A))), (4, some (.box (setC B))), (5, some (.box (setC C)))]⟩ (QF Tryd.prog Tryd.f9 (.flat (.bool true))) := by
  have hK := known_d
  have hv1 : ([.flat (.int .i64 1), .flat (.int .i64 2)] : List D)[0]? = some (.flat (.int .i64 1)) := rfl
  refine DW.sel hsel (by rfl) ?_
  refine DW.walk ?_
  exact ⟨.inr rfl, ResOk.one [] rfl rfl trivial (Vw.pers rfl)⟩
end Go.Proofs.YtgcmajgkcahbnaaDoor
