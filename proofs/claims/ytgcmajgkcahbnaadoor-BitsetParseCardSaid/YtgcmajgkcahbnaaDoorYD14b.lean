/- Contracts over data: Parse, its round. No condition. -/
import Derived.Test.YtgcmajgkcahbnaaDoorXSl
import Derived.Test.YtgcmajgkcahbnaaDoorYD13
import Derived.Test.YtgcmajgkcahbnaaDoorYB2

set_option linter.unusedSimpArgs false
set_option linter.unusedVariables false
set_option maxHeartbeats 8000000
set_option maxRecDepth 8000
namespace Go.Proofs.YtgcmajgkcahbnaaDoor
open Go Go.RowKit Go.PP Go.Dm Go.Bs
noncomputable abbrev code50 : Code := Tryd.f50.body.getD .skip
def RtP (d : D) : Exit → DS → Prop := fun e s => e = .ret ∧ QF Tryd.prog Tryd.f50 d e s
def Ex5 (N k : Nat) (S2 : DS) : Exit → DS → Prop := fun e s => e = .exit k ∧ Sub N s S2
theorem Ex5.mk {N k : Nat} {s S2 : DS} (h : Sub N s S2) : Ex5 N k S2 (.exit k) s := ⟨rfl, h⟩
theorem px_stop {cc : Code} (hsel : selC [1, 1, 1, 1, 0, 1, 2, 2] code50 = some cc) (s t : List UInt8) (last : Int) (V : Nat) (hs : s.length ≤ 100000) (ht : t.length ≤ 100000) (hl0 : -1 ≤ last) (hl1 : last ≤ 1023)  : DW Tryd.prog 46 cc ⟨[(0, strD s), (2, .ref 2 0), (3, .flat (.int .i64 0)), (4, .ref 4 0), (5, strD t), (6, .flat (.bool false)), (7, .flat (.int .i64 last))], [(2, some (.box (setC 0))), (4, some (.box (setC V)))]⟩ (Ex5 46 0 ⟨[(0, strD s), (2, .ref 2 0), (3, .flat (.int .i64 0)), (4, .ref 4 0), (5, strD t), (6, .flat (.bool false)), (7, .flat (.int .i64 last))], [(2, some (.box (setC 0))), (4, some (.box (setC V)))]⟩) := by
  refine DW.sel hsel (by rfl) ?_
  refine DW.walk ?_
  exact Ex5.mk Sub.auto
theorem px_err {cc : Code} (hsel : selC [1, 1, 1, 1, 0, 1, 2, 2] code50 = some cc) (s t : List UInt8) (last : Int) (V : Nat) (hs : s.length ≤ 100000) (ht : t.length ≤ 100000) (hl0 : -1 ≤ last) (hl1 : last ≤ 1023) (r : List UInt8) (e : Int) (he : ¬ e = 0) (hn : DFun Tryd.prog 67 [strD t] (.tup [.flat (.int .i64 0), strD r, .flat (.int .i64 e)])) : DW Tryd.prog 46 cc ⟨[(0, strD s), (2, .ref 2 0), (3, .flat (.int .i64 0)), (4, .ref 4 0), (5, strD t), (6, .flat (.bool true)), (7, .flat (.int .i64 last))], [(2, some (.box (setC 0))), (4, some (.box (setC V)))]⟩ (RtP (.tup [setD 0, .flat (.int .i64 e)])) := by
  refine DW.sel hsel (by rfl) ?_
  refine DW.walk ?_
  exact ⟨rfl, .inr rfl, ResOk.cellTmpA [] rfl rfl rfl ag24 (by rw [setC_len]; exact sz24) rfl trivial (VwL.pers (setC_pers _)) (Le.refl _) (Vw.pers rfl)⟩
theorem px_le {cc : Code} (hsel : selC [1, 1, 1, 1, 0, 1, 2, 2] code50 = some cc) (s t : List UInt8) (last : Int) (V : Nat) (hs : s.length ≤ 100000) (ht : t.length ≤ 100000) (hl0 : -1 ≤ last) (hl1 : last ≤ 1023) (r : List UInt8) (n : Nat) (hv : ¬ 1023 < n) (hn : DFun Tryd.prog 67 [strD t] (.tup [.flat (.int .i64 n), strD r, .flat (.int .i64 0)])) (hl : (n : Int) ≤ last) : DW Tryd.prog 46 cc ⟨[(0, strD s), (2, .ref 2 0), (3, .flat (.int .i64 0)), (4, .ref 4 0), (5, strD t), (6, .flat (.bool true)), (7, .flat (.int .i64 last))], [(2, some (.box (setC 0))), (4, some (.box (setC V)))]⟩ (Ex5 46 0 ⟨[(0, strD s), (2, .ref 2 0), (3, .flat (.int .i64 0)), (4, .ref 4 0), (5, strD t), (6, .flat (.bool true)), (7, .flat (.int .i64 last))], [(2, some (.box (setC 0))), (4, some (.box (setC V)))]⟩) := by
  refine DW.sel hsel (by rfl) ?_
  refine DW.walk ?_
  exact Ex5.mk Sub.auto
end Go.Proofs.YtgcmajgkcahbnaaDoor
