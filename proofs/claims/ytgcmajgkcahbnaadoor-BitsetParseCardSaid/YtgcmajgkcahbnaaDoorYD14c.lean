/- Contracts over data: Parse, its round, a number. No condition. -/
import Derived.Test.YtgcmajgkcahbnaaDoorXSl
import Derived.Test.YtgcmajgkcahbnaaDoorYD13
import Derived.Test.YtgcmajgkcahbnaaDoorYB2
import Derived.Test.YtgcmajgkcahbnaaDoorYD14b

set_option linter.unusedSimpArgs false
set_option linter.unusedVariables false
set_option maxHeartbeats 8000000
set_option maxRecDepth 8000
namespace Go.Proofs.YtgcmajgkcahbnaaDoor
open Go Go.RowKit Go.PP Go.Dm Go.Bs
theorem px_end {cc : Code} (hsel : selC [1, 1, 1, 1, 0, 1, 2, 2] code50 = some cc) (s t : List UInt8) (last : Int) (V : Nat) (hs : s.length ≤ 100000) (ht : t.length ≤ 100000) (hl0 : -1 ≤ last) (hl1 : last ≤ 1023) (r : List UInt8) (n : Nat) (hv : ¬ 1023 < n) (hn : DFun Tryd.prog 67 [strD t] (.tup [.flat (.int .i64 n), strD r, .flat (.int .i64 0)])) (hl : ¬ (n : Int) ≤ last) (U : Nat) (hW : DFun Tryd.prog 21 [setD V, .flat (.int .i64 n)] (setD U)) (e1 : decide (r = [125]) = true) : DW Tryd.prog 46 cc ⟨[(0, strD s), (2, .ref 2 0), (3, .flat (.int .i64 0)), (4, .ref 4 0), (5, strD t), (6, .flat (.bool true)), (7, .flat (.int .i64 last))], [(2, some (.box (setC 0))), (4, some (.box (setC V)))]⟩ (RtP (.tup [setD U, .flat (.int .i64 0)])) := by
  refine DW.sel hsel (by rfl) ?_
  refine DW.walk ?_
  exact ⟨rfl, .inr rfl, ResOk.cellTmpA [] rfl rfl rfl ag24 (by rw [setC_len]; exact sz24) rfl trivial (VwL.pers (setC_pers _)) (Le.refl _) (Vw.pers rfl)⟩
theorem px_next {cc : Code} (hsel : selC [1, 1, 1, 1, 0, 1, 2, 2] code50 = some cc) (s t : List UInt8) (last : Int) (V : Nat) (hs : s.length ≤ 100000) (ht : t.length ≤ 100000) (hl0 : -1 ≤ last) (hl1 : last ≤ 1023) (r : List UInt8) (n : Nat) (hv : ¬ 1023 < n) (hn : DFun Tryd.prog 67 [strD t] (.tup [.flat (.int .i64 n), strD r, .flat (.int .i64 0)])) (hl : ¬ (n : Int) ≤ last) (U : Nat) (hW : DFun Tryd.prog 21 [setD V, .flat (.int .i64 n)] (setD U)) (e1 : decide (r = [125]) = false) (t2 : List UInt8) (q : Bool) (hc : DFun Tryd.prog 66 [strD r, strD [32]] (.tup [strD t2, .flat (.bool q)])) : DW Tryd.prog 46 cc ⟨[(0, strD s), (2, .ref 2 0), (3, .flat (.int .i64 0)), (4, .ref 4 0), (5, strD t), (6, .flat (.bool true)), (7, .flat (.int .i64 last))], [(2, some (.box (setC 0))), (4, some (.box (setC V)))]⟩ (Nm 46 ⟨[(0, strD s), (2, .ref 2 0), (3, .flat (.int .i64 0)), (4, .ref 4 0), (5, strD t2), (6, .flat (.bool q)), (7, .flat (.int .i64 (n : Nat)))], [(2, some (.box (setC 0))), (4, some (.box (setC U)))]⟩) := by
  refine DW.sel hsel (by rfl) ?_
  refine DW.walk ?_
  exact Nm.mk Sub.auto
end Go.Proofs.YtgcmajgkcahbnaaDoor
