/- Contracts over data: the examples of the chapter. No condition. -/
import Derived.Test.YtgcmajgkcahbnaaDoorYB4
import Derived.Test.YtgcmajgkcahbnaaDoorYC4
import Derived.Test.YtgcmajgkcahbnaaDoorYC5
import Derived.Test.YtgcmajgkcahbnaaDoorYC6

set_option linter.unusedSimpArgs false
set_option linter.unusedVariables false
set_option maxHeartbeats 4000000
set_option maxRecDepth 8000
namespace Go.Proofs.YtgcmajgkcahbnaaDoor
open Go Go.RowKit Go.PP Go.Dm Go.Bs
theorem bSl3 {P : Program} {N : Nat} {dst : Option Tmp} {ty : TypeId} {pos : String} {af : Array Edge} {gd : Option (Nat × Bool)} {e : Nat} {z : Value} {a b c : Value} (t : TypeId) (x y u : Operand) (ht : P.underlying t = some (.slice e)) (hz : zeroT P e = some z) (hn : sizeOfT P e = some 1) (h1 : cellsD (.flat a) = some [.flat a]) (h2 : cellsD (.flat b) = some [.flat b]) (h3 : cellsD (.flat c) = some [.flat c]) :
    Tri P N ⟨dst, .buildSlice t 3 #[(0, x), (1, y), (2, u)], ty, pos, af, gd⟩ [(x, .flat a), (y, .flat b), (u, .flat c)] [] (.sl true 1 3 [.flat a, .flat b, .flat c]) [] :=
  T.buildSl t [(0, x, .flat a), (1, y, .flat b), (2, u, .flat c)] ht hz hn (by omega) (by omega) (fun base hb => by
    match base, hb with
    | [x, y, z], _ => simp [fillD, partsF, h1, h2, h3, spliceD]) (by simp [persL, Dm.pers]) rfl
theorem ok_small {S : Nat} (h : S < 1024) : SetOk S := fun n hn => Nat.testBit_lt_two_pow (Nat.lt_of_lt_of_le h (Nat.le_trans (show 1024 ≤ 2 ^ 10 by decide) (Nat.pow_le_pow_right (by decide) (by omega))))
abbrev i64D (z : Int) : D := .flat (.int .i64 z)
theorem kn_els : els 11 = [0, 1, 3] := by decide +kernel
theorem kn_next : nextP 2 11 (els 11) = some 3 := by rw [kn_els]; decide +kernel
theorem kn_last : nextP 11 11 (els 11) = none := by rw [kn_els]; decide +kernel
theorem kn_els2 : els 10 = [1, 3] := by decide +kernel
theorem kn_text : textS 10 = [123, 49, 32, 51, 125] := by
  unfold textS
  rw [kn_els2]
  simp [Lib.itoa, Lib.decDigits, Lib.join, List.intercalate]
theorem of_t (l : List Int) (hl : l.length ≤ 1000000) : DFun Tryd.prog 42 [.sl true 1 l.length (l.map i64D)] (setD (ofS l)) := (of_d l hl).le (LeL.cons Le.full trivial) (Le.refl _)
theorem known_d : DFun Tryd.prog 16 [] (.flat (.bool true)) := by
  have a1 : DFun Tryd.prog 42 [.sl true 1 1 [i64D 1]] (setD 2) := of_t [1] (by decide)
  have a2 : DFun Tryd.prog 42 [.sl true 1 3 [i64D 0, i64D 1, i64D 3]] (setD 11) := of_t [0, 1, 3] (by decide)
  have a3 : DFun Tryd.prog 13 [setD 2, setD 11] (.tup [setD 3, .flat (.bool true)]) := by
    have := next_d 2 11 (ok_small (by decide)) (ok_small (by decide))
    rwa [kn_next] at this
  have a4 : DFun Tryd.prog 13 [setD 11, setD 11] (.tup [setD 0, .flat (.bool false)]) := by
    have := next_d 11 11 (ok_small (by decide)) (ok_small (by decide))
    rwa [kn_last] at this
  have a5 : DFun Tryd.prog 42 [.sl true 1 2 [i64D 0, i64D 1]] (setD 3) := of_t [0, 1] (by decide)
  have a6 : EqlD Tryd.prog 24 (setC 3) (setC 3) true := eqlS (ok_small (by decide)) (ok_small (by decide))
  have a7 : DFun Tryd.prog 42 [.sl true 1 3 [i64D 2, i64D 1, i64D 0]] (setD 7) := of_t [2, 1, 0] (by decide)
  have a8 : DFun Tryd.prog 42 [.sl true 1 1 [i64D 3]] (setD 8) := of_t [3] (by decide)
  have a9 : DFun Tryd.prog 35 [setD 7, setD 8] (i64D (-1)) := compare_d 7 8 (ok_small (by decide)) (ok_small (by decide))
  have b1 : DFun Tryd.prog 42 [.sl true 1 2 [i64D 3, i64D 1]] (setD 10) := of_t [3, 1] (by decide)
  have b2 : DFun Tryd.prog 49 [setD 10] (strD [123, 49, 32, 51, 125]) := by
    have := string_d 10 (ok_small (by decide))
    rwa [kn_text] at this
  refine DFun.enterA Tryd.func16 Tryd.ntmps16 ?_
  refine DW.walk ?_
  refine DC.t (bSl3 _ _ _ _ TySl.h TyZ.h TyI.sz rfl rfl rfl) ⟨rfl, rfl, rfl, trivial⟩ trivial ?_
  refine DC.walk ?_
  refine DC.t (bSl3 _ _ _ _ TySl.h TyZ.h TyI.sz rfl rfl rfl) ⟨rfl, rfl, rfl, trivial⟩ trivial ?_
  refine DC.walk ?_
  refine DC.t (bSl3 _ _ _ _ TySl.h TyZ.h TyI.sz rfl rfl rfl) ⟨rfl, rfl, rfl, trivial⟩ trivial ?_
  refine DC.walk ?_
  refine DC.t (bSl3 _ _ _ _ TySl.h TyZ.h TyI.sz rfl rfl rfl) ⟨rfl, rfl, rfl, trivial⟩ trivial ?_
  refine DC.walk ?_
  exact ⟨.inr rfl, ResOk.one [] rfl rfl trivial (Vw.pers rfl)⟩
end Go.Proofs.YtgcmajgkcahbnaaDoor
