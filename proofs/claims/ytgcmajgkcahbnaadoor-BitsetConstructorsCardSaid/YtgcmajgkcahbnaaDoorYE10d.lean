/- The law of the constructors, over data. No condition. -/
import Derived.Test.YtgcmajgkcahbnaaDoorXSl
import Derived.Test.YtgcmajgkcahbnaaDoorYE10
import Derived.Test.YtgcmajgkcahbnaaDoorYE10b
import Derived.Test.YtgcmajgkcahbnaaDoorYE10c
import Derived.Test.YtgcmajgkcahbnaaDoorYAG
import Derived.Test.YtgcmajgkcahbnaaDoorYB2
import Derived.Test.YtgcmajgkcahbnaaDoorYB3
import Derived.Test.YtgcmajgkcahbnaaDoorYB4
import Derived.Test.YtgcmajgkcahbnaaDoorYB5
import Derived.Test.YtgcmajgkcahbnaaDoorYB6
import Derived.Test.YtgcmajgkcahbnaaDoorYC7
import Derived.Test.YtgcmajgkcahbnaaDoorYC11
import Derived.Test.YtgcmajgkcahbnaaDoorYD1
import Derived.Test.YtgcmajgkcahbnaaDoorYD6
import Derived.Test.YtgcmajgkcahbnaaDoorYD11

set_option linter.unusedSimpArgs false
set_option linter.unusedVariables false
set_option maxHeartbeats 16000000
set_option maxRecDepth 8000
namespace Go.Proofs.YtgcmajgkcahbnaaDoor
open Go Go.RowKit Go.PP Go.Dm Go.Bs
theorem law10_c (l : List Int) (hl : l.length ≤ 200) (k : Nat) (cs : List D) (hk : k ≤ 200) (e1 : intsD l = .sl false 1 k cs) (z : Int) {cc : Code} (hsel : selC [1, 1] code10 = some cc) :
    DW Tryd.prog 117 cc ⟨[(0, .sl false 1 k cs), (1, .flat (.int .i64 z))], []⟩ (QF Tryd.prog Tryd.f10 (.flat (.bool true))) := by
  have h1 := of_d l (by omega)
  have h2 := rof_d l (by omega)
  rw [← els_ofS] at h2
  have hS := ok_ofS l
  generalize ofS l = S at *
  rw [e1] at h1 h2
  obtain ⟨lo, hi, b, ⟨mn, mx, no, yes⟩⟩ := ends hS
  have hL := els_le S
  have eb : b = decide (0 < ((els S).length : Int)) := by
    cases b with
    | true => exact (decide_eq_true (by have := (yes rfl).2.1; omega)).symm
    | false =>
      obtain ⟨q, _, _⟩ := no rfl
      exact (decide_eq_false (by rw [q, els_zero]; decide)).symm
  have n0 : (els S).length = 0 → lo = 0 ∧ hi = 0 := fun h => by
    cases b with
    | true => have := (yes rfl).2.1; omega
    | false => exact ⟨(no rfl).2.1, (no rfl).2.2⟩
  have n1 : 0 < (els S).length → (els S)[0]? = some lo ∧ (els S)[(els S).length - 1]? = some hi := fun h => by
    cases b with
    | true => exact (yes rfl).2.2
    | false =>
      obtain ⟨q, _, _⟩ := no rfl
      rw [q, els_zero] at h; simp at h
  clear no yes
  subst eb
  have pa := fun (cc : Code) (h : selC [1, 1, 1, 1, 1, 0, 0] code10 = some cc) => part10a h S hS (els S) rfl z lo hi
  have pb := fun (cc : Code) (h : selC [1, 1, 1, 1, 1, 1, 0, 0] code10b = some cc) => part10b h (els S) hL z lo hi n0 n1
  have pc := fun (cc : Code) (h : selC [1, 1, 1, 1, 1, 1, 1] code10c = some cc) => tail10 h z
  generalize els S = w at *
  clear n0 n1 hS
  refine DW.sel hsel (by rfl) ?_
  refine DW.walkTo 6 ?_
  refine DW.cut _ (DW.sub Sub.auto (pa _ (by rfl))) ?_
  refine DW.walkTo 8 ?_
  refine DW.cut _ (DW.sub Sub.auto (pb _ (by rfl))) ?_
  refine DW.cF rfl ?_
  refine DW.skip ?_
  refine Thn.n ?_
  exact DW.sub Sub.auto (pc _ (by rfl))
theorem law10_d (l : List Int) (z : Int) (hl : l.length ≤ 140737488351232) : DFun Tryd.prog 10 [intsD l, .flat (.int .i64 z)] (.flat (.bool true)) := by
  refine DFun.enterA Tryd.func10 Tryd.ntmps10 ?_
  by_cases h1 : 200 < l.length
  · have e1 : intsD (l.take 200) = .sl false 1 200 (List.take (200 * 1) (l.map fun x => D.flat (.int .i64 x))) := by
      unfold intsD
      rw [List.length_take, Nat.min_eq_left (by omega), List.map_take]
    have tl := fun (cc : Code) (h : selC [1, 1] code10 = some cc) => law10_c (l.take 200) (by rw [List.length_take]; omega) 200 _ (by omega) e1 z h
    clear e1
    refine DW.seq ?_
    refine DW.cut ⟨[(0, intsD l), (1, .flat (.int .i64 z))], []⟩ ?_ ?_
    · refine DW.walk ?_
      exact Nm.mk Sub.auto
    · refine DW.seq ?_
      refine DW.cut ⟨[(0, .sl false 1 200 (List.take (200 * 1) (l.map fun x => D.flat (.int .i64 x)))), (1, .flat (.int .i64 z))], []⟩ ?_ (tl _ (by rfl))
      refine DW.walk ?_
      exact Nm.mk Sub.auto
  · have tl := fun (cc : Code) (h : selC [1, 1] code10 = some cc) => law10_c l (by omega) l.length _ (by omega) rfl z h
    refine DW.seq ?_
    refine DW.cut ⟨[(0, intsD l), (1, .flat (.int .i64 z))], []⟩ ?_ ?_
    · refine DW.walk ?_
      exact Nm.mk Sub.auto
    · refine DW.seq ?_
      refine DW.cut ⟨[(0, .sl false 1 l.length (l.map fun x => D.flat (.int .i64 x))), (1, .flat (.int .i64 z))], []⟩ ?_ (tl _ (by rfl))
      refine DW.walk ?_
      exact Nm.mk Sub.auto
end Go.Proofs.YtgcmajgkcahbnaaDoor
