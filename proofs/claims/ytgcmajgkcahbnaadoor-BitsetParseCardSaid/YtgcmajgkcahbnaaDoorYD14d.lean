/- Contracts over data: Parse, whole. No condition. -/
import Derived.Test.YtgcmajgkcahbnaaDoorXSl
import Derived.Test.YtgcmajgkcahbnaaDoorYD14
import Derived.Test.YtgcmajgkcahbnaaDoorYD14b
import Derived.Test.YtgcmajgkcahbnaaDoorYD14c
import Derived.Test.YtgcmajgkcahbnaaDoorYB1

set_option linter.unusedSimpArgs false
set_option linter.unusedVariables false
set_option maxHeartbeats 8000000
set_option maxRecDepth 8000
namespace Go.Proofs.YtgcmajgkcahbnaaDoor
open Go Go.RowKit Go.PP Go.Dm Go.Bs
structure PX where
  p : Bool
  last : Int
  out : List Int
  t : List UInt8
abbrev pxS (s : List UInt8) (X : PX) : DS := ⟨[(0, strD s), (2, .ref 2 0), (3, .flat (.int .i64 0)), (4, .ref 4 0), (5, strD X.t), (6, .flat (.bool X.p)), (7, .flat (.int .i64 X.last))], [(2, some (.box (setC 0))), (4, some (.box (setC (fromL X.out))))]⟩
def pxC (R : List Int × Int) (X : PX) : Prop := (X.p = true → parS X.last X.out X.t = R) ∧ (X.p = false → R = ([], 3)) ∧ -1 ≤ X.last ∧ X.last ≤ 1023 ∧ X.t.length ≤ 100000
theorem pxR {R : List Int × Int} {a : List Int} {e : Int} (h : R = (a, e)) : D.tup [setD (fromL R.1), .flat (.int .i64 R.2)] = .tup [setD (fromL a), .flat (.int .i64 e)] := by rw [h]
theorem fromL_nil : fromL [] = 0 := rfl
theorem px_tail {cc : Code} (hsel : selC [1, 1, 1, 1, 1] code50 = some cc) (V : Nat) : DW Tryd.prog 46 cc ⟨[(2, .ref 2 0), (4, .ref 4 0)], [(2, some (.box (setC 0))), (4, some (.box (setC V)))]⟩ (QF Tryd.prog Tryd.f50 (.tup [setD 0, .flat (.int .i64 3)])) := by
  refine DW.sel hsel (by rfl) ?_
  refine DW.walk ?_
  exact ⟨.inr rfl, ResOk.cellTmpA [] rfl rfl rfl ag24 (by rw [setC_len]; exact sz24) rfl trivial (VwL.pers (setC_pers _)) (Le.refl _) (Vw.pers rfl)⟩
theorem px_sub (s t : List UInt8) (last : Int) (V : Nat) (p : Bool) : Sub 46 ⟨[(0, strD s), (2, .ref 2 0), (3, .flat (.int .i64 0)), (4, .ref 4 0), (5, strD t), (6, .flat (.bool p)), (7, .flat (.int .i64 last))], [(2, some (.box (setC 0))), (4, some (.box (setC V)))]⟩ ⟨[(2, .ref 2 0), (4, .ref 4 0)], [(2, some (.box (setC 0))), (4, some (.box (setC V)))]⟩ := Sub.auto
theorem parse_loop (s : List UInt8) (R : List Int × Int) (p : Bool) (t0 : List UInt8) (hC : pxC R ⟨p, -1, [], t0⟩) (hs : s.length ≤ 100000) (e0 : decide (s = [123, 125]) = false) (hc : DFun Tryd.prog 66 [strD s, strD [123]] (.tup [strD t0, .flat (.bool p)])) : DFun Tryd.prog 50 [strD s] (.tup [setD (fromL R.1), .flat (.int .i64 R.2)]) := by
  refine DFun.enterA Tryd.func50 Tryd.ntmps50 ?_
  refine DW.walk ?_
  refine DW.loopA (pxS s) (pxC R) (fun X => X.t.length) ⟨p, -1, [], t0⟩ ?_ hC
  clear hC hc e0
  rintro ⟨p, last, out, t⟩ ⟨h1, h2, h3, h4, h5⟩
  have h3 : -1 ≤ last := h3
  have h4 : last ≤ 1023 := h4
  have h5 : t.length ≤ 100000 := h5
  cases p with
  | false =>
    rw [pxR (h2 rfl), fromL_nil]
    refine (px_stop (by rfl) s t last (fromL out) hs h5 h3 h4).mono ?_
    rintro e s' ⟨rfl, hsub⟩
    exact DW.sub hsub (DW.sub (px_sub _ _ _ _ _) (px_tail (by rfl) _))
  | true =>
    have h1 : parS last out t = R := h1 rfl
    rw [parS] at h1
    by_cases hb : badN (digs t)
    · rw [if_pos hb] at h1
      rw [pxR h1.symm, fromL_nil]
      refine (px_err (by rfl) s t last (fromL out) hs h5 h3 h4 _ 3 (by decide) (num_bad (by omega) hb)).mono ?_
      rintro e s' ⟨rfl, h⟩
      exact h
    rw [if_neg hb] at h1
    by_cases hv : 1023 < valN (digs t)
    · rw [if_pos hv] at h1
      rw [pxR h1.symm, fromL_nil]
      refine (px_err (by rfl) s t last (fromL out) hs h5 h3 h4 _ 2 (by decide) (num_big (by omega) hb hv)).mono ?_
      rintro e s' ⟨rfl, h⟩
      exact h
    rw [if_neg hv] at h1
    have hn := num_ok (t := t) (by omega) hb hv
    have hlen := congrArg List.length (digs_rest t)
    rw [List.length_append] at hlen
    have hp : 0 < (digs t).length := List.length_pos_iff.2 (fun e => hb (.inl e))
    by_cases hl : (valN (digs t) : Int) ≤ last
    · rw [if_pos hl] at h1
      rw [pxR h1.symm, fromL_nil]
      refine (px_le (by rfl) s t last (fromL out) hs h5 h3 h4 _ _ hv hn hl).mono ?_
      rintro e s' ⟨rfl, hsub⟩
      exact DW.sub hsub (DW.sub (px_sub _ _ _ _ _) (px_tail (by rfl) _))
    rw [if_neg hl] at h1
    have hW := with_d (fromL out) (valN (digs t) : Nat)
    rw [← fromL_snoc] at hW
    by_cases hr : rest t = [125]
    · rw [if_pos hr] at h1
      rw [pxR h1.symm]
      refine (px_end (by rfl) s t last (fromL out) hs h5 h3 h4 _ _ hv hn hl _ hW (decide_eq_true hr)).mono ?_
      rintro e s' ⟨rfl, h⟩
      exact h
    · rw [if_neg hr] at h1
      have hcut := cut_d 32 (rest t) (by omega)
      have hnext : pxC R ⟨decide ((rest t).head? = some 32), (valN (digs t) : Nat), out ++ [((valN (digs t) : Nat) : Int)], cutA 32 (rest t)⟩ := by
        refine ⟨fun h => ?_, fun h => ?_, by show (-1 : Int) ≤ ((valN (digs t) : Nat) : Int); omega, by show ((valN (digs t) : Nat) : Int) ≤ 1023; omega, ?_⟩
        · have h : (rest t).head? = some 32 := of_decide_eq_true h
          rw [dif_pos h] at h1
          show parS _ _ (cutA 32 (rest t)) = R
          unfold cutA
          rw [if_pos h]; exact h1
        · have h : ¬ (rest t).head? = some 32 := of_decide_eq_false h
          rw [dif_neg h] at h1
          exact h1.symm
        · show (cutA 32 (rest t)).length ≤ 100000
          unfold cutA
          split
          · rw [List.length_tail]; omega
          · omega
      have hlt : (cutA 32 (rest t)).length < t.length := by
        unfold cutA
        split
        · rw [List.length_tail]; omega
        · omega
      refine (px_next (by rfl) s t last (fromL out) hs h5 h3 h4 _ _ hv hn hl _ hW (decide_eq_false hr) _ _ hcut).mono ?_
      rintro e s' ⟨rfl, hsub⟩
      exact ⟨⟨_, _, _, _⟩, hnext, hlt, hsub⟩
theorem parse_d (s : List UInt8) (hs : s.length ≤ 100000) : DFun Tryd.prog 50 [strD s] (.tup [setD (fromL (parP s).1), .flat (.int .i64 (parP s).2)]) := by
  by_cases h : s = [123, 125]
  · have e0 : decide (s = [123, 125]) = true := decide_eq_true h
    have hp : parP s = ([], 0) := by unfold parP; rw [if_pos h]
    rw [pxR hp, fromL_nil]
    clear hp h
    refine DFun.enterA Tryd.func50 Tryd.ntmps50 ?_
    refine DW.walk ?_
    exact ⟨.inr rfl, ResOk.cellTmpA [] rfl rfl rfl ag24 (by rw [setC_len]; exact sz24) rfl trivial (VwL.pers (setC_pers _)) (Le.refl _) (Vw.pers rfl)⟩
  · have hc := cut_d 123 s (by omega)
    refine parse_loop s (parP s) _ _ ?_ hs (decide_eq_false h) hc
    unfold parP
    rw [if_neg h]
    refine ⟨fun h => ?_, fun h => ?_, by show (-1 : Int) ≤ -1; omega, by show (-1 : Int) ≤ 1023; omega, ?_⟩
    · have h : s.head? = some 123 := of_decide_eq_true h
      rw [if_pos h]
      show parS (-1) [] (cutA 123 s) = _
      unfold cutA
      rw [if_pos h]
    · have h : ¬ s.head? = some 123 := of_decide_eq_false h
      rw [if_neg h]
    · show (cutA 123 s).length ≤ 100000
      unfold cutA
      split
      · rw [List.length_tail]; omega
      · exact hs
end Go.Proofs.YtgcmajgkcahbnaaDoor
