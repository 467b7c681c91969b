/- The laws of texts, over data. No condition. -/
import Derived.Test.YtgcmajgkcahbnaaDoorXSl
import Derived.Test.YtgcmajgkcahbnaaDoorYD14d
import Derived.Test.YtgcmajgkcahbnaaDoorYD15
import Derived.Test.YtgcmajgkcahbnaaDoorYD21
import Derived.Test.YtgcmajgkcahbnaaDoorYC5
import Derived.Test.YtgcmajgkcahbnaaDoorYC7
import Derived.Test.YtgcmajgkcahbnaaDoorYD1
import Derived.Test.YtgcmajgkcahbnaaDoorYD4

set_option linter.unusedSimpArgs false
set_option linter.unusedVariables false
set_option maxHeartbeats 8000000
set_option maxRecDepth 8000
namespace Go.Proofs.YtgcmajgkcahbnaaDoor
open Go Go.RowKit Go.PP Go.Dm Go.Bs
theorem eqlU {S : Nat} (h : SetOk S) : EqlD Tryd.prog 24 (setC S) (setC S) true := by
  have := eqlS h h
  rwa [decide_eq_true rfl] at this
theorem law11_c (w : Nat) (x : List UInt8) (l : List Int) (h1 : DFun Tryd.prog 49 [setD w] (strD x)) (h2 : DFun Tryd.prog 50 [strD x] (.tup [setD w, .flat (.int .i64 0)])) (h3 : DFun Tryd.prog 15 [setD w] (intsD l)) (h4 : DFun Tryd.prog 51 [intsD l] (strD x)) (h5 : EqlD Tryd.prog 24 (setC w) (setC w) true) : DFun Tryd.prog 11 [setD w] (.flat (.bool true)) := by
  have hK := known_d
  have e0 : decide (x = x) = true := decide_eq_true rfl
  refine DFun.enterA Tryd.func11 Tryd.ntmps11 ?_
  refine DW.walk ?_
  exact ⟨.inr rfl, ResOk.one [] rfl rfl trivial (Vw.pers rfl)⟩
theorem law11_d (w : Nat) (hw : SetOk w) : DFun Tryd.prog 11 [setD w] (.flat (.bool true)) := by
  have hl : (textS w).length ≤ 100000 := by
    have := txt_join w
    unfold textS
    rw [List.length_cons, List.length_append, List.length_singleton]
    omega
  have h2 := parse_d (textS w) hl
  rw [parP_text hw, from_els hw] at h2
  exact law11_c w (textS w) (els w) (string_d w hw) h2 (to_d w) (rtext_d (els w) (els_le w) (fun z hz => els_range hz)) (eqlU hw)
noncomputable abbrev code12 : Code := Tryd.f12.body.getD .skip
theorem law12_t {cc : Code} (hsel : selC [1, 1] code12 = some cc) (x : List UInt8) (l : List Int) (U : Nat) (h1 : DFun Tryd.prog 50 [strD x] (.tup [setD U, .flat (.int .i64 0)])) (h2 : DFun Tryd.prog 52 [strD x] (.tup [intsD l, .flat (.int .i64 0)])) (h3 : DFun Tryd.prog 17 [intsD l] (setD U)) (h4 : EqlD Tryd.prog 24 (setC U) (setC U) true) (h5 : DFun Tryd.prog 49 [setD U] (strD x)) :
    DW Tryd.prog 44 cc ⟨[(0, strD x)], []⟩ (QF Tryd.prog Tryd.f12 (.flat (.bool true))) := by
  have hK := known_d
  have e0 : decide (x = x) = true := decide_eq_true rfl
  refine DW.sel hsel (by rfl) ?_
  refine DW.walk ?_
  exact ⟨.inr rfl, ResOk.one [] rfl rfl trivial (Vw.le (Vw.pers rfl) (Le.of_eq (show D.flat (.bool (decide (x = x))) = .flat (.bool true) by rw [e0])))⟩
theorem law12_f {cc : Code} (hsel : selC [1, 1] code12 = some cc) (x : List UInt8) (l : List Int) (U : Nat) (e : Int) (he : ¬ e = 0) (h1 : DFun Tryd.prog 50 [strD x] (.tup [setD U, .flat (.int .i64 e)])) (h2 : DFun Tryd.prog 52 [strD x] (.tup [intsD l, .flat (.int .i64 e)])) (h3 : DFun Tryd.prog 17 [intsD l] (setD U)) (h4 : EqlD Tryd.prog 24 (setC U) (setC U) true) :
    DW Tryd.prog 44 cc ⟨[(0, strD x)], []⟩ (QF Tryd.prog Tryd.f12 (.flat (.bool true))) := by
  have hK := known_d
  refine DW.sel hsel (by rfl) ?_
  refine DW.walk ?_
  exact ⟨.inr rfl, ResOk.one [] rfl rfl trivial (Vw.pers rfl)⟩
theorem law12_m {cc : Code} (hsel : selC [1, 1] code12 = some cc) (x : List UInt8) (hx : x.length ≤ 6000) :
    DW Tryd.prog 44 cc ⟨[(0, strD x)], []⟩ (QF Tryd.prog Tryd.f12 (.flat (.bool true))) := by
  have h1 := parse_d x (by omega)
  have h2 := rparse_d x (by omega)
  have hlen : (parP x).1.length ≤ 1000000 := by
    unfold parP
    split
    · exact Nat.zero_le _
    split
    · have := parS_len _ (-1) [] x.tail (Nat.le_refl _)
      rw [List.length_nil, List.length_tail] at this
      omega
    · exact Nat.zero_le _
  have h3 := from_d (parP x).1 hlen
  have h4 := eqlU (ok_fromL (parP x).1)
  by_cases he : (parP x).2 = 0
  · have hp : parP x = ((parP x).1, 0) := by rw [← he]
    have h5 := string_d (fromL (parP x).1) (ok_fromL _)
    rw [(text_parP hp).1] at h5
    rw [he] at h1 h2
    exact law12_t hsel x _ _ h1 h2 h3 h4 h5
  · exact law12_f hsel x _ _ _ he h1 h2 h3 h4
theorem law12_d (s : List UInt8) (hs : s.length ≤ 140737488355328) : DFun Tryd.prog 12 [strD s] (.flat (.bool true)) := by
  have lm := fun (cc : Code) (h : selC [1, 1] code12 = some cc) (x : List UInt8) (hx : x.length ≤ 6000) => law12_m h x hx
  refine DFun.enterA Tryd.func12 Tryd.ntmps12 ?_
  refine DW.seq ?_
  refine DW.cut ⟨[(0, strD s)], []⟩ ?_ ?_
  · refine DW.walk ?_
    exact Nm.mk Sub.auto
  refine DW.seq ?_
  by_cases h : 6000 < s.length
  · refine DW.cut ⟨[(0, strD (s.take 6000))], []⟩ ?_ (lm _ (by rfl) _ (by rw [List.length_take]; omega))
    clear lm
    refine DW.walk ?_
    exact Nm.mk Sub.auto
  · refine DW.cut ⟨[(0, strD s)], []⟩ ?_ (lm _ (by rfl) _ (by omega))
    clear lm
    refine DW.walk ?_
    exact Nm.mk Sub.auto
end Go.Proofs.YtgcmajgkcahbnaaDoor
