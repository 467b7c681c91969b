/- Contracts over data: what a text begins with. No condition. -/
import Derived.Test.YtgcmajgkcahbnaaDoorXSl
import Derived.Test.YtgcmajgkcahbnaaDoorYBL
import Derived.Test.YtgcmajgkcahbnaaDoorYV1
import Derived.Test.YtgcmajgkcahbnaaDoorYB1

set_option linter.unusedSimpArgs false
set_option linter.unusedVariables false
set_option maxHeartbeats 4000000
set_option maxRecDepth 8000
namespace Go.Proofs.YtgcmajgkcahbnaaDoor
open Go Go.RowKit Go.PP Go.Dm Go.Bs
theorem hp_d (a b : List UInt8) (p : Bool) (ha : a.length ≤ 1000000) (hb : b.length ≤ 1000000) (hp : decide (List.take b.length a = b) = p) : DFun Tryd.prog 82 [strD a, strD b] (.flat (.bool p)) := by
  refine DFun.enterA Tryd.func82 Tryd.ntmps82 ?_
  by_cases hl : b.length ≤ a.length
  · refine DW.walk ?_
    exact ⟨.inr rfl, ResOk.one [] rfl rfl trivial (Vw.le (Vw.pers rfl) (Le.of_eq (by rw [hp]; rfl)))⟩
  · have : p = false := by
      rw [← hp]
      refine decide_eq_false fun e => hl ?_
      have := congrArg List.length e
      rw [List.length_take] at this
      omega
    subst this
    refine DW.walk ?_
    exact ⟨.inr rfl, ResOk.one [] rfl rfl trivial (Vw.pers rfl)⟩
theorem cutF_d (a b : List UInt8) (ha : a.length ≤ 1000000) (hb : b.length ≤ 1000000) (h : DFun Tryd.prog 82 [strD a, strD b] (.flat (.bool false))) : DFun Tryd.prog 76 [strD a, strD b] (.tup [strD a, .flat (.bool false)]) := by
  refine DFun.enterA Tryd.func76 Tryd.ntmps76 ?_
  refine DW.walk ?_
  exact ⟨.inr rfl, ResOk.two [] rfl rfl rfl trivial (Vw.pers rfl) (Vw.pers rfl)⟩
theorem cutT_d (a b c : List UInt8) (ha : a.length ≤ 1000000) (hb : b.length ≤ a.length) (hc : List.drop b.length a = c) (h : DFun Tryd.prog 82 [strD a, strD b] (.flat (.bool true))) : DFun Tryd.prog 76 [strD a, strD b] (.tup [strD c, .flat (.bool true)]) := by
  refine DFun.enterA Tryd.func76 Tryd.ntmps76 ?_
  refine DW.walk ?_
  exact ⟨.inr rfl, ResOk.two [] rfl rfl rfl trivial (Vw.le (Vw.pers rfl) (Le.of_eq (by rw [hc]; rfl))) (Vw.pers rfl)⟩
theorem cutP_d (a b c : List UInt8) (p : Bool) (h : DFun Tryd.prog 76 [strD a, strD b] (.tup [strD c, .flat (.bool p)])) : DFun Tryd.prog 66 [strD a, strD b] (.tup [strD c, .flat (.bool p)]) := by
  refine DFun.enterA Tryd.func66 Tryd.ntmps66 ?_
  refine DW.walk ?_
  exact ⟨.inr rfl, ResOk.two [] rfl rfl rfl trivial (Vw.pers rfl) (Vw.pers rfl)⟩
def cutA (c : UInt8) (s : List UInt8) : List UInt8 := if s.head? = some c then s.tail else s
theorem cut_d (c : UInt8) (s : List UInt8) (hs : s.length ≤ 1000000) : DFun Tryd.prog 66 [strD s, strD [c]] (.tup [strD (cutA c s), .flat (.bool (decide (s.head? = some c)))]) := by
  refine cutP_d _ _ _ _ ?_
  unfold cutA
  cases s with
  | nil =>
    have e : decide (([] : List UInt8).head? = some c) = false := decide_eq_false (fun h => by cases h)
    rw [e, if_neg (fun h => by cases h)]
    exact cutF_d _ _ (by decide) (by simp) (hp_d [] [c] false (by decide) (by simp) (decide_eq_false fun h => by cases h))
  | cons x t =>
    rw [List.head?_cons]
    by_cases h : x = c
    · subst h
      rw [decide_eq_true rfl, if_pos rfl]
      exact cutT_d _ _ _ hs (by simp) rfl (hp_d _ _ true hs (by simp) (decide_eq_true rfl))
    · rw [decide_eq_false (fun e => h (Option.some.inj e)), if_neg (fun e => h (Option.some.inj e))]
      exact cutF_d _ _ hs (by simp) (hp_d _ _ false hs (by simp) (decide_eq_false fun e => h (List.cons.inj e).1))
end Go.Proofs.YtgcmajgkcahbnaaDoor
