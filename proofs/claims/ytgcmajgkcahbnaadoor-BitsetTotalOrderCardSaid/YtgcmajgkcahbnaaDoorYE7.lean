/- The law of the order, over data. No condition. -/
import Derived.Test.YtgcmajgkcahbnaaDoorXSl
import Derived.Test.YtgcmajgkcahbnaaDoorYE7a
import Derived.Test.YtgcmajgkcahbnaaDoorYE7b
import Derived.Test.YtgcmajgkcahbnaaDoorYE7c
import Derived.Test.YtgcmajgkcahbnaaDoorYB3
import Derived.Test.YtgcmajgkcahbnaaDoorYC6

set_option linter.unusedSimpArgs false
set_option linter.unusedVariables false
set_option maxHeartbeats 16000000
set_option maxRecDepth 8000
namespace Go.Proofs.YtgcmajgkcahbnaaDoor
open Go Go.RowKit Go.PP Go.Dm Go.Bs
theorem law7_c (a b c : Nat) (ha : SetOk a) (hb : SetOk b) (hc : SetOk c) (x y z : Int) (e : Bool) (h1 : DFun Tryd.prog 35 [setD a, setD b] (.flat (.int .i64 x))) (h2 : DFun Tryd.prog 35 [setD b, setD c] (.flat (.int .i64 y))) (h3 : DFun Tryd.prog 35 [setD a, setD c] (.flat (.int .i64 z))) (h4 : DFun Tryd.prog 35 [setD b, setD a] (.flat (.int .i64 (-x)))) (hE : EqlD Tryd.prog 24 (setC a) (setC b) e)
    (hx : (x = -1 ∧ e = false) ∨ (x = 0 ∧ e = true) ∨ (x = 1 ∧ e = false)) (t1 : x ≤ 0 → y ≤ 0 → z ≤ 0) (t2 : 0 ≤ x → 0 ≤ y → 0 ≤ z) : DFun Tryd.prog 7 [setD a, setD b, setD c] (.flat (.bool true)) := by
  have pa := fun (cc : Code) (h : selC [1, 1, 0, 0] code7b = some cc) => part7a h a b c x y z e h4 hE hx
  have pb := fun (cc : Code) (h : selC [1, 1, 1, 0, 0] code7c = some cc) => part7b h a b c x y z t1 t2
  have pc := fun (cc : Code) (h : selC [1, 1, 1, 1, 0] code7 = some cc) => tail7 h a b c ha hb
  refine DFun.enterA Tryd.func7 Tryd.ntmps7 ?_
  refine DW.walkTo 2 ?_
  refine DW.cut _ (DW.sub Sub.auto (pa _ (by rfl))) ?_
  refine DW.walkTo 4 ?_
  refine DW.cut _ (DW.sub Sub.auto (pb _ (by rfl))) ?_
  refine DW.walkTo 6 ?_
  exact DW.sub Sub.auto (pc _ (by rfl))
theorem law7_d (a b c : Nat) (ha : SetOk a) (hb : SetOk b) (hc : SetOk c) : DFun Tryd.prog 7 [setD a, setD b, setD c] (.flat (.bool true)) := by
  have h4 := compare_d b a hb ha
  rw [cmpN_anti a b] at h4
  have q2 := cmpN_zero a b
  have q3 := cmpN_range a b
  refine law7_c a b c ha hb hc _ _ _ _ (compare_d a b ha hb) (compare_d b c hb hc) (compare_d a c ha hc) h4 (eqlS ha hb) ?_ ?_ ?_
  · by_cases he : a = b
    · exact .inr (.inl ⟨q2.2 he, decide_eq_true he⟩)
    · have hn : cmpN a b ≠ 0 := fun h => he (q2.1 h)
      rw [decide_eq_false he]
      rcases (show cmpN a b = -1 ∨ cmpN a b = 1 by omega) with h | h
      · exact .inl ⟨h, rfl⟩
      · exact .inr (.inr ⟨h, rfl⟩)
  · rw [cmpN_le, cmpN_le, cmpN_le]; omega
  · rw [cmpN_ge, cmpN_ge, cmpN_ge]; omega
end Go.Proofs.YtgcmajgkcahbnaaDoor
