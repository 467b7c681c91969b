/- The law of the next subset, over data. No condition. -/
import Derived.Test.YtgcmajgkcahbnaaDoorYC4
import Derived.Test.YtgcmajgkcahbnaaDoorYC7
import Derived.Test.YtgcmajgkcahbnaaDoorYD1
import Derived.Test.YtgcmajgkcahbnaaDoorYD4
import Derived.Test.YtgcmajgkcahbnaaDoorYD5

set_option linter.unusedSimpArgs false
set_option linter.unusedVariables false
set_option maxHeartbeats 4000000
set_option maxRecDepth 8000
namespace Go.Proofs.YtgcmajgkcahbnaaDoor
open Go Go.RowKit Go.PP Go.Dm Go.Bs
theorem law3_c (r w n : Nat) (b : Bool) (l : List Int) (h1 : DFun Tryd.prog 13 [setD r, setD w] (.tup [setD n, .flat (.bool b)])) (h2 : DFun Tryd.prog 14 [intsD (els r), intsD (els w)] (.tup [intsD l, .flat (.bool b)])) (h3 : DFun Tryd.prog 17 [intsD l] (setD n)) (h4 : EqlD Tryd.prog 24 (setC n) (setC n) true) : DFun Tryd.prog 3 [setD r, setD w] (.flat (.bool true)) := by
  have h5 := to_d r
  have h6 := to_d w
  have h7 := known_d
  have h8 : (b == b) = true := by cases b <;> rfl
  refine DFun.enterA Tryd.func3 Tryd.ntmps3 ?_
  cases b with
  | true =>
    refine DW.walk ?_
    exact ⟨.inr rfl, ResOk.one [] rfl rfl trivial (Vw.pers rfl)⟩
  | false =>
    refine DW.walk ?_
    exact ⟨.inr rfl, ResOk.one [] rfl rfl trivial (Vw.pers rfl)⟩
theorem law3_d (r w : Nat) (hr : SetOk r) (hw : SetOk w) : DFun Tryd.prog 3 [setD r, setD w] (.flat (.bool true)) := by
  have h1 := next_d r w hr hw
  have h2 := rnext_d (els r) (els w) (by have := els_le r; omega) (by have := els_le w; omega)
  have h3 := next_els hr hw (els w) (fun z hz => els_range hz)
  rw [← h3] at h2
  cases ho : nextP r w (els w) with
  | none =>
    rw [ho] at h1 h2
    exact law3_c r w 0 false [] h1 h2 (from_d [] (by decide)) (eqlS ok_zero ok_zero)
  | some s =>
    rw [ho] at h1 h2
    have hs : SetOk s := ok_next hr (fun z hz => els_range hz) ho
    have h4 := from_d (els s) (by have := els_le s; omega)
    rw [from_els hs] at h4
    have h5 := eqlS hs hs
    rw [decide_eq_true rfl] at h5
    exact law3_c r w s true (els s) h1 h2 h4 h5
end Go.Proofs.YtgcmajgkcahbnaaDoor
