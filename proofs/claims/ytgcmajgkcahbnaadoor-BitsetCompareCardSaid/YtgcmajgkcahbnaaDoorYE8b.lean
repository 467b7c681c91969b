/- The law of the comparisons, its lists as they come. No condition. -/
import Derived.Test.YtgcmajgkcahbnaaDoorYE8

namespace Go.Proofs.YtgcmajgkcahbnaaDoor
open Go Go.RowKit Go.PP Go.Dm Go.Bs
theorem law8_f (a b : Nat) (l m : List Nat) (ha : SetOk a) (hb : SetOk b) (hl : l.length ≤ 140737488351232) (hl2 : ∀ x ∈ l, SetOk x) (hm : m.length ≤ 140737488351232) (hm2 : ∀ x ∈ m, SetOk x) : DFun Tryd.prog 8 [setD a, setD b, .sl false 16 l.length (l.flatMap setC), .sl false 16 m.length (m.flatMap setC)] (.flat (.bool true)) := by
  have e : ∀ l : List Nat, setsC l = l.flatMap setC := fun l => by unfold setsC; rfl
  rw [← e l, ← e m]
  exact law8_d a b l m ha hb hl hl2 hm hm2
end Go.Proofs.YtgcmajgkcahbnaaDoor
