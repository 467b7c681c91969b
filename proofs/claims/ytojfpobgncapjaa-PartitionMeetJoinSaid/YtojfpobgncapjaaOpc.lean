/- How arrays of lists of pairs and arrays of ints are opened. No condition. -/
import Derived.Test.YtojfpobgncapjaaWy
import Derived.Test.YtojfpobgncapjaaWm
import Derived.OpenShut
set_option linter.unusedSimpArgs false
set_option linter.unusedVariables false
set_option maxHeartbeats 400000
namespace Go.Proofs.Ytojfpobgncapjaa
open Go Go.RowKit Go.PP Go.Deep

theorem okWide_array {P : Program} {w : World} {r : Reach} {base : Nat} {t e : TypeId} {n : Nat} {v : Value} (ht : P.underlying t = some (.array n e)) (h : Value.okWide P w r base t v) : ∃ cs, v = .agg cs ∧ cs.size = P.cellsOf t := by
  simp only [Value.okWide, ht] at h
  obtain ⟨cs, h1, h2, _⟩ := h
  exact ⟨cs, h1, h2⟩

section
variable {H : Type} {enc : TypeId × Value → H} {w : World} {base : Nat} {held : Bool} {fuel : Nat} {cs : List Value} {x : DataW H × List MemPlace}

theorem open_three (h : DataW.trod enc Try.prog w base (fun _ => true) held fuel 50 cs = some x) :
    ∃ va vb vc pa pb pc, cs = [va, vb, vc] ∧ Pairs w va pa ∧ Pairs w vb pb ∧ Pairs w vc pc := by
  obtain ⟨xs, m, _, _, hl, hx, hi⟩ := DataW.trod_array Try.underlying50 h
  rw [show Try.prog.cellsOf 50 = 3 from by kernel_rfl] at hl
  rw [show Try.prog.cellsOf 22 = 1 from by kernel_rfl] at hi
  match cs, hl with
  | [va, vb, vc], _ =>
    have g0 := hi 0 (by omega)
    have g1 := hi 1 (by omega)
    have g2 := hi 2 (by omega)
    rw [List.getElem?_eq_getElem (by omega)] at g0 g1 g2
    obtain ⟨v0, p0, e0, q0⟩ := open_pairs g0
    obtain ⟨v1, p1, e1, q1⟩ := open_pairs g1
    obtain ⟨v2, p2, e2, q2⟩ := open_pairs g2
    simp at e0 e1 e2
    subst e0 e1 e2
    exact ⟨_, _, _, _, _, _, rfl, q0, q1, q2⟩
end
end Go.Proofs.Ytojfpobgncapjaa
