/- How an array of two lists of pairs and one of two ints are opened. No condition. -/
import Derived.Test.YtojfpobgncapjaaWz
import Derived.Test.YtojfpobgncapjaaOpc
set_option linter.unusedSimpArgs false
set_option linter.unusedVariables false
set_option maxHeartbeats 400000
namespace Go.Proofs.Ytojfpobgncapjaa
open Go Go.RowKit Go.PP Go.Deep
section
variable {H : Type} {enc : TypeId × Value → H} {w : World} {base : Nat} {held : Bool} {fuel : Nat} {cs : List Value} {x : DataW H × List MemPlace}

theorem open_two (h : DataW.trod enc Try.prog w base (fun _ => true) held fuel 63 cs = some x) :
    ∃ va vb pa pb, cs = [va, vb] ∧ Pairs w va pa ∧ Pairs w vb pb := by
  obtain ⟨xs, m, _, _, hl, hx, hi⟩ := DataW.trod_array Try.underlying63 h
  rw [show Try.prog.cellsOf 63 = 2 from by kernel_rfl] at hl
  rw [show Try.prog.cellsOf 22 = 1 from by kernel_rfl] at hi
  match cs, hl with
  | [va, vb], _ =>
    have g0 := hi 0 (by omega)
    have g1 := hi 1 (by omega)
    rw [List.getElem?_eq_getElem (by omega)] at g0 g1
    obtain ⟨v0, p0, e0, q0⟩ := open_pairs g0
    obtain ⟨v1, p1, e1, q1⟩ := open_pairs g1
    simp at e0 e1
    subst e0 e1
    exact ⟨_, _, _, _, rfl, q0, q1⟩

theorem open_duo (h : DataW.trod enc Try.prog w base (fun _ => true) held fuel 42 cs = some x) : ∃ a b, cs = [.int .i64 a, .int .i64 b] := by
  obtain ⟨xs, m, _, _, hl, hx, hi⟩ := DataW.trod_array Try.underlying42 h
  rw [show Try.prog.cellsOf 42 = 2 from by kernel_rfl] at hl
  rw [show Try.prog.cellsOf 3 = 1 from by kernel_rfl] at hi
  match cs, hl with
  | [va, vb], _ =>
    have g0 := hi 0 (by omega)
    have g1 := hi 1 (by omega)
    rw [List.getElem?_eq_getElem (by omega)] at g0 g1
    obtain ⟨z0, e0, _⟩ := DataW.trod_int Try.underlying3 g0
    obtain ⟨z1, e1, _⟩ := DataW.trod_int Try.underlying3 g1
    simp at e0 e1
    subst e0 e1
    exact ⟨_, _, rfl⟩
end
end Go.Proofs.Ytojfpobgncapjaa
