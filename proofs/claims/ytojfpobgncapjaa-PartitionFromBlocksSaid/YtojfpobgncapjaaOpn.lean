/- How an argument of type []int is opened. No condition. -/
import Derived.Test.YtojfpobgncapjaaWx
import Derived.ChangeSlices
set_option linter.unusedSimpArgs false
set_option linter.unusedVariables false
set_option maxHeartbeats 400000
namespace Go.Proofs.Ytojfpobgncapjaa
open Go Go.RowKit Go.PP Go.Deep

theorem open_marks {H : Type} {enc : TypeId × Value → H} {w : World} {base : Nat} {held : Bool} {fuel : Nat} {cs : List Value} {x : DataW H × List MemPlace}
    (h : DataW.trod enc Try.prog w base (fun _ => true) held fuel 24 cs = some x) : ∃ v zs, cs = [v] ∧ Ints (fun _ => False) w v zs ∧ ∀ (i : Nat) x, zs[i]? = some x → (Lit.int .i64 x).wf = true := by
  rcases ChangeShapes.open_ints Try.underlying24 Try.underlying3 (by kernel_rfl) h with ⟨rfl, _⟩ | ⟨a, len, cap, zs, rfl, _, hl, hm, hz, _, hcell, hwz⟩
  · exact ⟨_, [], rfl, SliceIn.nil _ _, fun i x h => by simp at h⟩
  · simp only [if_true] at hz
    refine ⟨_, zs.take len, rfl, ⟨some a, cap, by simp; omega, by unfold maxLen at hm; simp; omega, fun i hi => ?_⟩, fun i x hx => ?_⟩
    · have hi' : i < len ∧ i < zs.length := by simp at hi; omega
      have hc := hcell i hi'.2
      obtain ⟨b, off, spot⟩ := a
      have hspot : spot = none := by
        have := World.cell?_spot (hcell 0 (by omega))
        simpa [Addr.add] using this
      subst hspot
      refine ⟨b, off, .int .i64 (zs.getD i 0), rfl, id, ?_, ?_⟩
      · simp [hi'.1, hi'.2, List.getD]
      · rw [show (⟨b, off, none⟩ : Addr).add i = ⟨b, off + i, none⟩ from by unfold Addr.add; split <;> simp_all] at hc; exact hc
    · have : x ∈ zs.take len := List.mem_of_getElem? hx
      exact hwz x (List.mem_of_mem_take this)
end Go.Proofs.Ytojfpobgncapjaa
