/- How an argument of type [][]int is opened. No condition. -/
import Derived.Test.YtojfpobgncapjaaOpn
import Derived.Test.YtojfpobgncapjaaWm
import Derived.Deep.Slices
import Derived.OpenShut
set_option linter.unusedSimpArgs false
set_option linter.unusedVariables false
set_option maxHeartbeats 400000
namespace Go.Proofs.Ytojfpobgncapjaa
open Go Go.RowKit Go.PP Go.Deep

theorem open_lists {H : Type} {enc : TypeId × Value → H} {w : World} {base : Nat} {held : Bool} {fuel : Nat} {cs : List Value} {x : DataW H × List MemPlace}
    (h : DataW.trod enc Try.prog w base (fun _ => true) held fuel 57 cs = some x) : ∃ v xss, cs = [v] ∧ IntsL (fun _ => False) w v xss := by
  rcases open_slice Try.underlying57 h with ⟨rfl, _⟩ | ⟨a, len, cap, m, k, D, Pl, rfl, hb, hl, hm, hmm, rfl, hx⟩
  · exact ⟨_, [], rfl, ⟨[], SliceIn.nil _ _, rfl, fun i v' xs h => by simp at h⟩⟩
  · simp only [if_true] at hmm
    have each : ∀ i, i < len → ∃ y : Value × List Int, w.cell? (a.add i) = some y.1 ∧ Ints (fun _ => False) w y.1 y.2 := by
      intro i hi
      obtain ⟨cs', h1, h2⟩ := hx i (by omega)
      rw [show Try.prog.cellsOf 24 = 1 from by kernel_rfl] at h1
      obtain ⟨hlen, hcell⟩ := cells_at h1
      obtain ⟨v, zs, rfl, hz, _⟩ := open_marks h2
      refine ⟨(v, zs), ?_, hz⟩
      have := hcell 0 (by omega); rw [add_add] at this; simpa using this
    obtain ⟨f, hf⟩ := choose_lt each
    refine ⟨.slice (some a) len cap, (List.range len).map fun i => (f i).2, rfl, ⟨(List.range len).map fun i => (f i).1, ⟨some a, cap, by simp, by unfold maxLen at hm; simp; omega, fun i hi => ?_⟩, by simp, fun i v' xs h1 h2 => ?_⟩⟩
    · have hi' : i < len := by simpa using hi
      have h1 := (hf i hi').1
      obtain ⟨b, off, spot⟩ := a
      have hspot : spot = none := by
        have := World.cell?_spot (hf 0 (by omega)).1
        simpa [Addr.add] using this
      subst hspot
      refine ⟨b, off, (f i).1, rfl, id, by simp [hi'], ?_⟩
      rw [show (⟨b, off, none⟩ : Addr).add i = ⟨b, off + i, none⟩ from by unfold Addr.add; split <;> simp_all] at h1; exact h1
    · have hi' : i < len := by have := (List.getElem?_eq_some_iff.1 h1).1; simpa using this
      simp [hi'] at h1 h2
      subst h1 h2
      exact (hf i hi').2
end Go.Proofs.Ytojfpobgncapjaa
