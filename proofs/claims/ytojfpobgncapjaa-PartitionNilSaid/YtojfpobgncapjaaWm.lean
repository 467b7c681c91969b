/- PartitionFind returns true; how its argument is opened. Condition: the pairs read as a list of pairs. -/
import Derived.Test.YtojfpobgncapjaaWl
import Derived.Deep.Slices
import Derived.OpenShut
set_option linter.unusedSimpArgs false
set_option linter.unusedVariables false
set_option maxHeartbeats 400000
namespace Go.Proofs.Ytojfpobgncapjaa
open Go Go.RowKit Go.PP Go.Deep

theorem find_walk (n : Int) (vp : Value) (ps : List (Int × Int)) (a b : Int) (w : World) (hp : Pairs w vp ps) :
    Calls Try.prog 3 #[.int .i64 n, vp, .int .i64 a, .int .i64 b] w fun e w' => e = .returned (.bool true) ∧ Below w.heap.size w w' := by
  have key : Calls Try.prog 3 #[.int .i64 n, vp, .int .i64 a, .int .i64 b] w (TruePost w) := by
    by_cases hn : n < 0 ∨ 40 < n
    · exact find_no n vp a b w hn
    · obtain ⟨k, rfl⟩ := Int.eq_ofNat_of_zero_le (show 0 ≤ n by omega)
      have hk : k ≤ 40 := by omega
      cases ha : thereB k a with
      | false => exact find_outside k vp ps a b w hk hp ha
      | true =>
        obtain ⟨i, rfl, hi⟩ := thereB_true ha
        cases hb : thereB k b with
        | false => exact find_half k vp ps i b w hk hp hi hb
        | true =>
          obtain ⟨j, rfl, hj⟩ := thereB_true hb
          exact find_both k vp ps i j w hk hp hi hj
  exact key.mono fun e w' h => ⟨h.1, h.2.below⟩

theorem cells_at {w : World} {base : Nat} {a : Addr} {n : Nat} {cs : List Value} (h : w.cells? base a n = some cs) : cs.length = n ∧ ∀ j, j < n → w.cell? (a.add j) = cs[j]? := by
  exact (World.cells?_some h).2

theorem open_pairs {H : Type} {enc : TypeId × Value → H} {w : World} {base : Nat} {held : Bool} {fuel : Nat} {cs : List Value} {x : DataW H × List MemPlace}
    (h : DataW.trod enc Try.prog w base (fun _ => true) held fuel 22 cs = some x) : ∃ v ps, cs = [v] ∧ Pairs w v ps := by
  rcases open_slice Try.underlying22 h with ⟨rfl, _⟩ | ⟨a, len, cap, m, k, D, Pl, rfl, hb, hl, hm, hmm, rfl, hx⟩
  · exact ⟨_, [], rfl, none, 0, rfl, by simp, fun i hi => absurd hi (by simp)⟩
  · simp only [if_true] at hmm
    have each : ∀ i, i < len → ∃ y : Int × Int, w.cell? (a.add (i * 2)) = some (.int .i64 y.1) ∧ w.cell? (a.add (i * 2 + 1)) = some (.int .i64 y.2) := by
      intro i hi
      obtain ⟨cs', h1, h2⟩ := hx i (by omega)
      rw [show Try.prog.cellsOf 42 = 2 from by kernel_rfl] at h1
      obtain ⟨hlen, hcell⟩ := cells_at h1
      obtain ⟨xs, m', _, _, h3, h4, h5⟩ := DataW.trod_array Try.underlying42 h2
      have e0 := h5 0 (by omega)
      have e1 := h5 1 (by omega)
      rw [show Try.prog.cellsOf 3 = 1 from by kernel_rfl] at e0 e1
      obtain ⟨x0, hx0⟩ : ∃ x0, xs[0]? = some x0 := ⟨xs[0]'(by omega), by simp⟩
      obtain ⟨x1, hx1⟩ : ∃ x1, xs[1]? = some x1 := ⟨xs[1]'(by omega), by simp⟩
      rw [hx0] at e0
      rw [hx1] at e1
      obtain ⟨z0, hz0, _⟩ := DataW.trod_int Try.underlying3 e0
      obtain ⟨z1, hz1, _⟩ := DataW.trod_int Try.underlying3 e1
      match cs', hlen with
      | [c0, c1], _ =>
        simp at hz0 hz1
        subst hz0 hz1
        refine ⟨(z0, z1), ?_, ?_⟩
        · have := hcell 0 (by omega); rw [add_add] at this; simpa using this
        · have := hcell 1 (by omega); rw [add_add] at this; simpa using this
    obtain ⟨f, hf⟩ := choose_lt each
    refine ⟨.slice (some a) len cap, (List.range len).map f, rfl, some a, cap, by simp, by unfold maxLen at hm; simp; omega, fun i hi => ?_⟩
    have hi' : i < len := by simpa using hi
    obtain ⟨h1, h2⟩ := hf i hi'
    obtain ⟨b, off, spot⟩ := a
    have hspot : spot = none := by
      have := World.cell?_spot (hf 0 (by omega)).1
      simpa [Addr.add] using this
    subst hspot
    refine ⟨b, off, (f i).1, (f i).2, rfl, by simp [hi'], ?_, ?_⟩
    · rw [show (⟨b, off, none⟩ : Addr).add (i * 2) = ⟨b, off + i * 2, none⟩ from by unfold Addr.add; split <;> simp_all] at h1; exact h1
    · rw [show (⟨b, off, none⟩ : Addr).add (i * 2 + 1) = ⟨b, off + i * 2 + 1, none⟩ from by unfold Addr.add; split <;> simp_all [Nat.add_assoc]] at h2; exact h2
end Go.Proofs.Ytojfpobgncapjaa
