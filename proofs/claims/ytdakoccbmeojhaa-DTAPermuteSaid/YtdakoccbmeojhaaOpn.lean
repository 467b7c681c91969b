/- How arguments are opened: lists of ints, of bools, of lists, automata. No condition. -/
import Derived.Test.YtdakoccbmeojhaaProg
import Derived.Test.YtdakoccbmeojhaaD
import Derived.Deep.Slices
import Derived.OpenShut
set_option linter.unusedSimpArgs false
set_option linter.unusedVariables false
set_option maxHeartbeats 400000
namespace Go.Proofs.Ytdakoccbmeojhaa
open Go Go.RowKit Go.PP Go.Deep

section
variable {H : Type} {enc : TypeId × Value → H} {w : World} {base : Nat} {held : Bool} {fuel : Nat} {cs : List Value} {x : DataW H × List MemPlace}

theorem cells_at {w : World} {base : Nat} {a : Addr} {n : Nat} {cs : List Value} (h : w.cells? base a n = some cs) : cs.length = n ∧ ∀ j, j < n → w.cell? (a.add j) = cs[j]? := by
  exact (World.cells?_some h).2

theorem open_slice_of {t e : TypeId} (ht : Try.prog.underlying t = some (.slice e)) (hc : Try.prog.cellsOf e = 1) {α : Type} [Inhabited α] (R : Value → α → Prop)
    (each : ∀ (m : Nat) (cs : List Value) (x : DataW H × List MemPlace), DataW.trod enc Try.prog w base (fun _ => true) held m e cs = some x → ∃ v y, cs = [v] ∧ R v y)
    (h : DataW.trod enc Try.prog w base (fun _ => true) held fuel t cs = some x) :
    ∃ (a : Option Addr) (c : Nat) (ys : List α), cs = [.slice a ys.length c] ∧ ys.length ≤ c ∧ ys.length ≤ 9223372036854775807 ∧ ∀ i, i < ys.length → ∃ b off u y, a = some ⟨b, off, none⟩ ∧ w.cell? ⟨b, off + i, none⟩ = some u ∧ ys[i]? = some y ∧ R u y := by
  rcases open_slice ht h with ⟨rfl, _⟩ | ⟨a, len, cap, m, k, D, Pl, rfl, hb, hl, hm, hmm, rfl, hx⟩
  · exact ⟨none, 0, [], rfl, by simp, by simp, fun i hi => by simp at hi⟩
  · simp only [if_true] at hmm
    have each' : ∀ i, i < len → ∃ y : Value × α, w.cell? (a.add i) = some y.1 ∧ R y.1 y.2 := by
      intro i hi
      obtain ⟨cs', h1, h2⟩ := hx i (by omega)
      rw [hc] at h1
      obtain ⟨hlen, hcell⟩ := cells_at h1
      obtain ⟨v, y, rfl, hR⟩ := each _ _ _ h2
      refine ⟨(v, y), ?_, hR⟩
      have := hcell 0 (by omega); rw [add_add] at this; simpa using this
    obtain ⟨f, hf⟩ := choose_lt each'
    refine ⟨some a, cap, (List.range len).map fun i => (f i).2, by simp, by simpa using hl, by unfold maxLen at hm; simp; omega, fun i hi => ?_⟩
    have hi' : i < len := by simpa using hi
    obtain ⟨h1, h2⟩ := hf i hi'
    obtain ⟨b, off, spot⟩ := a
    have hspot : spot = none := by
      have := World.cell?_spot (hf 0 (by omega)).1
      simpa [Addr.add] using this
    subst hspot
    refine ⟨b, off, (f i).1, (f i).2, rfl, ?_, by simp [hi'], h2⟩
    rw [show (⟨b, off, none⟩ : Addr).add i = ⟨b, off + i, none⟩ from by unfold Addr.add; split <;> simp_all] at h1; exact h1

/-- A list of ints: with its capacity, and each in range. -/
theorem open_intsC {t : TypeId} (ht : Try.prog.underlying t = some (.slice 3)) (h : DataW.trod enc Try.prog w base (fun _ => true) held fuel t cs = some x) :
    ∃ a c xs, cs = [.slice a xs.length c] ∧ xs.length ≤ c ∧ Ints (fun _ => False) w (.slice a xs.length c) xs ∧ ∀ (i : Nat) x, xs[i]? = some x → (Lit.int .i64 x).wf = true := by
  obtain ⟨a, c, ys, h1, h2, h3, h4⟩ := open_slice_of ht (by kernel_rfl) (fun v (y : Int) => v = .int .i64 y ∧ (Lit.int .i64 y).wf = true) (fun m cs x hx => by
    obtain ⟨z, hz, hw⟩ := DataW.trod_int Try.underlying3 hx
    exact ⟨_, z, hz, rfl, hw.2⟩) h
  refine ⟨a, c, ys, h1, h2, ⟨a, c, by simp, by simpa using h3, fun i hi => ?_⟩, fun i x hx => ?_⟩
  · obtain ⟨b, off, u, y, q1, q2, q3, rfl, _⟩ := h4 i (by simpa using hi)
    exact ⟨b, off, _, q1, id, by simp [q3], q2⟩
  · obtain ⟨b, off, u, y, q1, q2, q3, _, q4⟩ := h4 i (List.getElem?_eq_some_iff.1 hx).1
    rw [hx] at q3; rw [Option.some.inj q3]; exact q4

theorem open_boolsC (h : DataW.trod enc Try.prog w base (fun _ => true) held fuel 23 cs = some x) : ∃ v xs, cs = [v] ∧ Bools (fun _ => False) w v xs := by
  obtain ⟨a, c, ys, h1, h2, h3, h4⟩ := open_slice_of Try.underlying23 (by kernel_rfl) (fun v (y : Bool) => v = .bool y) (fun m cs x hx => by
    obtain ⟨z, hz, hw⟩ := DataW.trod_bool Try.underlying4 hx
    exact ⟨_, z, hz, rfl⟩) h
  refine ⟨_, ys, h1, ⟨a, c, by simp, by simpa using h3, fun i hi => ?_⟩⟩
  obtain ⟨b, off, u, y, q1, q2, q3, rfl⟩ := h4 i (by simpa using hi)
  exact ⟨b, off, _, q1, id, by simp [q3], q2⟩

theorem open_listsC (h : DataW.trod enc Try.prog w base (fun _ => true) held fuel 24 cs = some x) : ∃ v xss, cs = [v] ∧ IntsL (fun _ => False) w v xss := by
  obtain ⟨a, c, ys, h1, h2, h3, h4⟩ := open_slice_of (α := Value × List Int) Try.underlying24 (by kernel_rfl) (fun v y => v = y.1 ∧ Ints (fun _ => False) w y.1 y.2) (fun m cs x hx => by
    obtain ⟨a, c, xs, hz, _, hi, _⟩ := open_intsC Try.underlying22 hx
    exact ⟨_, (_, xs), hz, rfl, hi⟩) h
  refine ⟨_, ys.map (·.2), by simpa using h1, ⟨ys.map (·.1), ⟨a, c, by simp, by simpa using h3, fun i hi => ?_⟩, by simp, fun i v' xs q1 q2 => ?_⟩⟩
  · obtain ⟨b, off, u, y, q1, q2, q3, rfl, _⟩ := h4 i (by simpa using hi)
    exact ⟨b, off, _, q1, id, by simp [q3], q2⟩
  · have hi : i < ys.length := by have := (List.getElem?_eq_some_iff.1 q1).1; simpa using this
    obtain ⟨b, off, u, y, e1, e2, e3, _, e4⟩ := h4 i hi
    simp [e3] at q1 q2
    subst q1 q2
    exact e4

set_option maxRecDepth 100000 in
/-- An automaton of the reference. -/
theorem open_aut (h : DataW.trod enc Try.prog w base (fun _ => true) held fuel 26 cs = some x) : ∃ v1 v2 v3 A, cs = [v1, v2, v3] ∧ AuIn (fun _ => False) w v1 v2 v3 A := by
  obtain ⟨xs, m, _, _, hl, hx, hi⟩ := DataW.trod_struct Try.underlying26 h
  have c26 : Try.prog.cellsOf 26 = 3 := by kernel_rfl
  have c22 : Try.prog.cellsOf 22 = 1 := by kernel_rfl
  have c23 : Try.prog.cellsOf 23 = 1 := by kernel_rfl
  have c24 : Try.prog.cellsOf 24 = 1 := by kernel_rfl
  rw [c26] at hl
  match cs, hl with
  | [va, vb, vc], _ =>
    have g0 : DataW.trod enc Try.prog w base (fun _ => true) held m 22 ((([va, vb, vc] : List Value).drop 0).take (Try.prog.cellsOf 22)) = xs[0]? := hi 0 _ rfl
    have g1 : DataW.trod enc Try.prog w base (fun _ => true) held m 23 ((([va, vb, vc] : List Value).drop 1).take (Try.prog.cellsOf 23)) = xs[1]? := hi 1 _ rfl
    have g2 : DataW.trod enc Try.prog w base (fun _ => true) held m 24 ((([va, vb, vc] : List Value).drop 2).take (Try.prog.cellsOf 24)) = xs[2]? := hi 2 _ rfl
    clear hi
    have hx3 : xs.length = 3 := hx
    rw [List.getElem?_eq_getElem (by omega)] at g0 g1 g2
    rw [c22] at g0
    rw [c23] at g1
    rw [c24] at g2
    obtain ⟨a, c, xs0, e0, _, q0, _⟩ := open_intsC Try.underlying22 g0
    obtain ⟨v1, xs1, e1, q1⟩ := open_boolsC g1
    obtain ⟨v2, xs2, e2, q2⟩ := open_listsC g2
    have e0' : [va] = [Value.slice a xs0.length c] := e0
    have e1' : [vb] = [v1] := e1
    have e2' : [vc] = [v2] := e2
    simp only [List.cons.injEq, and_true] at e0' e1' e2'
    subst e0' e1' e2'
    exact ⟨_, _, _, ⟨xs0, xs1, xs2⟩, rfl, ⟨q0, q1, q2⟩⟩
end
end Go.Proofs.Ytdakoccbmeojhaa
