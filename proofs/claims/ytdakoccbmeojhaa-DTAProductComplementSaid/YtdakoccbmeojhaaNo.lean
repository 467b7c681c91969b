/- How arguments are opened: lists, automata, arrays of bools, as data. No condition. -/
import Derived.Test.YtdakoccbmeojhaaNb
import Derived.Deep.Slices
import Derived.OpenShut
set_option linter.unusedSimpArgs false
set_option linter.unusedVariables false
set_option maxHeartbeats 400000
namespace Go.Proofs.Ytdakoccbmeojhaa
open Go Go.RowKit Go.PP Go.Dm Go.Deep

theorem okWide_arrayD {P : Program} {w : World} {r : Reach} {base : Nat} {t n : Nat} {e : TypeId} {v : Value} (ht : P.underlying t = some (.array n e)) (h : Value.okWide P w r base t v) : ∃ cs, v = .agg cs ∧ cs.size = P.cellsOf t := by
  simp only [Value.okWide, ht] at h
  obtain ⟨cs, h1, h2, _⟩ := h
  exact ⟨cs, h1, h2⟩
section
variable {H : Type} {enc : TypeId × Value → H} {w : World} {base : Nat} {held : Bool} {fuel : Nat} {cs : List Value} {x : DataW H × List MemPlace}
theorem open_slD {t e : TypeId} (ht : Try.prog.underlying t = some (.slice e)) (hc : Try.prog.cellsOf e = 1) {α : Type} (dOf : α → D)
    (each : ∀ (m : Nat) (cs : List Value) (x : DataW H × List MemPlace), DataW.trod enc Try.prog w base (fun _ => true) held m e cs = some x → ∃ v y, cs = [v] ∧ Rep (fun _ => False) w none (dOf y) v)
    (h : DataW.trod enc Try.prog w base (fun _ => true) held fuel t cs = some x) :
    ∃ (v : Value) (ys : List α), cs = [v] ∧ Rep (fun _ => False) w none (.sl false 1 ys.length (ys.map dOf)) v := by
  rcases open_slice ht h with ⟨rfl, _⟩ | ⟨a, len, cap, m, k, Dt, Pl, rfl, hb, hl, hm, hmm, rfl, hx⟩
  · exact ⟨_, [], rfl, by simp only [Rep]; exact ⟨none, 0, rfl, Nat.le_refl _, fun h => (by cases h), by simp, by simp, .inl (by simp)⟩⟩
  · simp only [if_true] at hmm
    have each' : ∀ i, i < len → ∃ y : Value × α, w.cell? (a.add i) = some y.1 ∧ Rep (fun _ => False) w none (dOf y.2) y.1 := by
      intro i hi
      obtain ⟨cs', h1, h2⟩ := hx i (by omega)
      rw [hc] at h1
      obtain ⟨hlen, hcell⟩ := (World.cells?_some h1).2
      obtain ⟨v, y, rfl, hR⟩ := each _ _ _ h2
      refine ⟨(v, y), ?_, hR⟩
      have := hcell 0 (by omega); rw [add_add] at this; simpa using this
    by_cases hl0 : len = 0
    · subst hl0
      exact ⟨_, [], rfl, by simp only [Rep]; exact ⟨some a, cap, rfl, Nat.zero_le _, fun h => (by cases h), by simp, by simp, .inl (by simp)⟩⟩
    · obtain ⟨y0, hy0, _⟩ := each' 0 (by omega)
      have : Inhabited α := ⟨y0.2⟩
      obtain ⟨f, hf⟩ := choose_lt each'
      obtain ⟨b, off, spot⟩ := a
      have hspot : spot = none := by
        have := World.cell?_spot (hf 0 (by omega)).1
        simpa [Addr.add] using this
      subst hspot
      refine ⟨_, (List.range len).map fun i => (f i).2, rfl, ?_⟩
      simp only [Rep]
      refine ⟨some ⟨b, off, none⟩, cap, by simp, by simpa using hl, fun h => (by cases h), by simp, by unfold maxLen at hm; simp; omega, .inr ⟨b, off, rfl, id, RepC.of fun i d hd => ?_⟩⟩
      have hi : i < len := by
        have := (List.getElem?_eq_some_iff.1 hd).1
        simpa using this
      obtain ⟨h1, h2⟩ := hf i hi
      refine ⟨(f i).1, ?_, ?_⟩
      · rw [show (⟨b, off, none⟩ : Addr).add i = ⟨b, off + i, none⟩ from by unfold Addr.add; split <;> simp_all] at h1; exact h1
      · simp [hi] at hd; rw [← hd]; exact h2
theorem open_intsD {t : TypeId} (ht : Try.prog.underlying t = some (.slice 3)) (h : DataW.trod enc Try.prog w base (fun _ => true) held fuel t cs = some x) : ∃ v ys, cs = [v] ∧ Rep (fun _ => False) w none (intsD ys) v :=
  open_slD ht (by kernel_rfl) (fun x => .flat (.int .i64 x)) (fun m cs x hx => by
    obtain ⟨z, hz, hw⟩ := DataW.trod_int Try.underlying3 hx
    exact ⟨_, z, hz, by simp only [Rep]⟩) h
theorem open_boolsD (h : DataW.trod enc Try.prog w base (fun _ => true) held fuel 23 cs = some x) : ∃ v ys, cs = [v] ∧ Rep (fun _ => False) w none (boolsD ys) v :=
  open_slD Try.underlying23 (by kernel_rfl) (fun x => .flat (.bool x)) (fun m cs x hx => by
    obtain ⟨z, hz, hw⟩ := DataW.trod_bool Try.underlying4 hx
    exact ⟨_, z, hz, by simp only [Rep]⟩) h
theorem open_rowsD (h : DataW.trod enc Try.prog w base (fun _ => true) held fuel 24 cs = some x) : ∃ v ys, cs = [v] ∧ Rep (fun _ => False) w none (rowsD ys) v :=
  open_slD Try.underlying24 (by kernel_rfl) intsD (fun m cs x hx => open_intsD Try.underlying22 hx) h
set_option maxRecDepth 100000 in
/-- An automaton of the reference. -/
theorem open_autD (h : DataW.trod enc Try.prog w base (fun _ => true) held fuel 26 cs = some x) : ∃ v1 v2 v3 A, cs = [v1, v2, v3] ∧ Rep (fun _ => False) w none (auD A) (.agg #[v1, v2, v3]) := by
  obtain ⟨xs, m, _, _, hl, hx, hi⟩ := DataW.trod_struct Try.underlying26 h
  have cA : Try.prog.cellsOf 26 = 3 := by kernel_rfl
  have c0 : Try.prog.cellsOf 22 = 1 := by kernel_rfl
  have c1 : Try.prog.cellsOf 23 = 1 := by kernel_rfl
  have c2 : Try.prog.cellsOf 24 = 1 := by kernel_rfl
  rw [cA] at hl
  match cs, hl with
  | [va, vb, vc], _ =>
    have g0 : DataW.trod enc Try.prog w base (fun _ => true) held m 22 ((([va, vb, vc] : List Value).drop 0).take (Try.prog.cellsOf 22)) = xs[0]? := hi 0 _ rfl
    have g1 : DataW.trod enc Try.prog w base (fun _ => true) held m 23 ((([va, vb, vc] : List Value).drop 1).take (Try.prog.cellsOf 23)) = xs[1]? := hi 1 _ rfl
    have g2 : DataW.trod enc Try.prog w base (fun _ => true) held m 24 ((([va, vb, vc] : List Value).drop 2).take (Try.prog.cellsOf 24)) = xs[2]? := hi 2 _ rfl
    clear hi
    have hx3 : xs.length = 3 := hx
    rw [List.getElem?_eq_getElem (by omega)] at g0 g1 g2
    rw [c0] at g0
    rw [c1] at g1
    rw [c2] at g2
    obtain ⟨v0, xs0, e0, q0⟩ := open_intsD Try.underlying22 g0
    obtain ⟨v1, xs1, e1, q1⟩ := open_boolsD g1
    obtain ⟨v2, xs2, e2, q2⟩ := open_rowsD g2
    have e0' : [va] = [v0] := e0
    have e1' : [vb] = [v1] := e1
    have e2' : [vc] = [v2] := e2
    simp only [List.cons.injEq, and_true] at e0' e1' e2'
    subst e0' e1' e2'
    exact ⟨_, _, _, ⟨xs0, xs1, xs2⟩, rfl, by simp only [auD, Rep, RepL]; exact ⟨[va, vb, vc], rfl, _, _, rfl, q0, _, _, rfl, q1, _, _, rfl, q2, rfl⟩⟩
end
/-- A law over data, for values. -/
theorem law_ret {k : FuncId} {args : List D} {v : Value} (h : DFun Try.prog k args (.flat v)) {w : World} {vals : List Value} (hv : RepL (fun _ => False) w none args vals) : Calls Try.prog k vals.toArray w (fun e w' => e = .returned v ∧ Fix w w') :=
  (h (fun _ => False) w vals (fun _ h => h.elim) hv).mono fun e w' ⟨u, h1, h2, h3⟩ => ⟨by simp only [Rep] at h2; rw [h1, h2], h3⟩
set_option maxRecDepth 100000 in
theorem open_arrD {H : Type} {enc : TypeId × Value → H} {w : World} {base : Nat} {held : Bool} {fuel : Nat} {cs : Array Value} {x : DataW H × List MemPlace} (hs : cs.size = Try.prog.cellsOf 62) (h : DataW.trod enc Try.prog w base (fun _ => true) held fuel 62 cs.toList = some x) : ∃ wh : List Bool, wh.length = 4 ∧ Rep (fun _ => False) w none (.agg (wh.map boolD)) (.agg cs) := by
  obtain ⟨xs, m, rfl, hx, hl, hxl, hi⟩ := DataW.trod_array Try.underlying62 h
  have cA : Try.prog.cellsOf 62 = 4 := by kernel_rfl
  have ce : Try.prog.cellsOf 4 = 1 := by kernel_rfl
  rw [cA] at hs
  rw [ce] at hi
  obtain ⟨l, rfl⟩ : ∃ l : List Value, cs = l.toArray := ⟨cs.toList, by simp⟩
  simp only [List.size_toArray] at hs
  match l, hs with
  | [v0, v1, v2, v3], _ =>
    have one : ∀ (i : Nat) (v : Value), i < 4 → [v0, v1, v2, v3][i]? = some v → ∃ b : Bool, v = .bool b := fun i v hi4 hv => by
      have g := hi i hi4
      rw [List.getElem?_eq_getElem (by omega)] at g
      have e : (([v0, v1, v2, v3].toArray.toList.drop (i * 1)).take 1) = [v] := by
        rcases (show i = 0 ∨ i = 1 ∨ i = 2 ∨ i = 3 by omega) with rfl | rfl | rfl | rfl <;> simp at hv <;> subst hv <;> rfl
      rw [e] at g
      obtain ⟨z, hz, _⟩ := DataW.trod_bool Try.underlying4 g
      simp only [Value.cells, List.cons.injEq, and_true] at hz
      exact ⟨z, by simpa using hz⟩
    obtain ⟨b0, rfl⟩ := one 0 v0 (by omega) rfl
    obtain ⟨b1, rfl⟩ := one 1 v1 (by omega) rfl
    obtain ⟨b2, rfl⟩ := one 2 v2 (by omega) rfl
    obtain ⟨b3, rfl⟩ := one 3 v3 (by omega) rfl
    exact ⟨[b0, b1, b2, b3], rfl, by simp only [Rep, RepL, List.map, boolD]; exact ⟨_, rfl, _, _, rfl, rfl, _, _, rfl, rfl, _, _, rfl, rfl, _, _, rfl, rfl, rfl⟩⟩
end Go.Proofs.Ytdakoccbmeojhaa
