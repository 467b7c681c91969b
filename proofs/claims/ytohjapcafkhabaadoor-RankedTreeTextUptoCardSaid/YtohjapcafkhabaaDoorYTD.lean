/- How a tree is opened, as data. No condition. -/
import Derived.Test.YtohjapcafkhabaaDoorYTE
import Derived.Test.YtohjapcafkhabaaDoorXO
import Derived.SizedLaws

set_option linter.unusedSimpArgs false
set_option linter.unusedVariables false
set_option linter.unusedSectionVars false
set_option maxHeartbeats 400000
namespace Go.Rt
open Go Go.RowKit Go.PP Go.Dm Go.Deep
variable [GlobW]
section
variable {P : Program} {tT tS : TypeId} {f0 f1 : Field}
set_option maxRecDepth 100000 in
theorem open_tree {H : Type} {enc : TypeId × Value → H} {w : World} {base : Nat} {held : Bool} (hT : P.underlying tT = some (.struct #[f0, f1])) (o0 : f0.offset = 0) (o1 : f1.offset = 1) (t1 : f1.type = tS) (hI : P.underlying f0.type = some (.int .i64)) (hS : P.underlying tS = some (.slice tT)) (cT : P.cellsOf tT = 2) (cS : P.cellsOf tS = 1) (cI : P.cellsOf f0.type = 1) (bT : P.bytesOf tT = 32) : ∀ (fuel : Nat) (cs : List Value) (x : DataW H × List MemPlace), DataW.trod enc P w base (fun _ => true) held fuel tT cs = some x → (∀ n ∈ x.1.weights P tT, n ≤ reachBytes) →
    ∃ t, RepL (fun _ => False) w none (treeC t) cs ∧ TSm t ∧ SymR t := by
  intro fuel
  induction fuel using Nat.strongRecOn with
  | _ fuel ih =>
    intro cs x h hw
    obtain ⟨xs, m, rfl, hx, hl, hsz, hi⟩ := DataW.trod_struct hT h
    rw [cT] at hl
    match cs, hl with
    | [c0, c1], _ =>
      have g0 := hi 0 f0 rfl
      have g1 := hi 1 f1 rfl
      rw [o0, cI] at g0
      rw [o1, t1, cS] at g1
      have hx2 : xs.length = 2 := hsz
      obtain ⟨y0, y1, rfl⟩ : ∃ y0 y1, xs = [y0, y1] := by
        match xs, hx2 with
        | [y0, y1], _ => exact ⟨y0, y1, rfl⟩
      have g0' : DataW.trod enc P w base (fun _ => true) held m f0.type [c0] = some y0 := g0
      have g1' : DataW.trod enc P w base (fun _ => true) held m tS [c1] = some y1 := g1
      obtain ⟨z, hz, -, hwf⟩ := DataW.trod_int hI g0'
      have hrz : -9223372036854775808 ≤ z ∧ z ≤ 9223372036854775807 := by simpa [Lit.wf, IntKind.min, IntKind.max, IntKind.signed, IntKind.bits] using hwf
      simp only [List.cons.injEq, and_true] at hz
      subst hz
      have hwe : ∀ n ∈ y1.1.weights P tS, n ≤ reachBytes := fun n hn => hw n (by
        rw [hx]
        simp only [DataW.weights, hT]
        exact DataW.weights_mem_each (j := 1) (t := f1.type) (d := y1.1) rfl rfl n (by rw [t1]; exact hn))
      rcases DataW.trod_slice hS g1' with ⟨hc, _⟩ | ⟨a, len, cap, elems, rest, k, rfl, hc, hxx, hb, hle, hmx, hel, hee, _, _⟩
      · simp only [List.cons.injEq, and_true] at hc
        subst hc
        refine ⟨.node z [], ?_, ?_, ?_⟩
        · rw [treeC]
          simp only [RepL, Rep]
          exact ⟨_, _, rfl, rfl, _, _, rfl, ⟨none, 0, rfl, by simp, fun h => (by cases h), by rw [kidsC]; rfl, by simp, .inl (by simp)⟩, rfl⟩
        · rw [TSm]; exact ⟨by simp, by rw [TSmL]; trivial⟩
        · rw [SymR]; exact ⟨hrz, by rw [SymRL]; trivial⟩
      · simp only [List.cons.injEq, and_true] at hc
        subst hc
        have hlen : len * 32 ≤ 140737488351232 := by
          have := hwe ((elems.length + rest.length) * 32) (by rw [hxx]; simp [DataW.weights, hS, bT])
          have h2 : reachBytes = 140737488351232 := by decide
          rw [h2, hel] at this
          have h3 : len * 32 ≤ (len + rest.length) * 32 := Nat.mul_le_mul_right _ (by omega)
          omega
        have each : ∀ i, i < len → ∃ y : (Value × Value) × Tr, w.cell? (a.add (i * 2)) = some y.1.1 ∧ w.cell? (a.add (i * 2 + 1)) = some y.1.2 ∧ RepL (fun _ => False) w none (treeC y.2) [y.1.1, y.1.2] ∧ TSm y.2 ∧ SymR y.2 := by
          intro i hi
          have he := hee i hi
          rw [cT, List.getElem?_eq_getElem (by omega)] at he
          obtain ⟨cs', h1, h2⟩ := Option.bind_eq_some_iff.1 he
          obtain ⟨hlen', hcell⟩ := (World.cells?_some h1).2
          obtain ⟨t1, htr, hts⟩ := ih k (by omega) cs' _ h2 (fun n hn => hwe n (by
            rw [hxx]
            simp only [DataW.weights, hS, List.mem_cons, List.mem_append]
            exact .inr (.inl (weightsAll_mem (List.mem_map.2 ⟨_, List.getElem_mem (by omega), rfl⟩) n hn))))
          match cs', hlen' with
          | [s1, v1], _ =>
            refine ⟨((s1, v1), t1), ?_, ?_, htr, hts⟩
            · have := hcell 0 (by omega); rw [add_add] at this; simpa using this
            · have := hcell 1 (by omega); rw [add_add] at this; simpa using this
        have : Inhabited ((Value × Value) × Tr) := ⟨((undef, undef), default)⟩
        obtain ⟨f, hf⟩ := choose_lt each
        refine ⟨.node z ((List.range len).map fun i => (f i).2), ?_, ?_, ?_⟩
        rotate_left
        · rw [TSm]
          refine ⟨by simpa using hlen, TSmL.of fun i t hit => ?_⟩
          have hi' : i < len := by have := (List.getElem?_eq_some_iff.1 hit).1; simpa using this
          simp [hi'] at hit
          rw [← hit]
          exact (hf i hi').2.2.2.1
        · rw [SymR]
          refine ⟨hrz, SymRL.of fun i t hit => ?_⟩
          have hi' : i < len := by have := (List.getElem?_eq_some_iff.1 hit).1; simpa using this
          simp [hi'] at hit
          rw [← hit]
          exact (hf i hi').2.2.2.2
        rw [treeC]
        simp only [RepL, Rep]
        refine ⟨_, _, rfl, rfl, _, _, rfl, ⟨some a, cap, by simp, by simpa using hle, fun h => (by cases h), by rw [kidsC_len], by simp; omega, ?_⟩, rfl⟩
        by_cases hl0 : len = 0
        · exact .inl (by simp [hl0])
        obtain ⟨b, off, spot⟩ := a
        have hspot : spot = none := by
          have := World.cell?_spot (hf 0 (by omega)).1
          simpa [Addr.add] using this
        subst hspot
        refine .inr ⟨b, off, rfl, id, repC_kids fun i t hit => ?_⟩
        have hi' : i < len := by have := (List.getElem?_eq_some_iff.1 hit).1; simpa using this
        simp [hi'] at hit
        obtain ⟨h1, h2, h3, _⟩ := hf i hi'
        refine ⟨(f i).1.1, (f i).1.2, ?_, ?_, by rw [← hit]; exact h3⟩
        · rw [show (⟨b, off, none⟩ : Addr).add (i * 2) = ⟨b, off + i * 2, none⟩ from by unfold Addr.add; split <;> simp_all] at h1; exact h1
        · rw [show (⟨b, off, none⟩ : Addr).add (i * 2 + 1) = ⟨b, off + i * 2 + 1, none⟩ from by unfold Addr.add; split <;> simp_all [Nat.add_assoc]] at h2; exact h2
theorem Opens.tree (hT : P.underlying tT = some (.struct #[f0, f1])) (o0 : f0.offset = 0) (o1 : f1.offset = 1) (t1 : f1.type = tS) (hI : P.underlying f0.type = some (.int .i64)) (hS : P.underlying tS = some (.slice tT)) (cT : P.cellsOf tT = 2) (cS : P.cellsOf tS = 1) (cI : P.cellsOf f0.type = 1) (bT : P.bytesOf tT = 32) : Opens P tT 2 treeC (fun t => TSm t ∧ SymR t) :=
  ⟨cT, treeC_two, fun H enc w base held fuel cs x h hw => open_tree hT o0 o1 t1 hI hS cT cS cI bT fuel cs x h hw⟩
end
end Go.Rt
