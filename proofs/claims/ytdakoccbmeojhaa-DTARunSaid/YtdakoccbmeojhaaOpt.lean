/- How a tree is opened. Condition: no slice in it takes more memory than there is. -/
import Derived.Test.YtdakoccbmeojhaaOpn
import Derived.SizedLaws
set_option linter.unusedSimpArgs false
set_option linter.unusedVariables false
set_option maxHeartbeats 400000
namespace Go.Proofs.Ytdakoccbmeojhaa
open Go Go.RowKit Go.PP Go.Deep

theorem TreeIn.up {M : Nat → Prop} {w : World} : ∀ {d : Nat} {s : Int} {v : Value} {t : Tr}, TreeIn M w d s v t → TreeIn M w (d + 1) s v t
  | 0, _, _, _, h => h.elim
  | d + 1, s, v, .node s' l, h => by
    obtain ⟨h1, a, c, h2, h3, h4⟩ := h
    refine ⟨h1, a, c, h2, h3, fun i hi => ?_⟩
    obtain ⟨b, off, s1, v1, t1, q1, q2, q3, q4, q5, q6⟩ := h4 i hi
    exact ⟨b, off, s1, v1, t1, q1, q2, q3, q4, q5, TreeIn.up q6⟩
theorem TreeIn.raise {M : Nat → Prop} {w : World} {d d' : Nat} {s : Int} {v : Value} {t : Tr} (h : TreeIn M w d s v t) (hd : d ≤ d') : TreeIn M w d' s v t := by
  induction hd with
  | refl => exact h
  | step _ ih => exact TreeIn.up ih

theorem weights_all {H : Type} {P : Program} {e : TypeId} : ∀ {ds : List (DataW H)} {d : DataW H}, d ∈ ds → ∀ n ∈ d.weights P e, n ∈ DataW.weightsAll P e ds
  | d0 :: ds, d, hd, n, hn => by
    simp only [DataW.weightsAll, List.mem_append]
    rcases List.mem_cons.1 hd with rfl | hd
    · exact .inl hn
    · exact .inr (weights_all hd n hn)
  | [], _, hd, _, _ => by simp at hd

instance : Inhabited Tr := ⟨.node 0 []⟩

section
variable {H : Type} {enc : TypeId × Value → H} {w : World} {base : Nat} {held : Bool}

set_option maxRecDepth 100000 in
theorem open_tree : ∀ (fuel : Nat) {cs : List Value} {x : DataW H × List MemPlace}, DataW.trod enc Try.prog w base (fun _ => true) held fuel 29 cs = some x → (∀ n ∈ x.1.weights Try.prog 29, n ≤ reachBytes) →
    ∃ s v t, cs = [.int .i64 s, v] ∧ TreeIn (fun _ => False) w fuel s v t := by
  intro fuel
  induction fuel using Nat.strongRecOn with
  | _ fuel ih =>
    intro cs x h hw
    obtain ⟨xs, m, rfl, hx, hl, hsz, hi⟩ := DataW.trod_struct Try.underlying29 h
    have c29 : Try.prog.cellsOf 29 = 2 := by kernel_rfl
    have c27 : Try.prog.cellsOf 27 = 1 := by kernel_rfl
    have c3 : Try.prog.cellsOf 3 = 1 := by kernel_rfl
    have b29 : Try.prog.bytesOf 29 = 32 := by kernel_rfl
    rw [c29] at hl
    match cs, hl with
    | [c0, c1], _ =>
      have g0 : DataW.trod enc Try.prog w base (fun _ => true) held m 3 ((([c0, c1] : List Value).drop 0).take (Try.prog.cellsOf 3)) = xs[0]? := hi 0 _ rfl
      have g1 : DataW.trod enc Try.prog w base (fun _ => true) held m 27 ((([c0, c1] : List Value).drop 1).take (Try.prog.cellsOf 27)) = xs[1]? := hi 1 _ rfl
      have hx2 : xs.length = 2 := hsz
      obtain ⟨y0, y1, rfl⟩ : ∃ y0 y1, xs = [y0, y1] := by
        match xs, hx2 with
        | [y0, y1], _ => exact ⟨y0, y1, rfl⟩
      rw [c3] at g0
      rw [c27] at g1
      have g0' : DataW.trod enc Try.prog w base (fun _ => true) held m 3 [c0] = some y0 := g0
      have g1' : DataW.trod enc Try.prog w base (fun _ => true) held m 27 [c1] = some y1 := g1
      obtain ⟨z, hz, -⟩ := DataW.trod_int Try.underlying3 g0'
      simp only [List.cons.injEq, and_true] at hz
      subst hz
      have hwe : ∀ n ∈ y1.1.weights Try.prog 27, n ≤ reachBytes := fun n hn => hw n (by
        rw [hx]
        simp only [DataW.weights, Try.underlying29]
        exact DataW.weights_mem_each (j := 1) (t := 27) (d := y1.1) rfl rfl n hn)
      rcases DataW.trod_slice Try.underlying27 g1' with ⟨hc, _⟩ | ⟨a, len, cap, elems, rest, k, rfl, hc, hxx, hb, hle, hmx, hel, hee, _, _⟩
      · simp only [List.cons.injEq, and_true] at hc
        subst hc
        exact ⟨z, _, .node z [], rfl, rfl, none, 0, rfl, by decide, fun i hi => absurd hi (by simp)⟩
      · simp only [List.cons.injEq, and_true] at hc
        subst hc
        have hlen : len * 32 ≤ 140737488351232 := by
          have := hwe ((elems.length + rest.length) * 32) (by rw [hxx]; simp [DataW.weights, Try.underlying27, b29])
          have h2 : reachBytes = 140737488351232 := by decide
          rw [h2, hel] at this
          have h3 : len * 32 ≤ (len + rest.length) * 32 := Nat.mul_le_mul_right _ (by omega)
          omega
        have each : ∀ i, i < len → ∃ y : (Int × Value) × Tr, w.cell? (a.add (i * 2)) = some (.int .i64 y.1.1) ∧ w.cell? (a.add (i * 2 + 1)) = some y.1.2 ∧ TreeIn (fun _ => False) w k y.1.1 y.1.2 y.2 := by
          intro i hi
          have he := hee i hi
          rw [c29, List.getElem?_eq_getElem (by omega)] at he
          obtain ⟨cs', h1, h2⟩ := Option.bind_eq_some_iff.1 he
          obtain ⟨hlen', hcell⟩ := cells_at h1
          obtain ⟨s1, v1, t1, hcs, htr⟩ := ih k (by omega) h2 (fun n hn => hwe n (by
            rw [hxx]
            simp only [DataW.weights, Try.underlying27, List.mem_cons, List.mem_append]
            exact .inr (.inl (weights_all (List.mem_map.2 ⟨_, List.getElem_mem (by omega), rfl⟩) n hn))))
          subst hcs
          refine ⟨((s1, v1), t1), ?_, ?_, htr⟩
          · have := hcell 0 (by omega); rw [add_add] at this; simpa using this
          · have := hcell 1 (by omega); rw [add_add] at this; simpa using this
        obtain ⟨f, hf⟩ := choose_lt each
        refine ⟨z, _, .node z ((List.range len).map fun i => (f i).2), rfl, rfl, some a, cap, by simp, by simpa using hlen, fun i hi => ?_⟩
        have hi' : i < len := by simpa using hi
        obtain ⟨h1, h2, h3⟩ := hf i hi'
        obtain ⟨b, off, spot⟩ := a
        have hspot : spot = none := by
          have := World.cell?_spot (hf 0 (by omega)).1
          simpa [Addr.add] using this
        subst hspot
        refine ⟨b, off, (f i).1.1, (f i).1.2, (f i).2, rfl, id, by simp [hi'], ?_, ?_, TreeIn.raise h3 (by omega)⟩
        · rw [show (⟨b, off, none⟩ : Addr).add (i * 2) = ⟨b, off + i * 2, none⟩ from by unfold Addr.add; split <;> simp_all] at h1; exact h1
        · rw [show (⟨b, off, none⟩ : Addr).add (i * 2 + 1) = ⟨b, off + i * 2 + 1, none⟩ from by unfold Addr.add; split <;> simp_all [Nat.add_assoc]] at h2; exact h2
end
end Go.Proofs.Ytdakoccbmeojhaa
