/- A slice of slices of ints that the call makes, each in a block of its own. No condition. -/
import Derived.Test.YtdakoccbmeojhaaMap
set_option linter.unusedSimpArgs false
set_option linter.unusedVariables false
namespace Go.PP
open Go Go.RowKit

/-- A row of the call's own (elements of type e2) whose elements are rows of ints of the call's own (elements of type e1), all in blocks of their own. -/
structure OwnL (B : Nat) (e2 e1 : TypeId) (w : World) (v : Value) (vs : List Value) (rss : List (List Int)) : Prop where
  own : w.ownsRow B e2 1 v vs.length vs
  len : vs.length = rss.length
  rows : ∀ (j : Nat) r u, rss[j]? = some r → vs[j]? = some u → w.ownsRow B e1 1 u (r.map (Value.int .i64)).length (r.map (Value.int .i64))
  sep : ∀ (i j : Nat) a b g, i ≠ j → vs[i]? = some a → vs[j]? = some b → a.ownBlock = some g → b.ownBlock ≠ some g
  sepo : ∀ (j : Nat) a g, vs[j]? = some a → a.ownBlock = some g → v.ownBlock ≠ some g

theorem OwnL.nil (B : Nat) (e2 e1 : TypeId) (w : World) : OwnL B e2 e1 w (.slice none 0 0) [] [] :=
  ⟨World.ownsRow_nil _ _ _ _, rfl, fun j r u h => by simp at h, fun i j a b g _ h => by simp at h, fun j a g h => by simp at h⟩

theorem ownsRow_cells {w : World} {B : Nat} {e : TypeId} {sz : Nat} {v : Value} {n : Nat} {cs : List Value} (h : w.ownsRow B e sz v n cs) {g : Nat} (hg : v.ownBlock = some g) : B ≤ g ∧ ∃ cur, w.heap[g]? = some (.cells cur e (0, 0)) := by
  rcases h.2 with ⟨rfl, _⟩ | ⟨g', cap, cur, rfl, hb, hh, _⟩
  · simp [Value.ownBlock] at hg
  · simp [Value.ownBlock] at hg; subst hg; exact ⟨hb, cur, hh⟩

theorem OwnL.mut {B : Nat} {e2 e1 : TypeId} {w w' : World} {v : Value} {vs : List Value} {rss : List (List Int)} (h : OwnL B e2 e1 w v vs rss) {S : Nat → Prop} (m : Mut S w w')
    (hS : ∀ b, B ≤ b → S b → ∀ c e f, w.heap[b]? ≠ some (.cells c e f)) : OwnL B e2 e1 w' v vs rss := by
  refine ⟨ownsRow_mut h.own m (fun k hk hs => ?_), h.len, fun j r u h1 h2 => ownsRow_mut (h.rows j r u h1 h2) m (fun k hk hs => ?_), h.sep, h.sepo⟩
  · obtain ⟨hb, cur, hc⟩ := ownsRow_cells h.own hk; exact hS k hb hs _ _ _ hc
  · obtain ⟨hb, cur, hc⟩ := ownsRow_cells (h.rows j r u h1 h2) hk; exact hS k hb hs _ _ _ hc

/-- Behind an append of a nil row. -/
theorem OwnL.push_nil {B : Nat} {e2 e1 : TypeId} {w w' : World} {v v' : Value} {vs : List Value} {rss : List (List Int)} (h : OwnL B e2 e1 w v vs rss)
    (ho : w'.ownsRow B e2 1 v' (vs ++ [Value.slice none 0 0]).length (vs ++ [Value.slice none 0 0])) (hg : w.grownBy w' v.ownBlock) (hb : ∀ k, v'.ownBlock = some k → v.ownBlock = some k ∨ k = w.heap.size) :
    OwnL B e2 e1 w' v' (vs ++ [.slice none 0 0]) (rss ++ [[]]) := by
  have key : ∀ (j : Nat) u, (vs ++ [Value.slice none 0 0])[j]? = some u → (j < vs.length ∧ vs[j]? = some u) ∨ (j = vs.length ∧ u = .slice none 0 0) := fun j u hu => by
    rcases Nat.lt_trichotomy j vs.length with e | e | e
    · rw [List.getElem?_append_left e] at hu; exact .inl ⟨e, hu⟩
    · subst e; rw [List.getElem?_append_right (Nat.le_refl _)] at hu; simp at hu; exact .inr ⟨rfl, hu.symm⟩
    · rw [List.getElem?_eq_none (by simp; omega)] at hu; cases hu
  refine ⟨ho, by simp [h.len], fun j r u h1 h2 => ?_, fun i j a b g hij h1 h2 h3 => ?_, fun j a g h1 h2 h3 => ?_⟩
  · rcases key j u h2 with ⟨hj, hu⟩ | ⟨hj, rfl⟩
    · rw [List.getElem?_append_left (by rw [← h.len]; exact hj)] at h1
      refine (h.rows j r u h1 hu).kept hg ?_
      cases hub : u.ownBlock with
      | none => exact .inl rfl
      | some g => exact .inr (fun e => h.sepo j u g hu hub e.symm)
    · rw [hj, h.len, List.getElem?_append_right (Nat.le_refl _)] at h1
      simp at h1; subst h1
      exact World.ownsRow_nil _ _ _ _
  · rcases key i a h1 with ⟨hi, ha⟩ | ⟨hi, rfl⟩
    · rcases key j b h2 with ⟨hj, hb'⟩ | ⟨hj, rfl⟩
      · exact h.sep i j a b g hij ha hb' h3
      · simp [Value.ownBlock]
    · simp [Value.ownBlock] at h3
  · rcases key j a h1 with ⟨hj, ha⟩ | ⟨hj, rfl⟩
    · rcases hb g h3 with e | e
      · exact h.sepo j a g ha h2 e
      · have := ((h.rows j (rss[j]'(by rw [← h.len]; exact hj)) a (by simp) ha).lt g h2).2
        omega
    · simp [Value.ownBlock] at h2

/-- Behind an append to row j, the new row's value not yet stored. -/
theorem OwnL.push_row {B : Nat} {e2 e1 : TypeId} {w w' : World} {v : Value} {vs : List Value} {rss : List (List Int)} (h : OwnL B e2 e1 w v vs rss) {j : Nat} {u u' : Value} {r : List Int} {x : Int} (hr : rss[j]? = some r) (hu : vs[j]? = some u)
    (ho : w'.ownsRow B e1 1 u' (r.map (Value.int .i64) ++ [Value.int .i64 x]).length (r.map (Value.int .i64) ++ [Value.int .i64 x])) (hg : w.grownBy w' u.ownBlock) (hb : ∀ k, u'.ownBlock = some k → u.ownBlock = some k ∨ k = w.heap.size)
    {g c : Nat} (hv : v = .slice (some ⟨g, 0, none⟩) vs.length c) (w2 : World) (hw2 : w2 = w'.setCell ⟨g, j, none⟩ u') : OwnL B e2 e1 w2 v (vs.set j u') (rss.set j (r ++ [x])) := by
  have hjl : j < vs.length := (List.getElem?_eq_some_iff.1 hu).1
  have hgv : v.ownBlock = some g := by rw [hv]; rfl
  have hug : ∀ k, u.ownBlock = some k → k ≠ g := fun k hk e => h.sepo j u k hu hk (by rw [e]; exact hgv)
  have hglt : g < w.heap.size := (h.own.lt g hgv).2
  have hg' : ∀ k, u'.ownBlock = some k → k ≠ g := fun k hk e => by
    rcases hb k hk with h1 | h1
    · exact hug k h1 e
    · omega
  have hvo : w'.ownsRow B e2 1 v vs.length vs := h.own.kept hg (.inr (by rw [hgv]; intro e; exact hug g e.symm rfl))
  have hset : ∀ k, k ≠ g → w2.heap[k]? = w'.heap[k]? := fun k hk => by rw [hw2]; exact Below.heap_setCell _ _ _ _ (by simpa using hk)
  have key : ∀ (i : Nat) a, (vs.set j u')[i]? = some a → (i ≠ j ∧ vs[i]? = some a) ∨ (i = j ∧ a = u') := fun i a ha => by
    by_cases e : i = j
    · subst e; rw [List.getElem?_set_self hjl] at ha; cases ha; exact .inr ⟨rfl, rfl⟩
    · rw [List.getElem?_set_ne (fun x => e x.symm)] at ha; exact .inl ⟨e, ha⟩
  have carry : ∀ {e : TypeId} {z : Value} {n : Nat} {cs : List Value}, w'.ownsRow B e 1 z n cs → (∀ k, z.ownBlock = some k → k ≠ g) → w2.ownsRow B e 1 z n cs := fun {e z n cs} hz hk => by
    refine ⟨hz.1, ?_⟩
    rcases hz.2 with hn | ⟨g', cap, cur, rfl, hb', hgg, rest⟩
    · exact .inl hn
    · exact .inr ⟨g', cap, cur, rfl, hb', by rw [hset g' (hk g' rfl)]; exact hgg, rest⟩
  refine ⟨?_, by simp [h.len], fun i r' a h1 h2 => ?_, fun i k a b q hik h1 h2 h3 => ?_, fun i a q h1 h2 h3 => ?_⟩
  · obtain ⟨hl, hn | ⟨g', cap, cur, hv', hb', hgg, h1, h2, h3, h4⟩⟩ := hvo
    · rw [hv] at hn; simp at hn
    · rw [hv] at hv'
      simp only [Value.slice.injEq, Option.some.injEq, Addr.mk.injEq, and_true, true_and] at hv'
      obtain ⟨rfl, rfl⟩ := hv'
      refine ⟨by simp, .inr ⟨g, c, cur.setIfInBounds j u', by rw [hv]; simp, hb', ?_, by simpa using h1, h2, by simpa using h3, ?_⟩⟩
      · rw [hw2]; simp [World.setCell, Array.getElem?_modify, hgg]
      · simp only [List.length_set, Array.toList_setIfInBounds]
        rw [List.take_set, h4]
  · rcases key i a h2 with ⟨hi, ha⟩ | ⟨rfl, rfl⟩
    · rw [List.getElem?_set_ne (fun x => hi x.symm)] at h1
      refine carry ((h.rows i r' a h1 ha).kept hg ?_) (fun k hk e => h.sepo i a k ha hk (by rw [e]; exact hgv))
      cases hab : a.ownBlock with
      | none => exact .inl rfl
      | some q => exact .inr (fun e => h.sep i j a u q hi ha hu hab e.symm)
    · rw [List.getElem?_set_self (by rw [← h.len]; exact hjl)] at h1
      cases h1
      rw [List.map_append]
      exact carry ho hg'
  · rcases key i a h1 with ⟨hi, ha⟩ | ⟨rfl, rfl⟩
    · rcases key k b h2 with ⟨hk, hb'⟩ | ⟨rfl, rfl⟩
      · exact h.sep i k a b q hik ha hb' h3
      · intro e
        rcases hb q e with h4 | h4
        · exact h.sep i k a u q hi ha hu h3 h4
        · obtain ⟨r0, hr0⟩ : ∃ r0, rss[i]? = some r0 := ⟨rss[i]'(by rw [← h.len]; exact (List.getElem?_eq_some_iff.1 ha).1), by simp⟩
          have := ((h.rows i r0 a hr0 ha).lt q h3).2
          omega
    · rcases key k b h2 with ⟨hk, hb'⟩ | ⟨hk, rfl⟩
      · intro e
        rcases hb q h3 with h4 | h4
        · exact h.sep k i b u q hk hb' hu e h4
        · obtain ⟨r0, hr0⟩ : ∃ r0, rss[k]? = some r0 := ⟨rss[k]'(by rw [← h.len]; exact (List.getElem?_eq_some_iff.1 hb').1), by simp⟩
          have := ((h.rows k r0 b hr0 hb').lt q e).2
          omega
      · exact absurd hk.symm hik
  · rcases key i a h1 with ⟨hi, ha⟩ | ⟨rfl, rfl⟩
    · exact h.sepo i a q ha h2 h3
    · rw [hgv] at h3; cases h3
      exact hg' _ h2 rfl

theorem OwnL.ints {B : Nat} {e2 e1 : TypeId} {w : World} {v : Value} {vs : List Value} {rss : List (List Int)} (h : OwnL B e2 e1 w v vs rss) {M : Nat → Prop} (hM : ∀ b, B ≤ b → ¬ M b) : IntsL M w v rss :=
  ⟨vs, SliceIn.of_owns h.own hM, h.len, fun i u xs h1 h2 => SliceIn.of_owns (h.rows i xs u h2 h1) hM⟩
end Go.PP
