/- What a partition in memory is, and what a store does to it. No condition. -/
import Derived.Test.YtojfpobgncapjaaProg
import Derived.Test.YtojfpobgncapjaaLib
import Derived.Test.YtojfpobgncapjaaReg
set_option linter.unusedSimpArgs false
set_option linter.unusedVariables false
set_option maxHeartbeats 400000
namespace Go.Proofs.Ytojfpobgncapjaa
open Go Go.RowKit Go.PP

/-- xs: the parents; R: the least element of each block. -/
structure Up (xs R : List Int) : Prop where
  len : xs.length = R.length
  par : ∀ i : Nat, i < R.length → ∃ j : Nat, j ≤ i ∧ xs[i]? = some (j : Int) ∧ R[j]? = R[i]? ∧ (j = i → R[i]? = some (i : Int))

structure Part (w : World) (p u n : Nat) (R : List Int) : Prop where
  len : R.length = n
  small : n ≤ 4096
  ex : ∃ c cur xs, w.heap[p]? = some (.cells #[.slice (some ⟨u, 0, none⟩) n c] 70 (0, 0)) ∧ w.heap[u]? = some (.cells cur 3 (0, 0)) ∧ (∀ i : Nat, i < n → cur[i]? = (xs[i]?).map (Value.int .i64)) ∧ Up xs R


theorem cell_set_far {w : World} {b o b' o' : Nat} {v : Value} (h : b ≠ b') : (w.setCell ⟨b, o, none⟩ v).cell? ⟨b', o', none⟩ = w.cell? ⟨b', o', none⟩ :=
  World.cell?_of_block (by rw [Below.heap_setCell _ _ _ _ (by simpa using h.symm)])
theorem cell_set_other {w : World} {b o o' : Nat} {v : Value} (h : o ≠ o') : (w.setCell ⟨b, o, none⟩ v).cell? ⟨b, o', none⟩ = w.cell? ⟨b, o', none⟩ := by
  simp only [World.cell?, World.setCell, Array.getElem?_modify]
  simp only [if_true]
  cases w.heap[b]? with
  | none => rfl
  | some o => cases o <;> simp [Array.getElem?_setIfInBounds, h]

def HeadPost (w : World) (p u n : Nat) (R : List Int) (a : Nat) (e : Ending) (w' : World) : Prop :=
  ∃ r : Nat, e = .returned (.int .i64 r) ∧ R[a]? = some (r : Int) ∧ r ≤ a ∧ Part w' p u n R ∧ Mut (· = u) w w' ∧ w'.cell? ⟨u, a, none⟩ = some (.int .i64 r) ∧ ∀ i, a < i → w'.cell? ⟨u, i, none⟩ = w.cell? ⟨u, i, none⟩

theorem Part.cellU {w : World} {p u n : Nat} {R : List Int} (h : Part w p u n R) {a : Nat} (ha : a < n) :
    ∃ j c : Nat, j ≤ a ∧ w.cell? ⟨u, a, none⟩ = some (.int .i64 j) ∧ w.frozen? ⟨u, a, none⟩ = false ∧ w.cell? ⟨p, 0, none⟩ = some (.slice (some ⟨u, 0, none⟩) n c) ∧ u ≠ p ∧
      R[j]? = R[a]? ∧ (j = a → R[a]? = some (a : Int)) ∧ (Lit.int .i64 j).wf = true := by
  obtain ⟨hlen, hsm, c, cur, xs, hp, hu, hcur, hU⟩ := h
  obtain ⟨j, hj, hxj, hRj, hroot⟩ := hU.par a (by omega)
  refine ⟨j, c, hj, by simp [World.cell?, hu, hcur a ha, hxj], by simp [World.frozen?, hu], by simp [World.cell?, hp], ?_, hRj, hroot, WalkArith.wf_i64 (by omega)⟩
  intro e; subst e; rw [hp] at hu; simp at hu

theorem Part.frozenU {w : World} {p u n : Nat} {R : List Int} (h : Part w p u n R) {a : Nat} (ha : a < n) : w.frozen? ⟨u, a, none⟩ = false := by
  obtain ⟨_, _, _, _, h, _⟩ := h.cellU ha; exact h

theorem Part.drewN {w : World} {p u n : Nat} {R : List Int} (h : Part w p u n R) (k : Nat) : Part (w.drewN k) p u n R := ⟨h.1, h.2, h.3⟩

theorem Part.drew {w : World} {p u n : Nat} {R : List Int} (h : Part w p u n R) : Part w.drew p u n R := ⟨h.1, h.2, h.3⟩

theorem Part.hp {w : World} {p u n : Nat} {R : List Int} (h : Part w p u n R) : ∃ c, w.cell? ⟨p, 0, none⟩ = some (.slice (some ⟨u, 0, none⟩) n c) := by
  obtain ⟨_, _, c, _, _, hp, _⟩ := h
  exact ⟨c, by simp [World.cell?, hp]⟩

theorem Part.plt {w : World} {p u n : Nat} {R : List Int} (h : Part w p u n R) : p < w.heap.size := by
  obtain ⟨_, _, c, _, _, hp, _⟩ := h
  exact (Array.getElem?_eq_some_iff.1 hp).1

theorem Part.ult {w : World} {p u n : Nat} {R : List Int} (h : Part w p u n R) : u < w.heap.size := by
  obtain ⟨_, _, c, _, _, hp, hu, _⟩ := h
  exact (Array.getElem?_eq_some_iff.1 hu).1

theorem Part.ne {w : World} {p u n : Nat} {R : List Int} (h : Part w p u n R) : p ≠ u := by
  obtain ⟨_, _, c, _, _, hp, hu, _⟩ := h
  intro e; subst e; rw [hp] at hu; simp at hu

/-- What leaves the two blocks alone leaves the partition as it is. -/
theorem Part.mut {w w' : World} {p u n : Nat} {R : List Int} (h : Part w p u n R) {S : Nat → Prop} (m : Mut S w w') (hp : ¬ S p) (hu : ¬ S u) : Part w' p u n R := by
  obtain ⟨h1, h2, c, cur, xs, h3, h4, h5⟩ := h
  exact ⟨h1, h2, c, cur, xs, m.heap h3 hp, m.heap h4 hu, h5⟩

theorem Up.set {xs R : List Int} (h : Up xs R) {a r : Nat} (hr : R[a]? = some (r : Int)) (hra : r ≤ a) (hrr : R[r]? = some (r : Int)) : Up (xs.set a r) R := by
  refine ⟨by simp [h.len], fun i hi => ?_⟩
  by_cases e : a = i
  · subst e
    refine ⟨r, hra, by rw [List.getElem?_set_self (by rw [h.len]; exact hi)], by rw [hrr, hr], fun e => by rw [hr, e]⟩
  · obtain ⟨j, h1, h2, h3, h4⟩ := h.par i hi
    exact ⟨j, h1, by rw [List.getElem?_set_ne e]; exact h2, h3, h4⟩

/-- The representatives: each not greater, and its own. -/
theorem Up.rep {xs R : List Int} (h : Up xs R) : ∀ i : Nat, i < R.length → ∃ r : Nat, r ≤ i ∧ R[i]? = some (r : Int) ∧ R[r]? = some (r : Int) := by
  intro i
  induction i using Nat.strongRecOn with
  | _ i ih =>
    intro hi
    obtain ⟨j, h1, h2, h3, h4⟩ := h.par i hi
    by_cases e : j = i
    · exact ⟨i, Nat.le_refl _, h4 e, h4 e⟩
    · obtain ⟨r, a, b, c⟩ := ih j (by omega) (by omega)
      exact ⟨r, by omega, by rw [← h3]; exact b, c⟩

theorem Part.set {w : World} {p u n : Nat} {R : List Int} (h : Part w p u n R) {a r : Nat} (ha : a < n) (hr : R[a]? = some (r : Int)) :
    Part (w.setCell ⟨u, a, none⟩ (.int .i64 r)) p u n R := by
  have hne := h.ne
  obtain ⟨h1, h2, c, cur, xs, h3, h4, h5, h6⟩ := h
  obtain ⟨r', q1, q2, q3⟩ := h6.rep a (by omega)
  obtain rfl : r = r' := by rw [hr] at q2; simp at q2; omega
  refine ⟨h1, h2, c, cur.setIfInBounds a (.int .i64 r), xs.set a r, ?_, ?_, ?_, h6.set hr q1 q3⟩
  · rw [Below.heap_setCell _ _ _ _ (by simpa using hne)]; exact h3
  · simp [World.setCell, Array.getElem?_modify, h4]
  · intro i hi
    have := h5 i hi
    by_cases e : a = i
    · subst e
      rw [List.getElem?_set_self (by rw [h6.len]; omega)]
      have hc : a < cur.size := by
        rcases Nat.lt_or_ge a cur.size with hc | hc
        · exact hc
        · rw [Array.getElem?_eq_none hc, List.getElem?_eq_getElem (by rw [h6.len]; omega)] at this
          cases this
      simp [Array.getElem?_setIfInBounds, hc]
    · rw [List.getElem?_set_ne e, ← this]
      simp [Array.getElem?_setIfInBounds, e]

theorem Part.rep {w : World} {p u n : Nat} {R : List Int} (h : Part w p u n R) {a : Nat} (ha : a < n) : ∃ r : Nat, r ≤ a ∧ R[a]? = some (r : Int) ∧ R[r]? = some (r : Int) := by
  obtain ⟨h1, _, _, _, _, _, _, _, h6⟩ := h
  exact h6.rep a (by omega)

/-- The representatives behind the merging of block m into block k. -/
def merged (R : List Int) (m k : Nat) : List Int := R.map fun z : Int => if z = (m : Int) then (k : Int) else z

theorem merged_len (R : List Int) (x y : Nat) : (merged R x y).length = R.length := by simp [merged]
theorem merged_at {R : List Int} {m k i : Nat} {z : Int} (h : R[i]? = some z) : (merged R m k)[i]? = some (if z = (m : Int) then (k : Int) else z) := by
  simp [merged, h]
theorem merged_self (R : List Int) (m : Nat) : merged R m m = R := by
  unfold merged
  conv => rhs; rw [← List.map_id R]
  refine List.map_congr_left fun z _ => ?_
  split
  · rename_i h; exact h.symm
  · rfl

theorem Up.join {xs R : List Int} (h : Up xs R) {m k : Nat} (hm : R[m]? = some (m : Int)) (hk : R[k]? = some (k : Int)) (hle : k ≤ m) : Up (xs.set m k) (merged R m k) := by
  have hlt : m < R.length := (List.getElem?_eq_some_iff.1 hm).1
  refine ⟨by simp [h.len, merged_len], fun i hi => ?_⟩
  rw [merged_len] at hi
  by_cases e : m = i
  · subst e
    refine ⟨k, hle, by rw [List.getElem?_set_self (by rw [h.len]; exact hlt)], ?_, fun e => ?_⟩
    · rw [merged_at hk, merged_at hm]; simp
    · subst e; rw [merged_self]; exact hm
  · obtain ⟨j, h1, h2, h3, h4⟩ := h.par i hi
    refine ⟨j, h1, by rw [List.getElem?_set_ne e]; exact h2, ?_, fun e' => ?_⟩
    · simp [merged, h3]
    · rw [merged_at (h4 e'), if_neg (by omega)]

theorem Part.join {w : World} {p u n : Nat} {R : List Int} (h : Part w p u n R) {m k : Nat} (hm : R[m]? = some (m : Int)) (hk : R[k]? = some (k : Int)) (hle : k ≤ m) :
    Part (w.setCell ⟨u, m, none⟩ (.int .i64 k)) p u n (merged R m k) := by
  have hne := h.ne
  obtain ⟨h1, h2, c, cur, xs, h3, h4, h5, h6⟩ := h
  have hlt : m < R.length := (List.getElem?_eq_some_iff.1 hm).1
  refine ⟨by rw [merged_len]; exact h1, h2, c, cur.setIfInBounds m (.int .i64 k), xs.set m k, ?_, ?_, ?_, h6.join hm hk hle⟩
  · rw [Below.heap_setCell _ _ _ _ (by simpa using hne)]; exact h3
  · simp [World.setCell, Array.getElem?_modify, h4]
  · intro i hi
    have := h5 i hi
    by_cases e : m = i
    · subst e
      rw [List.getElem?_set_self (by rw [h6.len]; omega)]
      have hc : m < cur.size := by
        rcases Nat.lt_or_ge m cur.size with hc | hc
        · exact hc
        · rw [Array.getElem?_eq_none hc, List.getElem?_eq_getElem (by rw [h6.len]; omega)] at this
          cases this
      simp [Array.getElem?_setIfInBounds, hc]
    · rw [List.getElem?_set_ne e, ← this]
      simp [Array.getElem?_setIfInBounds, e]

structure HeadS (bc p bf u n c : Nat) (w' : World) : Prop where
  h1 : w'.cell? ⟨bc, 0, none⟩ = some (.pointer (some ⟨p, 0, none⟩))
  h2 : w'.cell? ⟨p, 0, none⟩ = some (.slice (some ⟨u, 0, none⟩) n c)
  h3 : w'.cell? ⟨bf, 0, none⟩ = some (.func (.func 49) #[] #[.pointer (some ⟨bc, 0, none⟩), .pointer (some ⟨bf, 0, none⟩)])

end Go.Proofs.Ytojfpobgncapjaa
