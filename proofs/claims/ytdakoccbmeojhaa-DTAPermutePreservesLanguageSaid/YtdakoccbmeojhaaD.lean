/- What lists of bools, automata and trees in memory are, and rows of them. No condition. -/
import Derived.Test.YtdakoccbmeojhaaReg
set_option linter.unusedSimpArgs false
set_option linter.unusedVariables false
set_option maxHeartbeats 400000
namespace Go.PP
open Go Go.RowKit

/-- Nothing that was there has changed. -/
abbrev Fix (w w' : World) : Prop := Mut (fun _ => False) w w'

theorem SliceIn.fix {M : Nat → Prop} {w w' : World} {v : Value} {cs : List Value} (h : SliceIn M w v cs) (m : Fix w w') : SliceIn M w' v cs := h.mut m (by simp)
theorem Ints.fix {M : Nat → Prop} {w w' : World} {v : Value} {xs : List Int} (h : Ints M w v xs) (m : Fix w w') : Ints M w' v xs := h.mut m (by simp)
theorem IntsL.fix {M : Nat → Prop} {w w' : World} {v : Value} {xss : List (List Int)} (h : IntsL M w v xss) (m : Fix w w') : IntsL M w' v xss := h.mut m (by simp)
theorem IntsL.mono {M M' : Nat → Prop} {w : World} {v : Value} {xss : List (List Int)} (h : IntsL M w v xss) (hM : ∀ b, b < w.heap.size → M' b → M b) : IntsL M' w v xss := by
  obtain ⟨vs, h1, h2, h3⟩ := h
  exact ⟨vs, h1.mono hM, h2, fun i v' xs q1 q2 => (h3 i v' xs q1 q2).mono hM⟩

/-- A slice of bools. -/
def Bools (M : Nat → Prop) (w : World) (v : Value) (bs : List Bool) : Prop := SliceIn M w v (bs.map Value.bool)
theorem Bools.open {M : Nat → Prop} {w : World} {v : Value} {xs : List Bool} (h : Bools M w v xs) : ∃ a c, v = .slice a xs.length c ∧ xs.length ≤ 9223372036854775807 ∧
    ∀ i, i < xs.length → ∃ b off x, a = some ⟨b, off, none⟩ ∧ ¬ M b ∧ xs[i]? = some x ∧ w.cell? ⟨b, off + i, none⟩ = some (.bool x) := by
  obtain ⟨a, c, h1, h2, h3⟩ := h
  refine ⟨a, c, by simpa using h1, by simpa using h2, fun i hi => ?_⟩
  obtain ⟨b, off, u, q1, q2, q3, q4⟩ := h3 i (by simpa using hi)
  rw [List.getElem?_map] at q3
  obtain ⟨x, hx, rfl⟩ := Option.map_eq_some_iff.1 q3
  exact ⟨b, off, x, q1, q2, hx, q4⟩
theorem Bools.fix {M : Nat → Prop} {w w' : World} {v : Value} {xs : List Bool} (h : Bools M w v xs) (m : Fix w w') : Bools M w' v xs := SliceIn.fix h m
theorem Bools.mono {M M' : Nat → Prop} {w : World} {v : Value} {xs : List Bool} (h : Bools M w v xs) (hM : ∀ b, b < w.heap.size → M' b → M b) : Bools M' w v xs := SliceIn.mono h hM

theorem Ints.slot {M : Nat → Prop} {w wr : World} {a : Option Addr} {n c : Nat} {xs : List Int} (h : Ints M w (.slice a n c) xs) (hm : Fix w wr) {k : Nat} (hk : k < xs.length) :
    ∃ b off x, a = some ⟨b, off, none⟩ ∧ xs[k]? = some x ∧ wr.cell? ⟨b, off + k, none⟩ = some (.int .i64 x) := by
  obtain ⟨_, _, he, -, hx⟩ := (h.mut hm (by simp)).open
  simp only [Value.slice.injEq] at he
  obtain ⟨rfl, -, rfl⟩ := he
  obtain ⟨b, off, x, h1, _, h3, h4⟩ := hx k hk
  exact ⟨b, off, x, h1, h3, h4⟩
theorem Bools.slot {M : Nat → Prop} {w wr : World} {a : Option Addr} {n c : Nat} {xs : List Bool} (h : Bools M w (.slice a n c) xs) (hm : Fix w wr) {k : Nat} (hk : k < xs.length) :
    ∃ b off x, a = some ⟨b, off, none⟩ ∧ xs[k]? = some x ∧ wr.cell? ⟨b, off + k, none⟩ = some (.bool x) := by
  obtain ⟨_, _, he, -, hx⟩ := (h.fix hm).open
  simp only [Value.slice.injEq] at he
  obtain ⟨rfl, -, rfl⟩ := he
  obtain ⟨b, off, x, h1, _, h3, h4⟩ := hx k hk
  exact ⟨b, off, x, h1, h3, h4⟩
theorem IntsL.row {M : Nat → Prop} {w wr : World} {a : Option Addr} {n c : Nat} {xss : List (List Int)} (h : IntsL M w (.slice a n c) xss) (hm : Fix w wr) {i : Nat} (hi : i < xss.length) :
    ∃ b off ra rc xs, a = some ⟨b, off, none⟩ ∧ xss[i]? = some xs ∧ xs.length ≤ 9223372036854775807 ∧ wr.cell? ⟨b, off + i, none⟩ = some (.slice ra xs.length rc) ∧ Ints M w (.slice ra xs.length rc) xs := by
  obtain ⟨a', c', h1, _, h3⟩ := h.open
  obtain ⟨b, off, v', xs, q1, _, q3, q4, q5⟩ := h3 i hi
  simp only [Value.slice.injEq] at h1
  obtain ⟨ra, rc, rfl, hl, -⟩ := q5.open
  exact ⟨b, off, ra, rc, xs, h1.1.trans q1, q3, hl, hm.cell q4 (by simp), q5⟩

/-- An automaton: the ranks of the symbols, the accepting states, the tables. -/
structure Au where
  ranks : List Int
  final : List Bool
  to : List (List Int)

structure AuIn (M : Nat → Prop) (w : World) (v1 v2 v3 : Value) (A : Au) : Prop where
  r : Ints M w v1 A.ranks
  f : Bools M w v2 A.final
  t : IntsL M w v3 A.to

theorem AuIn.fix {M : Nat → Prop} {w w' : World} {v1 v2 v3 : Value} {A : Au} (h : AuIn M w v1 v2 v3 A) (m : Fix w w') : AuIn M w' v1 v2 v3 A := ⟨h.r.fix m, h.f.fix m, h.t.fix m⟩
theorem AuIn.mono {M M' : Nat → Prop} {w : World} {v1 v2 v3 : Value} {A : Au} (h : AuIn M w v1 v2 v3 A) (hM : ∀ b, b < w.heap.size → M' b → M b) : AuIn M' w v1 v2 v3 A := ⟨h.r.mono hM, h.f.mono hM, h.t.mono hM⟩
theorem IntsL.open' {M : Nat → Prop} {w : World} {v : Value} {xss : List (List Int)} (h : IntsL M w v xss) : ∃ a c, v = .slice a xss.length c ∧ xss.length ≤ 9223372036854775807 := by
  obtain ⟨a, c, h1, h2, _⟩ := h.open; exact ⟨a, c, h1, h2⟩
theorem Ints.open' {M : Nat → Prop} {w : World} {v : Value} {xss : List Int} (h : Ints M w v xss) : ∃ a c, v = .slice a xss.length c ∧ xss.length ≤ 9223372036854775807 := by
  obtain ⟨a, c, h1, h2, _⟩ := h.open; exact ⟨a, c, h1, h2⟩
theorem Bools.open' {M : Nat → Prop} {w : World} {v : Value} {xss : List Bool} (h : Bools M w v xss) : ∃ a c, v = .slice a xss.length c ∧ xss.length ≤ 9223372036854775807 := by
  obtain ⟨a, c, h1, h2, _⟩ := h.open; exact ⟨a, c, h1, h2⟩
theorem AuIn.open {M : Nat → Prop} {w : World} {v1 v2 v3 : Value} {A : Au} (h : AuIn M w v1 v2 v3 A) : ∃ a1 c1 a2 c2 a3 c3, v1 = .slice a1 A.ranks.length c1 ∧ v2 = .slice a2 A.final.length c2 ∧ v3 = .slice a3 A.to.length c3 ∧
    A.ranks.length ≤ 9223372036854775807 ∧ A.final.length ≤ 9223372036854775807 ∧ A.to.length ≤ 9223372036854775807 := by
  obtain ⟨a1, c1, h1, l1⟩ := h.r.open'
  obtain ⟨a2, c2, h2, l2⟩ := h.f.open'
  obtain ⟨a3, c3, h3, l3⟩ := h.t.open'
  exact ⟨a1, c1, a2, c2, a3, c3, h1, h2, h3, l1, l2, l3⟩

/-- A tree: a symbol and its children. -/
inductive Tr where
  | node (s : Int) (l : List Tr)

/-- A symbol and a slice of children read as a tree of depth at most d; its cells lie in no block of M. -/
def TreeIn (M : Nat → Prop) (w : World) : Nat → Int → Value → Tr → Prop
  | 0, _, _, _ => False
  | d + 1, s, v, .node s' l => s = s' ∧ ∃ a c, v = .slice a l.length c ∧ l.length * 32 ≤ 140737488351232 ∧ ∀ i, i < l.length → ∃ b off s1 v1 t1, a = some ⟨b, off, none⟩ ∧ ¬ M b ∧ l[i]? = some t1 ∧
      w.cell? ⟨b, off + i * 2, none⟩ = some (.int .i64 s1) ∧ w.cell? ⟨b, off + i * 2 + 1, none⟩ = some v1 ∧ TreeIn M w d s1 v1 t1

theorem TreeIn.mut {M S : Nat → Prop} {w w' : World} (m : Mut S w w') (hs : ∀ b, b < w.heap.size → S b → M b) : ∀ {d : Nat} {s : Int} {v : Value} {t : Tr}, TreeIn M w d s v t → TreeIn M w' d s v t
  | 0, _, _, _, h => h.elim
  | d + 1, s, v, .node s' l, h => by
    obtain ⟨h1, a, c, h2, h3, h4⟩ := h
    refine ⟨h1, a, c, h2, h3, fun i hi => ?_⟩
    obtain ⟨b, off, s1, v1, t1, q1, q2, q3, q4, q5, q6⟩ := h4 i hi
    have hb : ¬ S b := fun hb => q2 (hs _ (World.block_lt_of_cell? w _ q4) hb)
    exact ⟨b, off, s1, v1, t1, q1, q2, q3, m.cell q4 hb, m.cell q5 hb, TreeIn.mut m hs q6⟩
theorem TreeIn.mono {M M' : Nat → Prop} {w : World} (hM : ∀ b, b < w.heap.size → M' b → M b) : ∀ {d : Nat} {s : Int} {v : Value} {t : Tr}, TreeIn M w d s v t → TreeIn M' w d s v t
  | 0, _, _, _, h => h.elim
  | d + 1, s, v, .node s' l, h => by
    obtain ⟨h1, a, c, h2, h3, h4⟩ := h
    refine ⟨h1, a, c, h2, h3, fun i hi => ?_⟩
    obtain ⟨b, off, s1, v1, t1, q1, q2, q3, q4, q5, q6⟩ := h4 i hi
    exact ⟨b, off, s1, v1, t1, q1, fun hb => q2 (hM _ (World.block_lt_of_cell? w _ q4) hb), q3, q4, q5, TreeIn.mono hM q6⟩
theorem TreeIn.fix {M : Nat → Prop} {w w' : World} {d : Nat} {s : Int} {v : Value} {t : Tr} (h : TreeIn M w d s v t) (m : Fix w w') : TreeIn M w' d s v t := h.mut m (by simp)

theorem TreeIn.slot {M : Nat → Prop} {w wr : World} {d : Nat} {s s' : Int} {v : Value} {l : List Tr} (h : TreeIn M w (d + 1) s v (.node s' l)) (hm : Fix w wr) {i : Nat} (hi : i < l.length) :
    ∃ b off c s1 v1 t1, v = .slice (some ⟨b, off, none⟩) l.length c ∧ l[i]? = some t1 ∧ wr.cell? ⟨b, off + i * 2, none⟩ = some (.int .i64 s1) ∧ wr.cell? ⟨b, off + i * 2 + 1, none⟩ = some v1 ∧ TreeIn M w d s1 v1 t1 := by
  obtain ⟨_, a, c, h2, _, h4⟩ := h
  obtain ⟨b, off, s1, v1, t1, rfl, _, q3, q4, q5, q6⟩ := h4 i hi
  exact ⟨b, off, c, s1, v1, t1, h2, q3, hm.cell q4 (by simp), hm.cell q5 (by simp), q6⟩
theorem TreeIn.open {M : Nat → Prop} {w : World} {d : Nat} {s s' : Int} {v : Value} {l : List Tr} (h : TreeIn M w (d + 1) s v (.node s' l)) : s = s' ∧ ∃ a c, v = .slice a l.length c ∧ l.length * 32 ≤ 140737488351232 := by
  obtain ⟨h1, a, c, h2, h3, _⟩ := h
  exact ⟨h1, a, c, h2, h3⟩
/-- Whatever reads as a tree is a symbol and a slice. -/
theorem TreeIn.shape {M : Nat → Prop} {w : World} {d : Nat} {s : Int} {v : Value} {t : Tr} (h : TreeIn M w d s v t) : ∃ a n c, v = .slice a n c := by
  match d, t, h with
  | 0, _, h => exact h.elim
  | d + 1, .node s' l, h => obtain ⟨_, a, c, e, _⟩ := h.open; exact ⟨a, _, c, e⟩

/-! ### rows of rows -/
/-- A row of the call's own whose elements are slices of ints that lie neither in a block of M nor in the row's own block. -/
structure RowsL (M : Nat → Prop) (B : Nat) (e2 : TypeId) (w : World) (v : Value) (vs : List Value) (rss : List (List Int)) : Prop where
  own : w.ownsRow B e2 1 v vs.length vs
  len : vs.length = rss.length
  rows : ∀ (j : Nat) u r, vs[j]? = some u → rss[j]? = some r → Ints (fun b => M b ∨ v.ownBlock = some b) w u r

theorem RowsL.nil (M : Nat → Prop) (B : Nat) (e2 : TypeId) (w : World) : RowsL M B e2 w (.slice none 0 0) [] [] :=
  ⟨World.ownsRow_nil _ _ _ _, rfl, fun j r u h => by simp at h⟩
theorem RowsL.mut {M S : Nat → Prop} {B : Nat} {e2 : TypeId} {w w' : World} {v : Value} {vs : List Value} {rss : List (List Int)} (h : RowsL M B e2 w v vs rss) (m : Mut S w w') (hs : ∀ b, b < w.heap.size → S b → M b) (hv : ∀ k, v.ownBlock = some k → ¬ S k) : RowsL M B e2 w' v vs rss :=
  ⟨ownsRow_mut h.own m hv, h.len, fun j u r h1 h2 => (h.rows j u r h1 h2).mut m (fun b hb e => .inl (hs b hb e))⟩
theorem RowsL.fix {M : Nat → Prop} {B : Nat} {e2 : TypeId} {w w' : World} {v : Value} {vs : List Value} {rss : List (List Int)} (h : RowsL M B e2 w v vs rss) (m : Fix w w') : RowsL M B e2 w' v vs rss := h.mut m (by simp) (by simp)
theorem RowsL.push {M : Nat → Prop} {B : Nat} {e2 : TypeId} {w w' : World} {v v' u : Value} {vs : List Value} {rss : List (List Int)} {r : List Int} (h : RowsL M B e2 w v vs rss) (hu : Ints (fun b => M b ∨ v.ownBlock = some b) w u r)
    (ho : w'.ownsRow B e2 1 v' (vs ++ [u]).length (vs ++ [u])) (hg : w.grownBy w' v.ownBlock) (hb : ∀ k, v'.ownBlock = some k → v.ownBlock = some k ∨ k = w.heap.size) : RowsL M B e2 w' v' (vs ++ [u]) (rss ++ [r]) := by
  have keep : ∀ {u : Value} {r : List Int}, Ints (fun b => M b ∨ v.ownBlock = some b) w u r → Ints (fun b => M b ∨ v'.ownBlock = some b) w' u r := fun {u r} h1 => by
    have h2 : Ints (fun b => M b ∨ v.ownBlock = some b ∨ v'.ownBlock = some b) w u r := h1.mono (fun b hlt e => by
      rcases e with e | e | e
      · exact .inl e
      · exact .inr e
      · rcases hb b e with h3 | h3
        · exact .inr h3
        · omega)
    exact (h2.mut (((Mut.refl (fun k => v.ownBlock = some k) w)).grown hg (fun k hk _ => hk)) (fun b _ e => .inr (.inl e))).mono (fun b _ e => by
      rcases e with e | e
      · exact .inl e
      · exact .inr (.inr e))
  refine ⟨ho, by simp [h.len], fun j a b h1 h2 => ?_⟩
  rcases Nat.lt_trichotomy j vs.length with e | e | e
  · rw [List.getElem?_append_left e] at h1
    rw [List.getElem?_append_left (by rw [← h.len]; exact e)] at h2
    exact keep (h.rows j a b h1 h2)
  · subst e
    rw [List.getElem?_append_right (Nat.le_refl _)] at h1
    rw [h.len, List.getElem?_append_right (Nat.le_refl _)] at h2
    simp at h1 h2
    subst h1 h2
    exact keep hu
  · rw [List.getElem?_eq_none (by simp; omega)] at h1; cases h1
theorem RowsL.ints {M : Nat → Prop} {B : Nat} {e2 : TypeId} {w : World} {v : Value} {vs : List Value} {rss : List (List Int)} (h : RowsL M B e2 w v vs rss) (hM : ∀ b, B ≤ b → ¬ M b) : IntsL M w v rss :=
  ⟨vs, SliceIn.of_owns h.own hM, h.len, fun i u xs h1 h2 => (h.rows i u xs h1 h2).mono (fun b _ e => .inl e)⟩

/-- The cells of the children of a tree, one behind the other. -/
def childCells : List (Int × Value) → List Value
  | [] => []
  | (s, v) :: l => .int .i64 s :: v :: childCells l
theorem childCells_len : ∀ l : List (Int × Value), (childCells l).length = l.length * 2
  | [] => rfl
  | (s, v) :: l => by simp [childCells, childCells_len l]; omega
theorem childCells_append : ∀ l m : List (Int × Value), childCells (l ++ m) = childCells l ++ childCells m
  | [], m => rfl
  | (s, v) :: l, m => by simp [childCells, childCells_append l m]
theorem childCells_at : ∀ (l : List (Int × Value)) (i : Nat) (s : Int) (v : Value), l[i]? = some (s, v) → (childCells l)[i * 2]? = some (.int .i64 s) ∧ (childCells l)[i * 2 + 1]? = some v
  | [], i, s, v, h => by simp at h
  | (s', v') :: l, 0, s, v, h => by simp at h; obtain ⟨rfl, rfl⟩ := h; simp [childCells]
  | (s', v') :: l, i + 1, s, v, h => by
    have := childCells_at l i s v (by simpa using h)
    rw [show (i + 1) * 2 = i * 2 + 2 by omega]
    simpa [childCells] using this

/-- A row of the call's own whose elements are the children of a tree. -/
structure RowsT (M : Nat → Prop) (B : Nat) (e2 : TypeId) (w : World) (d : Nat) (v : Value) (ps : List (Int × Value)) (ts : List Tr) : Prop where
  own : w.ownsRow B e2 2 v ps.length (childCells ps)
  len : ps.length = ts.length
  rows : ∀ (j : Nat) s u t, ps[j]? = some (s, u) → ts[j]? = some t → TreeIn (fun b => M b ∨ v.ownBlock = some b) w d s u t

theorem RowsT.nil (M : Nat → Prop) (B : Nat) (e2 : TypeId) (w : World) (d : Nat) : RowsT M B e2 w d (.slice none 0 0) [] [] :=
  ⟨World.ownsRow_nil _ _ _ _, rfl, fun j s u t h => by simp at h⟩
theorem RowsT.mut {M S : Nat → Prop} {B : Nat} {e2 : TypeId} {w w' : World} {d : Nat} {v : Value} {ps : List (Int × Value)} {ts : List Tr} (h : RowsT M B e2 w d v ps ts) (m : Mut S w w') (hs : ∀ b, b < w.heap.size → S b → M b) (hv : ∀ k, v.ownBlock = some k → ¬ S k) : RowsT M B e2 w' d v ps ts :=
  ⟨ownsRow_mut h.own m hv, h.len, fun j s u t h1 h2 => (h.rows j s u t h1 h2).mut m (fun b hb e => .inl (hs b hb e))⟩
theorem RowsT.fix {M : Nat → Prop} {B : Nat} {e2 : TypeId} {w w' : World} {d : Nat} {v : Value} {ps : List (Int × Value)} {ts : List Tr} (h : RowsT M B e2 w d v ps ts) (m : Fix w w') : RowsT M B e2 w' d v ps ts := h.mut m (by simp) (by simp)
theorem RowsT.push {M : Nat → Prop} {B : Nat} {e2 : TypeId} {w w' : World} {d : Nat} {v v' u : Value} {s : Int} {ps : List (Int × Value)} {ts : List Tr} {t : Tr} (h : RowsT M B e2 w d v ps ts) (hu : TreeIn (fun b => M b ∨ v.ownBlock = some b) w d s u t)
    (ho : w'.ownsRow B e2 2 v' (ps ++ [(s, u)]).length (childCells (ps ++ [(s, u)]))) (hg : w.grownBy w' v.ownBlock) (hb : ∀ k, v'.ownBlock = some k → v.ownBlock = some k ∨ k = w.heap.size) : RowsT M B e2 w' d v' (ps ++ [(s, u)]) (ts ++ [t]) := by
  have keep : ∀ {s : Int} {u : Value} {t : Tr}, TreeIn (fun b => M b ∨ v.ownBlock = some b) w d s u t → TreeIn (fun b => M b ∨ v'.ownBlock = some b) w' d s u t := fun {s u t} h1 => by
    have h2 : TreeIn (fun b => M b ∨ v.ownBlock = some b ∨ v'.ownBlock = some b) w d s u t := h1.mono (fun b hlt e => by
      rcases e with e | e | e
      · exact .inl e
      · exact .inr e
      · rcases hb b e with h3 | h3
        · exact .inr h3
        · omega)
    exact (h2.mut (((Mut.refl (fun k => v.ownBlock = some k) w)).grown hg (fun k hk _ => hk)) (fun b _ e => .inr (.inl e))).mono (fun b _ e => by
      rcases e with e | e
      · exact .inl e
      · exact .inr (.inr e))
  refine ⟨ho, by simp [h.len], fun j s' a b h1 h2 => ?_⟩
  rcases Nat.lt_trichotomy j ps.length with e | e | e
  · rw [List.getElem?_append_left e] at h1
    rw [List.getElem?_append_left (by rw [← h.len]; exact e)] at h2
    exact keep (h.rows j s' a b h1 h2)
  · subst e
    rw [List.getElem?_append_right (Nat.le_refl _)] at h1
    rw [h.len, List.getElem?_append_right (Nat.le_refl _)] at h2
    simp at h1 h2
    obtain ⟨rfl, rfl⟩ := h1
    subst h2
    exact keep hu
  · rw [List.getElem?_eq_none (by simp; omega)] at h1; cases h1

theorem RowsT.tree {M : Nat → Prop} {B : Nat} {e2 : TypeId} {w : World} {d : Nat} {v : Value} {ps : List (Int × Value)} {ts : List Tr} (h : RowsT M B e2 w d v ps ts) (hM : ∀ b, B ≤ b → ¬ M b) (hl : ts.length * 32 ≤ 140737488351232) (s : Int) : TreeIn M w (d + 1) s v (.node s ts) := by
  refine ⟨rfl, ?_⟩
  rcases h.own.2 with ⟨rfl, hn⟩ | ⟨g, cap, cur, rfl, hg, hh, h1, h2, h3, h4⟩
  · have : ts.length = 0 := by rw [← h.len]; exact hn
    exact ⟨none, 0, by rw [this], hl, fun i hi => by omega⟩
  · refine ⟨some ⟨g, 0, none⟩, cap, by rw [h.len], hl, fun i hi => ?_⟩
    obtain ⟨⟨s1, v1⟩, hp⟩ : ∃ p, ps[i]? = some p := ⟨ps[i]'(by rw [h.len]; exact hi), by simp⟩
    have hi' : i < ps.length := by rw [h.len]; exact hi
    obtain ⟨q1, q2⟩ := childCells_at ps i s1 v1 hp
    have cell : ∀ k u, (childCells ps)[k]? = some u → w.cell? ⟨g, k, none⟩ = some u := fun k u hk => by
      have hk' : k < (childCells ps).length := (List.getElem?_eq_some_iff.1 hk).1
      rw [childCells_len] at hk'
      have h0 : (cur.toList.take (ps.length * 2))[k]? = some u := by rw [h4]; exact hk
      rw [List.getElem?_take, if_pos (by omega)] at h0
      simp only [World.cell?, hh]
      simpa using h0
    exact ⟨g, 0, s1, v1, ts[i], rfl, hM g hg, by simp, by rw [Nat.zero_add]; exact cell _ _ q1, by rw [Nat.zero_add]; exact cell _ _ q2, (h.rows i s1 v1 ts[i] hp (by simp)).mono (fun b _ e => .inl e)⟩

/-! ### append of an element of two cells -/
section
variable {P : Program} {ops : Array Oper} {rest : List Oper} {o : Oper} {a : Act} {Q : Exit → Act → World → Prop} {w : World}

theorem run_push2 (t ty e : TypeId) {B : Nat} {z : Value} {bytes : Nat} (ht : P.underlying t = some (.slice e)) (hinfo : (P.info? e).map (fun i => (i.zero, i.size, i.bytes)) = some (some z, 2, bytes)) (hzs : z.cells.size = 2)
    (v : Value) (n : Nat) (cs : List Value) (u1 u2 : Value) (hown : w.ownsRow B e 2 v n cs) (blk : Nat)
    (hu1 : w.cell? ⟨blk, 0, none⟩ = some u1) (hu2 : w.cell? ⟨blk, 1, none⟩ = some u2) (h1 : u1.oneCell' = true) (h2 : u2.oneCell' = true) (hby : (n + 1) * bytes ≤ 140737488355328) (hbp : 0 < bytes) (hb64 : bytes ≤ 64) (hB : B ≤ w.heap.size) :
    ∃ v' w', (Builtin.append_ #[t, t] ty #[v, .slice (some ⟨blk, 0, none⟩) 1 1]).run P w = .ok v' w' ∧ w'.ownsRow B e 2 v' (n + 1) (cs ++ [u1, u2]) ∧ w.grownBy w' v.ownBlock ∧
      (∀ k, v'.ownBlock = some k → v.ownBlock = some k ∨ k = w.heap.size) := by
  obtain ⟨i, hi, hz, hsize, hbytes⟩ := info_parts hinfo
  have hnews : ∀ j u', [u1, u2][j]? = some u' → w.cell? ((⟨blk, 0, none⟩ : Addr).add j) = some u' := by
    intro j u' hj
    rcases j with _ | _ | j
    · simp at hj; subst hj; simpa [Addr.add] using hu1
    · simp at hj; subst hj; simpa [Addr.add] using hu2
    · simp at hj
  have h1' : ∀ u' ∈ [u1, u2], u'.oneCell' = true := by simp [h1, h2]
  have hn : n + 1 ≤ 140737488355328 := Nat.le_trans (Nat.le_mul_of_pos_right _ hbp) hby
  obtain ⟨v', w', hr, q2, q3, _⟩ := run_append_own (P := P) w B t ty e i z 2 bytes ht hi hz hsize hbytes hzs (by decide) v n cs hown ⟨blk, 0, none⟩ 1 1 [u1, u2] rfl hnews h1' (by unfold maxLen; omega) hby hB
  refine ⟨v', w', hr, q2, q3, ?_⟩
  rcases hown.2 with ⟨rfl, hl⟩ | ⟨g, cap, cur, rfl, hbg, hg, hnc, hcm, hcs, htake⟩
  · have hr2 := run_append_nil (P := P) w t ty e i z ht hi hz ⟨blk, 0, none⟩ 1 1 [u1, u2] (by simp [hsize]) hnews (by omega) (by omega) (by rw [hbytes]; omega)
    rw [hr2] at hr
    simp only [Result.ok.injEq] at hr
    intro k hk
    rw [← hr.1] at hk; simp [Value.ownBlock] at hk; exact .inr hk.symm
  · by_cases hroom : n + 1 ≤ cap
    · have hr2 := run_append_room (P := P) w t ty e i ht hi g n cap cur hg ⟨blk, 0, none⟩ 1 1 [u1, u2] (by simp [hsize]) hnews h1' hroom (by rw [hsize, hcs]; simp; omega)
      rw [hr2] at hr
      simp only [Result.ok.injEq] at hr
      intro k hk
      rw [← hr.1] at hk; simp [Value.ownBlock] at hk; exact .inl (by simp [Value.ownBlock, hk])
    · have holds : ∀ j u', cs[j]? = some u' → w.cell? ((⟨g, 0, none⟩ : Addr).add j) = some u' := hown.cells (g := g) rfl
      have hr2 := run_append_grow (P := P) w t ty e i z ht hi hz ⟨g, 0, none⟩ n cap cs (by rw [hsize]; exact hown.1) holds ⟨blk, 0, none⟩ 1 1 [u1, u2] (by simp [hsize]) hnews (by omega) (by omega) (growslice_fits (by omega) (by rw [hbytes]; exact hby))
      rw [hr2] at hr
      simp only [Result.ok.injEq] at hr
      intro k hk
      rw [← hr.1] at hk; simp [Value.ownBlock] at hk; exact .inr hk.symm

theorem wpList_push2 (hgd : o.guard = none) (s x : Operand) (t : TypeId)
    (ho : o.op = .call { callee := .builtin .append, args := #[s, x], argTypes := #[t, t] })
    {B : Nat} {e : TypeId} {z : Value} {bytes : Nat} (ht : P.underlying t = some (.slice e)) (hinfo : (P.info? e).map (fun i => (i.zero, i.size, i.bytes)) = some (some z, 2, bytes)) (hzs : z.cells.size = 2)
    (v : Value) (n : Nat) (cs : List Value) (u1 u2 : Value) (hs : a.eval s = v) (hown : w.ownsRow B e 2 v n cs) (blk : Nat) (hx : a.eval x = .slice (some ⟨blk, 0, none⟩) 1 1)
    (hu1 : w.cell? ⟨blk, 0, none⟩ = some u1) (hu2 : w.cell? ⟨blk, 1, none⟩ = some u2) (h1 : u1.oneCell' = true) (h2 : u2.oneCell' = true) (hby : (n + 1) * bytes ≤ 140737488355328) (hbp : 0 < bytes) (hb64 : bytes ≤ 64) (hB : B ≤ w.heap.size)
    (h : ∀ v' w', w'.ownsRow B e 2 v' (n + 1) (cs ++ [u1, u2]) → w.grownBy w' v.ownBlock → (∀ k, v'.ownBlock = some k → v.ownBlock = some k ∨ k = w.heap.size) → wpList P ops Q rest (a.put o.dst v') w') : wpList P ops Q (o :: rest) a w := by
  obtain ⟨v', w', hr, q2, q3, q4⟩ := run_push2 (P := P) t o.type e ht hinfo hzs v n cs u1 u2 hown blk hu1 hu2 h1 h2 hby hbp hb64 hB
  refine wpList_plain hgd fun K hK => ?_
  unfold Oper.wp execOp
  simp only [ho, resolve, invoke, builtin, Sem.run_bind, Sem.run_pure, Result.andThen_ok, List.map_toArray, List.map_cons, List.map_nil, hs, hx, hr]
  exact hK _ _ (h v' w' q2 q3 q4)
end
end Go.PP
