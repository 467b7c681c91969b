/- A clone whose cells are overwritten: what holds of it all the while. No condition. -/
import Derived.Test.YtdakoccbmeojhaaWn
import Derived.Test.YtdakoccbmeojhaaWp
set_option linter.unusedSimpArgs false
set_option linter.unusedVariables false
set_option maxHeartbeats 400000
namespace Go.Proofs.Ytdakoccbmeojhaa
open Go Go.RowKit Go.PP

/-- The cells of an own row. -/
theorem own_cell {w : World} {B : Nat} {e : TypeId} {a : Option Addr} {n c : Nat} {cs : List Value} (h : w.ownsRow B e 1 (.slice a n c) n cs) {i : Nat} (hi : i < n) :
    ∃ g u cur, a = some ⟨g, 0, none⟩ ∧ cs[i]? = some u ∧ w.cell? ⟨g, i, none⟩ = some u ∧ w.frozen? ⟨g, i, none⟩ = false ∧ w.heap[g]? = some (.cells cur e (0, 0)) ∧ B ≤ g := by
  obtain ⟨h1, h2⟩ := h
  rcases h2 with ⟨h3, h4⟩ | ⟨g, cap, cur, h3, hg, hh, hn, hm, hc, ht⟩
  · omega
  · simp only [Value.slice.injEq] at h3
    obtain ⟨rfl, -, rfl⟩ := h3
    have hu : cs[i]? = some (cs[i]'(by omega)) := by simp
    have hcur : cur[i]? = some (cs[i]'(by omega)) := by
      rw [← Array.getElem?_toList, ← hu, ← ht, List.getElem?_take, if_pos (by omega)]
    exact ⟨g, _, cur, rfl, hu, by simp [World.cell?, hh, hcur], by simp [World.frozen?, hh], hh, hg⟩

/-- A store into a block: an own row stays one, with this cell overwritten if it is the row's block. -/
theorem own_set {w : World} {B : Nat} {e : TypeId} {v : Value} {n : Nat} {cs : List Value} (h : w.ownsRow B e 1 v n cs) {g k : Nat} {u : Value} :
    (w.setCell ⟨g, k, none⟩ u).ownsRow B e 1 v n cs ∨ (v.ownBlock = some g ∧ (w.setCell ⟨g, k, none⟩ u).ownsRow B e 1 v n (cs.set k u)) := by
  by_cases hv : v.ownBlock = some g
  · refine .inr ⟨hv, ?_⟩
    obtain ⟨h1, h2⟩ := h
    refine ⟨by simpa using h1, ?_⟩
    rcases h2 with ⟨rfl, _⟩ | ⟨g', cap, cur, rfl, hg, hh, hn, hm, hc, ht⟩
    · simp [Value.ownBlock] at hv
    · simp [Value.ownBlock] at hv
      subst hv
      refine .inr ⟨g', cap, cur.setIfInBounds k u, rfl, hg, ?_, hn, hm, by simpa using hc, ?_⟩
      · simp [World.setCell, Array.getElem?_modify, hh]
      · rw [Array.toList_setIfInBounds, List.take_set, ht]
  · exact .inl (ownsRow_setCell_other h (by simpa using hv) u)
theorem own_set_ne {w : World} {B : Nat} {e e' : TypeId} {v : Value} {n : Nat} {cs : List Value} (h : w.ownsRow B e 1 v n cs) {g k : Nat} {u : Value} {cur : Array Value} (hg : w.heap[g]? = some (.cells cur e' (0, 0))) (hne : e ≠ e') :
    (w.setCell ⟨g, k, none⟩ u).ownsRow B e 1 v n cs := by
  rcases own_set h (g := g) (k := k) (u := u) with h1 | ⟨h1, -⟩
  · exact h1
  · obtain ⟨_, cur', h2⟩ := ownsRow_cells h h1
    rw [hg] at h2
    simp only [Option.some.injEq, Obj.cells.injEq] at h2
    exact absurd h2.2.1.symm hne

/-- A row of ints of this length. -/
def IntRow (B : Nat) (w : World) (v : Value) (n : Nat) : Prop := ∃ xs : List Int, w.ownsRow B 3 1 v n (xs.map (Value.int .i64))
def BoolRow (B : Nat) (w : World) (v : Value) (n : Nat) : Prop := ∃ xs : List Bool, w.ownsRow B 4 1 v n (xs.map Value.bool)
theorem IntRow.set {B : Nat} {w : World} {v : Value} {n : Nat} (h : IntRow B w v n) (g k : Nat) (x : Int) : IntRow B (w.setCell ⟨g, k, none⟩ (.int .i64 x)) v n := by
  obtain ⟨xs, h⟩ := h
  rcases own_set h (g := g) (k := k) (u := .int .i64 x) with h1 | ⟨-, h1⟩
  · exact ⟨xs, h1⟩
  · exact ⟨xs.set k x, by rw [List.map_set]; exact h1⟩
theorem BoolRow.set {B : Nat} {w : World} {v : Value} {n : Nat} (h : BoolRow B w v n) (g k : Nat) (x : Bool) : BoolRow B (w.setCell ⟨g, k, none⟩ (.bool x)) v n := by
  obtain ⟨xs, h⟩ := h
  rcases own_set h (g := g) (k := k) (u := .bool x) with h1 | ⟨-, h1⟩
  · exact ⟨xs, h1⟩
  · exact ⟨xs.set k x, by rw [List.map_set]; exact h1⟩
theorem IntRow.cell {B : Nat} {w : World} {a : Option Addr} {n c : Nat} (h : IntRow B w (.slice a n c) n) {i : Nat} (hi : i < n) :
    ∃ g x cur, a = some ⟨g, 0, none⟩ ∧ w.cell? ⟨g, i, none⟩ = some (.int .i64 x) ∧ w.frozen? ⟨g, i, none⟩ = false ∧ w.heap[g]? = some (.cells cur 3 (0, 0)) ∧ B ≤ g := by
  obtain ⟨xs, h⟩ := h
  obtain ⟨g, u, cur, h1, h2, h3, h4, h5, h6⟩ := own_cell h hi
  rw [List.getElem?_map] at h2
  obtain ⟨x, -, rfl⟩ := Option.map_eq_some_iff.1 h2
  exact ⟨g, x, cur, h1, h3, h4, h5, h6⟩
theorem BoolRow.cell {B : Nat} {w : World} {a : Option Addr} {n c : Nat} (h : BoolRow B w (.slice a n c) n) {i : Nat} (hi : i < n) :
    ∃ g x cur, a = some ⟨g, 0, none⟩ ∧ w.cell? ⟨g, i, none⟩ = some (.bool x) ∧ w.frozen? ⟨g, i, none⟩ = false ∧ w.heap[g]? = some (.cells cur 4 (0, 0)) ∧ B ≤ g := by
  obtain ⟨xs, h⟩ := h
  obtain ⟨g, u, cur, h1, h2, h3, h4, h5, h6⟩ := own_cell h hi
  rw [List.getElem?_map] at h2
  obtain ⟨x, -, rfl⟩ := Option.map_eq_some_iff.1 h2
  exact ⟨g, x, cur, h1, h3, h4, h5, h6⟩
theorem IntRow.open {B : Nat} {w : World} {v : Value} {n : Nat} (h : IntRow B w v n) : ∃ a c, v = .slice a n c := by
  obtain ⟨xs, h⟩ := h
  exact ownsRow_slice h

/-- The clone d while it is overwritten. -/
structure Dst (wd : World) (B bd : Nat) (d1 d2 d3 : Value) (n1 n2 : Nat) (vs : List Value) (ls : List Nat) (w : World) : Prop where
  fix : Mut (fun b => B ≤ b) wd w
  box : ∃ fz, w.heap[bd]? = some (.cells #[d1, d2, d3] 35 fz)
  r : IntRow B w d1 n1
  f : BoolRow B w d2 n2
  t : w.ownsRow B 22 1 d3 vs.length vs
  len : vs.length = ls.length
  rows : ∀ (j : Nat) u n, vs[j]? = some u → ls[j]? = some n → IntRow B w u n

theorem Dst.setI {wd : World} {B bd : Nat} {d1 d2 d3 : Value} {n1 n2 : Nat} {vs : List Value} {ls : List Nat} {w : World} (h : Dst wd B bd d1 d2 d3 n1 n2 vs ls w) {g k : Nat} {cur : Array Value} (hg : w.heap[g]? = some (.cells cur 3 (0, 0))) (hB : B ≤ g) (x : Int) :
    Dst wd B bd d1 d2 d3 n1 n2 vs ls (w.setCell ⟨g, k, none⟩ (.int .i64 x)) := by
  obtain ⟨fz, hb⟩ := h.box
  have hne : bd ≠ g := fun e => by
    subst e
    rw [hb] at hg
    simp at hg
  obtain ⟨bs, hf⟩ := h.f
  refine ⟨h.fix.setCell (fun _ => hB) _, ⟨fz, ?_⟩, h.r.set _ _ _, ⟨bs, own_set_ne hf hg (by decide)⟩, own_set_ne h.t hg (by decide), h.len, fun j u n h1 h2 => (h.rows j u n h1 h2).set _ _ _⟩
  rw [Below.heap_setCell _ _ _ _ (by simpa using hne)]; exact hb
theorem Dst.setB {wd : World} {B bd : Nat} {d1 d2 d3 : Value} {n1 n2 : Nat} {vs : List Value} {ls : List Nat} {w : World} (h : Dst wd B bd d1 d2 d3 n1 n2 vs ls w) {g k : Nat} {cur : Array Value} (hg : w.heap[g]? = some (.cells cur 4 (0, 0))) (hB : B ≤ g) (x : Bool) :
    Dst wd B bd d1 d2 d3 n1 n2 vs ls (w.setCell ⟨g, k, none⟩ (.bool x)) := by
  obtain ⟨fz, hb⟩ := h.box
  have hne : bd ≠ g := fun e => by
    subst e
    rw [hb] at hg
    simp at hg
  obtain ⟨rs, hr⟩ := h.r
  refine ⟨h.fix.setCell (fun _ => hB) _, ⟨fz, ?_⟩, ⟨rs, own_set_ne hr hg (by decide)⟩, h.f.set _ _ _, own_set_ne h.t hg (by decide), h.len, fun j u n h1 h2 => ?_⟩
  · rw [Below.heap_setCell _ _ _ _ (by simpa using hne)]; exact hb
  · obtain ⟨xs, hx⟩ := h.rows j u n h1 h2
    exact ⟨xs, own_set_ne hx hg (by decide)⟩
theorem IntRow.fix {B : Nat} {w w' : World} {v : Value} {n : Nat} (h : IntRow B w v n) (m : Fix w w') : IntRow B w' v n := by
  obtain ⟨xs, h⟩ := h
  exact ⟨xs, ownsRow_mut h m (by simp)⟩
theorem Dst.fixed {wd : World} {B bd : Nat} {d1 d2 d3 : Value} {n1 n2 : Nat} {vs : List Value} {ls : List Nat} {w w' : World} (h : Dst wd B bd d1 d2 d3 n1 n2 vs ls w) (m : Fix w w') : Dst wd B bd d1 d2 d3 n1 n2 vs ls w' := by
  obtain ⟨fz, hb⟩ := h.box
  obtain ⟨bs, hf⟩ := h.f
  exact ⟨h.fix.trans (m.mono (fun _ _ e => e.elim)), ⟨fz, m.heap hb (by simp)⟩, h.r.fix m, ⟨bs, ownsRow_mut hf m (by simp)⟩, ownsRow_mut h.t m (by simp), h.len, fun j u n h1 h2 => (h.rows j u n h1 h2).fix m⟩
theorem Dst.cells {wd : World} {B bd : Nat} {d1 d2 d3 : Value} {n1 n2 : Nat} {vs : List Value} {ls : List Nat} {w : World} (h : Dst wd B bd d1 d2 d3 n1 n2 vs ls w) : BoxA bd d1 d2 d3 w := by
  obtain ⟨fz, hb⟩ := h.box
  exact ⟨by simp [World.cell?, hb], by simp [World.cell?, hb], by simp [World.cell?, hb]⟩
theorem Dst.start {w6 : World} {B : Nat} {d1 d2 d3 : Value} {A : Au} (h : OwnA B w6 d1 d2 d3 A) : ∃ vs, vs.length = A.to.length ∧ Dst (w6.alloc (.cells #[d1, d2, d3] 35)) B w6.heap.size d1 d2 d3 A.ranks.length A.final.length vs (A.to.map List.length) (w6.alloc (.cells #[d1, d2, d3] 35)) := by
  obtain ⟨h1, h2, vs, h3⟩ := h
  have m := (Mut.refl (fun _ => False) w6).alloc (.cells #[d1, d2, d3] 35)
  refine ⟨vs, h3.len, Mut.refl _ _, ⟨(0, 0), heap_alloc_new w6 _⟩, ⟨_, ownsRow_mut h1 m (by simp)⟩, ⟨_, ownsRow_mut h2 m (by simp)⟩, ownsRow_mut h3.own m (by simp), by simpa using h3.len, fun j u n q1 q2 => ?_⟩
  rw [List.getElem?_map] at q2
  obtain ⟨r, hr, rfl⟩ := Option.map_eq_some_iff.1 q2
  exact ⟨r, ownsRow_mut (h3.rows j u r q1 hr) m (by simp)⟩
/-- A row's slot in the clone. -/
theorem Dst.row {wd : World} {B bd : Nat} {d1 d2 : Value} {a : Option Addr} {c n1 n2 : Nat} {vs : List Value} {ls : List Nat} {w : World} (h : Dst wd B bd d1 d2 (.slice a vs.length c) n1 n2 vs ls w) {i : Nat} (hi : i < vs.length) :
    ∃ g ra rc n, a = some ⟨g, 0, none⟩ ∧ ls[i]? = some n ∧ vs[i]? = some (.slice ra n rc) ∧ w.cell? ⟨g, i, none⟩ = some (.slice ra n rc) ∧ IntRow B w (.slice ra n rc) n := by
  obtain ⟨g, u, cur, h1, h2, h3, -⟩ := own_cell h.t hi
  have hn : ls[i]? = some (ls[i]'(by rw [← h.len]; exact hi)) := by simp
  have hr := h.rows i u _ h2 hn
  obtain ⟨ra, rc, rfl⟩ := hr.open
  exact ⟨g, ra, rc, _, h1, hn, h2, h3, hr⟩
end Go.Proofs.Ytdakoccbmeojhaa
