/- Contract of the automaton's Clone. Condition: an automaton in memory with lists of at most 4096 elements. -/
import Derived.Test.YtdakoccbmeojhaaWl
import Derived.Test.YtdakoccbmeojhaaWo
import Derived.Test.YtdakoccbmeojhaaTree
import Derived.Test.YtdakoccbmeojhaaOwnL
set_option linter.unusedSimpArgs false
set_option linter.unusedVariables false
set_option maxHeartbeats 400000
namespace Go.Proofs.Ytdakoccbmeojhaa
open Go Go.RowKit Go.PP

/-- A row of the call's own whose elements are rows of ints of the call's own. -/
structure RowsO (B : Nat) (w : World) (v : Value) (vs : List Value) (rss : List (List Int)) : Prop where
  own : w.ownsRow B 22 1 v vs.length vs
  len : vs.length = rss.length
  rows : ∀ (j : Nat) u r, vs[j]? = some u → rss[j]? = some r → w.ownsRow B 3 1 u r.length (r.map (Value.int .i64))

theorem RowsO.nil (B : Nat) (w : World) : RowsO B w (.slice none 0 0) [] [] := ⟨World.ownsRow_nil _ _ _ _, rfl, fun j u r h => by simp at h⟩

/-- Rows of different element types lie in different blocks. -/
theorem own_ne {w : World} {B B' : Nat} {e e' : TypeId} {sz sz' : Nat} {v v' : Value} {n n' : Nat} {cs cs' : List Value} (h : w.ownsRow B e sz v n cs) (h' : w.ownsRow B' e' sz' v' n' cs') (hne : e ≠ e') {k : Nat} (hk : v.ownBlock = some k) : v'.ownBlock ≠ some k := by
  intro hk'
  obtain ⟨_, cur, h1⟩ := ownsRow_cells h hk
  obtain ⟨_, cur', h2⟩ := ownsRow_cells h' hk'
  rw [h1] at h2
  simp only [Option.some.injEq, Obj.cells.injEq] at h2
  exact hne h2.2.1

theorem RowsO.mut {B : Nat} {S : Nat → Prop} {w w' : World} {v : Value} {vs : List Value} {rss : List (List Int)} (h : RowsO B w v vs rss) (m : Mut S w w') (hs : ∀ k, B ≤ k → k < w.heap.size → S k → ∀ cur e, w.heap[k]? = some (.cells cur e (0, 0)) → e ≠ 22 ∧ e ≠ 3) : RowsO B w' v vs rss := by
  refine ⟨ownsRow_mut h.own m (fun k hk hS => ?_), h.len, fun j u r h1 h2 => ownsRow_mut (h.rows j u r h1 h2) m (fun k hk hS => ?_)⟩
  · obtain ⟨hb, cur, hc⟩ := ownsRow_cells h.own hk
    exact (hs k hb (h.own.lt k hk).2 hS cur _ hc).1 rfl
  · obtain ⟨hb, cur, hc⟩ := ownsRow_cells (h.rows j u r h1 h2) hk
    exact (hs k hb ((h.rows j u r h1 h2).lt k hk).2 hS cur _ hc).2 rfl
theorem RowsO.fix {B : Nat} {w w' : World} {v : Value} {vs : List Value} {rss : List (List Int)} (h : RowsO B w v vs rss) (m : Fix w w') : RowsO B w' v vs rss := h.mut m (by simp)

theorem RowsO.push {B : Nat} {w w' : World} {v v' u : Value} {vs : List Value} {rss : List (List Int)} {r : List Int} (h : RowsO B w v vs rss) (hu : w.ownsRow B 3 1 u r.length (r.map (Value.int .i64)))
    (ho : w'.ownsRow B 22 1 v' (vs ++ [u]).length (vs ++ [u])) (hg : w.grownBy w' v.ownBlock) : RowsO B w' v' (vs ++ [u]) (rss ++ [r]) := by
  have keep : ∀ {u : Value} {r : List Int}, w.ownsRow B 3 1 u r.length (r.map (Value.int .i64)) → w'.ownsRow B 3 1 u r.length (r.map (Value.int .i64)) := fun {u r} h1 => by
    refine h1.kept hg ?_
    cases hk : u.ownBlock with
    | none => exact .inl rfl
    | some k => exact .inr (fun e => own_ne h1 h.own (by decide) hk e.symm)
  refine ⟨ho, by simp [h.len], fun j a b h1 h2 => ?_⟩
  rcases Nat.lt_trichotomy j vs.length with e | e | e
  · rw [List.getElem?_append_left e] at h1
    rw [List.getElem?_append_left (by rw [← h.len]; exact e)] at h2
    exact keep (h.rows j a b h1 h2)
  · subst e
    rw [List.getElem?_append_right (Nat.le_refl _)] at h1
    rw [h.len, List.getElem?_append_right (Nat.le_refl _)] at h2
    simp at h1 h2
    subst h1 h2
    exact keep hu
  · rw [List.getElem?_eq_none (by simp; omega)] at h1; cases h1

theorem ints_of_own {B : Nat} {w : World} {e : TypeId} {v : Value} {xs : List Int} (h : w.ownsRow B e 1 v xs.length (xs.map (Value.int .i64))) {M : Nat → Prop} (hM : ∀ b, B ≤ b → ¬ M b) : Ints M w v xs :=
  SliceIn.of_owns (by simpa using h) hM
theorem bools_of_own {B : Nat} {w : World} {e : TypeId} {v : Value} {xs : List Bool} (h : w.ownsRow B e 1 v xs.length (xs.map Value.bool)) {M : Nat → Prop} (hM : ∀ b, B ≤ b → ¬ M b) : Bools M w v xs :=
  SliceIn.of_owns (by simpa using h) hM
theorem RowsO.ints {B : Nat} {w : World} {v : Value} {vs : List Value} {rss : List (List Int)} (h : RowsO B w v vs rss) {M : Nat → Prop} (hM : ∀ b, B ≤ b → ¬ M b) : IntsL M w v rss :=
  ⟨vs, SliceIn.of_owns h.own hM, h.len, fun j u r h1 h2 => ints_of_own (h.rows j u r h1 h2) hM⟩

/-- An automaton in rows of the call's own. -/
structure OwnA (B : Nat) (w : World) (v1 v2 v3 : Value) (A : Au) : Prop where
  r : w.ownsRow B 3 1 v1 A.ranks.length (A.ranks.map (Value.int .i64))
  f : w.ownsRow B 4 1 v2 A.final.length (A.final.map Value.bool)
  t : ∃ vs, RowsO B w v3 vs A.to
theorem OwnA.au {B : Nat} {w : World} {v1 v2 v3 : Value} {A : Au} (h : OwnA B w v1 v2 v3 A) {M : Nat → Prop} (hM : ∀ b, B ≤ b → ¬ M b) : AuIn M w v1 v2 v3 A := by
  obtain ⟨h1, h2, vs, h3⟩ := h
  exact ⟨ints_of_own h1 hM, bools_of_own h2 hM, h3.ints hM⟩

theorem own_base {w : World} {B B' : Nat} {e : TypeId} {sz : Nat} {v : Value} {n : Nat} {cs : List Value} (h : w.ownsRow B e sz v n cs) (hB : B' ≤ B) : w.ownsRow B' e sz v n cs := by
  obtain ⟨h1, h2⟩ := h
  refine ⟨h1, ?_⟩
  rcases h2 with h | ⟨g, cap, cur, q1, q2, q3⟩
  · exact .inl h
  · exact .inr ⟨g, cap, cur, q1, by omega, q3⟩

theorem copy_own {α : Type} {w w' : World} {el : TypeId} {f : α → Value} {xs : List α} {e : Ending} (h : CopyPost w el (xs.map f) e w') (B : Nat) (hB : B ≤ w.heap.size) :
    ∃ a c, e = .returned (.slice a xs.length c) ∧ w'.ownsRow B el 1 (.slice a xs.length c) xs.length (xs.map f) ∧ (∀ k, (Value.slice a xs.length c).ownBlock = some k → w.heap.size ≤ k ∧ k < w'.heap.size) ∧ Fix w w' := by
  obtain ⟨v, rfl, h1, h2⟩ := h
  rw [List.length_map] at h1
  obtain ⟨a, c, rfl⟩ := ownsRow_slice h1
  exact ⟨a, c, rfl, own_base h1 hB, h1.lt, h2⟩

/-- What holds between the first statement of Clone and its loop. -/
structure Cl0 (wb : World) (g : Nat) (v1 v2 : Value) (A : Au) (w : World) : Prop where
  fix : Fix wb w
  lo : wb.heap.size ≤ g
  box : BoxA g v1 v2 (.slice none 0 0) w
  fr : w.frozen? ⟨g, 2, none⟩ = false
  r : w.ownsRow wb.heap.size 3 1 v1 A.ranks.length (A.ranks.map (Value.int .i64))
  f : w.ownsRow wb.heap.size 4 1 v2 A.final.length (A.final.map Value.bool)
  n1 : v1.ownBlock ≠ some g
  n2 : v2.ownBlock ≠ some g

theorem cl0_leaf {wb w : World} {g : Nat} {v1 v2 : Value} {A : Au} (hv : Var 3 wb (.pointer (some ⟨g, 0, none⟩)) w) (fix : Fix wb w) (r : w.ownsRow wb.heap.size 3 1 v1 A.ranks.length (A.ranks.map (Value.int .i64)))
    (f : w.ownsRow wb.heap.size 4 1 v2 A.final.length (A.final.map Value.bool)) (n1 : v1.ownBlock ≠ some g) (n2 : v2.ownBlock ≠ some g) :
    Cl0 wb g v1 v2 A (((w.setCell ⟨g, 0, none⟩ v1).setCell ⟨g, 1, none⟩ v2).setCell ⟨g, 2, none⟩ (.slice none 0 0)) := by
  obtain ⟨hM, hV, hH⟩ := store3 w g 3 wb v1 v2 (.slice none 0 0) hv (by omega)
  obtain ⟨b, cs, h1, h2, h3⟩ := hH
  simp only [Value.pointer.injEq, Option.some.injEq, Addr.mk.injEq, and_true] at h1
  subst h1
  simp only [Value.agg.injEq] at h2
  subst h2
  have hlo : wb.heap.size ≤ g := by
    obtain ⟨b, _, _, e, hb, _⟩ := hv
    simp only [Value.pointer.injEq, Option.some.injEq, Addr.mk.injEq, and_true] at e
    omega
  obtain ⟨x2, d2, f2⟩ := hV.cell (i := 2) (by omega)
  refine ⟨?_, hlo, ⟨h3 0 _ rfl, h3 1 _ rfl, h3 2 _ rfl⟩, f2, ownsRow_mut r hM (fun k hk e => ?_), ownsRow_mut f hM (fun k hk e => ?_), n1, n2⟩
  · exact fix.trans' hM (fun i hi e => by
      simp only [Value.pointer.injEq, Option.some.injEq, Addr.mk.injEq, and_true] at e
      omega)
  · simp only [Value.pointer.injEq, Option.some.injEq, Addr.mk.injEq, and_true] at e
    exact n1 (by rw [hk, e])
  · simp only [Value.pointer.injEq, Option.some.injEq, Addr.mk.injEq, and_true] at e
    exact n2 (by rw [hk, e])

/-- What holds inside the loop of Clone. -/
structure Cl1 (wc : World) (g : Nat) (v1 v2 v3 : Value) (vs : List Value) (rss : List (List Int)) (w : World) : Prop where
  fix : Mut (fun b => b = g) wc w
  c0 : w.cell? ⟨g, 0, none⟩ = some v1
  c1 : w.cell? ⟨g, 1, none⟩ = some v2
  c2 : w.cell? ⟨g, 2, none⟩ = some v3
  fr : w.frozen? ⟨g, 2, none⟩ = false
  rows : RowsO wc.heap.size w v3 vs rss

theorem Cl1.fixed {wc : World} {g : Nat} {v1 v2 v3 : Value} {vs : List Value} {rss : List (List Int)} {w w' : World} (h : Cl1 wc g v1 v2 v3 vs rss w) (m : Fix w w') : Cl1 wc g v1 v2 v3 vs rss w' :=
  ⟨h.fix.trans (m.mono (fun _ _ e => e.elim)), m.cell h.c0 (by simp), m.cell h.c1 (by simp), m.cell h.c2 (by simp), (m.frozen (World.block_lt_of_cell? _ _ h.c2) (by simp)).trans h.fr, h.rows.fix m⟩

def CloPost (w : World) (A : Au) (e : Ending) (w' : World) : Prop := ∃ v1 v2 v3, e = .returned (.agg #[v1, v2, v3]) ∧ OwnA w.heap.size w' v1 v2 v3 A ∧ Fix w w'

theorem info22 : (Try.prog.info? 22).map (fun i => (i.zero, i.size, i.bytes)) = some (some (.slice none 0 0), 1, 24) := by kernel_rfl

set_option maxRecDepth 8000 in
set_option maxHeartbeats 8000000 in
theorem clone_any (A : Au) (v1 v2 v3 : Value) (w : World) (hA : AuIn (fun _ => False) w v1 v2 v3 A) (l1 : A.ranks.length ≤ 4096) (l2 : A.final.length ≤ 4096) (l3 : A.to.length ≤ 4096) (l4 : ∀ l ∈ A.to, l.length ≤ 4096) :
    Calls Try.prog 27 #[.agg #[v1, v2, v3]] w (CloPost w A) := by
  have hA0 := Lib.hid hA
  obtain ⟨a1, c1, a2, c2, a3, c3, rfl, rfl, rfl, -, -, -⟩ := hA.open
  clear hA
  have hX := BoxA.mk' w (.slice a1 A.ranks.length c1) (.slice a2 A.final.length c2) (.slice a3 A.to.length c3) 35
  have hm1 := (Mut.refl (fun _ => False) w).alloc (.cells #[.slice a1 A.ranks.length c1, .slice a2 A.final.length c2, .slice a3 A.to.length c3] 35)
  have hX2 := hX.fix ((Mut.refl (fun _ => False) _).alloc (.cells #[.slice none 0 0, .slice none 0 0, .slice none 0 0] 35))
  have hm2 := hm1.alloc (.cells #[.slice none 0 0, .slice none 0 0, .slice none 0 0] 35)
  have hR := BoxA.mk' (w.alloc (.cells #[.slice a1 A.ranks.length c1, .slice a2 A.final.length c2, .slice a3 A.to.length c3] 35)) (.slice none 0 0) (.slice none 0 0) (.slice none 0 0) 35
  rw [show (w.alloc (.cells #[.slice a1 A.ranks.length c1, .slice a2 A.final.length c2, .slice a3 A.to.length c3] 35)).heap.size = w.heap.size + 1 from by simp] at hR
  have hz : ((w.alloc (.cells #[.slice a1 A.ranks.length c1, .slice a2 A.final.length c2, .slice a3 A.to.length c3] 35)).alloc (.cells #[.slice none 0 0, .slice none 0 0, .slice none 0 0] 35)).heap.size = w.heap.size + 2 := by simp
  have hfr : ∀ i, ((w.alloc (.cells #[.slice a1 A.ranks.length c1, .slice a2 A.final.length c2, .slice a3 A.to.length c3] 35)).alloc (.cells #[.slice none 0 0, .slice none 0 0, .slice none 0 0] 35)).frozen? ⟨w.heap.size + 1, i, none⟩ = false := fun i => by go_simp
  have hA1 := Lib.hid (hA0.out.fix hm2)
  replace hX2 := Lib.hid hX2
  replace hR := Lib.hid hR
  replace hz := Lib.hid hz
  replace hfr := Lib.hid hfr
  replace hm2 := Lib.hid hm2
  replace l4 := Lib.hid l4
  clear hX hm1
  have hcp1 := Lib.hid (fun w1 (hm : Fix _ w1) => copy59 (.slice a1 A.ranks.length c1) (A.ranks.map (Value.int .i64)) w1 (hA1.out.r.fix hm) (by simpa using l1) (fun u hu => by obtain ⟨b, _, rfl⟩ := List.mem_map.1 hu; rfl))
  have hcp2 := Lib.hid (fun w1 (hm : Fix _ w1) => copy60 (.slice a2 A.final.length c2) (A.final.map Value.bool) w1 (hA1.out.f.fix hm) (by simpa using l2) (fun u hu => by obtain ⟨b, _, rfl⟩ := List.mem_map.1 hu; rfl))
  go_enter Try.func27, Try.ntmps27
  go_wp2
  generalize ((w.alloc (.cells #[.slice a1 A.ranks.length c1, .slice a2 A.final.length c2, .slice a3 A.to.length c3] 35)).alloc (.cells #[.slice none 0 0, .slice none 0 0, .slice none 0 0] 35)) = wb at *
  have hne : Nonempty (Cls (Fix wb)) := Cls.ne (Mut.refl _ wb)
  obtain ⟨k0, k1, k2⟩ := hX2.out
  refine wp_tree (Fix wb) [0, 1, 2, 3, 4, 7] (.take [0, 1, 3, 4] (.two 2 7 (.two 5 7 (.two 6 7 (.one 7 (.seq [8])) (.seq [6, 8])) (.seq [5, 6, 8])) (.one 2 (.seq [5, 6, 8]))))
    (fun a a' w' => ∃ g v1 v2, a' = putAll a [6, 7, 8, 9, 10, 11, 12, 3] [.pointer (some ⟨w.heap.size, 0, none⟩), .slice a1 A.ranks.length c1, v1, .pointer (some ⟨w.heap.size, 1, none⟩), .slice a2 A.final.length c2, v2, .agg #[v1, v2, .slice none 0 0], .pointer (some ⟨g, 0, none⟩)] ∧ Cl0 wb g v1 v2 A w') (by kernel_rfl) (by kernel_rfl) ?_ ?_
  · simp only [wpTree, pickOps_cons, pickOps_nil, List.getElem?_cons_zero, List.getElem?_cons_succ, pickOp_some]
    refine ⟨Of.mk (Mut.refl _ wb).drew, ?_⟩
    have s0 := fun x : Cls (Fix wb) => x.ok.cell k0 (by simp)
    have s1 := fun x : Cls (Fix wb) => x.ok.cell k1 (by simp)
    repeat (go_big_quiet_step (fail))
    refine wpQuiet_nil ?_
    clear s0 s1
    have hwb : Fix wb wb.drew := (Mut.refl _ wb).drew
    replace hwb := Lib.hid hwb
    have hnil := heap_alloc_new
    clear hnil
    refine ⟨?_, ?_⟩
    · go_wp2_with fail
      refine (hcp1.out _ hwb.out).mono ?_
      intro e w2 hcp
      obtain ⟨x1, y1, rfl, o1, N1, m2⟩ := copy_own hcp wb.heap.size hwb.out.size
      clear hcp
      have Fw2 := Lib.hid (hwb.out.trans m2)
      replace o1 := Lib.hid o1
      replace N1 := Lib.hid N1
      clear m2
      go_wp2
      refine ⟨fun _ => Of.mk Fw2.out, ?_⟩
      refine ⟨?_, ?_⟩
      · go_wp2_with fail
        refine (hcp2.out _ Fw2.out).mono ?_
        intro e w3 hcp
        obtain ⟨x2, y2, rfl, o2, N2, m5⟩ := copy_own hcp wb.heap.size Fw2.out.size
        clear hcp
        have Fw3 := Lib.hid (Fw2.out.trans m5)
        have P1 := Lib.hid (ownsRow_mut o1.out m5 (by simp))
        have P2 := Lib.hid o2
        have E1 := Lib.hid (show ∀ k, (Value.slice x1 A.ranks.length y1).ownBlock = some k → k < w3.heap.size from fun k hk => Nat.lt_of_lt_of_le (N1.out k hk).2 m5.size)
        have E2 := Lib.hid (fun k hk => (N2 k hk).2)
        clear o1 o2 N1 N2 m5
        go_wp2
        refine ⟨fun _ => Of.mk Fw3.out, ?_⟩
        refine ⟨?_, ?_⟩
        · have hv0 := Var.alloc 3 wb w3 #[.slice none 0 0, .slice none 0 0, .slice none 0 0] 35 Fw3.out.size rfl
          have FF := Lib.hid (Fw3.out.alloc (.cells #[.slice none 0 0, .slice none 0 0, .slice none 0 0] 35))
          have Q1 := Lib.hid (ownsRow_mut P1.out ((Mut.refl (fun _ => False) _).alloc (.cells #[.slice none 0 0, .slice none 0 0, .slice none 0 0] 35)) (by simp))
          have Q2 := Lib.hid (ownsRow_mut P2.out ((Mut.refl (fun _ => False) _).alloc (.cells #[.slice none 0 0, .slice none 0 0, .slice none 0 0] 35)) (by simp))
          have NE1 : (Value.slice x1 A.ranks.length y1).ownBlock ≠ some w3.heap.size := fun e => by have := E1.out _ e; omega
          have NE2 : (Value.slice x2 A.final.length y2).ownBlock ≠ some w3.heap.size := fun e => by have := E2.out _ e; omega
          obtain ⟨z0, d0, f0⟩ := hv0.cell (i := 0) (by omega)
          obtain ⟨z1, d1, f1⟩ := hv0.cell (i := 1) (by omega)
          obtain ⟨z2, d2, f2⟩ := hv0.cell (i := 2) (by omega)
          have H := Lib.hid (cl0_leaf hv0 FF.out Q1.out Q2.out NE1 NE2)
          have FX := Lib.hid FF.out
          clear hv0 FF Q1 Q2 NE1 NE2 P1 P2 E1 E2
          go_wp2
          refine ⟨fun h => absurd h (by decide), ?_⟩
          go_wp2
          refine ⟨fun _ => Of.mk FX.out, ?_⟩
          generalize w3.alloc (.cells #[.slice none 0 0, .slice none 0 0, .slice none 0 0] 35) = w4 at *
          go_wp2
          exact ⟨rfl, _, _, _, rfl, H.out⟩
        · have hv0 := Var.alloc 3 wb w3 #[.slice none 0 0, .slice none 0 0, .slice none 0 0] 35 Fw3.out.size rfl
          have FF := Lib.hid (Fw3.out.alloc (.cells #[.slice none 0 0, .slice none 0 0, .slice none 0 0] 35))
          have Q1 := Lib.hid (ownsRow_mut P1.out ((Mut.refl (fun _ => False) _).alloc (.cells #[.slice none 0 0, .slice none 0 0, .slice none 0 0] 35)) (by simp))
          have Q2 := Lib.hid (ownsRow_mut P2.out ((Mut.refl (fun _ => False) _).alloc (.cells #[.slice none 0 0, .slice none 0 0, .slice none 0 0] 35)) (by simp))
          have NE1 : (Value.slice x1 A.ranks.length y1).ownBlock ≠ some w3.heap.size := fun e => by have := E1.out _ e; omega
          have NE2 : (Value.slice x2 A.final.length y2).ownBlock ≠ some w3.heap.size := fun e => by have := E2.out _ e; omega
          obtain ⟨z0, d0, f0⟩ := hv0.cell (i := 0) (by omega)
          obtain ⟨z1, d1, f1⟩ := hv0.cell (i := 1) (by omega)
          obtain ⟨z2, d2, f2⟩ := hv0.cell (i := 2) (by omega)
          have H := Lib.hid (cl0_leaf hv0 FF.out Q1.out Q2.out NE1 NE2)
          have FX := Lib.hid FF.out
          clear hv0 FF Q1 Q2 NE1 NE2 P1 P2 E1 E2
          go_wp2
          refine ⟨fun _ => Of.mk FX.out, ?_⟩
          generalize w3.alloc (.cells #[.slice none 0 0, .slice none 0 0, .slice none 0 0] 35) = w4 at *
          go_wp2
          exact ⟨rfl, _, _, _, rfl, H.out⟩
      · have F2a := Lib.hid (Fw2.out.alloc (.cells #[.slice none 0 0, .slice none 0 0, .slice none 0 0] 35))
        have hv0 := Lib.hid (Var.alloc 3 wb w2 #[.slice none 0 0, .slice none 0 0, .slice none 0 0] 35 Fw2.out.size rfl)
        have O1 := Lib.hid (ownsRow_mut o1.out ((Mut.refl (fun _ => False) _).alloc (.cells #[.slice none 0 0, .slice none 0 0, .slice none 0 0] 35)) (by simp))
        have NE1 := Lib.hid (show (Value.slice x1 A.ranks.length y1).ownBlock ≠ some w2.heap.size from fun e => by have := (N1.out _ e).2; omega)
        clear o1 N1
        go_wp2
        refine ⟨fun _ => Of.mk F2a.out, ?_⟩
        go_wp2_with fail
        refine (hcp2.out _ F2a.out).mono ?_
        intro e w3 hcp
        obtain ⟨x2, y2, rfl, o2, N2, m5⟩ := copy_own hcp wb.heap.size F2a.out.size
        clear hcp
        have Fw3 := Lib.hid (F2a.out.trans m5)
        have P1 := Lib.hid (ownsRow_mut O1.out m5 (by simp))
        have P2 := Lib.hid o2
        have NE2 := Lib.hid (show (Value.slice x2 A.final.length y2).ownBlock ≠ some w2.heap.size from fun e => by have := (N2 _ e).1; simp at this; omega)
        have hV := hv0.out.fix m5
        obtain ⟨z0, d0, f0⟩ := hV.cell (i := 0) (by omega)
        obtain ⟨z1, d1, f1⟩ := hV.cell (i := 1) (by omega)
        obtain ⟨z2, d2, f2⟩ := hV.cell (i := 2) (by omega)
        have H := Lib.hid (cl0_leaf hV Fw3.out P1.out P2.out NE1.out NE2.out)
        clear hV hv0 P1 P2 NE1 NE2 O1 o2 N2 m5
        go_wp2
        exact ⟨rfl, _, _, _, rfl, H.out⟩
    · have F1a := Lib.hid (hwb.out.alloc (.cells #[.slice none 0 0, .slice none 0 0, .slice none 0 0] 35))
      have hv0 := Lib.hid (show Var 3 wb (.pointer (some ⟨wb.heap.size, 0, none⟩)) (wb.drew.alloc (.cells #[.slice none 0 0, .slice none 0 0, .slice none 0 0] 35)) from Var.alloc 3 wb wb.drew #[.slice none 0 0, .slice none 0 0, .slice none 0 0] 35 (Nat.le_refl _) rfl)
      go_wp2
      refine ⟨fun _ => Of.mk F1a.out, ?_⟩
      go_wp2_with fail
      refine (hcp1.out _ F1a.out).mono ?_
      intro e w2 hcp
      obtain ⟨x1, y1, rfl, o1, N1, m2⟩ := copy_own hcp wb.heap.size F1a.out.size
      clear hcp
      have Fw2 := Lib.hid (F1a.out.trans m2)
      have hv1 := Lib.hid (hv0.out.fix m2)
      have NE1 := Lib.hid (show (Value.slice x1 A.ranks.length y1).ownBlock ≠ some wb.heap.size from fun e => by have := (N1 _ e).1; simp at this; omega)
      replace o1 := Lib.hid o1
      have hzz := Lib.hid Fw2.out.size
      clear m2 N1 hv0
      go_wp2
      refine ⟨fun _ => Of.mk Fw2.out, ?_⟩
      go_wp2_with fail
      refine (hcp2.out _ Fw2.out).mono ?_
      intro e w3 hcp
      obtain ⟨x2, y2, rfl, o2, N2, m5⟩ := copy_own hcp wb.heap.size Fw2.out.size
      clear hcp
      have Fw3 := Lib.hid (Fw2.out.trans m5)
      have P1 := Lib.hid (ownsRow_mut o1.out m5 (by simp))
      have P2 := Lib.hid o2
      have NE2 := Lib.hid (show (Value.slice x2 A.final.length y2).ownBlock ≠ some wb.heap.size from fun e => by
        have h1 := (N2 _ e).1
        have h2 := hv1.out.lt
        omega)
      have hV := hv1.out.fix m5
      obtain ⟨z0, d0, f0⟩ := hV.cell (i := 0) (by omega)
      obtain ⟨z1, d1, f1⟩ := hV.cell (i := 1) (by omega)
      obtain ⟨z2, d2, f2⟩ := hV.cell (i := 2) (by omega)
      have H := Lib.hid (cl0_leaf hV Fw3.out P1.out P2.out NE1.out NE2.out)
      clear hV hv1 P1 P2 NE1 NE2 o1 o2 N2 m5 hzz
      go_wp2
      exact ⟨rfl, _, _, _, rfl, H.out⟩
  · rintro a' wc ⟨g, v1, v2, rfl, hC⟩
    have hC0 := Lib.hid hC
    obtain ⟨x1, y1, rfl⟩ := ownsRow_slice hC.r
    obtain ⟨x2, y2, rfl⟩ := ownsRow_slice hC.f
    have k2' := hC.fix.cell k2 (by simp)
    have hlo := hC.lo
    have hS0 := Lib.hid (show Cl1 wc g (.slice x1 A.ranks.length y1) (.slice x2 A.final.length y2) (.slice none 0 0) [] (A.to.take 0) wc from ⟨Mut.refl _ _, hC.box.c0, hC.box.c1, hC.box.c2, hC.fr, RowsO.nil _ _⟩)
    clear hC k0 k1 k2 hcp1 hcp2 hX2
    simp only [putAll]
    go_wp2
    go_loopw [16] (fun i wr => ∃ (j : Nat) (v : Value) (vs : List Value), j ≤ A.to.length ∧ i = .int .i64 j ∧ Cl1 wc g (.slice x1 A.ranks.length y1) (.slice x2 A.final.length y2) v vs (A.to.take j) wr) (fun i _ => A.to.length - (intOf i).toNat)
    case atStart => exact ⟨0, _, [], by omega, rfl, hS0.out⟩
    case round =>
      obtain ⟨j, v, vs, hj, rfl, hS1⟩ := hrel
      have hz1 : wb.heap.size ≤ w.heap.size + 2 := by rw [hz.out]; omega
      have hz2 : w.heap.size + 2 ≤ wb.heap.size := by rw [hz.out]; omega
      by_cases hlt : j < A.to.length
      · obtain ⟨b, off, ra, rc, xs, rfl, hx, hxl, hcx, hrx⟩ := hA1.out.t.row (Mut.refl _ _) hlt
        have hbl : b < wb.heap.size := World.block_lt_of_cell? _ _ hcx
        have hcx1 := hS1.fix.cell (hC0.out.fix.cell hcx (by simp)) (by show ¬ b = g; omega)
        have hk2 := hS1.fix.cell k2' (by show ¬ w.heap.size = g; omega)
        have hgc := World.block_lt_of_cell? _ _ hC0.out.box.c0
        have hgc : g < wc.heap.size := hgc
        have hxs : xs.length ≤ 4096 := l4.out xs (List.mem_of_getElem? hx)
        have hsn := Lib.hid (show A.to.take (j + 1) = A.to.take j ++ [xs] by
          obtain ⟨hk, hh⟩ := List.getElem?_eq_some_iff.1 hx
          rw [List.take_succ_eq_append_getElem hk, hh])
        have hrow := Lib.hid (show Ints (fun _ => False) wr (.slice ra xs.length rc) xs from (((hrx.mono (M' := fun b => b = g) (fun b hb e => by omega)).mut hC0.out.fix (by simp)).mut hS1.fix (fun _ _ e => e)).mono (fun _ _ e => e.elim))
        have hvl : vs.length < 1099511627776 := by
          have := hS1.rows.len
          rw [List.length_take] at this
          omega
        have hS := Lib.hid (hS1.fixed (Mut.refl _ wr).drew)
        have hne := Cls.ne hS.out
        have hzr := hS1.fix.size
        replace hx := Lib.hid hx
        clear hrx hcx
        obtain ⟨va, vc, rfl⟩ := ownsRow_slice hS1.rows.own
        clear hS1
        go_wp2
        refine wp_plan (Cl1 wc g (.slice x1 A.ranks.length y1) (.slice x2 A.final.length y2) (.slice va vs.length vc) vs (A.to.take j)) [0, 1, 2, 3, 4] [([0, 1, 2], some 3), ([], some 4)] [5, 6, 7] (by kernel_rfl) (by kernel_rfl) ?_
        refine ⟨Of.mk hS.out, ?_⟩
        simp only [wpPlan, pickOps_cons, pickOps_nil, List.getElem?_cons_zero, List.getElem?_cons_succ, pickOp_some]
        have s0 := fun x : Cls (Cl1 wc g (.slice x1 A.ranks.length y1) (.slice x2 A.final.length y2) (.slice va vs.length vc) vs (A.to.take j)) => x.ok.c2
        repeat (go_big_quiet_step (fail))
        refine wpQuiet_nil ?_
        clear s0
        go_wp2_with fail
        refine (copy61 (.slice ra xs.length rc) (xs.map (Value.int .i64)) _ (hrow.out.fix (Mut.refl _ _).drew) (by simpa using hxs) (fun u hu => by obtain ⟨b, _, rfl⟩ := List.mem_map.1 hu; rfl)).mono ?_
        intro e w2 hcp
        obtain ⟨rx, ry, rfl, o1, N1, m1⟩ := copy_own hcp wc.heap.size (by simpa using hzr)
        clear hcp hrow
        have hS2 := Lib.hid (hS.out.fixed m1)
        replace o1 := Lib.hid o1
        clear hS N1 m1
        go_wp2
        refine ⟨fun _ => Of.mk hS2.out, Of.mk hS2.out, wpQuiet_nil ?_⟩
        have hS3 := Lib.hid (hS2.out.fixed ((Mut.refl _ w2).alloc (.cells #[.slice rx xs.length ry] 22)))
        have o2 := Lib.hid (ownsRow_mut o1.out ((Mut.refl (fun _ => False) w2).alloc (.cells #[.slice rx xs.length ry] 22)) (by simp))
        have hzz := Lib.hid hS2.out.fix.size
        have hbx := Lib.hid (show (w2.alloc (.cells #[.slice rx xs.length ry] 22)).cell? ⟨w2.heap.size, 0, none⟩ = some (.slice rx xs.length ry) from by simp only [World.cell?]; rw [heap_alloc_new]; rfl)
        clear o1
        go_wp2
        refine ⟨fun _ => Of.mk hS3.out, ?_⟩
        have hkeep := Lib.hid (fun w5 (hg : (w2.alloc (.cells #[.slice rx xs.length ry] 22)).grownBy w5 (Value.slice va vs.length vc).ownBlock) => show w5.cell? ⟨g, 2, none⟩ = some (.slice va vs.length vc) ∧ w5.frozen? ⟨g, 2, none⟩ = false ∧ w5.cell? ⟨g, 0, none⟩ = some (.slice x1 A.ranks.length y1) ∧ w5.cell? ⟨g, 1, none⟩ = some (.slice x2 A.final.length y2) from by
          have hM := (Mut.refl (fun k => (Value.slice va vs.length vc).ownBlock = some k) _).grown hg (fun k hk _ => hk)
          have hnb : ¬ (Value.slice va vs.length vc).ownBlock = some g := fun e => by have := (hS3.out.rows.own.lt _ e).1; omega
          exact ⟨hM.cell hS3.out.c2 hnb, (hM.frozen (World.block_lt_of_cell? _ _ hS3.out.c2) hnb).trans hS3.out.fr, hM.cell hS3.out.c0 hnb, hM.cell hS3.out.c1 hnb⟩)
        go_wp2_with (at_builtin; refine wpList_push rfl _ _ 24 rfl Try.underlying24 info22 rfl (.slice va vs.length vc) vs (.slice rx xs.length ry) rfl hS3.out.rows.own _ rfl (by exact hbx.out) rfl hvl (by decide) (by have := hzz.out; simp; omega) ?_; intro v5 w5 ho5 hg5 hb5; obtain ⟨a5, c5, rfl⟩ := ownsRow_slice ho5; obtain ⟨e1, e2, e3, e4⟩ := hkeep.out w5 hg5)
        have hE := Lib.hid (show Cl1 wc g (.slice x1 A.ranks.length y1) (.slice x2 A.final.length y2) (.slice a5 (vs ++ [Value.slice rx xs.length ry]).length c5) (vs ++ [Value.slice rx xs.length ry]) (A.to.take j ++ [xs]) (w5.setCell ⟨g, 2, none⟩ (.slice a5 (vs ++ [Value.slice rx xs.length ry]).length c5)) from by
          have hrw := hS3.out.rows.push o2.out ho5 hg5
          have hM := (Mut.refl (fun b => b = g) w5).setCell (p := ⟨g, 2, none⟩) (fun _ => rfl) (.slice a5 (vs ++ [Value.slice rx xs.length ry]).length c5)
          refine ⟨(hS3.out.fix.grown hg5 (fun k hk h => by have := (hS3.out.rows.own.lt k hk).1; omega)).trans hM, ?_, ?_, World.cell?_setCell_same _ _ _ e1, by simpa using e2, hrw.mut hM (fun k hk _ e => by omega)⟩
          · rw [World.cell?_setCell_other _ _ _ _ (by simp)]; exact e3
          · rw [World.cell?_setCell_other _ _ _ _ (by simp)]; exact e4)
        clear ho5 hg5 hb5 hS3 hS2 o2 hkeep e3 e4
        go_wp2
        refine NoPanic.normal ?_
        go_wp2
        go_roundw
        case rel => exact ⟨j + 1, _, _, by omega, by go_num, by rw [hsn.out]; have h := hE.out; rw [show (vs ++ [Value.slice rx xs.length ry]).length = vs.length + 1 from by simp] at h; exact h⟩
        case measure => simp [intOf]; omega
      · obtain rfl : j = A.to.length := by omega
        have hrw := hS1.rows
        rw [List.take_length] at hrw
        obtain ⟨va, vc, rfl⟩ := ownsRow_slice hrw.own
        have hgc : g < wc.heap.size := World.block_lt_of_cell? _ _ hC0.out.box.c0
        have ho0 := hS1.c0
        have ho1 := hS1.c1
        have ho2 := hS1.c2
        have key : ∀ i x, wb.cell? ⟨w.heap.size + 1, i, none⟩ = some x → wr.cell? ⟨w.heap.size + 1, i, none⟩ = some x := fun i x hx => hS1.fix.cell (hC0.out.fix.cell hx (by simp)) (by show ¬ w.heap.size + 1 = g; omega)
        have keyf : ∀ i, wr.frozen? ⟨w.heap.size + 1, i, none⟩ = false := fun i => ((hS1.fix.frozen (by have := hC0.out.fix.size; show w.heap.size + 1 < wc.heap.size; omega) (by show ¬ w.heap.size + 1 = g; omega)).trans (hC0.out.fix.frozen (by show w.heap.size + 1 < wb.heap.size; omega) (by simp))).trans (hfr.out i)
        have hr0 := key 0 _ hR.out.c0
        have hr1 := key 1 _ hR.out.c1
        have hr2 := key 2 _ hR.out.c2
        have hf0 := keyf 0
        have hf1 := keyf 1
        have hf2 := keyf 2
        have hE : CloPost w A (.returned (.agg #[.slice x1 A.ranks.length y1, .slice x2 A.final.length y2, .slice va vs.length vc])) (((wr.setCell ⟨w.heap.size + 1, 0, none⟩ (.slice x1 A.ranks.length y1)).setCell ⟨w.heap.size + 1, 1, none⟩ (.slice x2 A.final.length y2)).setCell ⟨w.heap.size + 1, 2, none⟩ (.slice va vs.length vc)) := by
          have hM := (((Mut.refl (fun b => b = w.heap.size + 1) wr).setCell (p := ⟨w.heap.size + 1, 0, none⟩) (fun _ => rfl) (.slice x1 A.ranks.length y1)).setCell (p := ⟨w.heap.size + 1, 1, none⟩) (fun _ => rfl) (.slice x2 A.final.length y2)).setCell (p := ⟨w.heap.size + 1, 2, none⟩) (fun _ => rfl) (.slice va vs.length vc)
          have hMM := hS1.fix.mono (S' := fun b => b = g ∨ b = w.heap.size + 1) (fun _ _ e => .inl e)
          have hC1 := hC0.out
          have r1 := ownsRow_mut hC1.r hS1.fix (fun k hk e => hC1.n1 (by rw [hk]; exact congrArg some e))
          have r2 := ownsRow_mut hC1.f hS1.fix (fun k hk e => hC1.n2 (by rw [hk]; exact congrArg some e))
          have r3 := ownsRow_mut r1 hM (fun k hk e => by have := (r1.lt k hk).1; omega)
          have r4 := ownsRow_mut r2 hM (fun k hk e => by have := (r2.lt k hk).1; omega)
          have hfz := hC1.fix.size
          have r5 := hrw.mut hM (fun k hk _ e => by omega)
          refine ⟨_, _, _, rfl, ⟨own_base r3 (by omega), own_base r4 (by omega), vs, ⟨own_base r5.own (by omega), r5.len, fun j u r h1 h2 => own_base (r5.rows j u r h1 h2) (by omega)⟩⟩, ?_⟩
          exact ((hm2.out.trans hC1.fix).trans' hS1.fix (fun i hi e => by omega)).trans' hM (fun i hi e => by omega)
        replace hE := Lib.hid hE
        clear key keyf hS1 hrw
        go_wp2
        exact bodyPost_ret (v := .agg #[.slice x1 A.ranks.length y1, .slice x2 A.final.length y2, .slice va vs.length vc]) (by simp [results, Try.results27, go_sem, ho0, ho1, ho2, hr0, hr1, hr2]) rfl hE.out
end Go.Proofs.Ytdakoccbmeojhaa
