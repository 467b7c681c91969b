/- Automata, plainly: equal languages, equal minimal automata. No condition. -/
import Derived.Test.YtichhfbkhnimmaaYMG
import Derived.Test.YtichhfbkhnimmaaYME

set_option linter.unusedSimpArgs false
set_option linter.unusedVariables false
set_option maxHeartbeats 400000
namespace Go.Mn
open Go Go.Rt
open Classical in
noncomputable def viaT (A B : Au) (x : Int) : Int := if h : ByTree A x then stateT B (Classical.choose h) else 0
theorem viaT_spec {A B : Au} {x : Int} (h : ByTree A x) : ∃ t, nodesE A.ranks t = 0 ∧ stateT A t = x ∧ stateT B t = viaT A B x := by
  unfold viaT
  rw [dif_pos h]
  exact ⟨_, (Classical.choose_spec h).1, (Classical.choose_spec h).2, rfl⟩
theorem at_pair {A B : Au} (hA : AuOk A) (hB : AuOk B) (hr : A.ranks = B.ranks) {i : Nat} {ds es : List Int} (hi : A.ranks[i]? = some (ds.length : Int)) (h : ∃ l : List Tr, nodesL A.ranks l = 0 ∧ stateL A l = ds ∧ stateL B l = es) : ∃ t, nodesE A.ranks t = 0 ∧ stateT A t = atI A i ds ∧ stateT B t = atI B i es := by
  obtain ⟨l, h1, h2, h3⟩ := h
  have hlen : l.length = ds.length := by rw [← h2, stateL_map, List.length_map]
  have hir := (List.getElem?_eq_some_iff.1 hi).1
  refine ⟨.node i l, ?_, by rw [stateT_node, h2], by rw [stateT_node, h3]⟩
  rw [nodesE, if_neg (by omega), if_neg ?_]
  · exact h1
  · rw [Int.toNat_natCast, List.getD_eq_getElem?_getD, hi, hlen]; simp
theorem pairs_of {A B : Au} {α : Type} {f g : α → Int} : ∀ {l : List α}, (∀ x ∈ l, ∃ t, nodesE A.ranks t = 0 ∧ stateT A t = f x ∧ stateT B t = g x) → ∃ ts : List Tr, nodesL A.ranks ts = 0 ∧ stateL A ts = l.map f ∧ stateL B ts = l.map g
  | [], _ => ⟨[], by rw [nodesL], by rw [stateL]; rfl, by rw [stateL]; rfl⟩
  | x :: xs, h => by
    obtain ⟨t, h1, h2, h3⟩ := h x (by simp)
    obtain ⟨ts, h4, h5, h6⟩ := pairs_of fun y hy => h y (List.mem_cons_of_mem _ hy)
    exact ⟨t :: ts, by rw [nodesL, if_neg (by omega)]; exact h4, by rw [stateL, h2, h5]; rfl, by rw [stateL, h3, h6]; rfl⟩
theorem quo_lang {A B : Au} (hA : chk A = 0) (hB : chk B = 0) (hr : A.ranks = B.ranks) (hL : SameL A B) {reps : List Int} (h : RepsOk A reps) : RepsOk B (reps.map (viaT A B)) ∧ quoA A reps = quoA B (reps.map (viaT A B)) := by
  have oA := chk_ok hA
  have oB := chk_ok hB
  have hv : ∀ r ∈ reps, ∃ t, nodesE A.ranks t = 0 ∧ stateT A t = r ∧ stateT B t = viaT A B r := fun r hr' => viaT_spec (found_tree oA (h.found r hr'))
  have hfB : ∀ r ∈ reps, viaT A B r ∈ foundA B := fun r hr' => by
    obtain ⟨t, h1, h2, h3⟩ := hv r hr'
    rw [← h3]
    exact tree_found oB t (by rw [← hr]; exact h1)
  have hvt : ∀ r ∈ reps, ∀ t, nodesE A.ranks t = 0 → (Eqv A r (stateT A t) ↔ Eqv B (viaT A B r) (stateT B t)) := fun r hr' t ht => by
    obtain ⟨u, h1, h2, h3⟩ := hv r hr'
    rw [← h3]
    have := eqv_lang oA oB hr hL h1 ht
    rwa [h2] at this
  have hok : RepsOk B (reps.map (viaT A B)) := by
    refine ⟨fun r hr' => ?_, ?_, fun y hy => ?_⟩
    · obtain ⟨q, hq, rfl⟩ := List.mem_map.1 hr'
      exact hfB q hq
    · rw [List.map_map, List.nodup_iff_pairwise_ne, List.pairwise_map]
      have := h.nd
      rw [List.nodup_iff_pairwise_ne, List.pairwise_map] at this
      refine List.Pairwise.imp_of_mem ?_ this
      intro a b ha hb hne e
      obtain ⟨u, h1, h2, h3⟩ := hv b hb
      have e2 := (clsI_eq oB (found_in oB (hfB a ha)) (found_in oB (hfB b hb))).1 e
      rw [← h3] at e2
      have := (hvt a ha u h1).2 e2
      rw [h2] at this
      exact hne ((clsI_eq oA (h.inA oA a ha) (h.inA oA b hb)).2 this)
    · obtain ⟨t, h1, h2⟩ := found_tree oB hy
      have h1A : nodesE A.ranks t = 0 := by rw [hr]; exact h1
      have hfA := tree_found oA t h1A
      obtain ⟨r, hr', e⟩ := List.mem_map.1 (h.all _ hfA)
      have e2 := (hvt r hr' t h1A).1 ((clsI_eq oA (h.inA oA r hr') (found_in oA hfA)).1 e)
      rw [List.map_map]
      refine List.mem_map.2 ⟨r, hr', ?_⟩
      rw [h2] at e2
      exact (clsI_eq oB (found_in oB (hfB r hr')) (found_in oB hy)).2 e2
  refine ⟨hok, ?_⟩
  unfold quoA
  rw [List.length_map, hr]
  unfold madeA
  congr 1
  · refine List.map_congr_left fun s hs => ?_
    have hs' : s < reps.length := List.mem_range.1 hs
    unfold qF
    have e1 : reps.getD s 0 = reps[s] := by rw [List.getD_eq_getElem?_getD, List.getElem?_eq_getElem hs']; rfl
    have e2 : (reps.map (viaT A B)).getD s 0 = viaT A B reps[s] := by rw [List.getD_eq_getElem?_getD, List.getElem?_map, List.getElem?_eq_getElem hs']; rfl
    rw [e1, e2]
    obtain ⟨t, h1, h2, h3⟩ := hv _ (List.getElem_mem hs')
    rw [← h3]
    have := hL t h1
    rwa [h2] at this
  · unfold tablesOf tableOf
    refine List.map_congr_left fun i hi => ?_
    have hi' : i < A.ranks.length := by rw [hr]; exact List.mem_range.1 hi
    rw [← hr]
    obtain ⟨r1, r2, r3⟩ := rank_at oA hi'
    refine List.map_congr_left fun p _ => ?_
    have hdr := digs_rng (h.pos hA) (A.ranks.getD i 0).toNat p
    have hdl := digs_len reps.length (A.ranks.getD i 0).toNat p
    generalize digs reps.length (A.ranks.getD i 0).toNat p = ds at *
    unfold qT
    have hpairs := pairs_of (A := A) (B := B) (f := phi reps) (g := phi (reps.map (viaT A B))) (l := ds) fun d hd => by
      obtain ⟨t, h1, h2, h3⟩ := hv _ (phi_mem (hdr d hd))
      exact ⟨t, h1, h2, by rw [h3, phi_map (hdr d hd)]⟩
    obtain ⟨t, t1, t2, t3⟩ := at_pair oA oB hr (by rw [List.length_map, hdl]; exact r1) hpairs
    rw [← t2, ← t3]
    have hfA := tree_found oA t t1
    have hfB' := tree_found oB t (by rw [← hr]; exact t1)
    congr 1
    unfold idxC
    rw [List.map_map]
    refine idxOf_iff fun r hr' => ?_
    show _ ↔ clsI B (viaT A B r) = _
    rw [clsI_eq oA (h.inA oA r hr') (found_in oA hfA), clsI_eq oB (found_in oB (hfB r hr')) (found_in oB hfB')]
    exact hvt r hr' t t1
theorem least_eq {A B : Au} (hA : chk A = 0) (hB : chk B = 0) (hr : A.ranks = B.ranks) (hL : SameL A B) : leastA A = leastA B := by
  obtain ⟨h1, h2⟩ := quo_lang hA hB hr hL (repsA_ok (chk_ok hA))
  rw [least_any hB h1, ← h2]
  rfl
theorem least_ranks (A : Au) : (leastA A).ranks = A.ranks := rfl
theorem least_lang {A : Au} (hk : chk A = 0) : SameL A (leastA A) := fun t ht => (state_least hk t ht).2.symm
theorem SameL.trans {A B C : Au} (hr : A.ranks = B.ranks) (h : SameL A B) (k : SameL B C) : SameL A C := fun t ht => (h t ht).trans (k t (by rw [← hr]; exact ht))
theorem least_iff {A B : Au} (hA : chk A = 0) (hB : chk B = 0) (hr : A.ranks = B.ranks) : leastA A = leastA B ↔ SameL A B := by
  refine ⟨fun h => ?_, least_eq hA hB hr⟩
  have h1 := least_lang hA
  rw [h] at h1
  exact h1.trans (show A.ranks = (leastA B).ranks by rw [least_ranks, hr]) ((least_lang hB).symm (least_ranks B).symm)
theorem least_len {A : Au} (hk : chk A = 0) : (leastA A).final.length ≤ A.final.length := by
  have hok := chk_ok hk
  have hr := repsA_ok hok
  have h1 : (leastA A).final.length = (foundA (quoA A (repsA A))).length := kept_len
  have h2 := (foundK_ok (quo_ok hk hr) ((quoA A (repsA A)).final.length + 1)).len
  have h3 : (quoA A (repsA A)).final.length = (repsA A).length := quo_len
  have h4 := hr.len hok
  have h5 : (foundA (quoA A (repsA A))).length ≤ (quoA A (repsA A)).final.length := h2
  omega
mutual
theorem state_prod {A B : Au} {wh : List Bool} (hA : chk A = 0) (hB : chk B = 0) (hr : A.ranks = B.ranks) (h4 : A.final.length * B.final.length ≤ 512) : ∀ t : Tr, nodesE A.ranks t = 0 →
    stateT (prodA A B wh) t = stateT A t * (B.final.length : Int) + stateT B t
  | .node s l, h => by
    have oA := chk_ok hA
    have oB := chk_ok hB
    have oP := prod_ok (wh := wh) hA hB hr h4
    obtain ⟨h1, h2, h3, hk⟩ := nodes_good h
    have hP : Fits (prodA A B wh) s (stateL (prodA A B wh) l) := state_fits oP h
    have e0 : atI (prodA A B wh) s (stateL (prodA A B wh) l) = prodT A B s (stateL (prodA A B wh) l) := at_made (Nat.mul_pos oA.lo oB.lo) hP
    obtain ⟨e1, e2⟩ := stateL_prod (wh := wh) hA hB hr h4 l hk
    rw [stateT_node, e0]
    unfold prodT
    rw [e1, e2, stateT_node, stateT_node]
theorem stateL_prod {A B : Au} {wh : List Bool} (hA : chk A = 0) (hB : chk B = 0) (hr : A.ranks = B.ranks) (h4 : A.final.length * B.final.length ≤ 512) : ∀ l : List Tr, nodesL A.ranks l = 0 →
    (stateL (prodA A B wh) l).map (fun d => d / (B.final.length : Int)) = stateL A l ∧ (stateL (prodA A B wh) l).map (fun d => d % (B.final.length : Int)) = stateL B l
  | [], _ => by rw [stateL, stateL, stateL]; exact ⟨rfl, rfl⟩
  | t :: ts, h => by
    obtain ⟨h1, h2⟩ := nodesL_good h
    obtain ⟨e1, e2⟩ := stateL_prod (wh := wh) hA hB hr h4 ts h2
    have e3 := state_prod (wh := wh) hA hB hr h4 t h1
    have e4 := divmod_pair (a := stateT A t) (state_rng (chk_ok hB) t (by rw [← hr]; exact h1))
    rw [stateL, stateL, stateL, List.map_cons, List.map_cons, e1, e2, e3, e4.1, e4.2]
    exact ⟨rfl, rfl⟩
end
theorem same_iff {A B : Au} (hA : chk A = 0) (hB : chk B = 0) (hr : A.ranks = B.ranks) (h4 : A.final.length * B.final.length ≤ 512) : SameL A B ↔ ∀ x ∈ foundA (prodA A B [false, true, true, false]), finI (prodA A B [false, true, true, false]) x = false := by
  have oA := chk_ok hA
  have oB := chk_ok hB
  have oP := prod_ok (wh := [false, true, true, false]) hA hB hr h4
  have hfin : ∀ t, nodesE A.ranks t = 0 → (finI (prodA A B [false, true, true, false]) (stateT (prodA A B [false, true, true, false]) t) = false ↔ finI A (stateT A t) = finI B (stateT B t)) := fun t ht => by
    rw [state_prod hA hB hr h4 t ht]
    have ra := state_rng oA t ht
    have rb := state_rng oB t (by rw [← hr]; exact ht)
    generalize stateT A t = x at *
    generalize stateT B t = y at *
    obtain ⟨a, rfl⟩ := Int.eq_ofNat_of_zero_le ra.1
    obtain ⟨b, rfl⟩ := Int.eq_ofNat_of_zero_le rb.1
    have ha' : a < A.final.length := by omega
    have hb' : b < B.final.length := by omega
    have hlt : a * B.final.length + b < A.final.length * B.final.length := by
      have : (a + 1) * B.final.length ≤ A.final.length * B.final.length := Nat.mul_le_mul_right _ ha'
      rw [Nat.add_mul, Nat.one_mul] at this; omega
    unfold finI
    rw [← Int.natCast_mul, ← Int.natCast_add, Int.toNat_natCast, Int.toNat_natCast, Int.toNat_natCast]
    show ((List.range (A.final.length * B.final.length)).map (prodF A B [false, true, true, false])).getD _ false = false ↔ _
    rw [List.getD_eq_getElem?_getD, List.getElem?_map, List.getElem?_range hlt, Option.map_some, Option.getD_some]
    unfold prodF
    rw [show (a * B.final.length + b) / B.final.length = a by rw [Nat.mul_comm, Nat.mul_add_div (by omega), Nat.div_eq_of_lt hb', Nat.add_zero], show (a * B.final.length + b) % B.final.length = b by rw [Nat.mul_comm, Nat.mul_add_mod, Nat.mod_eq_of_lt hb']]
    cases A.final.getD a false <;> cases B.final.getD b false <;> simp
  constructor
  · intro h x hx
    obtain ⟨t, h1, rfl⟩ := found_tree oP hx
    exact (hfin t h1).2 (h t h1)
  · intro h t ht
    exact (hfin t ht).1 (h _ (tree_found oP t ht))
end Go.Mn

set_option linter.unusedSimpArgs false
set_option linter.unusedVariables false
set_option maxHeartbeats 400000
namespace Go.Mn
open Go Go.Rt
def lexL : List Nat → List Nat → Prop
  | a :: ra, b :: bs => a < b ∨ (a = b ∧ lexL ra bs)
  | _, _ => False
def slt (u v : List Nat) : Prop := u.length < v.length ∨ (u.length = v.length ∧ lexL u v)
def sle (u v : List Nat) : Prop := u = v ∨ slt u v
theorem lexL_irr : ∀ u : List Nat, ¬ lexL u u
  | [], h => h
  | a :: ra, h => by
    rcases h with h | ⟨_, h⟩
    · omega
    · exact lexL_irr ra h
theorem lexL_trans : ∀ {u v w : List Nat}, lexL u v → lexL v w → lexL u w
  | a :: ra, b :: bs, c :: cs, h, k => by
    rcases h with h | ⟨rfl, h⟩
    · rcases k with k | ⟨rfl, k⟩
      · exact .inl (by omega)
      · exact .inl h
    · rcases k with k | ⟨rfl, k⟩
      · exact .inl k
      · exact .inr ⟨rfl, lexL_trans h k⟩
theorem lexL_total : ∀ {u v : List Nat}, u.length = v.length → lexL u v ∨ u = v ∨ lexL v u
  | [], [], _ => .inr (.inl rfl)
  | a :: ra, b :: bs, h => by
    rcases Nat.lt_trichotomy a b with hl | rfl | hl
    · exact .inl (.inl hl)
    · rcases lexL_total (u := ra) (v := bs) (by simpa using h) with h | h | h
      · exact .inl (.inr ⟨rfl, h⟩)
      · exact .inr (.inl (by rw [h]))
      · exact .inr (.inr (.inr ⟨rfl, h⟩))
    · exact .inr (.inr (.inl hl))
  | [], _ :: _, h => by cases h
  | _ :: _, [], h => by cases h
theorem lexL_snoc : ∀ {u v : List Nat} {x y : Nat}, u.length = v.length → (lexL (u ++ [x]) (v ++ [y]) ↔ lexL u v ∨ (u = v ∧ x < y))
  | [], [], x, y, _ => ⟨fun h => h.elim (fun h => .inr ⟨rfl, h⟩) (fun h => h.2.elim), fun h => h.elim (fun h => h.elim) (fun h => .inl h.2)⟩
  | a :: ra, b :: bs, x, y, hlen => by
    have ih := lexL_snoc (u := ra) (v := bs) (x := x) (y := y) (by simpa using hlen)
    clear hlen
    constructor
    · rintro (h | ⟨rfl, h⟩)
      · exact .inl (.inl h)
      · rcases ih.1 h with h2 | ⟨e, h2⟩
        · exact .inl (.inr ⟨rfl, h2⟩)
        · exact .inr ⟨by rw [e], h2⟩
    · rintro ((h | ⟨rfl, h⟩) | ⟨h, h2⟩)
      · exact .inl h
      · exact .inr ⟨rfl, ih.2 (.inl h)⟩
      · obtain ⟨rfl, rfl⟩ := List.cons.inj h
        exact .inr ⟨rfl, ih.2 (.inr ⟨rfl, h2⟩)⟩
  | [], _ :: _, _, _, h => by cases h
  | _ :: _, [], _, _, h => by cases h
theorem slt_irr (u : List Nat) : ¬ slt u u := fun h => h.elim (fun h => by omega) (fun h => lexL_irr u h.2)
theorem slt_trans {u v w : List Nat} (h : slt u v) (k : slt v w) : slt u w := by
  rcases h with h | ⟨h, h2⟩
  · rcases k with k | ⟨k, _⟩
    · exact .inl (by omega)
    · exact .inl (by omega)
  · rcases k with k | ⟨k, k2⟩
    · exact .inl (by omega)
    · exact .inr ⟨by omega, lexL_trans h2 k2⟩
theorem sle_trans {u v w : List Nat} (h : sle u v) (k : sle v w) : sle u w := by
  rcases h with rfl | h
  · exact k
  · rcases k with rfl | k
    · exact .inr h
    · exact .inr (slt_trans h k)
theorem slt_total (u v : List Nat) : slt u v ∨ u = v ∨ slt v u := by
  rcases Nat.lt_trichotomy u.length v.length with h | h | h
  · exact .inl (.inl h)
  · rcases lexL_total h with h2 | h2 | h2
    · exact .inl (.inr ⟨h, h2⟩)
    · exact .inr (.inl h2)
    · exact .inr (.inr (.inr ⟨h.symm, h2⟩))
  · exact .inr (.inr (.inl h))
theorem slt_snoc {u v : List Nat} {x y : Nat} (h : slt u v) : slt (u ++ [x]) (v ++ [y]) := by
  rcases h with h | ⟨h, h2⟩
  · exact .inl (by simp only [List.length_append, List.length_singleton]; omega)
  · exact .inr ⟨by simp only [List.length_append, List.length_singleton]; omega, (lexL_snoc h).2 (.inl h2)⟩
theorem slt_last {u : List Nat} {x y : Nat} (h : x < y) : slt (u ++ [x]) (u ++ [y]) := .inr ⟨by simp, (lexL_snoc rfl).2 (.inr ⟨rfl, h⟩)⟩
theorem sle_snoc {u v : List Nat} {x : Nat} (h : sle u v) : sle (u ++ [x]) (v ++ [x]) := by
  rcases h with rfl | h
  · exact .inl rfl
  · exact .inr (slt_snoc h)
def spAt (A : Au) (i : Nat) : Sp := (stepsA A).getD i ⟨0, 0, 0⟩
def wordS (A : Au) (l : List Nat) : List Sp := l.map (spAt A)
theorem spAt_mem {A : Au} {i : Nat} (h : i < (stepsA A).length) : spAt A i ∈ stepsA A := by
  unfold spAt
  rw [List.getD_eq_getElem?_getD, List.getElem?_eq_getElem h]
  exact List.getElem_mem h
def DistW (A : Au) (l : List Nat) (p q : Int) : Prop := (∀ i ∈ l, i < (stepsA A).length) ∧ finI A (nextL A (wordS A l) p) ≠ finI A (nextL A (wordS A l) q)
theorem distW_of {A : Au} {l : List Nat} {p q : Int} (h : DistW A l p q) : Dist A l.length p q :=
  ⟨wordS A l, by unfold wordS; rw [List.length_map], fun s hs => by
    obtain ⟨i, hi, rfl⟩ := List.mem_map.1 hs
    exact spAt_mem (h.1 i hi), h.2⟩
theorem word_of {A : Au} : ∀ {l : List Sp}, (∀ s ∈ l, s ∈ stepsA A) → ∃ u : List Nat, (∀ i ∈ u, i < (stepsA A).length) ∧ wordS A u = l
  | [], _ => ⟨[], fun i hi => (by cases hi), rfl⟩
  | s :: l, h => by
    obtain ⟨i, hi⟩ := List.getElem?_of_mem (h s (by simp))
    obtain ⟨u, h1, h2⟩ := word_of fun x hx => h x (List.mem_cons_of_mem _ hx)
    refine ⟨i :: u, fun j hj => ?_, ?_⟩
    · rcases List.mem_cons.1 hj with rfl | hj
      · exact (List.getElem?_eq_some_iff.1 hi).1
      · exact h1 j hj
    · unfold wordS at *
      rw [List.map_cons, h2]
      unfold spAt
      rw [List.getD_eq_getElem?_getD, hi]; rfl
theorem of_dist {A : Au} {d : Nat} {p q : Int} (h : Dist A d p q) : ∃ u : List Nat, u.length = d ∧ DistW A u p q := by
  obtain ⟨l, h1, h2, h3⟩ := h
  obtain ⟨u, h4, h5⟩ := word_of h2
  exact ⟨u, by rw [← h1, ← h5]; unfold wordS; rw [List.length_map], h4, by rw [h5]; exact h3⟩
theorem nextL_snoc (A : Au) (l : List Sp) (s : Sp) (p : Int) : nextL A (l ++ [s]) p = nextI A s (nextL A l p) := by unfold nextL; rw [List.foldl_append]; rfl
theorem nextL_app (A : Au) (l r : List Sp) (p : Int) : nextL A (l ++ r) p = nextL A r (nextL A l p) := by unfold nextL; rw [List.foldl_append]
structure Way where
  p : Int
  q : Int
  l : List Nat
def Way.pr (w : Way) : Int × Int := (w.p, w.q)
def wayNext (A : Au) (w : Way) (i : Nat) : Way := ⟨nextI A (spAt A i) w.p, nextI A (spAt A i) w.q, w.l ++ [i]⟩
def bfsAdd (A : Au) (w : Way) (W : List Way) (i : Nat) : List Way := if (wayNext A w i).p = (wayNext A w i).q ∨ (wayNext A w i).pr ∈ W.map Way.pr then W else W ++ [wayNext A w i]
structure BInv (A : Au) (p q : Int) (k i : Nat) (W : List Way) : Prop where
  st : W[0]? = some ⟨p, q, []⟩
  run : ∀ w ∈ W, (∀ j ∈ w.l, j < (stepsA A).length) ∧ w.p = nextL A (wordS A w.l) p ∧ w.q = nextL A (wordS A w.l) q ∧ InA A w.p ∧ InA A w.q
  nd : (W.map Way.pr).Nodup
  par : ∀ w ∈ W, w.l = [] ∨ ∃ (j : Nat) (u : Way) (x : Nat), W[j]? = some u ∧ w.l = u.l ++ [x] ∧ (j < k ∨ (j = k ∧ x < i))
  srt : W.Pairwise fun u v => slt u.l v.l
  cl : ∀ (j : Nat) (u : Way) (x : Nat), W[j]? = some u → x < (stepsA A).length → (j < k ∨ (j = k ∧ x < i)) → (wayNext A u x).p = (wayNext A u x).q ∨ ∃ v ∈ W, v.pr = (wayNext A u x).pr ∧ sle v.l (u.l ++ [x])
  eq : ∀ (j : Nat) (u : Way), W[j]? = some u → j < k → finI A u.p = finI A u.q
section
variable {A : Au} {p q : Int}
theorem BInv.init (hp : InA A p) (hq : InA A q) : BInv A p q 0 0 [⟨p, q, []⟩] := by
  refine ⟨rfl, fun w hw => ?_, by simp, fun w hw => ?_, by simp, fun j u x _ _ h => by omega, fun j u _ h => by omega⟩
  · rw [List.mem_singleton] at hw; subst hw
    exact ⟨fun j hj => (by cases hj), rfl, rfl, hp, hq⟩
  · rw [List.mem_singleton] at hw; subst hw; exact .inl rfl
theorem get_old {W : List Way} {v : Way} {j : Nat} {u : Way} (h : W[j]? = some u) : (W ++ [v])[j]? = some u := by
  rw [List.getElem?_append_left (List.getElem?_eq_some_iff.1 h).1]; exact h
theorem get_new {W : List Way} {v : Way} {j : Nat} {u : Way} (h : (W ++ [v])[j]? = some u) : W[j]? = some u ∨ (j = W.length ∧ u = v) := by
  rcases Nat.lt_or_ge j W.length with hl | hl
  · rw [List.getElem?_append_left hl] at h; exact .inl h
  · rw [List.getElem?_append_right hl] at h
    have := (List.getElem?_eq_some_iff.1 h).1
    rw [List.length_singleton] at this
    have e : j = W.length := by omega
    subst e
    rw [Nat.sub_self] at h
    exact .inr ⟨rfl, (Option.some.inj h).symm⟩
theorem BInv.add (hok : AuOk A) {k i : Nat} {W : List Way} {w : Way} (h : BInv A p q k i W) (hw : W[k]? = some w) (hi : i < (stepsA A).length) : BInv A p q k (i + 1) (bfsAdd A w W i) ∧ (bfsAdd A w W i)[k]? = some w := by
  have hkl := (List.getElem?_eq_some_iff.1 hw).1
  have hwm := List.mem_of_getElem? hw
  obtain ⟨w1, w2, w3, w4, w5⟩ := h.run w hwm
  have hsp := mem_steps.1 (spAt_mem hi)
  unfold bfsAdd
  by_cases hc : (wayNext A w i).p = (wayNext A w i).q ∨ (wayNext A w i).pr ∈ W.map Way.pr
  · rw [if_pos hc]
    refine ⟨⟨h.st, h.run, h.nd, fun v hv => ?_, h.srt, fun j u x hj hx hlt => ?_, h.eq⟩, hw⟩
    · rcases h.par v hv with e | ⟨j, u, x, h1, h2, h3⟩
      · exact .inl e
      · exact .inr ⟨j, u, x, h1, h2, by omega⟩
    · by_cases hold : j < k ∨ (j = k ∧ x < i)
      · exact h.cl j u x hj hx hold
      · obtain ⟨rfl, rfl⟩ : j = k ∧ x = i := by omega
        rw [hw] at hj
        obtain rfl := Option.some.inj hj
        rcases hc with hc | hc
        · exact .inl hc
        · obtain ⟨v, hv, e⟩ := List.mem_map.1 hc
          refine .inr ⟨v, hv, e, ?_⟩
          rcases h.par v hv with e2 | ⟨j', u', x', h1, h2, h3⟩
          · refine .inr (.inl ?_)
            rw [e2, List.length_append]; simp
          · rw [h2]
            rcases h3 with h3 | ⟨rfl, h3⟩
            · refine .inr (slt_snoc ?_)
              have hsrt := h.srt
              rw [List.pairwise_iff_getElem] at hsrt
              have := hsrt j' j (by omega) hkl h3
              rw [(List.getElem?_eq_some_iff.1 h1).2, (List.getElem?_eq_some_iff.1 hw).2] at this
              exact this
            · rw [hw] at h1
              obtain rfl := Option.some.inj h1
              exact .inr (slt_last h3)
  · rw [if_neg hc]
    have hc1 : ¬ (wayNext A w i).p = (wayNext A w i).q := fun e => hc (.inl e)
    have hc2 : (wayNext A w i).pr ∉ W.map Way.pr := fun e => hc (.inr e)
    refine ⟨⟨get_old h.st, fun v hv => ?_, ?_, fun v hv => ?_, ?_, fun j u x hj hx hlt => ?_, fun j u hj hlt => ?_⟩, get_old hw⟩
    · rcases List.mem_append.1 hv with hv | hv
      · exact h.run v hv
      · rw [List.mem_singleton] at hv; subst hv
        refine ⟨fun j hj => ?_, ?_, ?_, next_in hok hsp w4, next_in hok hsp w5⟩
        · rcases List.mem_append.1 hj with hj | hj
          · exact w1 j hj
          · rw [List.mem_singleton] at hj; omega
        · show nextI A (spAt A i) w.p = nextL A (wordS A (w.l ++ [i])) p
          unfold wordS
          rw [List.map_append, w2]
          exact (nextL_snoc A _ _ _).symm
        · show nextI A (spAt A i) w.q = nextL A (wordS A (w.l ++ [i])) q
          unfold wordS
          rw [List.map_append, w3]
          exact (nextL_snoc A _ _ _).symm
    · rw [List.map_append, List.nodup_append]
      refine ⟨h.nd, by simp, fun a ha b hb e => ?_⟩
      rw [List.map_singleton, List.mem_singleton] at hb
      rw [e, hb] at ha
      exact hc2 ha
    · rcases List.mem_append.1 hv with hv | hv
      · rcases h.par v hv with e | ⟨j, u, x, h1, h2, h3⟩
        · exact .inl e
        · exact .inr ⟨j, u, x, get_old h1, h2, by omega⟩
      · rw [List.mem_singleton] at hv; subst hv
        exact .inr ⟨k, w, i, get_old hw, rfl, .inr ⟨rfl, by omega⟩⟩
    · rw [List.pairwise_append]
      refine ⟨h.srt, by simp, fun u hu v hv => ?_⟩
      rw [List.mem_singleton] at hv; subst hv
      show slt u.l (w.l ++ [i])
      rcases h.par u hu with e | ⟨j, u', x, h1, h2, h3⟩
      · refine .inl ?_
        rw [e, List.length_append]; simp
      · rw [h2]
        rcases h3 with h3 | ⟨rfl, h3⟩
        · refine slt_snoc ?_
          have hsrt := h.srt
          rw [List.pairwise_iff_getElem] at hsrt
          have := hsrt j k (by omega) hkl h3
          rw [(List.getElem?_eq_some_iff.1 h1).2, (List.getElem?_eq_some_iff.1 hw).2] at this
          exact this
        · rw [hw] at h1
          obtain rfl := Option.some.inj h1
          exact slt_last h3
    · rcases get_new hj with hj' | ⟨rfl, rfl⟩
      · clear hj
        by_cases hold : j < k ∨ (j = k ∧ x < i)
        · rcases h.cl j u x hj' hx hold with e | ⟨v, hv, e⟩
          · exact .inl e
          · exact .inr ⟨v, List.mem_append_left _ hv, e⟩
        · obtain ⟨rfl, rfl⟩ : j = k ∧ x = i := by omega
          rw [hw] at hj'
          obtain rfl := Option.some.inj hj'
          exact .inr ⟨_, List.mem_append_right _ (List.mem_singleton.2 rfl), rfl, .inl rfl⟩
      · omega
    · rcases get_new hj with hj | ⟨rfl, rfl⟩
      · exact h.eq j u hj hlt
      · omega
theorem BInv.next {k : Nat} {W : List Way} {w : Way} (h : BInv A p q k (stepsA A).length W) (hw : W[k]? = some w) (he : finI A w.p = finI A w.q) : BInv A p q (k + 1) 0 W := by
  refine ⟨h.st, h.run, h.nd, fun v hv => ?_, h.srt, fun j u x hj hx hlt => ?_, fun j u hj hlt => ?_⟩
  · rcases h.par v hv with e | ⟨j, u, x, h1, h2, h3⟩
    · exact .inl e
    · exact .inr ⟨j, u, x, h1, h2, by omega⟩
  · exact h.cl j u x hj hx (by omega)
  · by_cases hk : j < k
    · exact h.eq j u hj hk
    · obtain rfl : j = k := by omega
      rw [hw] at hj
      obtain rfl := Option.some.inj hj
      exact he
theorem BInv.cover (hok : AuOk A) {k : Nat} {W : List Way} (h : BInv A p q k 0 W) (hp : InA A p) (hq : InA A q) : ∀ (n : Nat) (u r : List Nat), u.length = n → (∀ i ∈ u ++ r, i < (stepsA A).length) → finI A (nextL A (wordS A (u ++ r)) p) ≠ finI A (nextL A (wordS A (u ++ r)) q) → (∀ v ∈ W, v.l.length < n → ∃ j, j < k ∧ W[j]? = some v) → ∃ v ∈ W, v.pr = (nextL A (wordS A u) p, nextL A (wordS A u) q) ∧ sle v.l u := by
  intro n
  induction n with
  | zero =>
    intro u r hu _ _ _
    obtain rfl := List.eq_nil_of_length_eq_zero hu
    exact ⟨_, List.mem_of_getElem? h.st, rfl, .inl rfl⟩
  | succ n ih =>
    intro u r hu hr hd hpop
    obtain ⟨u', x, rfl⟩ : ∃ u' x, u = u' ++ [x] := by
      rcases List.eq_nil_or_concat u with e | ⟨u', x, e⟩
      · rw [e] at hu; cases hu
      · exact ⟨u', x, by rw [e, List.concat_eq_append]⟩
    have hu' : u'.length = n := by rw [List.length_append, List.length_singleton] at hu; omega
    have hxl : x < (stepsA A).length := hr x (by simp)
    obtain ⟨v, hv, e, hle⟩ := ih u' ([x] ++ r) hu' (fun i hi => hr i (by simpa using hi)) (by rw [← List.append_assoc]; exact hd) (fun v hv hl => hpop v hv (by omega))
    have hvl : v.l.length < n + 1 := by
      rcases hle with hle | hle | hle
      · rw [hle]; omega
      · omega
      · omega
    obtain ⟨j, hj, hjv⟩ := hpop v hv hvl
    have hstep : (nextL A (wordS A (u' ++ [x])) p, nextL A (wordS A (u' ++ [x])) q) = (wayNext A v x).pr := by
      have e1 : v.p = nextL A (wordS A u') p := congrArg Prod.fst e
      have e2 : v.q = nextL A (wordS A u') q := congrArg Prod.snd e
      unfold wordS
      rw [List.map_append, List.map_singleton, nextL_snoc, nextL_snoc]
      unfold wayNext Way.pr
      rw [e1, e2]; rfl
    rcases h.cl j v x hjv hxl (.inl hj) with hdg | ⟨v', hv', e', hle'⟩
    · exfalso
      refine hd ?_
      have e1 : nextL A (wordS A (u' ++ [x])) p = (wayNext A v x).p := congrArg Prod.fst hstep
      have e2 : nextL A (wordS A (u' ++ [x])) q = (wayNext A v x).q := congrArg Prod.snd hstep
      have hsplit : wordS A (u' ++ [x] ++ r) = wordS A (u' ++ [x]) ++ wordS A r := by unfold wordS; rw [List.map_append]
      rw [hsplit, nextL_app, nextL_app, e1, e2, hdg]
    · exact ⟨v', hv', by rw [hstep]; exact e', sle_trans hle' (sle_snoc hle)⟩
theorem BInv.found (hok : AuOk A) {k : Nat} {W : List Way} {w : Way} (h : BInv A p q k 0 W) (hp : InA A p) (hq : InA A q) (hw : W[k]? = some w) (hd : finI A w.p ≠ finI A w.q) : DistW A w.l p q ∧ ∀ g, DistW A g p q → sle w.l g := by
  obtain ⟨w1, w2, w3, w4, w5⟩ := h.run w (List.mem_of_getElem? hw)
  refine ⟨⟨w1, by rw [← w2, ← w3]; exact hd⟩, fun g hg => ?_⟩
  rcases slt_total w.l g with hl | hl | hl
  · exact .inr hl
  · exact .inl hl
  · exfalso
    have hkl := (List.getElem?_eq_some_iff.1 hw).1
    have hbefore : ∀ v ∈ W, slt v.l w.l → ∃ j, j < k ∧ W[j]? = some v := fun v hv hlt => by
      obtain ⟨j, hj⟩ := List.getElem?_of_mem hv
      refine ⟨j, ?_, hj⟩
      refine Classical.byContradiction fun hn => ?_
      have hjl := (List.getElem?_eq_some_iff.1 hj).1
      rcases Nat.lt_or_ge k j with hkj | hkj
      · have hsrt := h.srt
        rw [List.pairwise_iff_getElem] at hsrt
        have := hsrt k j hkl hjl hkj
        rw [(List.getElem?_eq_some_iff.1 hj).2, (List.getElem?_eq_some_iff.1 hw).2] at this
        exact slt_irr _ (slt_trans hlt this)
      · obtain rfl : j = k := by omega
        rw [hw] at hj
        obtain rfl := Option.some.inj hj
        exact slt_irr _ hlt
    have hgl : g.length ≤ w.l.length := by
      rcases hl with hl | ⟨hl, _⟩
      · omega
      · omega
    obtain ⟨v, hv, e, hle⟩ := h.cover hok hp hq g.length g [] rfl (by rw [List.append_nil]; exact hg.1) (by rw [List.append_nil]; exact hg.2) (fun v hv hlt => hbefore v hv (.inl (by omega)))
    have hvw : slt v.l w.l := by
      rcases hle with hle | hle
      · rw [hle]; exact hl
      · exact slt_trans hle hl
    obtain ⟨j, hj, hjv⟩ := hbefore v hv hvw
    have := h.eq j v hjv hj
    have e1 : v.p = nextL A (wordS A g) p := congrArg Prod.fst e
    have e2 : v.q = nextL A (wordS A g) q := congrArg Prod.snd e
    rw [e1, e2] at this
    exact hg.2 this
theorem BInv.none (hok : AuOk A) {W : List Way} (h : BInv A p q W.length 0 W) (hp : InA A p) (hq : InA A q) : Eqv A p q := fun d hd => by
  obtain ⟨g, hg1, hg⟩ := of_dist hd
  have hpop : ∀ v ∈ W, ∃ j, j < W.length ∧ W[j]? = some v := fun v hv => by
    obtain ⟨j, hj⟩ := List.getElem?_of_mem hv
    exact ⟨j, (List.getElem?_eq_some_iff.1 hj).1, hj⟩
  obtain ⟨v, hv, e, hle⟩ := h.cover hok hp hq g.length g [] rfl (by rw [List.append_nil]; exact hg.1) (by rw [List.append_nil]; exact hg.2) (fun v hv _ => hpop v hv)
  obtain ⟨j, hj, hjv⟩ := hpop v hv
  have := h.eq j v hjv hj
  have e1 : v.p = nextL A (wordS A g) p := congrArg Prod.fst e
  have e2 : v.q = nextL A (wordS A g) q := congrArg Prod.snd e
  rw [e1, e2] at this
  exact hg.2 this
theorem pairs_few {n : Nat} {l : List (Int × Int)} (hnd : l.Nodup) (h : ∀ x ∈ l, (0 ≤ x.1 ∧ x.1 < (n : Int)) ∧ (0 ≤ x.2 ∧ x.2 < (n : Int))) : l.length ≤ n * n := by
  have h1 := pigeon_few (n * n) (l.map fun x => x.1 * (n : Int) + x.2) ?_ fun s hs => ?_
  · rwa [List.length_map] at h1
  · rw [List.nodup_iff_pairwise_ne, List.pairwise_map]
    rw [List.nodup_iff_pairwise_ne] at hnd
    refine List.Pairwise.imp_of_mem ?_ hnd
    intro a b ha hb hne e
    refine hne ?_
    obtain ⟨a1, a2⟩ := h a ha
    obtain ⟨b1, b2⟩ := h b hb
    have d1 := divmod_pair (a := a.1) a2
    have d2 := divmod_pair (a := b.1) b2
    rw [e] at d1
    exact Prod.ext (d1.1.symm.trans d2.1) (d1.2.symm.trans d2.2)
  · obtain ⟨x, hx, rfl⟩ := List.mem_map.1 hs
    obtain ⟨⟨h1, h2⟩, h3, h4⟩ := h x hx
    obtain ⟨a, ha⟩ := Int.eq_ofNat_of_zero_le h1
    obtain ⟨b, hb⟩ := Int.eq_ofNat_of_zero_le h3
    rw [ha, hb]
    have ha' : a < n := by omega
    have : (a + 1) * n ≤ n * n := Nat.mul_le_mul_right _ ha'
    rw [Nat.add_mul, Nat.one_mul] at this
    rw [← Int.natCast_mul]
    omega
theorem BInv.few {k i : Nat} {W : List Way} (h : BInv A p q k i W) : W.length ≤ A.final.length * A.final.length := by
  have := pairs_few (n := A.final.length) h.nd fun x hx => by
    obtain ⟨w, hw, rfl⟩ := List.mem_map.1 hx
    exact ⟨(h.run w hw).2.2.2.1, (h.run w hw).2.2.2.2⟩
  rwa [List.length_map] at this
end
end Go.Mn

set_option linter.unusedSimpArgs false
set_option linter.unusedVariables false
set_option maxHeartbeats 400000
namespace Go.Mn
open Go Go.Rt
def nearI (A : Au) (d : Nat) (p q : Int) : Nat := ((List.range (stepsA A).length).find? fun (i : Nat) => decide (farA A (nextI A (spAt A i) p) (nextI A (spAt A i) q) = (d : Int))).getD 0
def apartL (A : Au) : Nat → Int → Int → List Nat
  | 0, _, _ => []
  | d + 1, p, q => nearI A d p q :: apartL A d (nextI A (spAt A (nearI A d p q)) p) (nextI A (spAt A (nearI A d p q)) q)
theorem sle_antisymm {u v : List Nat} (h : sle u v) (k : sle v u) : u = v := by
  rcases h with h | h
  · exact h
  · rcases k with k | k
    · exact k.symm
    · exact absurd (slt_trans h k) (slt_irr u)
theorem near_spec {A : Au} {d : Nat} {p q : Int} (hd : d + 1 ≤ A.final.length) (h : MinD A (d + 1) p q) : nearI A d p q < (stepsA A).length ∧ MinD A d (nextI A (spAt A (nearI A d p q)) p) (nextI A (spAt A (nearI A d p q)) q) ∧ ∀ j, j < nearI A d p q → ¬ MinD A d (nextI A (spAt A j) p) (nextI A (spAt A j) q) := by
  have hE : Eqk A d p q := fun e he => h.2 e (by omega)
  obtain ⟨s, hs, hm⟩ := (minD_succ hE).1 h
  obtain ⟨i, hi⟩ := List.getElem?_of_mem hs
  have hil := (List.getElem?_eq_some_iff.1 hi).1
  have hsp : spAt A i = s := by unfold spAt; rw [List.getD_eq_getElem?_getD, hi]; rfl
  obtain ⟨m, h1, h2, h3, h4⟩ := find_first (f := fun (i : Nat) => decide (farA A (nextI A (spAt A i) p) (nextI A (spAt A i) q) = (d : Int))) hil (decide_eq_true (by rw [hsp]; exact far_pos.2 ⟨by omega, hm⟩))
  unfold nearI
  rw [h1, Option.getD_some]
  refine ⟨by omega, (far_pos.1 (of_decide_eq_true h3)).2, fun j hj hj2 => ?_⟩
  have h5 := h4 j hj
  have h6 : farA A (nextI A (spAt A j) p) (nextI A (spAt A j) q) = (d : Int) := far_pos.2 ⟨by omega, hj2⟩
  rw [decide_eq_true h6] at h5
  cases h5
theorem apart_least {A : Au} : ∀ (d : Nat) (p q : Int), d ≤ A.final.length → MinD A d p q → DistW A (apartL A d p q) p q ∧ (apartL A d p q).length = d ∧ ∀ g, DistW A g p q → sle (apartL A d p q) g
  | 0, p, q, _, h => by
    rw [apartL]
    refine ⟨⟨fun i hi => (by cases hi), dist_zero.1 h.1⟩, rfl, fun g hg => ?_⟩
    cases g with
    | nil => exact .inl rfl
    | cons x g => exact .inr (.inl (by simp))
  | d + 1, p, q, hd, h => by
    obtain ⟨h1, h2, h3⟩ := near_spec hd h
    obtain ⟨⟨i1, i2⟩, i3, i4⟩ := apart_least d _ _ (by omega) h2
    rw [apartL]
    refine ⟨⟨fun i hi => ?_, i2⟩, by rw [List.length_cons, i3], fun g hg => ?_⟩
    · rcases List.mem_cons.1 hi with rfl | hi
      · exact h1
      · exact i1 i hi
    · have hgl : ¬ g.length < d + 1 := fun hl => h.2 _ hl (distW_of hg)
      by_cases hl : g.length = d + 1
      · cases g with
        | nil => cases hl
        | cons j g =>
          have hg' : DistW A g (nextI A (spAt A j) p) (nextI A (spAt A j) q) := ⟨fun i hi => hg.1 i (List.mem_cons_of_mem _ hi), hg.2⟩
          have hj := hg.1 j (by simp)
          have hgd : g.length = d := by simpa using hl
          have hmin : MinD A d (nextI A (spAt A j) p) (nextI A (spAt A j) q) := by
            refine ⟨by rw [← hgd]; exact distW_of hg', fun e he hde => h.2 (e + 1) (by omega) (dist_succ.2 ⟨_, spAt_mem hj, hde⟩)⟩
          rcases Nat.lt_trichotomy (nearI A d p q) j with hlt | heq | hgt
          · exact .inr (.inr ⟨by rw [List.length_cons, List.length_cons, i3, hgd], .inl hlt⟩)
          · rw [heq] at i4 i3 ⊢
            rcases i4 g hg' with e | e
            · exact .inl (by rw [e])
            · rcases e with e | ⟨e1, e2⟩
              · omega
              · exact .inr (.inr ⟨by rw [List.length_cons, List.length_cons, e1], .inr ⟨rfl, e2⟩⟩)
          · exact absurd hmin (h3 j hgt)
      · exact .inr (.inl (by rw [List.length_cons, i3]; omega))
end Go.Mn
