/- Automata, plainly: quotients. No condition. -/
import Derived.Test.YtichhfbkhnimmaaYME

set_option linter.unusedSimpArgs false
set_option linter.unusedVariables false
set_option maxHeartbeats 400000
namespace Go.Mn
open Go Go.Rt
theorem rank_nat {A : Au} (hok : AuOk A) {i : Nat} {k : Int} (h : A.ranks[i]? = some k) : ∃ m : Nat, k = (m : Int) ∧ m ≤ 2 := by
  have := hok.alpha.rng k (List.mem_of_getElem? h)
  exact ⟨k.toNat, by omega, by omega⟩
mutual
theorem tree_found {A : Au} (hok : AuOk A) : ∀ t : Tr, nodesE A.ranks t = 0 → stateT A t ∈ foundA A
  | .node s l, h => by
    obtain ⟨h1, h2, h3, h4⟩ := nodes_good h
    obtain ⟨i, rfl⟩ := Int.eq_ofNat_of_zero_le h1
    have hi : i < A.ranks.length := by omega
    rw [stateT_node]
    refine found_shut hok (k := l.length) ?_ (by rw [stateL_map, List.length_map]) (treeL_found hok l h4)
    rw [List.getElem?_eq_getElem hi, h3, Int.toNat_natCast, List.getD_eq_getElem?_getD, List.getElem?_eq_getElem hi]; rfl
theorem treeL_found {A : Au} (hok : AuOk A) : ∀ l : List Tr, nodesL A.ranks l = 0 → ∀ x ∈ stateL A l, x ∈ foundA A
  | [], _, x, hx => by rw [stateL] at hx; cases hx
  | t :: ts, h, x, hx => by
    obtain ⟨h1, h2⟩ := nodesL_good h
    rw [stateL] at hx
    rcases List.mem_cons.1 hx with rfl | hx
    · exact tree_found hok t h1
    · exact treeL_found hok ts h2 x hx
end
def ByTree (A : Au) (x : Int) : Prop := ∃ t, nodesE A.ranks t = 0 ∧ stateT A t = x
theorem trees_of {A : Au} : ∀ {ds : List Int}, (∀ d ∈ ds, ByTree A d) → ∃ l : List Tr, nodesL A.ranks l = 0 ∧ stateL A l = ds
  | [], _ => ⟨[], by rw [nodesL], by rw [stateL]⟩
  | d :: ds, h => by
    obtain ⟨t, h1, h2⟩ := h d (by simp)
    obtain ⟨l, h3, h4⟩ := trees_of fun x hx => h x (List.mem_cons_of_mem _ hx)
    exact ⟨t :: l, by rw [nodesL, if_neg (by omega)]; exact h3, by rw [stateL, h2, h4]⟩
theorem byTree_at {A : Au} {i : Nat} {ds : List Int} (hi : A.ranks[i]? = some (ds.length : Int)) (h : ∀ d ∈ ds, ByTree A d) : ByTree A (atI A i ds) := by
  obtain ⟨l, h1, h2⟩ := trees_of h
  have hlen : l.length = ds.length := by rw [← h2, stateL_map, List.length_map]
  refine ⟨.node i l, ?_, by rw [stateT_node, h2]⟩
  have hir := (List.getElem?_eq_some_iff.1 hi).1
  rw [nodesE, if_neg (by omega), if_neg ?_]
  · exact h1
  · rw [Int.toNat_natCast, List.getD_eq_getElem?_getD, hi, hlen]; simp
theorem addAll_tree {A : Au} {i : Nat} : ∀ {ls : List (List Int)} {out : List Int}, (∀ x ∈ out, ByTree A x) → (∀ l ∈ ls, ByTree A (atI A i l)) → ∀ x ∈ addAll A i ls out, ByTree A x
  | [], out, h, _, x, hx => h x hx
  | l :: ls, out, h, hl, x, hx => by
    refine addAll_tree (ls := ls) (out := stepAdd A i out l) (fun y hy => ?_) (fun y hy => hl y (List.mem_cons_of_mem _ hy)) x hx
    unfold stepAdd at hy
    split at hy
    · exact h y hy
    · rcases List.mem_append.1 hy with hy | hy
      · exact h y hy
      · rw [List.mem_singleton] at hy; subst hy; exact hl l (by simp)
theorem roundP_tree {A : Au} (hok : AuOk A) {of out : List Int} (h1 : ∀ x ∈ of, ByTree A x) (h2 : ∀ x ∈ out, ByTree A x) : ∀ j, j ≤ A.ranks.length → ∀ x ∈ roundP A of out j, ByTree A x
  | 0, _, x, hx => h2 x hx
  | j + 1, hj, x, hx => by
    rw [roundP_succ] at hx
    obtain ⟨r1, r2, r3⟩ := rank_at hok (show j < A.ranks.length by omega)
    refine addAll_tree (roundP_tree hok h1 h2 j (by omega)) (fun l hl => ?_) x hx
    obtain ⟨ds, d1, d2, d3⟩ := mem_enumL.1 hl
    obtain rfl : l = ds := d3
    exact byTree_at (by rw [d1]; exact r1) fun d hd => h1 d (d2 d hd)
theorem found_tree {A : Au} (hok : AuOk A) {x : Int} (hx : x ∈ foundA A) : ByTree A x := by
  have key : ∀ k, ∀ x ∈ foundK A k, ByTree A x := by
    intro k
    induction k with
    | zero => exact fun x hx => by cases hx
    | succ k ih => exact fun x hx => roundP_tree hok ih ih _ (Nat.le_refl _) x hx
  exact key _ x hx
theorem found_in {A : Au} (hok : AuOk A) {x : Int} (hx : x ∈ foundA A) : InA A x := (foundK_ok hok (A.final.length + 1)).rng x hx
theorem found_nd {A : Au} (hok : AuOk A) : (foundA A).Nodup := (foundK_ok hok (A.final.length + 1)).nd
def EqvL (A : Au) : List Int → List Int → Prop
  | [], [] => True
  | x :: xs, y :: ys => Eqv A x y ∧ EqvL A xs ys
  | _, _ => False
theorem EqvL.len {A : Au} : ∀ {xs ys : List Int}, EqvL A xs ys → xs.length = ys.length
  | [], [], _ => rfl
  | x :: xs, y :: ys, h => by rw [List.length_cons, List.length_cons, EqvL.len h.2]
  | [], _ :: _, h => h.elim
  | _ :: _, [], h => h.elim
theorem EqvL.map {A : Au} {α : Type} {f g : α → Int} : ∀ {l : List α}, (∀ x ∈ l, Eqv A (f x) (g x)) → EqvL A (l.map f) (l.map g)
  | [], _ => trivial
  | x :: xs, h => ⟨h x (by simp), EqvL.map fun y hy => h y (List.mem_cons_of_mem _ hy)⟩
theorem cong {A : Au} (hok : AuOk A) {i : Nat} {xs ys : List Int} (hi : A.ranks[i]? = some (xs.length : Int)) (hx : ∀ x ∈ xs, x ∈ foundA A) (hy : ∀ y ∈ ys, y ∈ foundA A) (h : EqvL A xs ys) : Eqv A (atI A i xs) (atI A i ys) := by
  have hir := (List.getElem?_eq_some_iff.1 hi).1
  have hr : A.ranks.getD i 0 = (xs.length : Int) := by rw [List.getD_eq_getElem?_getD, hi]; rfl
  have h2 := (hok.alpha.rng _ (List.mem_of_getElem? hi)).2
  match xs, ys, h with
  | [], [], _ => exact Eqv.refl A _
  | [x], [y], h =>
    have hs : (⟨i, 0, -1⟩ : Sp) ∈ stepsA A := mem_steps.2 ⟨i, rfl, hir, .inl ⟨hr, rfl, rfl⟩⟩
    exact h.1.next hs
  | [x, x2], [y, y2], h =>
    have hx2 := hx x2 (by simp)
    have hy1 := hy y (by simp)
    obtain ⟨a0, a1⟩ := found_in hok hx2
    obtain ⟨b0, b1⟩ := found_in hok hy1
    have hs1 : (⟨i, 0, x2⟩ : Sp) ∈ stepsA A := mem_steps.2 ⟨i, rfl, hir, .inr ⟨hr, .inl rfl, a0, a1, hx2⟩⟩
    have hs2 : (⟨i, 1, y⟩ : Sp) ∈ stepsA A := mem_steps.2 ⟨i, rfl, hir, .inr ⟨hr, .inr rfl, b0, b1, hy1⟩⟩
    have e1 := h.1.next hs1
    have e2 := h.2.1.next hs2
    have f1 : ∀ z, nextI A ⟨i, 0, x2⟩ z = atI A i [z, x2] := fun z => by
      unfold nextI Sp.args
      rw [if_neg (by show ¬ x2 < 0; omega), if_pos rfl]
    have f2 : ∀ z, nextI A ⟨i, 1, y⟩ z = atI A i [y, z] := fun z => by
      unfold nextI Sp.args
      rw [if_neg (by show ¬ y < 0; omega), if_neg (by show ¬ (1 : Int) = 0; decide)]
    rw [f1, f1] at e1
    rw [f2, f2] at e2
    exact e1.trans e2
  | _ :: _ :: _ :: _, _, _ => simp only [List.length_cons] at h2; omega
def clsI (A : Au) (x : Int) : Nat := clsA A x.toNat
theorem clsI_eq {A : Au} (hok : AuOk A) {x y : Int} (hx : InA A x) (hy : InA A y) : clsI A x = clsI A y ↔ Eqv A x y := by
  obtain ⟨x0, x1⟩ := hx
  obtain ⟨y0, y1⟩ := hy
  have := cls_eq hok (p := x.toNat) (q := y.toNat) (by omega) (by omega)
  rwa [Int.toNat_of_nonneg x0, Int.toNat_of_nonneg y0] at this
def idxC (A : Au) (reps : List Int) (x : Int) : Nat := (reps.map (clsI A)).idxOf (clsI A x)
def qT (A : Au) (reps : List Int) (i : Int) (ds : List Int) : Int := (idxC A reps (atI A i (ds.map (phi reps))) : Nat)
def qF (A : Au) (reps : List Int) (s : Nat) : Bool := finI A (reps.getD s 0)
def quoA (A : Au) (reps : List Int) : Au := madeA A.ranks reps.length (qT A reps) (qF A reps)
structure RepsOk (A : Au) (reps : List Int) : Prop where
  found : ∀ r ∈ reps, r ∈ foundA A
  nd : (reps.map (clsI A)).Nodup
  all : ∀ x ∈ foundA A, clsI A x ∈ reps.map (clsI A)
section
variable {A : Au} {reps : List Int}
theorem RepsOk.inA (hok : AuOk A) (h : RepsOk A reps) : ∀ r ∈ reps, InA A r := fun r hr => found_in hok (h.found r hr)
theorem RepsOk.nodup (h : RepsOk A reps) : reps.Nodup := by
  have := h.nd
  rw [List.nodup_iff_pairwise_ne, List.pairwise_map] at this
  exact this.imp fun hne e => hne (by rw [e])
theorem RepsOk.len (hok : AuOk A) (h : RepsOk A reps) : reps.length ≤ A.final.length := pigeon_few _ _ h.nodup fun r hr => h.inA hok r hr
theorem RepsOk.pos (hk : chk A = 0) (h : RepsOk A reps) : 0 < reps.length := by
  have hok := chk_ok hk
  obtain ⟨i, hi⟩ := List.getElem?_of_mem (chk_zero hk)
  have := h.all _ (found_shut hok (k := 0) (ds := []) hi rfl (by simp))
  refine List.length_pos_iff.2 fun e => ?_
  rw [e] at this; cases this
theorem idxC_lt (h : RepsOk A reps) {x : Int} (hx : x ∈ foundA A) : idxC A reps x < reps.length := by
  have := List.idxOf_lt_length_of_mem (h.all x hx)
  rwa [List.length_map] at this
theorem phi_in (h : RepsOk A reps) {d : Int} (hd : 0 ≤ d ∧ d < (reps.length : Int)) : phi reps d ∈ foundA A := h.found _ (phi_mem hd)
theorem phi_idxC (hok : AuOk A) (h : RepsOk A reps) {x : Int} (hx : x ∈ foundA A) : Eqv A (phi reps (idxC A reps x : Nat)) x := by
  have hlt := idxC_lt h hx
  have hm := h.all x hx
  have e : (reps.map (clsI A))[idxC A reps x]? = some (clsI A x) := by
    unfold idxC
    rw [List.getElem?_eq_getElem (List.idxOf_lt_length_of_mem hm), List.getElem_idxOf]
  rw [List.getElem?_map, List.getElem?_eq_getElem hlt] at e
  have e : clsI A reps[idxC A reps x] = clsI A x := Option.some.inj e
  have hp : phi reps (idxC A reps x : Nat) = reps[idxC A reps x] := by
    unfold phi
    rw [Int.toNat_natCast, List.getD_eq_getElem?_getD, List.getElem?_eq_getElem hlt]; rfl
  rw [hp]
  exact (clsI_eq hok (h.inA hok _ (List.getElem_mem hlt)) (found_in hok hx)).1 e
theorem idxC_congr (hok : AuOk A) {x y : Int} (hx : InA A x) (hy : InA A y) (e : Eqv A x y) : idxC A reps x = idxC A reps y := by
  unfold idxC
  rw [(clsI_eq hok hx hy).2 e]
theorem idxC_inj (hok : AuOk A) (h : RepsOk A reps) {x y : Int} (hx : x ∈ foundA A) (hy : y ∈ foundA A) (e : idxC A reps x = idxC A reps y) : Eqv A x y := by
  have h1 := phi_idxC hok h hx
  have h2 := phi_idxC hok h hy
  rw [e] at h1
  exact h1.symm.trans h2
theorem idxC_phi (hok : AuOk A) (h : RepsOk A reps) {d : Int} (hd : 0 ≤ d ∧ d < (reps.length : Int)) : ((idxC A reps (phi reps d) : Nat) : Int) = d := by
  obtain ⟨m, rfl⟩ := Int.eq_ofNat_of_zero_le hd.1
  have hm : m < reps.length := by omega
  unfold idxC phi
  rw [Int.toNat_natCast, List.getD_eq_getElem?_getD, List.getElem?_eq_getElem hm]
  have : (reps.map (clsI A))[m]? = some (clsI A reps[m]) := by rw [List.getElem?_map, List.getElem?_eq_getElem hm]; rfl
  have hlt := (List.getElem?_eq_some_iff.1 this).1
  have := (List.getElem?_eq_some_iff.1 this).2
  rw [Option.getD_some, ← this, List.Nodup.idxOf_getElem h.nd]
theorem quo_len : (quoA A reps).final.length = reps.length := made_final_len ..
theorem quo_fits (hk : chk A = 0) (h : RepsOk A reps) {i k : Nat} {ds : List Int} (hi : A.ranks[i]? = some (k : Int)) (hl : ds.length = k) (hd : ∀ d ∈ ds, 0 ≤ d ∧ d < (reps.length : Int)) : atI A i (ds.map (phi reps)) ∈ foundA A :=
  found_shut (chk_ok hk) hi (by rw [List.length_map]; exact hl) fun x hx => by
    obtain ⟨d, hd', rfl⟩ := List.mem_map.1 hx
    exact phi_in h (hd d hd')
theorem quo_ok (hk : chk A = 0) (h : RepsOk A reps) : AuOk (quoA A reps) := by
  have hok := chk_ok hk
  refine made_ok (chk_alphaE hk) (h.pos hk) (by have := h.len hok; have := hok.hi; omega) fun i k p hi hp => ?_
  have := idxC_lt h (quo_fits hk h hi (digs_len _ _ _) (digs_rng (h.pos hk) k p))
  unfold qT
  omega
theorem quo_chk (hk : chk A = 0) (h : RepsOk A reps) : chk (quoA A reps) = 0 := chk_of (show alphaE A.ranks = 0 from chk_alphaE hk) (quo_ok hk h)
theorem quo_at (hk : chk A = 0) (h : RepsOk A reps) {s : Int} {ds : List Int} (hf : Fits (quoA A reps) s ds) : atI (quoA A reps) s ds = (idxC A reps (atI A s (ds.map (phi reps))) : Nat) ∧ atI A s (ds.map (phi reps)) ∈ foundA A := by
  obtain ⟨i, rfl, hi⟩ := fits_rank (quo_ok hk h) hf
  exact ⟨at_made (h.pos hk) hf, quo_fits hk h hi rfl fun d hd => by have := hf.rng d hd; rw [quo_len] at this; exact this⟩
mutual
theorem state_quo (hk : chk A = 0) (h : RepsOk A reps) : ∀ t : Tr, nodesE A.ranks t = 0 → stateT (quoA A reps) t = (idxC A reps (stateT A t) : Nat)
  | .node s l, hn => by
    have hok := chk_ok hk
    have hf : Fits (quoA A reps) s (stateL (quoA A reps) l) := state_fits (quo_ok hk h) hn
    obtain ⟨h1, h2, h3, h4⟩ := nodes_good hn
    obtain ⟨q1, q2⟩ := quo_at hk h hf
    obtain ⟨i, rfl, hi⟩ := fits_rank (quo_ok hk h) hf
    have hi : A.ranks[i]? = some ((stateL (quoA A reps) l).length : Int) := hi
    have ht := tree_found hok _ hn
    rw [stateT_node] at ht
    rw [stateT_node, stateT_node, q1, idxC_congr hok (found_in hok q2) (found_in hok ht)]
    have hl := stateL_quo hk h l h4
    refine cong hok (by rw [List.length_map]; exact hi) (fun x hx => ?_) (treeL_found hok l h4) hl
    obtain ⟨d, hd, rfl⟩ := List.mem_map.1 hx
    refine phi_in h ?_
    have := hf.rng d hd
    rwa [quo_len] at this
theorem stateL_quo (hk : chk A = 0) (h : RepsOk A reps) : ∀ l : List Tr, nodesL A.ranks l = 0 → EqvL A ((stateL (quoA A reps) l).map (phi reps)) (stateL A l)
  | [], _ => by rw [stateL, stateL]; trivial
  | t :: ts, hn => by
    obtain ⟨h1, h2⟩ := nodesL_good hn
    rw [stateL, stateL, state_quo hk h t h1]
    exact ⟨phi_idxC (chk_ok hk) h (tree_found (chk_ok hk) t h1), stateL_quo hk h ts h2⟩
end
theorem quo_fin (hk : chk A = 0) (h : RepsOk A reps) {x : Int} (hx : x ∈ foundA A) : finI (quoA A reps) (idxC A reps x : Nat) = finI A x := by
  have hlt := idxC_lt h hx
  have he := (phi_idxC (chk_ok hk) h hx).fin
  unfold finI quoA madeA at *
  rw [Int.toNat_natCast]
  show ((List.range reps.length).map (qF A reps)).getD (idxC A reps x) false = _
  rw [List.getD_eq_getElem?_getD, List.getElem?_map, List.getElem?_range hlt]
  show qF A reps (idxC A reps x) = _
  unfold qF finI
  unfold phi at he
  rw [Int.toNat_natCast] at he
  exact he
theorem quo_found (hk : chk A = 0) (h : RepsOk A reps) {d : Int} (hd : 0 ≤ d ∧ d < (reps.length : Int)) : d ∈ foundA (quoA A reps) := by
  obtain ⟨t, h1, h2⟩ := found_tree (chk_ok hk) (phi_in h hd)
  have := tree_found (quo_ok hk h) t h1
  rw [state_quo hk h t h1, h2, idxC_phi (chk_ok hk) h hd] at this
  exact this
end
end Go.Mn

set_option linter.unusedSimpArgs false
set_option linter.unusedVariables false
set_option maxHeartbeats 400000
namespace Go.Mn
open Go Go.Rt
theorem idxOf_iff {α β γ : Type} [BEq β] [LawfulBEq β] [BEq γ] [LawfulBEq γ] {f : α → β} {g : α → γ} {b : β} {c : γ} : ∀ {l : List α}, (∀ x ∈ l, f x = b ↔ g x = c) → (l.map f).idxOf b = (l.map g).idxOf c
  | [], _ => rfl
  | x :: xs, h => by
    rw [List.map_cons, List.map_cons, List.idxOf_cons, List.idxOf_cons]
    by_cases e : f x = b
    · have e2 := (h x (by simp)).1 e
      rw [beq_iff_eq.2 e, beq_iff_eq.2 e2]; rfl
    · have e2 : ¬ g x = c := fun e2 => e ((h x (by simp)).2 e2)
      rw [beq_eq_false_iff_ne.2 e, beq_eq_false_iff_ne.2 e2, cond_false, cond_false, idxOf_iff fun y hy => h y (List.mem_cons_of_mem _ hy)]
theorem phi_cons {l : List Int} {d : Int} {i : Nat} (h : d = (i : Int)) (hi : i < l.length) : phi l d = l[i] := by
  subst h
  unfold phi
  rw [Int.toNat_natCast, List.getD_eq_getElem?_getD, List.getElem?_eq_getElem hi]; rfl
theorem phi_map {f : Int → Int} {l : List Int} {d : Int} (hd : 0 ≤ d ∧ d < (l.length : Int)) : phi (l.map f) d = f (phi l d) := by
  obtain ⟨i, rfl⟩ := Int.eq_ofNat_of_zero_le hd.1
  have hi : i < l.length := by omega
  rw [phi_cons rfl (by rw [List.length_map]; exact hi), phi_cons rfl hi, List.getElem_map]
section
variable {A : Au} {reps reps' : List Int}
theorem quo_perm (hk : chk A = 0) (h : RepsOk A reps) (h' : RepsOk A reps') : ShutL (quoA A reps) (reps'.map fun r => ((idxC A reps r : Nat) : Int)) ∧ quoA A reps' = keptA (quoA A reps) (reps'.map fun r => ((idxC A reps r : Nat) : Int)) := by
  have hok := chk_ok hk
  have hpos := h'.pos hk
  have hlr : ∀ r ∈ reps', 0 ≤ ((idxC A reps r : Nat) : Int) ∧ ((idxC A reps r : Nat) : Int) < (reps.length : Int) := fun r hr => by
    have := idxC_lt h (h'.found r hr)
    omega
  have hnd : (reps'.map fun r => ((idxC A reps r : Nat) : Int)).Nodup := by
    rw [List.nodup_iff_pairwise_ne, List.pairwise_map]
    have := h'.nd
    rw [List.nodup_iff_pairwise_ne, List.pairwise_map] at this
    refine List.Pairwise.imp_of_mem ?_ this
    intro a b ha hb hne e
    exact hne ((clsI_eq hok (h'.inA hok a ha) (h'.inA hok b hb)).2 (idxC_inj hok h (h'.found a ha) (h'.found b hb) (by omega)))
  have hsh : ShutL (quoA A reps) (reps'.map fun r => ((idxC A reps r : Nat) : Int)) := by
    refine ⟨by rw [List.length_map]; exact hpos, by rw [List.length_map]; have := h'.len hok; have := hok.hi; omega, hnd, fun s hs => ?_, fun i k ds hi hl hd => ?_⟩
    · obtain ⟨r, hr, rfl⟩ := List.mem_map.1 hs
      rw [quo_len]; exact hlr r hr
    · obtain ⟨m, rfl, hm2⟩ := rank_nat (quo_ok hk h) hi
      rw [List.length_map] at hd
      have hr2 : ∀ d ∈ ds, 0 ≤ (reps'.map fun r => ((idxC A reps r : Nat) : Int)).getD d.toNat 0 ∧ (reps'.map fun r => ((idxC A reps r : Nat) : Int)).getD d.toNat 0 < (reps.length : Int) := fun d hd' => by
        have h1 := getD_mem (l := reps'.map fun r => ((idxC A reps r : Nat) : Int)) (d := d) (by rw [List.length_map]; exact hd d hd')
        obtain ⟨r, hr, e⟩ := List.mem_map.1 h1
        rw [← e]; exact hlr r hr
      have hf : Fits (quoA A reps) (i : Int) (ds.map fun d => (reps'.map fun r => ((idxC A reps r : Nat) : Int)).getD d.toNat 0) := by
        refine ⟨by omega, by have := (List.getElem?_eq_some_iff.1 hi).1; omega, ?_, fun x hx => ?_⟩
        · rw [List.length_map, Int.toNat_natCast, List.getD_eq_getElem?_getD, hi, hl]; rfl
        · obtain ⟨d, hd', rfl⟩ := List.mem_map.1 hx
          rw [quo_len]; exact hr2 d hd'
      obtain ⟨q1, q2⟩ := quo_at hk h hf
      rw [q1]
      generalize atI A (i : Int) ((ds.map fun d => (reps'.map fun r => ((idxC A reps r : Nat) : Int)).getD d.toNat 0).map (phi reps)) = y at *
      obtain ⟨r, hr, hre⟩ := List.mem_map.1 (h'.all y q2)
      refine List.mem_map.2 ⟨r, hr, ?_⟩
      rw [idxC_congr hok (h'.inA hok r hr) (found_in hok q2) ((clsI_eq hok (h'.inA hok r hr) (found_in hok q2)).1 hre)]
  refine ⟨hsh, ?_⟩
  unfold quoA keptA
  rw [List.length_map]
  show madeA A.ranks _ _ _ = madeA A.ranks _ _ _
  unfold madeA
  congr 1
  · refine List.map_congr_left fun s hs => ?_
    have hs' : s < reps'.length := List.mem_range.1 hs
    unfold qF keptF
    have e1 : reps'.getD s 0 = reps'[s] := by rw [List.getD_eq_getElem?_getD, List.getElem?_eq_getElem hs']; rfl
    have e2 : (reps'.map fun r => ((idxC A reps r : Nat) : Int)).getD s 0 = ((idxC A reps reps'[s] : Nat) : Int) := by
      rw [List.getD_eq_getElem?_getD, List.getElem?_map, List.getElem?_eq_getElem hs']; rfl
    rw [e1, e2]
    exact (quo_fin hk h (h'.found _ (List.getElem_mem hs'))).symm
  · unfold tablesOf tableOf
    refine List.map_congr_left fun i hi => ?_
    have hi' : i < A.ranks.length := List.mem_range.1 hi
    obtain ⟨r1, r2, r3⟩ := rank_at hok hi'
    refine List.map_congr_left fun p _ => ?_
    have hdr := digs_rng hpos (A.ranks.getD i 0).toNat p
    have hdl := digs_len reps'.length (A.ranks.getD i 0).toNat p
    generalize digs reps'.length (A.ranks.getD i 0).toNat p = ds at *
    have hf : Fits (quoA A reps) (i : Int) (ds.map fun d => (reps'.map fun r => ((idxC A reps r : Nat) : Int)).getD d.toNat 0) := hsh.fits (k := ((A.ranks.getD i 0).toNat : Int)) r1 (by omega) (by rw [List.length_map]; exact hdr)
    obtain ⟨q1, q2⟩ := quo_at hk h hf
    have q3 := quo_fits hk h' r1 hdl hdr
    unfold keptT qT
    rw [show atI { ranks := A.ranks, final := List.map (qF A reps) (List.range reps.length), to := List.map (fun (i : Nat) => List.map (fun p => ((idxC A reps (atI A ↑i ((digs reps.length (A.ranks.getD i 0).toNat p).map (phi reps))) : Nat) : Int)) (List.range (wideN (A.ranks.getD i 0) reps.length))) (List.range A.ranks.length) } = atI (quoA A reps) from rfl]
    rw [q1]
    have hE : Eqv A (atI A (i : Int) ((ds.map fun d => (reps'.map fun r => ((idxC A reps r : Nat) : Int)).getD d.toNat 0).map (phi reps))) (atI A (i : Int) (ds.map (phi reps'))) := by
      rw [List.map_map]
      refine cong hok (by rw [List.length_map, hdl]; exact r1) (fun x hx => ?_) (fun y hy => ?_) (EqvL.map fun d hd => ?_)
      · obtain ⟨d, hd, rfl⟩ := List.mem_map.1 hx
        refine phi_in h ?_
        obtain ⟨r, hr, e⟩ := List.mem_map.1 (getD_mem (l := reps'.map fun r => ((idxC A reps r : Nat) : Int)) (d := d) (by rw [List.length_map]; exact hdr d hd))
        have hb : 0 ≤ (reps'.map fun r => ((idxC A reps r : Nat) : Int)).getD d.toNat 0 ∧ (reps'.map fun r => ((idxC A reps r : Nat) : Int)).getD d.toNat 0 < (reps.length : Int) := by rw [← e]; exact hlr r hr
        exact hb
      · obtain ⟨d, hd, rfl⟩ := List.mem_map.1 hy
        exact phi_in h' (hdr d hd)
      · have e : (reps'.map fun r => ((idxC A reps r : Nat) : Int)).getD d.toNat 0 = ((idxC A reps (phi reps' d) : Nat) : Int) := phi_map (f := fun r => ((idxC A reps r : Nat) : Int)) (hdr d hd)
        show Eqv A (phi reps ((reps'.map fun r => ((idxC A reps r : Nat) : Int)).getD d.toNat 0)) _
        rw [e]
        exact phi_idxC hok h (phi_in h' (hdr d hd))
    generalize atI A (i : Int) ((ds.map fun d => (reps'.map fun r => ((idxC A reps r : Nat) : Int)).getD d.toNat 0).map (phi reps)) = y at *
    generalize atI A (i : Int) (ds.map (phi reps')) = z at *
    have hm : ((idxC A reps y : Nat) : Int) ∈ reps'.map fun r => ((idxC A reps r : Nat) : Int) := by
      obtain ⟨r, hr, hre⟩ := List.mem_map.1 (h'.all y q2)
      refine List.mem_map.2 ⟨r, hr, ?_⟩
      rw [idxC_congr hok (h'.inA hok r hr) (found_in hok q2) ((clsI_eq hok (h'.inA hok r hr) (found_in hok q2)).1 hre)]
    rw [hasI_mem hm]
    unfold idxC
    congr 1
    refine idxOf_iff fun r hr => ?_
    rw [clsI_eq hok (h'.inA hok r hr) (found_in hok q3)]
    constructor
    · intro e
      have : idxC A reps r = idxC A reps y := idxC_congr hok (h'.inA hok r hr) (found_in hok q2) (e.trans hE.symm)
      exact congrArg (fun n : Nat => (n : Int)) this
    · intro e
      have : idxC A reps r = idxC A reps y := Int.ofNat.inj e
      exact (idxC_inj hok h (h'.found r hr) q2 this).trans hE
def trimA (A : Au) : Au := keptA A (foundA A)
theorem quo_trim (hk : chk A = 0) (h : RepsOk A reps) (h' : RepsOk A reps') : trimA (quoA A reps') = trimA (quoA A reps) := by
  obtain ⟨h1, h2⟩ := quo_perm hk h h'
  rw [h2]
  exact trim_kept (quo_chk hk h) h1
end
def repsA (A : Au) : List Int := ((List.range A.final.length).filter fun (s : Nat) => decide ((s : Int) ∈ foundA A) && (List.range s).all fun (r : Nat) => !decide ((r : Int) ∈ foundA A) || !decide (clsA A r = clsA A s)).map fun (s : Nat) => (s : Int)
theorem mem_repsA {A : Au} {x : Int} : x ∈ repsA A ↔ ∃ s : Nat, x = s ∧ s < A.final.length ∧ (s : Int) ∈ foundA A ∧ ∀ r : Nat, r < s → (r : Int) ∈ foundA A → clsA A r ≠ clsA A s := by
  unfold repsA
  rw [List.mem_map]
  constructor
  · rintro ⟨s, hs, rfl⟩
    rw [List.mem_filter, List.mem_range, Bool.and_eq_true, decide_eq_true_iff, List.all_eq_true] at hs
    refine ⟨s, rfl, hs.1, hs.2.1, fun r hr hf e => ?_⟩
    have := hs.2.2 r (List.mem_range.2 hr)
    rw [decide_eq_true hf, decide_eq_true e] at this
    cases this
  · rintro ⟨s, rfl, h1, h2, h3⟩
    refine ⟨s, ?_, rfl⟩
    rw [List.mem_filter, List.mem_range, Bool.and_eq_true, decide_eq_true_iff, List.all_eq_true]
    refine ⟨h1, h2, fun r hr => ?_⟩
    rw [List.mem_range] at hr
    by_cases hf : (r : Int) ∈ foundA A
    · rw [decide_eq_true hf, decide_eq_false (h3 r hr hf)]; rfl
    · rw [decide_eq_false hf]; rfl
theorem repsA_ok {A : Au} (hok : AuOk A) : RepsOk A (repsA A) := by
  refine ⟨fun r hr => ?_, ?_, fun x hx => ?_⟩
  · obtain ⟨s, rfl, _, h2, _⟩ := mem_repsA.1 hr
    exact h2
  · rw [List.nodup_iff_pairwise_ne, List.pairwise_map]
    have hlt : (repsA A).Pairwise fun a b => a < b := by
      unfold repsA
      rw [List.pairwise_map]
      refine List.Pairwise.filter _ ?_
      exact List.pairwise_lt_range.imp fun h => by omega
    refine List.Pairwise.imp_of_mem ?_ hlt
    intro a b ha hb hab e
    obtain ⟨s, rfl, h1, h2, h3⟩ := mem_repsA.1 ha
    obtain ⟨r, rfl, g1, g2, g3⟩ := mem_repsA.1 hb
    refine g3 s (by omega) h2 ?_
    exact e
  · obtain ⟨x0, x1⟩ := found_in hok hx
    obtain ⟨m, rfl⟩ := Int.eq_ofNat_of_zero_le x0
    have key : ∀ m : Nat, m < A.final.length → (m : Int) ∈ foundA A → ∃ r ∈ repsA A, clsI A r = clsA A m := by
      intro m
      induction m using Nat.strongRecOn with
      | _ m ih =>
        intro hm hf
        by_cases hr : ∀ r : Nat, r < m → (r : Int) ∈ foundA A → clsA A r ≠ clsA A m
        · exact ⟨m, mem_repsA.2 ⟨m, rfl, hm, hf, hr⟩, rfl⟩
        · obtain ⟨r, h1⟩ := Classical.not_forall.1 hr
          obtain ⟨h1, h2⟩ := Classical.not_imp.1 h1
          obtain ⟨h2, h3⟩ := Classical.not_imp.1 h2
          have h3 := Classical.not_not.1 h3
          obtain ⟨q, q1, q2⟩ := ih r h1 (by omega) h2
          exact ⟨q, q1, q2.trans h3⟩
    obtain ⟨r, h1, h2⟩ := key m (by omega) hx
    exact List.mem_map.2 ⟨r, h1, h2⟩
def leastA (A : Au) : Au := trimA (quoA A (repsA A))
def leastTo (A : Au) (p : Nat) : Int := if (p : Int) ∈ foundA A then hasI (foundA (quoA A (repsA A))) (idxC A (repsA A) (p : Int) : Nat) else -1
theorem least_any {A : Au} (hk : chk A = 0) {reps : List Int} (h : RepsOk A reps) : leastA A = trimA (quoA A reps) := quo_trim hk h (repsA_ok (chk_ok hk))
theorem trim_chk {A : Au} (hk : chk A = 0) : chk (trimA A) = 0 := kept_chk hk (found_shutL (chk_ok hk) (chk_zero hk))
theorem least_chk {A : Au} (hk : chk A = 0) : chk (leastA A) = 0 := trim_chk (quo_chk hk (repsA_ok (chk_ok hk)))
mutual
theorem state_kept {A : Au} {l : List Int} (hk : chk A = 0) (hsh : ShutL A l) : ∀ t : Tr, nodesE A.ranks t = 0 → stateT A t = phi l (stateT (keptA A l) t)
  | .node s ts, h => by
    have hf : Fits (keptA A l) s (stateL (keptA A l) ts) := state_fits (A := keptA A l) (kept_ok hk hsh) h
    have h1 := kept_phi hk hsh hf
    obtain ⟨_, _, _, h4⟩ := nodes_good h
    rw [stateT_node, stateT_node, h1, stateL_kept hk hsh ts h4]
theorem stateL_kept {A : Au} {l : List Int} (hk : chk A = 0) (hsh : ShutL A l) : ∀ ts : List Tr, nodesL A.ranks ts = 0 → stateL A ts = (stateL (keptA A l) ts).map (phi l)
  | [], _ => by rw [stateL, stateL]; rfl
  | t :: ts, h => by
    obtain ⟨h1, h2⟩ := nodesL_good h
    rw [stateL, stateL, List.map_cons, ← state_kept hk hsh t h1, ← stateL_kept hk hsh ts h2]
end
theorem kept_fin {A : Au} {l : List Int} {d : Int} (hd : 0 ≤ d ∧ d < (l.length : Int)) : finI (keptA A l) d = finI A (phi l d) := by
  obtain ⟨m, rfl⟩ := Int.eq_ofNat_of_zero_le hd.1
  have hm : m < l.length := by omega
  unfold finI keptA madeA phi
  rw [Int.toNat_natCast]
  show ((List.range l.length).map (keptF A l)).getD m false = _
  rw [List.getD_eq_getElem?_getD, List.getElem?_map, List.getElem?_range hm]
  rfl
theorem state_least {A : Au} (hk : chk A = 0) (t : Tr) (hn : nodesE A.ranks t = 0) : stateT (leastA A) t = leastTo A (stateT A t).toNat ∧ finI (leastA A) (stateT (leastA A) t) = finI A (stateT A t) := by
  have hok := chk_ok hk
  have hr := repsA_ok hok
  have hqk := quo_chk hk hr
  have hqo := quo_ok hk hr
  have hsh := found_shutL hqo (chk_zero hqk)
  have hf := tree_found hok t hn
  obtain ⟨x0, x1⟩ := found_in hok hf
  have h1 := state_quo hk hr t hn
  have h2 := state_kept hqk hsh t hn
  have h3 := state_rng (kept_ok hqk hsh) t hn
  rw [kept_len] at h3
  have h4 : stateT (leastA A) t = stateT (keptA (quoA A (repsA A)) (foundA (quoA A (repsA A)))) t := rfl
  constructor
  · unfold leastTo
    rw [Int.toNat_of_nonneg x0, if_pos hf, h4, ← h1, h2, idx_phi hsh.nd h3]
  · rw [h4]
    show finI (keptA (quoA A (repsA A)) (foundA (quoA A (repsA A)))) _ = _
    rw [kept_fin h3, ← h2, h1, quo_fin hk hr hf]
def SameL (A B : Au) : Prop := ∀ t : Tr, nodesE A.ranks t = 0 → finI A (stateT A t) = finI B (stateT B t)
theorem dist_lang {A B : Au} (hA : AuOk A) (hB : AuOk B) (hr : A.ranks = B.ranks) (hL : SameL A B) : ∀ (d : Nat) (t u : Tr), nodesE A.ranks t = 0 → nodesE A.ranks u = 0 → Dist A d (stateT A t) (stateT A u) → Dist B d (stateT B t) (stateT B u)
  | 0, t, u, ht, hu, h => by
    rw [dist_zero] at h ⊢
    rwa [← hL t ht, ← hL u hu]
  | d + 1, t, u, ht, hu, h => by
    obtain ⟨s, hs, h⟩ := dist_succ.1 h
    obtain ⟨i, h1, h2, h3⟩ := (mem_steps.1 hs).h
    obtain ⟨sy, w, o⟩ := s
    simp only at h1 h3
    subst h1
    have hiB : i < B.ranks.length := by rw [← hr]; exact h2
    have leaf : ∀ (C : Au) (l : List Tr), C.ranks = A.ranks → A.ranks.getD i 0 = (l.length : Int) → nodesL A.ranks l = 0 → nodesE A.ranks (.node i l) = 0 ∧ stateT C (.node i l) = atI C i (stateL C l) := fun C l hC hl hn => by
      refine ⟨?_, stateT_node ..⟩
      rw [nodesE, if_neg (by omega), if_neg (by rw [Int.toNat_natCast]; omega)]; exact hn
    have nl1 : ∀ t, nodesE A.ranks t = 0 → nodesL A.ranks [t] = 0 := fun t ht => by rw [nodesL, if_neg (by omega), nodesL]
    have nl2 : ∀ t v, nodesE A.ranks t = 0 → nodesE A.ranks v = 0 → nodesL A.ranks [t, v] = 0 := fun t v ht hv => by rw [nodesL, if_neg (by omega), nodesL, if_neg (by omega), nodesL]
    rcases h3 with ⟨h3, h4, h5⟩ | ⟨h3, h4, h5, h6, h7⟩
    · subst h4; subst h5
      have hsB : (⟨i, 0, -1⟩ : Sp) ∈ stepsA B := mem_steps.2 ⟨i, rfl, hiB, .inl ⟨by rw [← hr]; exact h3, rfl, rfl⟩⟩
      have e : ∀ (C : Au) (t : Tr), nextI C ⟨i, 0, -1⟩ (stateT C t) = stateT C (.node i [t]) := fun C t => by
        rw [stateT_node, stateL, stateL]; rfl
      rw [e, e] at h
      have := dist_lang hA hB hr hL d _ _ (leaf A [t] rfl (by rw [h3]; rfl) (nl1 t ht)).1 (leaf A [u] rfl (by rw [h3]; rfl) (nl1 u hu)).1 h
      rw [← e, ← e] at this
      exact dist_succ.2 ⟨_, hsB, this⟩
    · obtain ⟨v, hv, hvo⟩ := found_tree hA h7
      have hvB : nodesE B.ranks v = 0 := by rw [← hr]; exact hv
      have hfB := tree_found hB v hvB
      obtain ⟨b0, b1⟩ := found_in hB hfB
      rcases h4 with rfl | rfl
      · have hsB : (⟨i, 0, stateT B v⟩ : Sp) ∈ stepsA B := mem_steps.2 ⟨i, rfl, hiB, .inr ⟨by rw [← hr]; exact h3, .inl rfl, b0, b1, hfB⟩⟩
        have e : ∀ (C : Au) (t : Tr), 0 ≤ stateT C v → nextI C ⟨i, 0, stateT C v⟩ (stateT C t) = stateT C (.node i [t, v]) := fun C t h0 => by
          rw [stateT_node, stateL, stateL, stateL]
          unfold nextI Sp.args
          rw [if_neg (by show ¬ stateT C v < 0; omega), if_pos rfl]
        rw [← hvo, e A t (by omega), e A u (by omega)] at h
        have := dist_lang hA hB hr hL d _ _ (leaf A [t, v] rfl (by rw [h3]; rfl) (nl2 t v ht hv)).1 (leaf A [u, v] rfl (by rw [h3]; rfl) (nl2 u v hu hv)).1 h
        rw [← e B t b0, ← e B u b0] at this
        exact dist_succ.2 ⟨_, hsB, this⟩
      · have hsB : (⟨i, 1, stateT B v⟩ : Sp) ∈ stepsA B := mem_steps.2 ⟨i, rfl, hiB, .inr ⟨by rw [← hr]; exact h3, .inr rfl, b0, b1, hfB⟩⟩
        have e : ∀ (C : Au) (t : Tr), 0 ≤ stateT C v → nextI C ⟨i, 1, stateT C v⟩ (stateT C t) = stateT C (.node i [v, t]) := fun C t h0 => by
          rw [stateT_node, stateL, stateL, stateL]
          unfold nextI Sp.args
          rw [if_neg (by show ¬ stateT C v < 0; omega), if_neg (by show ¬ (1 : Int) = 0; decide)]
        rw [← hvo, e A t (by omega), e A u (by omega)] at h
        have := dist_lang hA hB hr hL d _ _ (leaf A [v, t] rfl (by rw [h3]; rfl) (nl2 v t hv ht)).1 (leaf A [v, u] rfl (by rw [h3]; rfl) (nl2 v u hv hu)).1 h
        rw [← e B t b0, ← e B u b0] at this
        exact dist_succ.2 ⟨_, hsB, this⟩
theorem SameL.symm {A B : Au} (hr : A.ranks = B.ranks) (h : SameL A B) : SameL B A := fun t ht => (h t (by rw [hr]; exact ht)).symm
theorem eqv_lang {A B : Au} (hA : AuOk A) (hB : AuOk B) (hr : A.ranks = B.ranks) (hL : SameL A B) {t u : Tr} (ht : nodesE A.ranks t = 0) (hu : nodesE A.ranks u = 0) : Eqv A (stateT A t) (stateT A u) ↔ Eqv B (stateT B t) (stateT B u) :=
  ⟨fun h d e => h d (dist_lang hB hA hr.symm (hL.symm hr) d t u (by rw [← hr]; exact ht) (by rw [← hr]; exact hu) e), fun h d e => h d (dist_lang hA hB hr hL d t u ht hu e)⟩
end Go.Mn
