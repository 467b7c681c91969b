/- Automata, plainly: equal languages, equal minimal automata. No condition. -/
import Derived.Test.YtichhfbkhnimmaaYMG

set_option linter.unusedSimpArgs false
set_option linter.unusedVariables false
set_option maxHeartbeats 400000
namespace Go.Mn
open Go Go.Rt
open Classical in
noncomputable def viaT (A B : Au) (x : Int) : Int := if h : ByTree A x then stateT B (Classical.choose h) else 0
theorem viaT_spec {A B : Au} {x : Int} (h : ByTree A x) : ∃ t, nodesE A.ranks t = 0 ∧ stateT A t = x ∧ stateT B t = viaT A B x := by
  unfold viaT
  rw [dif_pos h]
  exact ⟨_, (Classical.choose_spec h).1, (Classical.choose_spec h).2, rfl⟩
theorem at_pair {A B : Au} (hA : AuOk A) (hB : AuOk B) (hr : A.ranks = B.ranks) {i : Nat} {ds es : List Int} (hi : A.ranks[i]? = some (ds.length : Int)) (h : ∃ l : List Tr, nodesL A.ranks l = 0 ∧ stateL A l = ds ∧ stateL B l = es) : ∃ t, nodesE A.ranks t = 0 ∧ stateT A t = atI A i ds ∧ stateT B t = atI B i es := by
  obtain ⟨l, h1, h2, h3⟩ := h
  have hlen : l.length = ds.length := by rw [← h2, stateL_map, List.length_map]
  have hir := (List.getElem?_eq_some_iff.1 hi).1
  refine ⟨.node i l, ?_, by rw [stateT_node, h2], by rw [stateT_node, h3]⟩
  rw [nodesE, if_neg (by omega), if_neg ?_]
  · exact h1
  · rw [Int.toNat_natCast, List.getD_eq_getElem?_getD, hi, hlen]; simp
theorem pairs_of {A B : Au} {α : Type} {f g : α → Int} : ∀ {l : List α}, (∀ x ∈ l, ∃ t, nodesE A.ranks t = 0 ∧ stateT A t = f x ∧ stateT B t = g x) → ∃ ts : List Tr, nodesL A.ranks ts = 0 ∧ stateL A ts = l.map f ∧ stateL B ts = l.map g
  | [], _ => ⟨[], by rw [nodesL], by rw [stateL]; rfl, by rw [stateL]; rfl⟩
  | x :: xs, h => by
    obtain ⟨t, h1, h2, h3⟩ := h x (by simp)
    obtain ⟨ts, h4, h5, h6⟩ := pairs_of fun y hy => h y (List.mem_cons_of_mem _ hy)
    exact ⟨t :: ts, by rw [nodesL, if_neg (by omega)]; exact h4, by rw [stateL, h2, h5]; rfl, by rw [stateL, h3, h6]; rfl⟩
theorem quo_lang {A B : Au} (hA : chk A = 0) (hB : chk B = 0) (hr : A.ranks = B.ranks) (hL : SameL A B) {reps : List Int} (h : RepsOk A reps) : RepsOk B (reps.map (viaT A B)) ∧ quoA A reps = quoA B (reps.map (viaT A B)) := by
  have oA := chk_ok hA
  have oB := chk_ok hB
  have hv : ∀ r ∈ reps, ∃ t, nodesE A.ranks t = 0 ∧ stateT A t = r ∧ stateT B t = viaT A B r := fun r hr' => viaT_spec (found_tree oA (h.found r hr'))
  have hfB : ∀ r ∈ reps, viaT A B r ∈ foundA B := fun r hr' => by
    obtain ⟨t, h1, h2, h3⟩ := hv r hr'
    rw [← h3]
    exact tree_found oB t (by rw [← hr]; exact h1)
  have hvt : ∀ r ∈ reps, ∀ t, nodesE A.ranks t = 0 → (Eqv A r (stateT A t) ↔ Eqv B (viaT A B r) (stateT B t)) := fun r hr' t ht => by
    obtain ⟨u, h1, h2, h3⟩ := hv r hr'
    rw [← h3]
    have := eqv_lang oA oB hr hL h1 ht
    rwa [h2] at this
  have hok : RepsOk B (reps.map (viaT A B)) := by
    refine ⟨fun r hr' => ?_, ?_, fun y hy => ?_⟩
    · obtain ⟨q, hq, rfl⟩ := List.mem_map.1 hr'
      exact hfB q hq
    · rw [List.map_map, List.nodup_iff_pairwise_ne, List.pairwise_map]
      have := h.nd
      rw [List.nodup_iff_pairwise_ne, List.pairwise_map] at this
      refine List.Pairwise.imp_of_mem ?_ this
      intro a b ha hb hne e
      obtain ⟨u, h1, h2, h3⟩ := hv b hb
      have e2 := (clsI_eq oB (found_in oB (hfB a ha)) (found_in oB (hfB b hb))).1 e
      rw [← h3] at e2
      have := (hvt a ha u h1).2 e2
      rw [h2] at this
      exact hne ((clsI_eq oA (h.inA oA a ha) (h.inA oA b hb)).2 this)
    · obtain ⟨t, h1, h2⟩ := found_tree oB hy
      have h1A : nodesE A.ranks t = 0 := by rw [hr]; exact h1
      have hfA := tree_found oA t h1A
      obtain ⟨r, hr', e⟩ := List.mem_map.1 (h.all _ hfA)
      have e2 := (hvt r hr' t h1A).1 ((clsI_eq oA (h.inA oA r hr') (found_in oA hfA)).1 e)
      rw [List.map_map]
      refine List.mem_map.2 ⟨r, hr', ?_⟩
      rw [h2] at e2
      exact (clsI_eq oB (found_in oB (hfB r hr')) (found_in oB hy)).2 e2
  refine ⟨hok, ?_⟩
  unfold quoA
  rw [List.length_map, hr]
  unfold madeA
  congr 1
  · refine List.map_congr_left fun s hs => ?_
    have hs' : s < reps.length := List.mem_range.1 hs
    unfold qF
    have e1 : reps.getD s 0 = reps[s] := by rw [List.getD_eq_getElem?_getD, List.getElem?_eq_getElem hs']; rfl
    have e2 : (reps.map (viaT A B)).getD s 0 = viaT A B reps[s] := by rw [List.getD_eq_getElem?_getD, List.getElem?_map, List.getElem?_eq_getElem hs']; rfl
    rw [e1, e2]
    obtain ⟨t, h1, h2, h3⟩ := hv _ (List.getElem_mem hs')
    rw [← h3]
    have := hL t h1
    rwa [h2] at this
  · unfold tablesOf tableOf
    refine List.map_congr_left fun i hi => ?_
    have hi' : i < A.ranks.length := by rw [hr]; exact List.mem_range.1 hi
    rw [← hr]
    obtain ⟨r1, r2, r3⟩ := rank_at oA hi'
    refine List.map_congr_left fun p _ => ?_
    have hdr := digs_rng (h.pos hA) (A.ranks.getD i 0).toNat p
    have hdl := digs_len reps.length (A.ranks.getD i 0).toNat p
    generalize digs reps.length (A.ranks.getD i 0).toNat p = ds at *
    unfold qT
    have hpairs := pairs_of (A := A) (B := B) (f := phi reps) (g := phi (reps.map (viaT A B))) (l := ds) fun d hd => by
      obtain ⟨t, h1, h2, h3⟩ := hv _ (phi_mem (hdr d hd))
      exact ⟨t, h1, h2, by rw [h3, phi_map (hdr d hd)]⟩
    obtain ⟨t, t1, t2, t3⟩ := at_pair oA oB hr (by rw [List.length_map, hdl]; exact r1) hpairs
    rw [← t2, ← t3]
    have hfA := tree_found oA t t1
    have hfB' := tree_found oB t (by rw [← hr]; exact t1)
    congr 1
    unfold idxC
    rw [List.map_map]
    refine idxOf_iff fun r hr' => ?_
    show _ ↔ clsI B (viaT A B r) = _
    rw [clsI_eq oA (h.inA oA r hr') (found_in oA hfA), clsI_eq oB (found_in oB (hfB r hr')) (found_in oB hfB')]
    exact hvt r hr' t t1
theorem least_eq {A B : Au} (hA : chk A = 0) (hB : chk B = 0) (hr : A.ranks = B.ranks) (hL : SameL A B) : leastA A = leastA B := by
  obtain ⟨h1, h2⟩ := quo_lang hA hB hr hL (repsA_ok (chk_ok hA))
  rw [least_any hB h1, ← h2]
  rfl
theorem SameL.trans {A B C : Au} (hr : A.ranks = B.ranks) (h : SameL A B) (k : SameL B C) : SameL A C := fun t ht => (h t ht).trans (k t (by rw [← hr]; exact ht))
theorem kept_lang {A : Au} {l : List Int} (hk : chk A = 0) (hsh : ShutL A l) : SameL A (keptA A l) := fun t ht => by
  have h1 := state_kept hk hsh t ht
  have h2 := state_rng (kept_ok hk hsh) t ht
  rw [kept_len] at h2
  rw [kept_fin h2, ← h1]
theorem least_kept {A : Au} {l : List Int} (hk : chk A = 0) (hsh : ShutL A l) : leastA (keptA A l) = leastA A := (least_eq hk (kept_chk hk hsh) rfl (kept_lang hk hsh)).symm
theorem least_trim {A : Au} (hk : chk A = 0) : leastA (trimA A) = leastA A := least_kept hk (found_shutL (chk_ok hk) (chk_zero hk))
theorem fin_not {A : Au} {x : Int} (h : InA A x) : finI (notA A) x = !finI A x := by
  obtain ⟨x0, x1⟩ := h
  obtain ⟨m, rfl⟩ := Int.eq_ofNat_of_zero_le x0
  have hm : m < A.final.length := by omega
  unfold finI notA
  rw [Int.toNat_natCast]
  show (A.final.map (!·)).getD m false = _
  rw [List.getD_eq_getElem?_getD, List.getD_eq_getElem?_getD, List.getElem?_map, List.getElem?_eq_getElem hm]; rfl
theorem not_ranks (A : Au) : (notA A).ranks = A.ranks := rfl
theorem addAll_not (A : Au) (s : Int) (ls : List (List Int)) : ∀ out, addAll (notA A) s ls out = addAll A s ls out := by
  induction ls with
  | nil => exact fun out => rfl
  | cons l ls ih =>
    intro out
    show addAll (notA A) s ls (stepAdd (notA A) s out l) = addAll A s ls (stepAdd A s out l)
    rw [ih]
    unfold stepAdd
    rw [at_not]
theorem round_not (A : Au) (of out : List Int) : ∀ j, roundP (notA A) of out j = roundP A of out j
  | 0 => rfl
  | j + 1 => by
    rw [roundP_succ, roundP_succ, round_not A of out j]
    unfold symS
    rw [addAll_not, not_ranks]
theorem found_not (A : Au) : foundA (notA A) = foundA A := by
  have key : ∀ k, foundK (notA A) k = foundK A k := by
    intro k
    induction k with
    | zero => rfl
    | succ k ih =>
      show roundP (notA A) (foundK (notA A) k) (foundK (notA A) k) (notA A).ranks.length = roundP A (foundK A k) (foundK A k) A.ranks.length
      rw [ih, round_not, not_ranks]
  unfold foundA
  rw [key, show (notA A).final.length = A.final.length by simp [notA]]
theorem map_getD_not (l : List Bool) (n : Nat) (h : n < l.length) : (l.map (!·)).getD n false = !(l.getD n false) := by
  rw [List.getD_eq_getElem?_getD, List.getD_eq_getElem?_getD, List.getElem?_map, List.getElem?_eq_getElem h]; rfl
theorem kept_not {A : Au} {l : List Int} (h : ∀ x ∈ l, InA A x) : keptA (notA A) l = notA (keptA A l) := by
  unfold keptA madeA notA
  congr 1
  · rw [List.map_map]
    refine List.map_congr_left fun s hs => ?_
    have hs' : s < l.length := List.mem_range.1 hs
    have hx := h _ (List.getElem_mem hs')
    have e : l.getD s 0 = l[s] := by rw [List.getD_eq_getElem?_getD, List.getElem?_eq_getElem hs']; rfl
    show (A.final.map (!·)).getD (l.getD s 0).toNat false = !(A.final.getD (l.getD s 0).toNat false)
    rw [e]
    exact map_getD_not _ _ (by have := hx.1; have := hx.2; omega)
  · have hT : keptT (notA A) l = keptT A l := by
      funext i ds
      unfold keptT
      rw [at_not]
    show tablesOf l.length (keptT (notA A) l) A.ranks = tablesOf l.length (keptT A l) A.ranks
    rw [hT]
theorem trim_not {A : Au} (hok : AuOk A) : trimA (notA A) = notA (trimA A) := by
  unfold trimA
  rw [found_not]
  exact kept_not fun x hx => found_in hok hx
theorem dist_not {A : Au} (hok : AuOk A) : ∀ (d : Nat) (p q : Int), InA A p → InA A q → (Dist (notA A) d p q ↔ Dist A d p q)
  | 0, p, q, hp, hq => by
    rw [dist_zero, dist_zero, fin_not hp, fin_not hq]
    cases finI A p <;> cases finI A q <;> simp
  | d + 1, p, q, hp, hq => by
    have hst : ∀ s : Sp, s ∈ stepsA (notA A) ↔ s ∈ stepsA A := fun s => by
      unfold stepsA stepsS
      rw [found_not, not_ranks, show (notA A).final.length = A.final.length by simp [notA]]
    have hnx : ∀ (s : Sp) (x : Int), nextI (notA A) s x = nextI A s x := fun s x => at_not A _ _
    rw [dist_succ, dist_succ]
    constructor
    · rintro ⟨s, hs, h⟩
      have hs := (hst s).1 hs
      rw [hnx, hnx] at h
      exact ⟨s, hs, (dist_not hok d _ _ (next_in hok (mem_steps.1 hs) hp) (next_in hok (mem_steps.1 hs) hq)).1 h⟩
    · rintro ⟨s, hs, h⟩
      refine ⟨s, (hst s).2 hs, ?_⟩
      rw [hnx, hnx]
      exact (dist_not hok d _ _ (next_in hok (mem_steps.1 hs) hp) (next_in hok (mem_steps.1 hs) hq)).2 h
theorem chk_not' {A : Au} (h : chk A = 0) : chk (notA A) = 0 := by rw [chk_not]; exact h
theorem least_not {A : Au} (hk : chk A = 0) : leastA (notA A) = notA (leastA A) := by
  have hok := chk_ok hk
  have hr := repsA_ok hok
  have hnk := chk_not' hk
  have hon := chk_ok hnk
  have hin : ∀ x, InA (notA A) x ↔ InA A x := fun x => by
    unfold InA
    rw [show (notA A).final.length = A.final.length by simp [notA]]
  have heq : ∀ p q, InA A p → InA A q → (Eqv (notA A) p q ↔ Eqv A p q) := fun p q hp hq =>
    ⟨fun h d e => h d ((dist_not hok d p q hp hq).2 e), fun h d e => h d ((dist_not hok d p q hp hq).1 e)⟩
  have hcls : ∀ x y, InA A x → InA A y → (clsI (notA A) x = clsI (notA A) y ↔ clsI A x = clsI A y) := fun x y hx hy => by
    rw [clsI_eq hon ((hin x).2 hx) ((hin y).2 hy), clsI_eq hok hx hy, heq x y hx hy]
  have hrn : RepsOk (notA A) (repsA A) := by
    refine ⟨fun r hr' => by rw [found_not]; exact hr.found r hr', ?_, fun x hx => ?_⟩
    · have := hr.nd
      rw [List.nodup_iff_pairwise_ne, List.pairwise_map] at this ⊢
      exact List.Pairwise.imp_of_mem (fun ha hb hne e => hne ((hcls _ _ (hr.inA hok _ ha) (hr.inA hok _ hb)).1 e)) this
    · rw [found_not] at hx
      obtain ⟨r, hr', e⟩ := List.mem_map.1 (hr.all x hx)
      exact List.mem_map.2 ⟨r, hr', (hcls _ _ (hr.inA hok r hr') (found_in hok hx)).2 e⟩
  rw [least_any hnk hrn]
  have hq : quoA (notA A) (repsA A) = notA (quoA A (repsA A)) := by
    unfold quoA madeA
    show Au.mk _ _ _ = Au.mk _ _ _
    congr 1
    · rw [List.map_map]
      refine List.map_congr_left fun s hs => ?_
      have hs' : s < (repsA A).length := List.mem_range.1 hs
      have e : (repsA A).getD s 0 = (repsA A)[s] := by rw [List.getD_eq_getElem?_getD, List.getElem?_eq_getElem hs']; rfl
      show finI (notA A) ((repsA A).getD s 0) = !finI A ((repsA A).getD s 0)
      rw [e]
      exact fin_not (hr.inA hok _ (List.getElem_mem hs'))
    · unfold tablesOf tableOf
      refine List.map_congr_left fun i hi => ?_
      have hi' : i < A.ranks.length := List.mem_range.1 hi
      obtain ⟨r1, r2, r3⟩ := rank_at hok hi'
      refine List.map_congr_left fun p _ => ?_
      have q3 := quo_fits hk hr r1 (digs_len (repsA A).length _ p) (digs_rng (hr.pos hk) _ p)
      show ((idxC (notA A) (repsA A) (atI (notA A) i _) : Nat) : Int) = ((idxC A (repsA A) (atI A i _) : Nat) : Int)
      rw [at_not]
      congr 1
      unfold idxC
      exact idxOf_iff fun r hr' => hcls r _ (hr.inA hok r hr') (found_in hok q3)
  rw [hq, trim_not (quo_ok hk hr)]
  rfl
end Go.Mn
