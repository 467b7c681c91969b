/- Automata, plainly: the search for a shortest list of steps. No condition. -/
import Derived.Test.YtichhfbkhnimmaaYME
import Derived.Test.YtichhfbkhnimmaaYMG
import Derived.Test.YtichhfbkhnimmaaYMH

set_option linter.unusedSimpArgs false
set_option linter.unusedVariables false
set_option maxHeartbeats 400000
namespace Go.Mn
open Go Go.Rt
def lexL : List Nat → List Nat → Prop
  | a :: ra, b :: bs => a < b ∨ (a = b ∧ lexL ra bs)
  | _, _ => False
def slt (u v : List Nat) : Prop := u.length < v.length ∨ (u.length = v.length ∧ lexL u v)
def sle (u v : List Nat) : Prop := u = v ∨ slt u v
theorem lexL_irr : ∀ u : List Nat, ¬ lexL u u
  | [], h => h
  | a :: ra, h => by
    rcases h with h | ⟨_, h⟩
    · omega
    · exact lexL_irr ra h
theorem lexL_trans : ∀ {u v w : List Nat}, lexL u v → lexL v w → lexL u w
  | a :: ra, b :: bs, c :: cs, h, k => by
    rcases h with h | ⟨rfl, h⟩
    · rcases k with k | ⟨rfl, k⟩
      · exact .inl (by omega)
      · exact .inl h
    · rcases k with k | ⟨rfl, k⟩
      · exact .inl k
      · exact .inr ⟨rfl, lexL_trans h k⟩
theorem lexL_total : ∀ {u v : List Nat}, u.length = v.length → lexL u v ∨ u = v ∨ lexL v u
  | [], [], _ => .inr (.inl rfl)
  | a :: ra, b :: bs, h => by
    rcases Nat.lt_trichotomy a b with hl | rfl | hl
    · exact .inl (.inl hl)
    · rcases lexL_total (u := ra) (v := bs) (by simpa using h) with h | h | h
      · exact .inl (.inr ⟨rfl, h⟩)
      · exact .inr (.inl (by rw [h]))
      · exact .inr (.inr (.inr ⟨rfl, h⟩))
    · exact .inr (.inr (.inl hl))
  | [], _ :: _, h => by cases h
  | _ :: _, [], h => by cases h
theorem lexL_snoc : ∀ {u v : List Nat} {x y : Nat}, u.length = v.length → (lexL (u ++ [x]) (v ++ [y]) ↔ lexL u v ∨ (u = v ∧ x < y))
  | [], [], x, y, _ => ⟨fun h => h.elim (fun h => .inr ⟨rfl, h⟩) (fun h => h.2.elim), fun h => h.elim (fun h => h.elim) (fun h => .inl h.2)⟩
  | a :: ra, b :: bs, x, y, hlen => by
    have ih := lexL_snoc (u := ra) (v := bs) (x := x) (y := y) (by simpa using hlen)
    clear hlen
    constructor
    · rintro (h | ⟨rfl, h⟩)
      · exact .inl (.inl h)
      · rcases ih.1 h with h2 | ⟨e, h2⟩
        · exact .inl (.inr ⟨rfl, h2⟩)
        · exact .inr ⟨by rw [e], h2⟩
    · rintro ((h | ⟨rfl, h⟩) | ⟨h, h2⟩)
      · exact .inl h
      · exact .inr ⟨rfl, ih.2 (.inl h)⟩
      · obtain ⟨rfl, rfl⟩ := List.cons.inj h
        exact .inr ⟨rfl, ih.2 (.inr ⟨rfl, h2⟩)⟩
  | [], _ :: _, _, _, h => by cases h
  | _ :: _, [], _, _, h => by cases h
theorem slt_irr (u : List Nat) : ¬ slt u u := fun h => h.elim (fun h => by omega) (fun h => lexL_irr u h.2)
theorem slt_trans {u v w : List Nat} (h : slt u v) (k : slt v w) : slt u w := by
  rcases h with h | ⟨h, h2⟩
  · rcases k with k | ⟨k, _⟩
    · exact .inl (by omega)
    · exact .inl (by omega)
  · rcases k with k | ⟨k, k2⟩
    · exact .inl (by omega)
    · exact .inr ⟨by omega, lexL_trans h2 k2⟩
theorem sle_trans {u v w : List Nat} (h : sle u v) (k : sle v w) : sle u w := by
  rcases h with rfl | h
  · exact k
  · rcases k with rfl | k
    · exact .inr h
    · exact .inr (slt_trans h k)
theorem slt_total (u v : List Nat) : slt u v ∨ u = v ∨ slt v u := by
  rcases Nat.lt_trichotomy u.length v.length with h | h | h
  · exact .inl (.inl h)
  · rcases lexL_total h with h2 | h2 | h2
    · exact .inl (.inr ⟨h, h2⟩)
    · exact .inr (.inl h2)
    · exact .inr (.inr (.inr ⟨h.symm, h2⟩))
  · exact .inr (.inr (.inl h))
theorem slt_snoc {u v : List Nat} {x y : Nat} (h : slt u v) : slt (u ++ [x]) (v ++ [y]) := by
  rcases h with h | ⟨h, h2⟩
  · exact .inl (by simp only [List.length_append, List.length_singleton]; omega)
  · exact .inr ⟨by simp only [List.length_append, List.length_singleton]; omega, (lexL_snoc h).2 (.inl h2)⟩
theorem slt_last {u : List Nat} {x y : Nat} (h : x < y) : slt (u ++ [x]) (u ++ [y]) := .inr ⟨by simp, (lexL_snoc rfl).2 (.inr ⟨rfl, h⟩)⟩
theorem sle_snoc {u v : List Nat} {x : Nat} (h : sle u v) : sle (u ++ [x]) (v ++ [x]) := by
  rcases h with rfl | h
  · exact .inl rfl
  · exact .inr (slt_snoc h)
def spAt (A : Au) (i : Nat) : Sp := (stepsA A).getD i ⟨0, 0, 0⟩
def wordS (A : Au) (l : List Nat) : List Sp := l.map (spAt A)
theorem spAt_mem {A : Au} {i : Nat} (h : i < (stepsA A).length) : spAt A i ∈ stepsA A := by
  unfold spAt
  rw [List.getD_eq_getElem?_getD, List.getElem?_eq_getElem h]
  exact List.getElem_mem h
def DistW (A : Au) (l : List Nat) (p q : Int) : Prop := (∀ i ∈ l, i < (stepsA A).length) ∧ finI A (nextL A (wordS A l) p) ≠ finI A (nextL A (wordS A l) q)
theorem distW_of {A : Au} {l : List Nat} {p q : Int} (h : DistW A l p q) : Dist A l.length p q :=
  ⟨wordS A l, by unfold wordS; rw [List.length_map], fun s hs => by
    obtain ⟨i, hi, rfl⟩ := List.mem_map.1 hs
    exact spAt_mem (h.1 i hi), h.2⟩
theorem word_of {A : Au} : ∀ {l : List Sp}, (∀ s ∈ l, s ∈ stepsA A) → ∃ u : List Nat, (∀ i ∈ u, i < (stepsA A).length) ∧ wordS A u = l
  | [], _ => ⟨[], fun i hi => (by cases hi), rfl⟩
  | s :: l, h => by
    obtain ⟨i, hi⟩ := List.getElem?_of_mem (h s (by simp))
    obtain ⟨u, h1, h2⟩ := word_of fun x hx => h x (List.mem_cons_of_mem _ hx)
    refine ⟨i :: u, fun j hj => ?_, ?_⟩
    · rcases List.mem_cons.1 hj with rfl | hj
      · exact (List.getElem?_eq_some_iff.1 hi).1
      · exact h1 j hj
    · unfold wordS at *
      rw [List.map_cons, h2]
      unfold spAt
      rw [List.getD_eq_getElem?_getD, hi]; rfl
theorem of_dist {A : Au} {d : Nat} {p q : Int} (h : Dist A d p q) : ∃ u : List Nat, u.length = d ∧ DistW A u p q := by
  obtain ⟨l, h1, h2, h3⟩ := h
  obtain ⟨u, h4, h5⟩ := word_of h2
  exact ⟨u, by rw [← h1, ← h5]; unfold wordS; rw [List.length_map], h4, by rw [h5]; exact h3⟩
theorem nextL_snoc (A : Au) (l : List Sp) (s : Sp) (p : Int) : nextL A (l ++ [s]) p = nextI A s (nextL A l p) := by unfold nextL; rw [List.foldl_append]; rfl
theorem nextL_app (A : Au) (l r : List Sp) (p : Int) : nextL A (l ++ r) p = nextL A r (nextL A l p) := by unfold nextL; rw [List.foldl_append]
structure Way where
  p : Int
  q : Int
  l : List Nat
def Way.pr (w : Way) : Int × Int := (w.p, w.q)
def wayNext (A : Au) (w : Way) (i : Nat) : Way := ⟨nextI A (spAt A i) w.p, nextI A (spAt A i) w.q, w.l ++ [i]⟩
def bfsAdd (A : Au) (w : Way) (W : List Way) (i : Nat) : List Way := if (wayNext A w i).p = (wayNext A w i).q ∨ (wayNext A w i).pr ∈ W.map Way.pr then W else W ++ [wayNext A w i]
structure BInv (A : Au) (p q : Int) (k i : Nat) (W : List Way) : Prop where
  st : W[0]? = some ⟨p, q, []⟩
  run : ∀ w ∈ W, (∀ j ∈ w.l, j < (stepsA A).length) ∧ w.p = nextL A (wordS A w.l) p ∧ w.q = nextL A (wordS A w.l) q ∧ InA A w.p ∧ InA A w.q
  nd : (W.map Way.pr).Nodup
  par : ∀ w ∈ W, w.l = [] ∨ ∃ (j : Nat) (u : Way) (x : Nat), W[j]? = some u ∧ w.l = u.l ++ [x] ∧ (j < k ∨ (j = k ∧ x < i))
  srt : W.Pairwise fun u v => slt u.l v.l
  cl : ∀ (j : Nat) (u : Way) (x : Nat), W[j]? = some u → x < (stepsA A).length → (j < k ∨ (j = k ∧ x < i)) → (wayNext A u x).p = (wayNext A u x).q ∨ ∃ v ∈ W, v.pr = (wayNext A u x).pr ∧ sle v.l (u.l ++ [x])
  eq : ∀ (j : Nat) (u : Way), W[j]? = some u → j < k → finI A u.p = finI A u.q
section
variable {A : Au} {p q : Int}
theorem BInv.init (hp : InA A p) (hq : InA A q) : BInv A p q 0 0 [⟨p, q, []⟩] := by
  refine ⟨rfl, fun w hw => ?_, by simp, fun w hw => ?_, by simp, fun j u x _ _ h => by omega, fun j u _ h => by omega⟩
  · rw [List.mem_singleton] at hw; subst hw
    exact ⟨fun j hj => (by cases hj), rfl, rfl, hp, hq⟩
  · rw [List.mem_singleton] at hw; subst hw; exact .inl rfl
theorem get_old {W : List Way} {v : Way} {j : Nat} {u : Way} (h : W[j]? = some u) : (W ++ [v])[j]? = some u := by
  rw [List.getElem?_append_left (List.getElem?_eq_some_iff.1 h).1]; exact h
theorem get_new {W : List Way} {v : Way} {j : Nat} {u : Way} (h : (W ++ [v])[j]? = some u) : W[j]? = some u ∨ (j = W.length ∧ u = v) := by
  rcases Nat.lt_or_ge j W.length with hl | hl
  · rw [List.getElem?_append_left hl] at h; exact .inl h
  · rw [List.getElem?_append_right hl] at h
    have := (List.getElem?_eq_some_iff.1 h).1
    rw [List.length_singleton] at this
    have e : j = W.length := by omega
    subst e
    rw [Nat.sub_self] at h
    exact .inr ⟨rfl, (Option.some.inj h).symm⟩
theorem BInv.add (hok : AuOk A) {k i : Nat} {W : List Way} {w : Way} (h : BInv A p q k i W) (hw : W[k]? = some w) (hi : i < (stepsA A).length) : BInv A p q k (i + 1) (bfsAdd A w W i) ∧ (bfsAdd A w W i)[k]? = some w := by
  have hkl := (List.getElem?_eq_some_iff.1 hw).1
  have hwm := List.mem_of_getElem? hw
  obtain ⟨w1, w2, w3, w4, w5⟩ := h.run w hwm
  have hsp := mem_steps.1 (spAt_mem hi)
  unfold bfsAdd
  by_cases hc : (wayNext A w i).p = (wayNext A w i).q ∨ (wayNext A w i).pr ∈ W.map Way.pr
  · rw [if_pos hc]
    refine ⟨⟨h.st, h.run, h.nd, fun v hv => ?_, h.srt, fun j u x hj hx hlt => ?_, h.eq⟩, hw⟩
    · rcases h.par v hv with e | ⟨j, u, x, h1, h2, h3⟩
      · exact .inl e
      · exact .inr ⟨j, u, x, h1, h2, by omega⟩
    · by_cases hold : j < k ∨ (j = k ∧ x < i)
      · exact h.cl j u x hj hx hold
      · obtain ⟨rfl, rfl⟩ : j = k ∧ x = i := by omega
        rw [hw] at hj
        obtain rfl := Option.some.inj hj
        rcases hc with hc | hc
        · exact .inl hc
        · obtain ⟨v, hv, e⟩ := List.mem_map.1 hc
          refine .inr ⟨v, hv, e, ?_⟩
          rcases h.par v hv with e2 | ⟨j', u', x', h1, h2, h3⟩
          · refine .inr (.inl ?_)
            rw [e2, List.length_append]; simp
          · rw [h2]
            rcases h3 with h3 | ⟨rfl, h3⟩
            · refine .inr (slt_snoc ?_)
              have hsrt := h.srt
              rw [List.pairwise_iff_getElem] at hsrt
              have := hsrt j' j (by omega) hkl h3
              rw [(List.getElem?_eq_some_iff.1 h1).2, (List.getElem?_eq_some_iff.1 hw).2] at this
              exact this
            · rw [hw] at h1
              obtain rfl := Option.some.inj h1
              exact .inr (slt_last h3)
  · rw [if_neg hc]
    have hc1 : ¬ (wayNext A w i).p = (wayNext A w i).q := fun e => hc (.inl e)
    have hc2 : (wayNext A w i).pr ∉ W.map Way.pr := fun e => hc (.inr e)
    refine ⟨⟨get_old h.st, fun v hv => ?_, ?_, fun v hv => ?_, ?_, fun j u x hj hx hlt => ?_, fun j u hj hlt => ?_⟩, get_old hw⟩
    · rcases List.mem_append.1 hv with hv | hv
      · exact h.run v hv
      · rw [List.mem_singleton] at hv; subst hv
        refine ⟨fun j hj => ?_, ?_, ?_, next_in hok hsp w4, next_in hok hsp w5⟩
        · rcases List.mem_append.1 hj with hj | hj
          · exact w1 j hj
          · rw [List.mem_singleton] at hj; omega
        · show nextI A (spAt A i) w.p = nextL A (wordS A (w.l ++ [i])) p
          unfold wordS
          rw [List.map_append, w2]
          exact (nextL_snoc A _ _ _).symm
        · show nextI A (spAt A i) w.q = nextL A (wordS A (w.l ++ [i])) q
          unfold wordS
          rw [List.map_append, w3]
          exact (nextL_snoc A _ _ _).symm
    · rw [List.map_append, List.nodup_append]
      refine ⟨h.nd, by simp, fun a ha b hb e => ?_⟩
      rw [List.map_singleton, List.mem_singleton] at hb
      rw [e, hb] at ha
      exact hc2 ha
    · rcases List.mem_append.1 hv with hv | hv
      · rcases h.par v hv with e | ⟨j, u, x, h1, h2, h3⟩
        · exact .inl e
        · exact .inr ⟨j, u, x, get_old h1, h2, by omega⟩
      · rw [List.mem_singleton] at hv; subst hv
        exact .inr ⟨k, w, i, get_old hw, rfl, .inr ⟨rfl, by omega⟩⟩
    · rw [List.pairwise_append]
      refine ⟨h.srt, by simp, fun u hu v hv => ?_⟩
      rw [List.mem_singleton] at hv; subst hv
      show slt u.l (w.l ++ [i])
      rcases h.par u hu with e | ⟨j, u', x, h1, h2, h3⟩
      · refine .inl ?_
        rw [e, List.length_append]; simp
      · rw [h2]
        rcases h3 with h3 | ⟨rfl, h3⟩
        · refine slt_snoc ?_
          have hsrt := h.srt
          rw [List.pairwise_iff_getElem] at hsrt
          have := hsrt j k (by omega) hkl h3
          rw [(List.getElem?_eq_some_iff.1 h1).2, (List.getElem?_eq_some_iff.1 hw).2] at this
          exact this
        · rw [hw] at h1
          obtain rfl := Option.some.inj h1
          exact slt_last h3
    · rcases get_new hj with hj' | ⟨rfl, rfl⟩
      · clear hj
        by_cases hold : j < k ∨ (j = k ∧ x < i)
        · rcases h.cl j u x hj' hx hold with e | ⟨v, hv, e⟩
          · exact .inl e
          · exact .inr ⟨v, List.mem_append_left _ hv, e⟩
        · obtain ⟨rfl, rfl⟩ : j = k ∧ x = i := by omega
          rw [hw] at hj'
          obtain rfl := Option.some.inj hj'
          exact .inr ⟨_, List.mem_append_right _ (List.mem_singleton.2 rfl), rfl, .inl rfl⟩
      · omega
    · rcases get_new hj with hj | ⟨rfl, rfl⟩
      · exact h.eq j u hj hlt
      · omega
theorem BInv.next {k : Nat} {W : List Way} {w : Way} (h : BInv A p q k (stepsA A).length W) (hw : W[k]? = some w) (he : finI A w.p = finI A w.q) : BInv A p q (k + 1) 0 W := by
  refine ⟨h.st, h.run, h.nd, fun v hv => ?_, h.srt, fun j u x hj hx hlt => ?_, fun j u hj hlt => ?_⟩
  · rcases h.par v hv with e | ⟨j, u, x, h1, h2, h3⟩
    · exact .inl e
    · exact .inr ⟨j, u, x, h1, h2, by omega⟩
  · exact h.cl j u x hj hx (by omega)
  · by_cases hk : j < k
    · exact h.eq j u hj hk
    · obtain rfl : j = k := by omega
      rw [hw] at hj
      obtain rfl := Option.some.inj hj
      exact he
theorem BInv.cover (hok : AuOk A) {k : Nat} {W : List Way} (h : BInv A p q k 0 W) (hp : InA A p) (hq : InA A q) : ∀ (n : Nat) (u r : List Nat), u.length = n → (∀ i ∈ u ++ r, i < (stepsA A).length) → finI A (nextL A (wordS A (u ++ r)) p) ≠ finI A (nextL A (wordS A (u ++ r)) q) → (∀ v ∈ W, v.l.length < n → ∃ j, j < k ∧ W[j]? = some v) → ∃ v ∈ W, v.pr = (nextL A (wordS A u) p, nextL A (wordS A u) q) ∧ sle v.l u := by
  intro n
  induction n with
  | zero =>
    intro u r hu _ _ _
    obtain rfl := List.eq_nil_of_length_eq_zero hu
    exact ⟨_, List.mem_of_getElem? h.st, rfl, .inl rfl⟩
  | succ n ih =>
    intro u r hu hr hd hpop
    obtain ⟨u', x, rfl⟩ : ∃ u' x, u = u' ++ [x] := by
      rcases List.eq_nil_or_concat u with e | ⟨u', x, e⟩
      · rw [e] at hu; cases hu
      · exact ⟨u', x, by rw [e, List.concat_eq_append]⟩
    have hu' : u'.length = n := by rw [List.length_append, List.length_singleton] at hu; omega
    have hxl : x < (stepsA A).length := hr x (by simp)
    obtain ⟨v, hv, e, hle⟩ := ih u' ([x] ++ r) hu' (fun i hi => hr i (by simpa using hi)) (by rw [← List.append_assoc]; exact hd) (fun v hv hl => hpop v hv (by omega))
    have hvl : v.l.length < n + 1 := by
      rcases hle with hle | hle | hle
      · rw [hle]; omega
      · omega
      · omega
    obtain ⟨j, hj, hjv⟩ := hpop v hv hvl
    have hstep : (nextL A (wordS A (u' ++ [x])) p, nextL A (wordS A (u' ++ [x])) q) = (wayNext A v x).pr := by
      have e1 : v.p = nextL A (wordS A u') p := congrArg Prod.fst e
      have e2 : v.q = nextL A (wordS A u') q := congrArg Prod.snd e
      unfold wordS
      rw [List.map_append, List.map_singleton, nextL_snoc, nextL_snoc]
      unfold wayNext Way.pr
      rw [e1, e2]; rfl
    rcases h.cl j v x hjv hxl (.inl hj) with hdg | ⟨v', hv', e', hle'⟩
    · exfalso
      refine hd ?_
      have e1 : nextL A (wordS A (u' ++ [x])) p = (wayNext A v x).p := congrArg Prod.fst hstep
      have e2 : nextL A (wordS A (u' ++ [x])) q = (wayNext A v x).q := congrArg Prod.snd hstep
      have hsplit : wordS A (u' ++ [x] ++ r) = wordS A (u' ++ [x]) ++ wordS A r := by unfold wordS; rw [List.map_append]
      rw [hsplit, nextL_app, nextL_app, e1, e2, hdg]
    · exact ⟨v', hv', by rw [hstep]; exact e', sle_trans hle' (sle_snoc hle)⟩
theorem BInv.found (hok : AuOk A) {k : Nat} {W : List Way} {w : Way} (h : BInv A p q k 0 W) (hp : InA A p) (hq : InA A q) (hw : W[k]? = some w) (hd : finI A w.p ≠ finI A w.q) : DistW A w.l p q ∧ ∀ g, DistW A g p q → sle w.l g := by
  obtain ⟨w1, w2, w3, w4, w5⟩ := h.run w (List.mem_of_getElem? hw)
  refine ⟨⟨w1, by rw [← w2, ← w3]; exact hd⟩, fun g hg => ?_⟩
  rcases slt_total w.l g with hl | hl | hl
  · exact .inr hl
  · exact .inl hl
  · exfalso
    have hkl := (List.getElem?_eq_some_iff.1 hw).1
    have hbefore : ∀ v ∈ W, slt v.l w.l → ∃ j, j < k ∧ W[j]? = some v := fun v hv hlt => by
      obtain ⟨j, hj⟩ := List.getElem?_of_mem hv
      refine ⟨j, ?_, hj⟩
      refine Classical.byContradiction fun hn => ?_
      have hjl := (List.getElem?_eq_some_iff.1 hj).1
      rcases Nat.lt_or_ge k j with hkj | hkj
      · have hsrt := h.srt
        rw [List.pairwise_iff_getElem] at hsrt
        have := hsrt k j hkl hjl hkj
        rw [(List.getElem?_eq_some_iff.1 hj).2, (List.getElem?_eq_some_iff.1 hw).2] at this
        exact slt_irr _ (slt_trans hlt this)
      · obtain rfl : j = k := by omega
        rw [hw] at hj
        obtain rfl := Option.some.inj hj
        exact slt_irr _ hlt
    have hgl : g.length ≤ w.l.length := by
      rcases hl with hl | ⟨hl, _⟩
      · omega
      · omega
    obtain ⟨v, hv, e, hle⟩ := h.cover hok hp hq g.length g [] rfl (by rw [List.append_nil]; exact hg.1) (by rw [List.append_nil]; exact hg.2) (fun v hv hlt => hbefore v hv (.inl (by omega)))
    have hvw : slt v.l w.l := by
      rcases hle with hle | hle
      · rw [hle]; exact hl
      · exact slt_trans hle hl
    obtain ⟨j, hj, hjv⟩ := hbefore v hv hvw
    have := h.eq j v hjv hj
    have e1 : v.p = nextL A (wordS A g) p := congrArg Prod.fst e
    have e2 : v.q = nextL A (wordS A g) q := congrArg Prod.snd e
    rw [e1, e2] at this
    exact hg.2 this
theorem BInv.none (hok : AuOk A) {W : List Way} (h : BInv A p q W.length 0 W) (hp : InA A p) (hq : InA A q) : Eqv A p q := fun d hd => by
  obtain ⟨g, hg1, hg⟩ := of_dist hd
  have hpop : ∀ v ∈ W, ∃ j, j < W.length ∧ W[j]? = some v := fun v hv => by
    obtain ⟨j, hj⟩ := List.getElem?_of_mem hv
    exact ⟨j, (List.getElem?_eq_some_iff.1 hj).1, hj⟩
  obtain ⟨v, hv, e, hle⟩ := h.cover hok hp hq g.length g [] rfl (by rw [List.append_nil]; exact hg.1) (by rw [List.append_nil]; exact hg.2) (fun v hv _ => hpop v hv)
  obtain ⟨j, hj, hjv⟩ := hpop v hv
  have := h.eq j v hjv hj
  have e1 : v.p = nextL A (wordS A g) p := congrArg Prod.fst e
  have e2 : v.q = nextL A (wordS A g) q := congrArg Prod.snd e
  rw [e1, e2] at this
  exact hg.2 this
theorem pairs_few {n : Nat} {l : List (Int × Int)} (hnd : l.Nodup) (h : ∀ x ∈ l, (0 ≤ x.1 ∧ x.1 < (n : Int)) ∧ (0 ≤ x.2 ∧ x.2 < (n : Int))) : l.length ≤ n * n := by
  have h1 := pigeon_few (n * n) (l.map fun x => x.1 * (n : Int) + x.2) ?_ fun s hs => ?_
  · rwa [List.length_map] at h1
  · rw [List.nodup_iff_pairwise_ne, List.pairwise_map]
    rw [List.nodup_iff_pairwise_ne] at hnd
    refine List.Pairwise.imp_of_mem ?_ hnd
    intro a b ha hb hne e
    refine hne ?_
    obtain ⟨a1, a2⟩ := h a ha
    obtain ⟨b1, b2⟩ := h b hb
    have d1 := divmod_pair (a := a.1) a2
    have d2 := divmod_pair (a := b.1) b2
    rw [e] at d1
    exact Prod.ext (d1.1.symm.trans d2.1) (d1.2.symm.trans d2.2)
  · obtain ⟨x, hx, rfl⟩ := List.mem_map.1 hs
    obtain ⟨⟨h1, h2⟩, h3, h4⟩ := h x hx
    obtain ⟨a, ha⟩ := Int.eq_ofNat_of_zero_le h1
    obtain ⟨b, hb⟩ := Int.eq_ofNat_of_zero_le h3
    rw [ha, hb]
    have ha' : a < n := by omega
    have : (a + 1) * n ≤ n * n := Nat.mul_le_mul_right _ ha'
    rw [Nat.add_mul, Nat.one_mul] at this
    rw [← Int.natCast_mul]
    omega
theorem BInv.few {k i : Nat} {W : List Way} (h : BInv A p q k i W) : W.length ≤ A.final.length * A.final.length := by
  have := pairs_few (n := A.final.length) h.nd fun x hx => by
    obtain ⟨w, hw, rfl⟩ := List.mem_map.1 hx
    exact ⟨(h.run w hw).2.2.2.1, (h.run w hw).2.2.2.2⟩
  rwa [List.length_map] at this
end
end Go.Mn

set_option linter.unusedSimpArgs false
set_option linter.unusedVariables false
set_option maxHeartbeats 400000
namespace Go.Mn
open Go Go.Rt
def nearI (A : Au) (d : Nat) (p q : Int) : Nat := ((List.range (stepsA A).length).find? fun (i : Nat) => decide (farA A (nextI A (spAt A i) p) (nextI A (spAt A i) q) = (d : Int))).getD 0
def apartL (A : Au) : Nat → Int → Int → List Nat
  | 0, _, _ => []
  | d + 1, p, q => nearI A d p q :: apartL A d (nextI A (spAt A (nearI A d p q)) p) (nextI A (spAt A (nearI A d p q)) q)
theorem sle_antisymm {u v : List Nat} (h : sle u v) (k : sle v u) : u = v := by
  rcases h with h | h
  · exact h
  · rcases k with k | k
    · exact k.symm
    · exact absurd (slt_trans h k) (slt_irr u)
theorem near_spec {A : Au} {d : Nat} {p q : Int} (hd : d + 1 ≤ A.final.length) (h : MinD A (d + 1) p q) : nearI A d p q < (stepsA A).length ∧ MinD A d (nextI A (spAt A (nearI A d p q)) p) (nextI A (spAt A (nearI A d p q)) q) ∧ ∀ j, j < nearI A d p q → ¬ MinD A d (nextI A (spAt A j) p) (nextI A (spAt A j) q) := by
  have hE : Eqk A d p q := fun e he => h.2 e (by omega)
  obtain ⟨s, hs, hm⟩ := (minD_succ hE).1 h
  obtain ⟨i, hi⟩ := List.getElem?_of_mem hs
  have hil := (List.getElem?_eq_some_iff.1 hi).1
  have hsp : spAt A i = s := by unfold spAt; rw [List.getD_eq_getElem?_getD, hi]; rfl
  obtain ⟨m, h1, h2, h3, h4⟩ := find_first (f := fun (i : Nat) => decide (farA A (nextI A (spAt A i) p) (nextI A (spAt A i) q) = (d : Int))) hil (decide_eq_true (by rw [hsp]; exact far_pos.2 ⟨by omega, hm⟩))
  unfold nearI
  rw [h1, Option.getD_some]
  refine ⟨by omega, (far_pos.1 (of_decide_eq_true h3)).2, fun j hj hj2 => ?_⟩
  have h5 := h4 j hj
  have h6 : farA A (nextI A (spAt A j) p) (nextI A (spAt A j) q) = (d : Int) := far_pos.2 ⟨by omega, hj2⟩
  rw [decide_eq_true h6] at h5
  cases h5
theorem apart_least {A : Au} : ∀ (d : Nat) (p q : Int), d ≤ A.final.length → MinD A d p q → DistW A (apartL A d p q) p q ∧ (apartL A d p q).length = d ∧ ∀ g, DistW A g p q → sle (apartL A d p q) g
  | 0, p, q, _, h => by
    rw [apartL]
    refine ⟨⟨fun i hi => (by cases hi), dist_zero.1 h.1⟩, rfl, fun g hg => ?_⟩
    cases g with
    | nil => exact .inl rfl
    | cons x g => exact .inr (.inl (by simp))
  | d + 1, p, q, hd, h => by
    obtain ⟨h1, h2, h3⟩ := near_spec hd h
    obtain ⟨⟨i1, i2⟩, i3, i4⟩ := apart_least d _ _ (by omega) h2
    rw [apartL]
    refine ⟨⟨fun i hi => ?_, i2⟩, by rw [List.length_cons, i3], fun g hg => ?_⟩
    · rcases List.mem_cons.1 hi with rfl | hi
      · exact h1
      · exact i1 i hi
    · have hgl : ¬ g.length < d + 1 := fun hl => h.2 _ hl (distW_of hg)
      by_cases hl : g.length = d + 1
      · cases g with
        | nil => cases hl
        | cons j g =>
          have hg' : DistW A g (nextI A (spAt A j) p) (nextI A (spAt A j) q) := ⟨fun i hi => hg.1 i (List.mem_cons_of_mem _ hi), hg.2⟩
          have hj := hg.1 j (by simp)
          have hgd : g.length = d := by simpa using hl
          have hmin : MinD A d (nextI A (spAt A j) p) (nextI A (spAt A j) q) := by
            refine ⟨by rw [← hgd]; exact distW_of hg', fun e he hde => h.2 (e + 1) (by omega) (dist_succ.2 ⟨_, spAt_mem hj, hde⟩)⟩
          rcases Nat.lt_trichotomy (nearI A d p q) j with hlt | heq | hgt
          · exact .inr (.inr ⟨by rw [List.length_cons, List.length_cons, i3, hgd], .inl hlt⟩)
          · rw [heq] at i4 i3 ⊢
            rcases i4 g hg' with e | e
            · exact .inl (by rw [e])
            · rcases e with e | ⟨e1, e2⟩
              · omega
              · exact .inr (.inr ⟨by rw [List.length_cons, List.length_cons, e1], .inr ⟨rfl, e2⟩⟩)
          · exact absurd hmin (h3 j hgt)
      · exact .inr (.inl (by rw [List.length_cons, i3]; omega))
end Go.Mn

set_option linter.unusedSimpArgs false
set_option linter.unusedVariables false
set_option maxHeartbeats 400000
namespace Go.Mn
open Go Go.Rt
theorem sizeT_kid {s : Int} {l : List Tr} {t : Tr} (h : t ∈ l) : sizeT t < sizeT (.node s l) := by
  obtain ⟨i, hi⟩ := List.getElem?_of_mem h
  have := sizeTL_at hi
  rw [sizeT_node]; omega
theorem sizeL_small {s : Int} {l : List Tr} (h : sizeT (.node s l) ≤ 4096) : sizeL 1 l = (sizeT (.node s l) : Int) := by
  have := sizeW_eq (.node s l) (by omega)
  rw [sizeW_node] at this
  exact this
theorem cmpT_small {s s' : Int} {l l' : List Tr} (h : sizeT (.node s l) ≤ 4096) (h' : sizeT (.node s' l') ≤ 4096) : cmpT (.node s l) (.node s' l') < 0 ↔ sizeT (.node s l) < sizeT (.node s' l') ∨ (sizeT (.node s l) = sizeT (.node s' l') ∧ (s < s' ∨ (s = s' ∧ (l.length < l'.length ∨ (l.length = l'.length ∧ cmpL l l' < 0))))) := by
  rw [cmpT_lt, sizeL_small h, sizeL_small h']
  constructor
  · rintro (h1 | ⟨h1, h2⟩)
    · exact .inl (by omega)
    · exact .inr ⟨by omega, h2⟩
  · rintro (h1 | ⟨h1, h2⟩)
    · exact .inl (by omega)
    · exact .inr ⟨by omega, h2⟩
def leT (t u : Tr) : Prop := cmpT t u ≤ 0
theorem leT_or {t u : Tr} (h : leT t u) : cmpT t u < 0 ∨ t = u := by
  unfold leT at h
  by_cases e : cmpT t u = 0
  · exact .inr (cmpT_eq _ _ e)
  · exact .inl (by omega)
theorem leT_total (t u : Tr) : leT t u ∨ cmpT u t < 0 := by
  unfold leT
  rw [cmpT_swap t u]
  omega
theorem leT_size {t u : Tr} (ht : sizeT t ≤ 4096) (hu : sizeT u ≤ 4096) (h : leT t u) : sizeT t ≤ sizeT u := by
  rcases leT_or h with h | rfl
  · obtain ⟨s, l⟩ := t
    obtain ⟨s', l'⟩ := u
    rcases (cmpT_small ht hu).1 h with h | ⟨h, _⟩ <;> omega
  · exact Nat.le_refl _
def tupT (T : List Tr) : Nat → List (List Tr)
  | 0 => [[]]
  | k + 1 => T.flatMap fun t => (tupT T k).map fun l => t :: l
def allT (r : List Int) : Nat → List Tr
  | 0 => []
  | k + 1 => (List.range r.length).flatMap fun s => (tupT (allT r k) (r.getD s 0).toNat).map fun l => .node (s : Int) l
theorem mem_tupT {T : List Tr} : ∀ {l : List Tr}, (∀ t ∈ l, t ∈ T) → l ∈ tupT T l.length
  | [], _ => by simp [tupT]
  | t :: ts, h => List.mem_flatMap.2 ⟨t, h t (by simp), List.mem_map.2 ⟨ts, mem_tupT fun x hx => h x (List.mem_cons_of_mem _ hx), rfl⟩⟩
theorem mem_allT {r : List Int} : ∀ (k : Nat) (t : Tr), sizeT t ≤ k → nodesE r t = 0 → t ∈ allT r k
  | 0, t, h, _ => by have := sizeT_pos t; omega
  | k + 1, .node s l, h, hn => by
    obtain ⟨h1, h2, h3, h4⟩ := nodes_good hn
    obtain ⟨m, rfl⟩ := Int.eq_ofNat_of_zero_le h1
    refine List.mem_flatMap.2 ⟨m, List.mem_range.2 (by omega), List.mem_map.2 ⟨l, ?_, rfl⟩⟩
    rw [Int.toNat_natCast] at h3
    rw [← h3, Int.toNat_natCast]
    exact mem_tupT fun t ht => mem_allT k t (by have := sizeT_kid (s := (m : Int)) ht; omega) (nodesL_mem h4 t ht)
theorem countP_lt {α : Type} {p q : α → Bool} {x : α} : ∀ {l : List α}, (∀ y, p y = true → q y = true) → x ∈ l → p x = false → q x = true → l.countP p < l.countP q
  | y :: ys, h, hx, h1, h2 => by
    have hle : ys.countP p ≤ ys.countP q := List.countP_mono_left fun z _ => h z
    rw [List.countP_cons, List.countP_cons]
    rcases List.mem_cons.1 hx with rfl | hx
    · rw [h1, h2]
      show _ + 0 < _ + 1
      omega
    · have ih := countP_lt h hx h1 h2
      by_cases e : p y = true
      · rw [if_pos e, if_pos (h y e)]; omega
      · rw [if_neg e]; omega
def rkT (r : List Int) (t : Tr) : Nat := (allT r 4096).countP fun u => decide (cmpT u t < 0)
theorem rkT_lt {r : List Int} {t u : Tr} (ht : sizeT t ≤ 4096) (hn : nodesE r t = 0) (h : cmpT t u < 0) : rkT r t < rkT r u := by
  refine countP_lt (x := t) (fun y hy => ?_) (mem_allT _ t ht hn) ?_ ?_
  · exact decide_eq_true (cmpT_trans _ _ _ (of_decide_eq_true hy) h)
  · exact decide_eq_false (by rw [cmpT_self]; omega)
  · exact decide_eq_true h
structure Reach (A : Au) (q : Int) (t : Tr) : Prop where
  n : nodesE A.ranks t = 0
  s : stateT A t = q
  z : sizeT t ≤ 4096
def Best (A : Au) (q : Int) (t : Tr) : Prop := Reach A q t ∧ ∀ u, Reach A q u → leT t u
theorem best_of {A : Au} {q : Int} {t : Tr} (h : Reach A q t) : ∃ u, Best A q u := by
  have key : ∀ n t, rkT A.ranks t ≤ n → Reach A q t → ∃ u, Best A q u := by
    intro n
    induction n with
    | zero =>
      intro t hn ht
      refine ⟨t, ht, fun u hu => ?_⟩
      rcases leT_total t u with h | h
      · exact h
      · have := rkT_lt hu.z hu.n h; omega
    | succ n ih =>
      intro t hn ht
      by_cases hb : ∀ u, Reach A q u → leT t u
      · exact ⟨t, ht, hb⟩
      · obtain ⟨u, hu⟩ := Classical.not_forall.1 hb
        obtain ⟨hu, hl⟩ := Classical.not_imp.1 hu
        have : cmpT u t < 0 := (leT_total t u).resolve_left hl
        exact ih u (by have := rkT_lt hu.z hu.n this; omega) hu
  exact key _ t (Nat.le_refl _) h
end Go.Mn

set_option linter.unusedSimpArgs false
set_option linter.unusedVariables false
set_option maxHeartbeats 400000
namespace Go.Mn
open Go Go.Rt
theorem quo_all {A : Au} {reps : List Int} (hk : chk A = 0) (h : RepsOk A reps) {d : Nat} (hd : d < reps.length) : (d : Int) ∈ foundA (quoA A reps) := quo_found hk h ⟨by omega, by omega⟩
theorem found_perm {A : Au} {reps : List Int} (hk : chk A = 0) (h : RepsOk A reps) : PermOk (quoA A reps).final.length (foundA (quoA A reps)) := by
  have hqo := quo_ok hk h
  have hnd := found_nd hqo
  have hrng : ∀ x ∈ foundA (quoA A reps), 0 ≤ x ∧ x < ((quoA A reps).final.length : Int) := fun x hx => found_in hqo hx
  have h1 := pigeon_few _ _ hnd hrng
  have h2 := pigeon_le (quoA A reps).final.length (foundA (quoA A reps)) fun i hi => quo_found hk h ⟨by omega, by rw [quo_len] at hi; omega⟩
  exact ⟨by omega, hnd, hrng⟩
end Go.Mn
