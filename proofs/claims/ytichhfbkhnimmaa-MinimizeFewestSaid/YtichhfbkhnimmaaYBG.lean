/- Trees that reach a state, plainly: the least one. No condition. -/
import Derived.Test.YtichhfbkhnimmaaYMG
import Derived.Test.YtichhfbkhnimmaaYMJ
import Derived.Test.YtichhfbkhnimmaaXW

set_option linter.unusedSimpArgs false
set_option linter.unusedVariables false
set_option maxHeartbeats 400000
namespace Go.Mn
open Go Go.Rt
theorem sizeT_kid {s : Int} {l : List Tr} {t : Tr} (h : t ∈ l) : sizeT t < sizeT (.node s l) := by
  obtain ⟨i, hi⟩ := List.getElem?_of_mem h
  have := sizeTL_at hi
  rw [sizeT_node]; omega
theorem sizeL_small {s : Int} {l : List Tr} (h : sizeT (.node s l) ≤ 4096) : sizeL 1 l = (sizeT (.node s l) : Int) := by
  have := sizeW_eq (.node s l) (by omega)
  rw [sizeW_node] at this
  exact this
theorem cmpT_small {s s' : Int} {l l' : List Tr} (h : sizeT (.node s l) ≤ 4096) (h' : sizeT (.node s' l') ≤ 4096) : cmpT (.node s l) (.node s' l') < 0 ↔ sizeT (.node s l) < sizeT (.node s' l') ∨ (sizeT (.node s l) = sizeT (.node s' l') ∧ (s < s' ∨ (s = s' ∧ (l.length < l'.length ∨ (l.length = l'.length ∧ cmpL l l' < 0))))) := by
  rw [cmpT_lt, sizeL_small h, sizeL_small h']
  constructor
  · rintro (h1 | ⟨h1, h2⟩)
    · exact .inl (by omega)
    · exact .inr ⟨by omega, h2⟩
  · rintro (h1 | ⟨h1, h2⟩)
    · exact .inl (by omega)
    · exact .inr ⟨by omega, h2⟩
def leT (t u : Tr) : Prop := cmpT t u ≤ 0
theorem leT_or {t u : Tr} (h : leT t u) : cmpT t u < 0 ∨ t = u := by
  unfold leT at h
  by_cases e : cmpT t u = 0
  · exact .inr (cmpT_eq _ _ e)
  · exact .inl (by omega)
theorem leT_total (t u : Tr) : leT t u ∨ cmpT u t < 0 := by
  unfold leT
  rw [cmpT_swap t u]
  omega
theorem leT_size {t u : Tr} (ht : sizeT t ≤ 4096) (hu : sizeT u ≤ 4096) (h : leT t u) : sizeT t ≤ sizeT u := by
  rcases leT_or h with h | rfl
  · obtain ⟨s, l⟩ := t
    obtain ⟨s', l'⟩ := u
    rcases (cmpT_small ht hu).1 h with h | ⟨h, _⟩ <;> omega
  · exact Nat.le_refl _
def tupT (T : List Tr) : Nat → List (List Tr)
  | 0 => [[]]
  | k + 1 => T.flatMap fun t => (tupT T k).map fun l => t :: l
def allT (r : List Int) : Nat → List Tr
  | 0 => []
  | k + 1 => (List.range r.length).flatMap fun s => (tupT (allT r k) (r.getD s 0).toNat).map fun l => .node (s : Int) l
theorem mem_tupT {T : List Tr} : ∀ {l : List Tr}, (∀ t ∈ l, t ∈ T) → l ∈ tupT T l.length
  | [], _ => by simp [tupT]
  | t :: ts, h => List.mem_flatMap.2 ⟨t, h t (by simp), List.mem_map.2 ⟨ts, mem_tupT fun x hx => h x (List.mem_cons_of_mem _ hx), rfl⟩⟩
theorem mem_allT {r : List Int} : ∀ (k : Nat) (t : Tr), sizeT t ≤ k → nodesE r t = 0 → t ∈ allT r k
  | 0, t, h, _ => by have := sizeT_pos t; omega
  | k + 1, .node s l, h, hn => by
    obtain ⟨h1, h2, h3, h4⟩ := nodes_good hn
    obtain ⟨m, rfl⟩ := Int.eq_ofNat_of_zero_le h1
    refine List.mem_flatMap.2 ⟨m, List.mem_range.2 (by omega), List.mem_map.2 ⟨l, ?_, rfl⟩⟩
    rw [Int.toNat_natCast] at h3
    rw [← h3, Int.toNat_natCast]
    exact mem_tupT fun t ht => mem_allT k t (by have := sizeT_kid (s := (m : Int)) ht; omega) (nodesL_mem h4 t ht)
theorem countP_lt {α : Type} {p q : α → Bool} {x : α} : ∀ {l : List α}, (∀ y, p y = true → q y = true) → x ∈ l → p x = false → q x = true → l.countP p < l.countP q
  | y :: ys, h, hx, h1, h2 => by
    have hle : ys.countP p ≤ ys.countP q := List.countP_mono_left fun z _ => h z
    rw [List.countP_cons, List.countP_cons]
    rcases List.mem_cons.1 hx with rfl | hx
    · rw [h1, h2]
      show _ + 0 < _ + 1
      omega
    · have ih := countP_lt h hx h1 h2
      by_cases e : p y = true
      · rw [if_pos e, if_pos (h y e)]; omega
      · rw [if_neg e]; omega
def rkT (r : List Int) (t : Tr) : Nat := (allT r 4096).countP fun u => decide (cmpT u t < 0)
theorem rkT_lt {r : List Int} {t u : Tr} (ht : sizeT t ≤ 4096) (hn : nodesE r t = 0) (h : cmpT t u < 0) : rkT r t < rkT r u := by
  refine countP_lt (x := t) (fun y hy => ?_) (mem_allT _ t ht hn) ?_ ?_
  · exact decide_eq_true (cmpT_trans _ _ _ (of_decide_eq_true hy) h)
  · exact decide_eq_false (by rw [cmpT_self]; omega)
  · exact decide_eq_true h
structure Reach (A : Au) (q : Int) (t : Tr) : Prop where
  n : nodesE A.ranks t = 0
  s : stateT A t = q
  z : sizeT t ≤ 4096
def Best (A : Au) (q : Int) (t : Tr) : Prop := Reach A q t ∧ ∀ u, Reach A q u → leT t u
theorem best_of {A : Au} {q : Int} {t : Tr} (h : Reach A q t) : ∃ u, Best A q u := by
  have key : ∀ n t, rkT A.ranks t ≤ n → Reach A q t → ∃ u, Best A q u := by
    intro n
    induction n with
    | zero =>
      intro t hn ht
      refine ⟨t, ht, fun u hu => ?_⟩
      rcases leT_total t u with h | h
      · exact h
      · have := rkT_lt hu.z hu.n h; omega
    | succ n ih =>
      intro t hn ht
      by_cases hb : ∀ u, Reach A q u → leT t u
      · exact ⟨t, ht, hb⟩
      · obtain ⟨u, hu⟩ := Classical.not_forall.1 hb
        obtain ⟨hu, hl⟩ := Classical.not_imp.1 hu
        have : cmpT u t < 0 := (leT_total t u).resolve_left hl
        exact ih u (by have := rkT_lt hu.z hu.n this; omega) hu
  exact key _ t (Nat.le_refl _) h
end Go.Mn

set_option linter.unusedSimpArgs false
set_option linter.unusedVariables false
set_option maxHeartbeats 400000
namespace Go.Mn
open Go Go.Rt
theorem quo_all {A : Au} {reps : List Int} (hk : chk A = 0) (h : RepsOk A reps) {d : Nat} (hd : d < reps.length) : (d : Int) ∈ foundA (quoA A reps) := quo_found hk h ⟨by omega, by omega⟩
theorem found_perm {A : Au} {reps : List Int} (hk : chk A = 0) (h : RepsOk A reps) : PermOk (quoA A reps).final.length (foundA (quoA A reps)) := by
  have hqo := quo_ok hk h
  have hnd := found_nd hqo
  have hrng : ∀ x ∈ foundA (quoA A reps), 0 ≤ x ∧ x < ((quoA A reps).final.length : Int) := fun x hx => found_in hqo hx
  have h1 := pigeon_few _ _ hnd hrng
  have h2 := pigeon_le (quoA A reps).final.length (foundA (quoA A reps)) fun i hi => quo_found hk h ⟨by omega, by rw [quo_len] at hi; omega⟩
  exact ⟨by omega, hnd, hrng⟩
end Go.Mn

set_option linter.unusedSimpArgs false
set_option linter.unusedVariables false
set_option maxHeartbeats 400000
namespace Go.Mn
open Go Go.Rt
def opsN (n k at_ : Nat) : List Nat := if k = 0 then [] else if k = 1 then [at_] else [at_ / n, at_ % n]
def rankN (A : Au) (i : Nat) : Nat := (A.ranks.getD i 0).toNat
def rowN (A : Au) (i : Nat) : List Int := A.to.getD i []
def succN (A : Au) (i at_ : Nat) : Nat := ((rowN A i).getD at_ 0).toNat
theorem rankN_le {A : Au} (hok : AuOk A) {i : Nat} (hi : i < A.ranks.length) : rankN A i ≤ 2 ∧ A.ranks[i]? = some ((rankN A i : Nat) : Int) := by
  obtain ⟨r1, r2, r3⟩ := rank_at hok hi
  exact ⟨r2, r1⟩
theorem rowN_at {A : Au} (hok : AuOk A) {i : Nat} (hi : i < A.ranks.length) : A.to[i]? = some (rowN A i) ∧ (rowN A i).length = A.final.length ^ rankN A i ∧ ∀ (p : Nat) (s : Int), (rowN A i)[p]? = some s → s = ((succN A i p : Nat) : Int) ∧ succN A i p < A.final.length := by
  have h1 : A.to[i]? = some (rowN A i) := by
    unfold rowN
    rw [List.getD_eq_getElem?_getD, List.getElem?_eq_getElem (by rw [hok.len]; exact hi)]; rfl
  obtain ⟨r1, r2⟩ := rankN_le hok hi
  refine ⟨h1, ?_, fun p s hp => ?_⟩
  · have := hok.wide i _ _ h1 r2
    rw [this]; unfold wideN; rw [Int.toNat_natCast]
  · have hr := hok.rng _ (List.mem_of_getElem? h1) s (List.mem_of_getElem? hp)
    unfold succN
    rw [List.getD_eq_getElem?_getD, hp, Option.getD_some]
    omega
theorem opsN_place {n : Nat} {ds : List Int} (hl : ds.length ≤ 2) (hd : ∀ d ∈ ds, 0 ≤ d ∧ d < (n : Int)) : opsN n ds.length (placeOf n ds).toNat = ds.map Int.toNat ∧ (placeOf n ds).toNat < n ^ ds.length := by
  match ds, hl with
  | [], _ => exact ⟨rfl, by show (0 : Nat) < n ^ 0; simp⟩
  | [x], _ =>
    obtain ⟨h1, h2⟩ := hd x (by simp)
    have e : placeOf n [x] = x := by show 0 * (n : Int) + x = x; omega
    rw [e]
    refine ⟨rfl, ?_⟩
    show x.toNat < n ^ 1
    rw [Nat.pow_one]; omega
  | [x, y], _ =>
    obtain ⟨h1, h2⟩ := hd x (by simp)
    obtain ⟨h3, h4⟩ := hd y (by simp)
    obtain ⟨a, rfl⟩ := Int.eq_ofNat_of_zero_le h1
    obtain ⟨b, rfl⟩ := Int.eq_ofNat_of_zero_le h3
    have e : placeOf n [(a : Int), (b : Int)] = ((a * n + b : Nat) : Int) := by
      show (0 * (n : Int) + (a : Int)) * (n : Int) + (b : Int) = _
      rw [Int.zero_mul, Int.zero_add, Int.natCast_add, Int.natCast_mul]
    have hb : b < n := by omega
    have ha : a < n := by omega
    rw [e, Int.toNat_natCast]
    constructor
    · show [(a * n + b) / n, (a * n + b) % n] = [(a : Int).toNat, (b : Int).toNat]
      rw [show (a * n + b) / n = a by rw [Nat.mul_comm, Nat.mul_add_div (by omega), Nat.div_eq_of_lt hb, Nat.add_zero], show (a * n + b) % n = b by rw [Nat.mul_comm, Nat.mul_add_mod, Nat.mod_eq_of_lt hb], Int.toNat_natCast, Int.toNat_natCast]
    · show a * n + b < n ^ 2
      have : (a + 1) * n ≤ n * n := Nat.mul_le_mul_right _ ha
      rw [Nat.add_mul, Nat.one_mul] at this
      rw [Nat.pow_two]; omega
theorem state_place {A : Au} (hok : AuOk A) {s : Int} {l : List Tr} (h : nodesE A.ranks (.node s l) = 0) : ∃ i at_ : Nat, s = i ∧ i < A.ranks.length ∧ at_ < (rowN A i).length ∧ opsN A.final.length (rankN A i) at_ = (stateL A l).map Int.toNat ∧ succN A i at_ = (stateT A (.node s l)).toNat ∧ rankN A i = l.length := by
  obtain ⟨h1, h2, h3, h4⟩ := nodes_good h
  obtain ⟨i, rfl⟩ := Int.eq_ofNat_of_zero_le h1
  have hi : i < A.ranks.length := by omega
  obtain ⟨r1, r2⟩ := rankN_le hok hi
  have hrl : rankN A i = l.length := by
    unfold rankN
    rw [Int.toNat_natCast] at h3
    omega
  have hsl : (stateL A l).length = l.length := by rw [stateL_map, List.length_map]
  obtain ⟨p1, p2⟩ := opsN_place (n := A.final.length) (ds := stateL A l) (by omega) (stateL_rng hok l h4)
  obtain ⟨q1, q2, q3⟩ := rowN_at hok hi
  refine ⟨i, (placeOf A.final.length (stateL A l)).toNat, rfl, hi, by rw [q2, hrl, ← hsl]; exact p2, by rw [hrl, ← hsl]; exact p1, ?_, hrl⟩
  rw [stateT_node]
  unfold succN atI rowN
  rw [Int.toNat_natCast]
def ClosedK (A : Au) (K : Nat → Prop) : Prop := ∀ i at_ : Nat, i < A.ranks.length → at_ < (rowN A i).length → (∀ o ∈ opsN A.final.length (rankN A i) at_, K o) → K (succN A i at_)
mutual
theorem closed_tree {A : Au} (hok : AuOk A) {K : Nat → Prop} (h : ClosedK A K) : ∀ t : Tr, nodesE A.ranks t = 0 → K (stateT A t).toNat
  | .node s l, hn => by
    obtain ⟨i, a, rfl, h1, h2, h3, h4, h5⟩ := state_place hok hn
    rw [← h4]
    refine h i a h1 h2 fun o ho => ?_
    rw [h3] at ho
    obtain ⟨x, hx, rfl⟩ := List.mem_map.1 ho
    exact closed_treeL hok h l (nodes_good hn).2.2.2 x hx
theorem closed_treeL {A : Au} (hok : AuOk A) {K : Nat → Prop} (h : ClosedK A K) : ∀ l : List Tr, nodesL A.ranks l = 0 → ∀ x ∈ stateL A l, K x.toNat
  | [], _, x, hx => by rw [stateL] at hx; cases hx
  | t :: ts, hn, x, hx => by
    obtain ⟨h1, h2⟩ := nodesL_good hn
    rw [stateL] at hx
    rcases List.mem_cons.1 hx with rfl | hx
    · exact closed_tree hok h t h1
    · exact closed_treeL hok h ts h2 x hx
end
theorem closed_found {A : Au} (hok : AuOk A) {K : Nat → Prop} (h : ClosedK A K) {x : Int} (hx : x ∈ foundA A) : K x.toNat := by
  obtain ⟨t, h1, rfl⟩ := found_tree hok hx
  exact closed_tree hok h t h1
def sumN (sz : Nat → Nat) (l : List Nat) : Nat := (l.map sz).sum
structure SizeIn (A : Au) (sz : Nat → Nat) : Prop where
  le : ∀ x, x < A.final.length → sz x ≤ 4097
  by_ : ∀ x, x < A.final.length → sz x ≠ 4097 → ∃ t, Reach A (x : Int) t ∧ sizeT t = sz x
def SizeFix (A : Au) (sz : Nat → Nat) : Prop := ∀ i at_ : Nat, i < A.ranks.length → at_ < (rowN A i).length → sz (succN A i at_) ≤ 1 + sumN sz (opsN A.final.length (rankN A i) at_)
mutual
theorem size_le {A : Au} (hok : AuOk A) {sz : Nat → Nat} (h : SizeFix A sz) : ∀ t : Tr, nodesE A.ranks t = 0 → sz (stateT A t).toNat ≤ sizeT t
  | .node s l, hn => by
    obtain ⟨i, a, rfl, h1, h2, h3, h4, h5⟩ := state_place hok hn
    have h6 := h i a h1 h2
    rw [h4, h3] at h6
    have h7 := sizeL_le hok h l (nodes_good hn).2.2.2
    rw [sizeT_node]
    unfold sumN at h6
    omega
theorem sizeL_le {A : Au} (hok : AuOk A) {sz : Nat → Nat} (h : SizeFix A sz) : ∀ l : List Tr, nodesL A.ranks l = 0 → (((stateL A l).map Int.toNat).map sz).sum ≤ sizeTL l
  | [], _ => by rw [stateL]; exact Nat.zero_le _
  | t :: ts, hn => by
    obtain ⟨h1, h2⟩ := nodesL_good hn
    have a := size_le hok h t h1
    have b := sizeL_le hok h ts h2
    rw [stateL, sizeTL_cons, List.map_cons, List.map_cons, List.sum_cons]
    omega
end
structure SizeOk (A : Au) (sz : Nat → Nat) : Prop where
  in_ : SizeIn A sz
  lo : ∀ (x : Nat) (t : Tr), x < A.final.length → Reach A (x : Int) t → sz x ≤ sizeT t
theorem SizeOk.of {A : Au} (hok : AuOk A) {sz : Nat → Nat} (h1 : SizeIn A sz) (h2 : SizeFix A sz) : SizeOk A sz := ⟨h1, fun x t hx ht => by
  have := size_le hok h2 t ht.n
  rwa [ht.s, Int.toNat_natCast] at this⟩
theorem SizeOk.best {A : Au} {sz : Nat → Nat} (h : SizeOk A sz) {x : Nat} {t : Tr} (hx : x < A.final.length) (hb : Best A (x : Int) t) : sizeT t = sz x := by
  have h1 := h.lo x t hx hb.1
  have h2 := hb.1.z
  obtain ⟨u, hu, e⟩ := h.in_.by_ x hx (by omega)
  have := leT_size hb.1.z hu.z (hb.2 u hu)
  omega
theorem SizeOk.ex {A : Au} {sz : Nat → Nat} (h : SizeOk A sz) {x : Nat} (hx : x < A.final.length) : sz x < 4097 ↔ ∃ t, Best A (x : Int) t := by
  constructor
  · intro hlt
    obtain ⟨t, ht, _⟩ := h.in_.by_ x hx (by omega)
    exact best_of ht
  · rintro ⟨t, ht⟩
    have := h.best hx ht
    have := ht.1.z
    omega
section
variable {A : Au} {sz : Nat → Nat} {B : Nat → Tr} {s : Nat}
end
end Go.Mn

namespace Go.Proofs.Ytichhfbkhnimmaa
open Go Go.Dm
instance : GlobW := ⟨[]⟩
end Go.Proofs.Ytichhfbkhnimmaa
