/- The plain specification of automata and trees. No condition. -/
import Derived.Test.YtdakoccbmeojhaaD
set_option linter.unusedSimpArgs false
set_option linter.unusedVariables false
set_option maxHeartbeats 400000
namespace Go.PP
open Go Go.RowKit

/-- The error number of an alphabet. -/
def alphaE (r : List Int) : Nat :=
  if r.length < 1 ∨ 4096 < r.length then 2 else if (∃ x ∈ r, x < 0 ∨ 2 < x) then 3 else if (0 : Int) ∈ r then 0 else 9

structure AlphaOk (r : List Int) : Prop where
  lo : 1 ≤ r.length
  hi : r.length ≤ 4096
  rng : ∀ x ∈ r, 0 ≤ x ∧ x ≤ 2

theorem alphaE_ok {r : List Int} (h : alphaE r = 0) : AlphaOk r := by
  unfold alphaE at h
  split at h
  · cases h
  · split at h
    · cases h
    · rename_i h1 h2
      refine ⟨by omega, by omega, fun x hx => ?_⟩
      have : ¬ (x < 0 ∨ 2 < x) := fun e => h2 ⟨x, hx, e⟩
      omega

/-- The number of tuples of k states. -/
def wideN (k : Int) (n : Nat) : Nat := n ^ k.toNat

/-- The error number of an automaton. -/
noncomputable def chk (A : Au) : Nat :=
  open Classical in
  if alphaE A.ranks ≠ 0 then alphaE A.ranks
  else if A.final.length < 1 ∨ 512 < A.final.length then 2
  else if A.to.length ≠ A.ranks.length then 3
  else if (∃ (i : Nat) (l : List Int) (k : Int), A.to[i]? = some l ∧ A.ranks[i]? = some k ∧ l.length ≠ wideN k A.final.length) then 3
  else if (∃ l ∈ A.to, ∃ s ∈ l, s < 0 ∨ (A.final.length : Int) ≤ s) then 2 else 0

structure AuOk (A : Au) : Prop where
  alpha : AlphaOk A.ranks
  lo : 1 ≤ A.final.length
  hi : A.final.length ≤ 512
  len : A.to.length = A.ranks.length
  wide : ∀ (i : Nat) (l : List Int) (k : Int), A.to[i]? = some l → A.ranks[i]? = some k → l.length = wideN k A.final.length
  rng : ∀ l ∈ A.to, ∀ s ∈ l, 0 ≤ s ∧ s < (A.final.length : Int)

theorem chk_ok {A : Au} (h : chk A = 0) : AuOk A := by
  unfold chk at h
  split at h
  · rename_i h0; exact absurd h h0
  · rename_i h0
    have h0 : alphaE A.ranks = 0 := by omega
    split at h
    · cases h
    · split at h
      · cases h
      · split at h
        · cases h
        · split at h
          · cases h
          · rename_i h1 h2 h3 h4
            refine ⟨alphaE_ok h0, by omega, by omega, by omega, fun i l k q1 q2 => ?_, fun l hl s hs => ?_⟩
            · exact Classical.byContradiction fun e => h3 ⟨i, l, k, q1, q2, e⟩
            · have : ¬ (s < 0 ∨ (A.final.length : Int) ≤ s) := fun e => h4 ⟨l, hl, s, hs, e⟩
              omega

/-- 'few': at most 6 states and symbols. -/
def fewB (A : Au) : Bool := decide (A.final.length ≤ 6 ∧ A.ranks.length ≤ 6 ∧ A.to.length ≤ 7 ∧ ∀ l ∈ A.to, l.length ≤ 40)

/-! ### trees -/
/-- The number of nodes, as an int. -/
def sizeW : Nat → Tr → Int
  | 0, _ => 0
  | d + 1, .node _ l => l.foldl (fun n x => wrap64 (n + sizeW d x)) 1
/-- The depth, as an int. -/
def deepW : Nat → Tr → Int
  | 0, _ => 0
  | d + 1, .node _ l => wrap64 (l.foldl (fun n x => max n (deepW d x)) 0 + 1)

theorem foldl_snoc {α β : Type} (f : β → α → β) (b : β) (l : List α) (k : Nat) (x : α) (h : l[k]? = some x) : (l.take (k + 1)).foldl f b = f ((l.take k).foldl f b) x := by
  obtain ⟨hk, rfl⟩ := List.getElem?_eq_some_iff.1 h
  rw [List.take_succ_eq_append_getElem hk, List.foldl_append]; rfl

/-- The error number of the first node that does not fit. -/
def nodesE : Nat → List Int → Tr → Nat
  | 0, _, _ => 0
  | d + 1, r, .node s l => if s < 0 ∨ (r.length : Int) ≤ s then 6 else if (l.length : Int) ≠ r.getD s.toNat 0 then 3 else l.foldl (fun e x => if e ≠ 0 then e else nodesE d r x) 0
theorem nodes_stop {d : Nat} {r : List Int} {e : Nat} (he : e ≠ 0) : ∀ l : List Tr, l.foldl (fun e x => if e ≠ 0 then e else nodesE d r x) e = e
  | [] => rfl
  | x :: l => by rw [List.foldl_cons, if_pos he]; exact nodes_stop he l

def rightE (d : Nat) (r : List Int) (t : Tr) : Nat :=
  if alphaE r ≠ 0 then alphaE r else if 4096 < sizeW d t then 2 else if 256 < deepW d t then 16 else nodesE d r t

/-- The place of a tuple in a table. -/
def placeOf (n : Nat) (l : List Int) : Int := l.foldl (fun (p s : Int) => p * (n : Int) + s) 0
/-- The successor. -/
def atI (A : Au) (s : Int) (l : List Int) : Int := (A.to.getD s.toNat []).getD (placeOf A.final.length l).toNat 0
/-- The state of a tree. -/
def stateT (A : Au) : Nat → Tr → Int
  | 0, _ => 0
  | d + 1, .node s l => atI A s (l.map (stateT A d))

noncomputable def runE (d : Nat) (A : Au) (t : Tr) : Int × Nat :=
  open Classical in if chk A ≠ 0 then (0, chk A) else if rightE d A.ranks t ≠ 0 then (0, rightE d A.ranks t) else (stateT A d t, 0)

/-- A list of operands that fits symbol s. -/
structure Fits (A : Au) (s : Int) (l : List Int) : Prop where
  s0 : 0 ≤ s
  s1 : s < A.ranks.length
  len : (l.length : Int) = A.ranks.getD s.toNat 0
  rng : ∀ x ∈ l, 0 ≤ x ∧ x < (A.final.length : Int)

theorem placeOf_snoc (n : Nat) (l : List Int) (x : Int) : placeOf n (l ++ [x]) = placeOf n l * n + x := by simp [placeOf]
theorem place_from {n : Nat} : ∀ (l : List Int) (p : Int) (q : Nat), 0 ≤ p → p < q → (∀ x ∈ l, 0 ≤ x ∧ x < (n : Int)) → 0 ≤ l.foldl (fun (p s : Int) => p * (n : Int) + s) p ∧ l.foldl (fun (p s : Int) => p * (n : Int) + s) p < ((q * n ^ l.length : Nat) : Int)
  | [], p, q, h1, h2, _ => by simpa using ⟨h1, h2⟩
  | x :: l, p, q, h1, h2, h => by
    obtain ⟨h3, h4⟩ := h x (by simp)
    have h5 : 0 ≤ p * n := Int.mul_nonneg h1 (by omega)
    have h6 : p * n + n ≤ (q : Int) * n := by
      have : (p + 1) * n ≤ (q : Int) * n := Int.mul_le_mul_of_nonneg_right (by omega) (by omega)
      rw [Int.add_mul, Int.one_mul] at this
      exact this
    have := place_from l (p * n + x) (q * n) (by omega) (by rw [Int.natCast_mul]; omega) (fun y hy => h y (by simp [hy]))
    rw [List.foldl_cons, List.length_cons, Nat.pow_succ, show q * (n ^ l.length * n) = q * n * n ^ l.length by rw [Nat.mul_comm (n ^ l.length) n, Nat.mul_assoc]]
    exact this
theorem placeOf_lt {n : Nat} (l : List Int) (h : ∀ x ∈ l, 0 ≤ x ∧ x < (n : Int)) : 0 ≤ placeOf n l ∧ placeOf n l < ((n ^ l.length : Nat) : Int) := by
  have := place_from l 0 1 (by omega) (by omega) h
  simpa [placeOf] using this

theorem place_bd {n : Nat} {l : List Int} (hn : n ≤ 512) (h : ∀ x ∈ l, 0 ≤ x ∧ x < (n : Int)) (hl : l.length ≤ 2) {j : Nat} (hj : j < l.length) : 0 ≤ placeOf n (l.take j) ∧ placeOf n (l.take j) ≤ 512 ∧ 0 ≤ placeOf n (l.take j) * n ∧ placeOf n (l.take j) * n ≤ 262144 := by
  have h1 := placeOf_lt (n := n) (l.take j) (fun x hx => h x (List.mem_of_mem_take hx))
  have hlen : (l.take j).length = j := by simp; omega
  rw [hlen] at h1
  have hle : placeOf n (l.take j) ≤ 512 := by
    rcases (show j = 0 ∨ j = 1 by omega) with rfl | rfl
    · have := h1.2; rw [Nat.pow_zero] at this; omega
    · have := h1.2; rw [Nat.pow_one] at this; omega
  refine ⟨h1.1, hle, Int.mul_nonneg h1.1 (by omega), ?_⟩
  have : placeOf n (l.take j) * n ≤ 512 * n := Int.mul_le_mul_of_nonneg_right hle (by omega)
  omega

theorem placeOf_take {n : Nat} {l : List Int} {j : Nat} {x : Int} (h : l[j]? = some x) : placeOf n (l.take (j + 1)) = placeOf n (l.take j) * n + x := by
  obtain ⟨hk, rfl⟩ := List.getElem?_eq_some_iff.1 h
  rw [List.take_succ_eq_append_getElem hk, placeOf_snoc]

/-- What a symbol and fitting operands give. -/
theorem Fits.at {A : Au} (hA : AuOk A) {s : Int} {l : List Int} (h : Fits A s l) :
    ∃ (i p : Nat) (row : List Int) (q : Int), s = i ∧ i < A.to.length ∧ A.to[i]? = some row ∧ placeOf A.final.length l = p ∧ p < row.length ∧ row[p]? = some q ∧ atI A s l = q ∧ 0 ≤ q ∧ q < A.final.length ∧ l.length ≤ 2 := by
  obtain ⟨i, rfl⟩ := Int.eq_ofNat_of_zero_le h.s0
  have hi : i < A.ranks.length := by have := h.s1; omega
  have hi2 : i < A.to.length := by rw [hA.len]; exact hi
  have hk : A.ranks[i]? = some A.ranks[i] := by simp
  have hrow : A.to[i]? = some A.to[i] := by simp
  have hw := hA.wide i _ _ hrow hk
  have hlen := h.len
  simp only [Int.toNat_natCast, List.getD, hk, Option.getD_some] at hlen
  have hr := hA.alpha.rng _ (List.getElem_mem hi)
  obtain ⟨h1, h2⟩ := placeOf_lt (n := A.final.length) l h.rng
  obtain ⟨p, hp⟩ := Int.eq_ofNat_of_zero_le h1
  have hpl : p < A.to[i].length := by
    rw [hw, wideN]
    have : (A.ranks[i]).toNat = l.length := by omega
    rw [this]; omega
  have hq : A.to[i][p]? = some A.to[i][p] := by simp
  have hrg := hA.rng _ (List.getElem_mem hi2) _ (List.getElem_mem hpl)
  exact ⟨i, p, _, _, rfl, hi2, hrow, hp, hpl, hq, by simp [atI, List.getD, hrow, hp, hq], hrg.1, hrg.2, by omega⟩

theorem nodes_good {d : Nat} {r : List Int} {s : Int} {l : List Tr} (h : nodesE (d + 1) r (.node s l) = 0) : 0 ≤ s ∧ s < r.length ∧ (l.length : Int) = r.getD s.toNat 0 ∧ ∀ (i : Nat) x, l[i]? = some x → nodesE d r x = 0 := by
  rw [nodesE] at h
  split at h
  · cases h
  · split at h
    · cases h
    · rename_i h1 h2
      refine ⟨by omega, by omega, by omega, fun i x hx => ?_⟩
      refine Classical.byContradiction fun hne => ?_
      have key : ∀ (l : List Tr) (e : Nat), l.foldl (fun e x => if e ≠ 0 then e else nodesE d r x) e = 0 → e = 0 ∧ ∀ y ∈ l, nodesE d r y = 0 := by
        intro l
        induction l with
        | nil => intro e he; exact ⟨he, fun y hy => by simp at hy⟩
        | cons z l ih =>
          intro e he
          rw [List.foldl_cons] at he
          obtain ⟨h3, h4⟩ := ih _ he
          by_cases he0 : e ≠ 0
          · rw [if_pos he0] at h3; exact absurd h3 he0
          · rw [if_neg he0] at h3
            refine ⟨by omega, fun y hy => ?_⟩
            rcases List.mem_cons.1 hy with rfl | hy
            · exact h3
            · exact h4 y hy
      exact hne ((key l 0 h).2 x (List.mem_of_getElem? hx))

theorem state_rng {A : Au} (hA : AuOk A) : ∀ (d : Nat) (t : Tr), nodesE d A.ranks t = 0 → 0 ≤ stateT A d t ∧ stateT A d t < A.final.length
  | 0, _, _ => by have := hA.lo; simp [stateT]; omega
  | d + 1, .node s l, h => by
    obtain ⟨h1, h2, h3, h4⟩ := nodes_good h
    have hf : Fits A s (l.map (stateT A d)) := ⟨h1, h2, by simpa using h3, fun x hx => by
      obtain ⟨t, ht, rfl⟩ := List.mem_map.1 hx
      obtain ⟨i, hi⟩ := List.getElem?_of_mem ht
      exact state_rng hA d t (h4 i t hi)⟩
    obtain ⟨i, p, row, q, _, _, _, _, _, _, e, h5, h6, _⟩ := hf.at hA
    rw [stateT, e]; exact ⟨h5, h6⟩
theorem state_fits {A : Au} (hA : AuOk A) {d : Nat} {s : Int} {l : List Tr} (h : nodesE (d + 1) A.ranks (.node s l) = 0) : Fits A s (l.map (stateT A d)) := by
  obtain ⟨h1, h2, h3, h4⟩ := nodes_good h
  exact ⟨h1, h2, by simpa using h3, fun x hx => by
      obtain ⟨t, ht, rfl⟩ := List.mem_map.1 hx
      obtain ⟨i, hi⟩ := List.getElem?_of_mem ht
      exact state_rng hA d t (h4 i t hi)⟩

/-- The error number of a step. -/
noncomputable def stepE (A : Au) (s : Int) (l : List Int) : Int × Nat :=
  open Classical in
  if s < 0 ∨ (A.ranks.length : Int) ≤ s then (0, 6) else if (l.length : Int) ≠ A.ranks.getD s.toNat 0 then (0, 3) else if (∃ x ∈ l, x < 0 ∨ (A.final.length : Int) ≤ x) then (0, 2) else (atI A s l, 0)
theorem stepE_fits {A : Au} {s : Int} {l : List Int} (h : Fits A s l) : stepE A s l = (atI A s l, 0) := by
  unfold stepE
  rw [if_neg (by have := h.s0; have := h.s1; omega), if_neg (by have := h.len; omega), if_neg]
  rintro ⟨x, hx, h1⟩
  have := h.rng x hx
  omega
end Go.PP
