/- The plain specification of restricted automata. No condition. -/
import Derived.Test.YtdakoccbmeojhaaPb
set_option linter.unusedSimpArgs false
set_option linter.unusedVariables false
set_option maxHeartbeats 400000
namespace Go.PP
open Go Go.RowKit

/-- The place of a number in a list, or -1. -/
def hasI (l : List Int) (x : Int) : Int := if x ∈ l then (l.idxOf x : Nat) else -1
theorem hasI_mem {l : List Int} {x : Int} (h : x ∈ l) : hasI l x = (l.idxOf x : Nat) := if_pos h
theorem hasI_no {l : List Int} {x : Int} (h : x ∉ l) : hasI l x = -1 := if_neg h
theorem hasI_nonneg {l : List Int} {x : Int} : 0 ≤ hasI l x ↔ x ∈ l := by
  unfold hasI; split <;> rename_i h
  · simp [h]
  · simp [h]

def keptT (A : Au) (l : List Int) (i : Int) (ds : List Int) : Int := hasI l (atI A i (ds.map fun d => l.getD d.toNat 0))
def keptF (A : Au) (l : List Int) (s : Nat) : Bool := A.final.getD (l.getD s 0).toNat false
/-- The automaton restricted to a list of states. -/
def keptA (A : Au) (l : List Int) : Au := madeA A.ranks l.length (keptT A l) (keptF A l)

/-- A list of states that is closed under the transitions. -/
structure ShutL (A : Au) (l : List Int) : Prop where
  pos : 0 < l.length
  hi : l.length ≤ 512
  nd : l.Nodup
  rng : ∀ s ∈ l, 0 ≤ s ∧ s < (A.final.length : Int)
  shut : ∀ (i : Nat) (k : Int) (ds : List Int), A.ranks[i]? = some k → (ds.length : Int) = k → (∀ d ∈ ds, 0 ≤ d ∧ d < (l.length : Int)) → atI A i (ds.map fun d => l.getD d.toNat 0) ∈ l

theorem getD_mem {l : List Int} {d : Int} (h : 0 ≤ d ∧ d < (l.length : Int)) : l.getD d.toNat 0 ∈ l := by
  have : d.toNat < l.length := by omega
  simp [List.getD, this]
theorem ShutL.fits {A : Au} {l : List Int} (h : ShutL A l) {i : Nat} {k : Int} {ds : List Int} (hi : A.ranks[i]? = some k) (hl : (ds.length : Int) = k) (hd : ∀ d ∈ ds, 0 ≤ d ∧ d < (l.length : Int)) : Fits A i (ds.map fun d => l.getD d.toNat 0) := by
  refine ⟨by omega, ?_, ?_, fun x hx => ?_⟩
  · have := (List.getElem?_eq_some_iff.1 hi).1; omega
  · simp [List.getD, hi, hl]
  · obtain ⟨d, hd1, rfl⟩ := List.mem_map.1 hx
    exact h.rng _ (getD_mem (hd d hd1))

theorem idx_at : ∀ (l : List Int) (j : Nat) (x : Int), l.Nodup → l[j]? = some x → l.idxOf x = j
  | [], j, x, _, h => by simp at h
  | a :: l, 0, x, _, h => by simp at h; subst h; simp
  | a :: l, j + 1, x, hn, h => by
    rw [List.nodup_cons] at hn
    simp only [List.getElem?_cons_succ] at h
    have hx : x ∈ l := List.mem_of_getElem? h
    have hne : a ≠ x := fun e => hn.1 (e ▸ hx)
    rw [List.idxOf_cons, idx_at l j x hn.2 h]
    have : (a == x) = false := by simpa using hne
    rw [this]; rfl

/-- The inverse of a list of states, as some writes it. -/
def ixL (n : Nat) (l : List Int) : List Int := (List.range n).map fun (i : Nat) => if (i : Int) ∈ l then ((l.idxOf (i : Int) : Nat) : Int) else 0
theorem ixL_at {n : Nat} {l : List Int} {x : Int} (h : x ∈ l) (h0 : 0 ≤ x) (h1 : x < (n : Int)) : (ixL n l).getD x.toNat 0 = hasI l x := by
  obtain ⟨m, rfl⟩ := Int.eq_ofNat_of_zero_le h0
  have hm : m < n := by omega
  simp [ixL, List.getD, hm, hasI, h]
end Go.PP
