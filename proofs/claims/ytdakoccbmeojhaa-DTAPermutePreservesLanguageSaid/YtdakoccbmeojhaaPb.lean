/- The plain specification of made automata. No condition. -/
import Derived.Test.YtdakoccbmeojhaaP
set_option linter.unusedSimpArgs false
set_option linter.unusedVariables false
set_option maxHeartbeats 400000
namespace Go.PP
open Go Go.RowKit

/-- k digits of p in base n. -/
def digs (n : Nat) : Nat → Nat → List Int
  | 0, _ => []
  | k + 1, p => digs n k (p / n) ++ [((p % n : Nat) : Int)]
theorem digs_len (n : Nat) : ∀ k p, (digs n k p).length = k
  | 0, _ => rfl
  | k + 1, p => by simp [digs, digs_len n k]
theorem digs_rng {n : Nat} (hn : 0 < n) : ∀ k p, ∀ x ∈ digs n k p, 0 ≤ x ∧ x < (n : Int)
  | 0, _, x, h => by simp [digs] at h
  | k + 1, p, x, h => by
    simp only [digs, List.mem_append, List.mem_singleton] at h
    rcases h with h | rfl
    · exact digs_rng hn k _ x h
    · have := Nat.mod_lt p hn; omega
theorem place_digs {n : Nat} (hn : 0 < n) : ∀ k p, p < n ^ k → placeOf n (digs n k p) = p
  | 0, p, h => by simp at h; subst h; rfl
  | k + 1, p, h => by
    rw [digs, placeOf_snoc, place_digs hn k (p / n) (by rw [Nat.pow_succ] at h; exact Nat.div_lt_of_lt_mul (by rw [Nat.mul_comm]; exact h))]
    rw [← Int.natCast_mul, ← Int.natCast_add, Nat.mul_comm]
    exact congrArg _ (Nat.div_add_mod p n)

/-- The tables of a made automaton. -/
def tableOf (n : Nat) (T : Int → List Int → Int) (i : Nat) (k : Int) : List Int := (List.range (wideN k n)).map fun p => T i (digs n k.toNat p)
def tablesOf (n : Nat) (T : Int → List Int → Int) (rs : List Int) : List (List Int) := (List.range rs.length).map fun i => tableOf n T i (rs.getD i 0)
def madeA (rs : List Int) (n : Nat) (T : Int → List Int → Int) (F : Nat → Bool) : Au := ⟨rs, (List.range n).map F, tablesOf n T rs⟩
theorem wideN_le {k : Int} {n : Nat} (hk : k ≤ 2) (hn : n ≤ 512) : wideN k n ≤ 262144 := by
  have h : k.toNat ≤ 2 := by omega
  unfold wideN
  rcases (show k.toNat = 0 ∨ k.toNat = 1 ∨ k.toNat = 2 by omega) with e | e | e <;> rw [e]
  · rw [Nat.pow_zero]; omega
  · rw [Nat.pow_one]; omega
  · rw [Nat.pow_succ, Nat.pow_one]; exact Nat.mul_le_mul hn hn
end Go.PP
