/- The plain specification of renumbered automata. No condition. -/
import Derived.Test.YtdakoccbmeojhaaPc
set_option linter.unusedSimpArgs false
set_option linter.unusedVariables false
set_option maxHeartbeats 400000
namespace Go.PP
open Go Go.RowKit

/-- A list of n different numbers below n. -/
structure PermOk (n : Nat) (l : List Int) : Prop where
  len : l.length = n
  nd : l.Nodup
  rng : ∀ s ∈ l, 0 ≤ s ∧ s < (n : Int)

theorem pigeon_le : ∀ (n : Nat) (l : List Int), (∀ i : Nat, i < n → (i : Int) ∈ l) → n ≤ l.length
  | 0, l, _ => Nat.zero_le _
  | n + 1, l, h => by
    have hn := h n (by omega)
    have h1 := pigeon_le n (l.erase (n : Int)) (fun i hi => (List.mem_erase_of_ne (by omega)).2 (h i (by omega)))
    rw [List.length_erase_of_mem hn] at h1
    have := List.length_pos_of_mem hn
    omega
theorem pigeon_on : ∀ (n : Nat) (l : List Int), l.length = n → (∀ i : Nat, i < n → (i : Int) ∈ l) → PermOk n l
  | 0, l, hl, _ => by
    obtain rfl : l = [] := by simpa using hl
    exact ⟨rfl, List.nodup_nil, by simp⟩
  | n + 1, l, hl, h => by
    have hn := h n (by omega)
    have hl' : (l.erase (n : Int)).length = n := by rw [List.length_erase_of_mem hn]; omega
    obtain ⟨-, q2, q3⟩ := pigeon_on n (l.erase (n : Int)) hl' (fun i hi => (List.mem_erase_of_ne (by omega)).2 (h i (by omega)))
    have hp := List.perm_cons_erase hn
    refine ⟨hl, hp.nodup_iff.2 (List.nodup_cons.2 ⟨fun e => by have := (q3 _ e).2; omega, q2⟩), fun s hs => ?_⟩
    rcases List.mem_cons.1 (hp.mem_iff.1 hs) with rfl | e
    · omega
    · have := q3 s e; omega
theorem pigeon_few : ∀ (n : Nat) (l : List Int), l.Nodup → (∀ s ∈ l, 0 ≤ s ∧ s < (n : Int)) → l.length ≤ n
  | 0, l, _, h => by
    cases l with
    | nil => simp
    | cons a l => have := h a (by simp); omega
  | n + 1, l, hd, h => by
    by_cases hn : (n : Int) ∈ l
    · have hp := List.perm_cons_erase hn
      have hd2 := hp.nodup_iff.1 hd
      rw [List.nodup_cons] at hd2
      have h1 := pigeon_few n (l.erase (n : Int)) hd2.2 (fun s hs => by
        have h2 := h s (List.mem_of_mem_erase hs)
        have h3 : s ≠ (n : Int) := fun e => hd2.1 (e ▸ hs)
        omega)
      rw [List.length_erase_of_mem hn] at h1
      omega
    · have h1 := pigeon_few n l hd (fun s hs => by
        have h2 := h s hs
        have h3 : s ≠ (n : Int) := fun e => hn (e ▸ hs)
        omega)
      omega
theorem pigeon_all : ∀ (n : Nat) (l : List Int), PermOk n l → ∀ i : Nat, i < n → (i : Int) ∈ l
  | 0, l, _, i, h => by omega
  | n + 1, l, ⟨h1, h2, h3⟩, i, hi => by
    have hn : (n : Int) ∈ l := by
      refine Classical.byContradiction fun hn => ?_
      have := pigeon_few n l h2 (fun s hs => by
        have h4 := h3 s hs
        have h5 : s ≠ (n : Int) := fun e => hn (e ▸ hs)
        omega)
      omega
    rcases Nat.lt_or_ge i n with e | e
    · have hp := List.perm_cons_erase hn
      have hd2 := hp.nodup_iff.1 h2
      rw [List.nodup_cons] at hd2
      exact List.mem_of_mem_erase (pigeon_all n (l.erase (n : Int)) ⟨by rw [List.length_erase_of_mem hn]; omega, hd2.2, fun s hs => by
        have h4 := h3 s (List.mem_of_mem_erase hs)
        have h5 : s ≠ (n : Int) := fun e => hd2.1 (e ▸ hs)
        omega⟩ i e)
    · obtain rfl : i = n := by omega
      exact hn

/-- The inverse. -/
def backL (l : List Int) : List Int := (List.range l.length).map fun (i : Nat) => ((l.idxOf (i : Int) : Nat) : Int)
theorem backL_len (l : List Int) : (backL l).length = l.length := by simp [backL]
theorem backL_perm {n : Nat} {l : List Int} (h : PermOk n l) : PermOk n (backL l) := by
  refine pigeon_on n _ (by rw [backL_len]; exact h.len) (fun i hi => ?_)
  have hi' : i < l.length := by rw [h.len]; exact hi
  obtain ⟨h0, h1⟩ := h.rng l[i] (by simp)
  obtain ⟨m, hm⟩ := Int.eq_ofNat_of_zero_le h0
  have hx : l.idxOf (m : Int) = i := idx_at l i _ h.nd (by simp [← hm])
  refine List.mem_map.2 ⟨m, by simp; have := h.len; omega, by rw [hx]⟩
theorem backL_shut {A : Au} (hok : AuOk A) {l : List Int} (h : PermOk A.final.length l) : ShutL A (backL l) := by
  have hp := backL_perm h
  have hl : (backL l).length = A.final.length := hp.len
  refine ⟨by rw [hl]; exact hok.lo, by rw [hl]; exact hok.hi, hp.nd, hp.rng, fun i k ds hk hd hr => ?_⟩
  have hf : Fits A i (ds.map fun d => (backL l).getD d.toNat 0) := ⟨by omega, by have := (List.getElem?_eq_some_iff.1 hk).1; omega, by simp [List.getD, hk, hd], fun x hx => by
    obtain ⟨d, hd1, rfl⟩ := List.mem_map.1 hx
    exact hp.rng _ (getD_mem (hr d hd1))⟩
  obtain ⟨-, -, -, q, -, -, -, -, -, -, hat, hq0, hq1, -⟩ := hf.at hok
  rw [hat]
  obtain ⟨m, rfl⟩ := Int.eq_ofNat_of_zero_le hq0
  exact pigeon_all _ _ hp m (by omega)

def A00 : Au := ⟨[], [], []⟩
noncomputable def permE (A : Au) (l : List Int) : Au × Nat := open Classical in if PermOk A.final.length l then (keptA A (backL l), 0) else (A00, 3)
noncomputable def permuteE (A : Au) (l : List Int) : Au × Nat := open Classical in if chk A ≠ 0 then (A00, chk A) else permE A l
theorem permE_ok {A : Au} {l : List Int} (h : PermOk A.final.length l) : permE A l = (keptA A (backL l), 0) := if_pos h
theorem permE_no {A : Au} {l : List Int} (h : ¬ PermOk A.final.length l) : permE A l = (A00, 3) := if_neg h
theorem permuteE_bad {A : Au} {l : List Int} (h : chk A ≠ 0) : permuteE A l = (A00, chk A) := if_pos h
theorem permuteE_ok {A : Au} {l : List Int} (h : chk A = 0) : permuteE A l = permE A l := if_neg (by simp [h])
end Go.PP
