/- The order in which the elements are taken. No condition. -/
import Derived.Test.YtgcmajgkcahbnaaDoorYAZ
import Derived.Lib.Join
import Derived.Lib.ItoaNum

set_option linter.unusedSimpArgs false
set_option linter.unusedVariables false
namespace Go.Bs
theorem els_head {S : Nat} {z : Int} {l : List Int} (h : els S = z :: l) : ∃ n : Nat, z = n ∧ n < 1024 ∧ Lst S n ∧ els (minS S (2 ^ n)) = l := by
  have hz : z ∈ els S := by rw [h]; exact List.mem_cons_self ..
  obtain ⟨n, hn, hb, rfl⟩ := mem_els.1 hz
  have ha := asc_els S
  rw [h] at ha
  have hl : Lst S n := ⟨hb, fun j hj => by
    cases hj2 : S.testBit j with
    | false => rfl
    | true =>
      have hm : (j : Int) ∈ els S := mem_els'.2 ⟨by omega, hj2⟩
      rw [h] at hm
      rcases List.mem_cons.1 hm with e | e
      · omega
      · have := (List.pairwise_cons.1 ha).1 _ e; omega⟩
  refine ⟨n, rfl, hn, hl, ?_⟩
  have := els_cons hn hl
  rw [h] at this
  exact (List.cons.inj this).2.symm
theorem els_empty {S : Nat} (hS : SetOk S) (h : els S = []) : S = 0 := els_inj hS ok_zero (by rw [h, els_zero])
/-- What is left behind the first k elements. -/
def restS (S : Nat) : Nat → Nat
  | 0 => S
  | k + 1 => minS (restS S k) (2 ^ ((els (restS S k)).headD 0).toNat)
theorem ok_rest {S : Nat} (hS : SetOk S) : ∀ k, SetOk (restS S k)
  | 0 => hS
  | k + 1 => ok_min (ok_rest hS k)
theorem els_rest {S : Nat} : ∀ k, k ≤ (els S).length → els (restS S k) = (els S).drop k
  | 0, _ => rfl
  | k + 1, h => by
    have ih := els_rest (S := S) k (by omega)
    have hd : (els S).drop k = (els S)[k] :: (els S).drop (k + 1) := List.drop_eq_getElem_cons (by omega)
    rw [hd] at ih
    obtain ⟨n, h1, h2, h3, h4⟩ := els_head ih
    unfold restS
    rw [ih, List.headD_cons, h1, Int.toNat_natCast, h4]
/-- The element with the number k. -/
def nthE (S k : Nat) : Int := (els S)[k]?.getD 0
theorem rest_lst {S k : Nat} (hk : k < (els S).length) : ∃ n : Nat, nthE S k = n ∧ n < 1024 ∧ Lst (restS S k) n ∧ restS S (k + 1) = minS (restS S k) (2 ^ n) ∧ (els S)[k]? = some (n : Int) := by
  have ih := els_rest (S := S) k (by omega)
  have hd : (els S).drop k = (els S)[k] :: (els S).drop (k + 1) := List.drop_eq_getElem_cons (by omega)
  rw [hd] at ih
  obtain ⟨n, h1, h2, h3, h4⟩ := els_head ih
  refine ⟨n, ?_, h2, h3, ?_, ?_⟩
  · unfold nthE; rw [List.getElem?_eq_getElem hk, Option.getD_some]; exact h1
  · show minS (restS S k) (2 ^ ((els (restS S k)).headD 0).toNat) = _
    rw [ih, List.headD_cons, h1, Int.toNat_natCast]
  · rw [List.getElem?_eq_getElem hk, h1]
theorem rest_end {S : Nat} (hS : SetOk S) : restS S (els S).length = 0 := els_empty (ok_rest hS _) (by rw [els_rest _ (Nat.le_refl _), List.drop_length])
theorem nth_end (S : Nat) : nthE S (els S).length = 0 := by unfold nthE; rw [List.getElem?_eq_none (Nat.le_refl _)]; rfl
theorem nth_range {S k : Nat} (hk : k < (els S).length) : 0 ≤ nthE S k ∧ nthE S k < 1024 := by
  obtain ⟨n, h1, h2, _⟩ := rest_lst hk
  omega
theorem nth_lt {S i k : Nat} (hi : i < k) (hk : k < (els S).length) : nthE S i < nthE S k := by
  have h1 : i < (els S).length := by omega
  unfold nthE
  rw [List.getElem?_eq_getElem hk, List.getElem?_eq_getElem h1, Option.getD_some, Option.getD_some]
  exact List.pairwise_iff_getElem.1 (asc_els S) i k h1 hk hi
/-- Above which the k-th round of the next subset looks. -/
def bndK (w : Nat) : Nat → Nat
  | 0 => 0
  | k + 1 => (nthE w k).toNat + 1
def abvK (r w k : Nat) : Nat := minS r (belS (bndK w k))
theorem abv_zero (r w : Nat) : abvK r w 0 = r := above_zero r
theorem abv_succ {r w k : Nat} (hk : k < (els w).length) : minS (abvK r w k) (belS (bndK w (k + 1))) = abvK r w (k + 1) := by
  unfold abvK
  refine above_above r ?_
  cases k with
  | zero => exact Nat.zero_le _
  | succ k =>
    have := nth_lt (S := w) (show k < k + 1 by omega) hk
    have h1 := nth_range (S := w) (k := k) (by omega)
    simp only [bndK]
    omega
/-- That the k-th round finds the next subset. -/
def fndK (r w k : Nat) : Prop := r.testBit (nthE w k).toNat = false ∧ minS (abvK r w (k + 1)) w = 0
instance (r w k : Nat) : Decidable (fndK r w k) := by unfold fndK; exact inferInstance
theorem next_drop (r w : Nat) : ∀ (l : List Int) (k : Nat), (els w).drop k = l → (∃ m, k ≤ m ∧ m < (els w).length ∧ (∀ i, k ≤ i → i < m → ¬ fndK r w i) ∧ fndK r w m ∧ nextP r w l = some (abvK r w (m + 1) ||| 2 ^ (nthE w m).toNat)) ∨ ((∀ i, k ≤ i → i < (els w).length → ¬ fndK r w i) ∧ nextP r w l = none)
  | [], k, h => .inr ⟨fun i h1 h2 => by
      have := congrArg List.length h
      rw [List.length_drop, List.length_nil] at this
      omega, rfl⟩
  | z :: l, k, h => by
    have hk : k < (els w).length := by
      have := congrArg List.length h
      rw [List.length_drop, List.length_cons] at this
      omega
    rw [List.drop_eq_getElem_cons hk] at h
    have hz : nthE w k = z := by unfold nthE; rw [List.getElem?_eq_getElem hk, Option.getD_some]; exact (List.cons.inj h).1
    have ih := next_drop r w l (k + 1) (List.cons.inj h).2
    have e : (r.testBit z.toNat = false ∧ minS (minS r (belS (z.toNat + 1))) w = 0) ↔ fndK r w k := by
      unfold fndK abvK
      simp only [bndK, hz]
    unfold nextP
    by_cases hf : fndK r w k
    · refine .inl ⟨k, Nat.le_refl _, hk, fun i h1 h2 => by omega, hf, ?_⟩
      rw [if_pos (e.2 hf)]
      unfold abvK
      simp only [bndK, hz]
    · rw [if_neg (fun q => hf (e.1 q))]
      rcases ih with ⟨m, h1, h2, h3, h4, h5⟩ | ⟨h1, h2⟩
      · refine .inl ⟨m, by omega, h2, fun i q1 q2 => ?_, h4, h5⟩
        by_cases hi : i = k
        · subst hi; exact hf
        · exact h3 i (by omega) q2
      · refine .inr ⟨fun i q1 q2 => ?_, h2⟩
        by_cases hi : i = k
        · subst hi; exact hf
        · exact h1 i (by omega) q2
theorem next_all (r w : Nat) : (∃ m, m < (els w).length ∧ (∀ i, i < m → ¬ fndK r w i) ∧ fndK r w m ∧ nextP r w (els w) = some (abvK r w (m + 1) ||| 2 ^ (nthE w m).toNat)) ∨ ((∀ i, i < (els w).length → ¬ fndK r w i) ∧ nextP r w (els w) = none) := by
  rcases next_drop r w (els w) 0 rfl with ⟨m, h1, h2, h3, h4, h5⟩ | ⟨h1, h2⟩
  · exact .inl ⟨m, h2, fun i q => h3 i (Nat.zero_le _) q, h4, h5⟩
  · exact .inr ⟨fun i q => h1 i (Nat.zero_le _) q, h2⟩
end Go.Bs

set_option linter.unusedSimpArgs false
set_option linter.unusedVariables false
namespace Go.Bs
open Go
def txt (w k : Nat) : List (List UInt8) := ((els w).take k).map Lib.itoa
theorem txt_len {w k : Nat} (hk : k ≤ (els w).length) : (txt w k).length = k := by unfold txt; rw [List.length_map, List.length_take]; omega
theorem txt_succ {w k : Nat} (hk : k < (els w).length) : txt w k ++ [Lib.itoa (nthE w k)] = txt w (k + 1) := by
  unfold txt nthE
  rw [List.take_add_one, List.getElem?_eq_getElem hk, List.map_append]; rfl
theorem txt_all (w : Nat) : txt w (els w).length = (els w).map Lib.itoa := by unfold txt; rw [List.take_length]
def textS (S : Nat) : List UInt8 := 123 :: (Lib.join ((els S).map Lib.itoa) [32] ++ [125])
theorem dig_len : ∀ (n u : Nat), u < 10 ^ (n + 1) → (Lib.decDigits u).length ≤ n + 1 := by
  intro n u h
  rw [Lib.decDigits_length]
  induction n generalizing u with
  | zero => unfold Lib.nDigits; rw [dif_pos (by omega)]; exact Nat.le_refl _
  | succ n ih =>
    unfold Lib.nDigits
    split
    · omega
    · have := ih (u / 10) (by rw [Nat.pow_succ] at h; omega)
      omega
theorem itoa_len {z : Int} (h0 : 0 ≤ z) (h1 : z < 1024) : (Lib.itoa z).length ≤ 4 := by
  unfold Lib.itoa
  rw [if_neg (by omega)]
  exact dig_len 3 _ (by omega)
theorem join_len (l : List (List UInt8)) (h : ∀ x ∈ l, x.length ≤ 4) : (Lib.join l [32]).length ≤ 5 * l.length := by
  cases l with
  | nil => exact Nat.zero_le _
  | cons x r =>
    rw [Lib.join_cons, List.length_append]
    have hx := h x (List.mem_cons_self ..)
    have hr : (Lib.joinTail [32] r).length ≤ 5 * r.length := by
      have hh : ∀ y ∈ r, y.length ≤ 4 := fun y hy => h y (List.mem_cons_of_mem _ hy)
      clear h hx
      unfold Lib.joinTail
      induction r with
      | nil => exact Nat.zero_le _
      | cons y r ih =>
        have := hh y (List.mem_cons_self ..)
        have := ih (fun z hz => hh z (List.mem_cons_of_mem _ hz))
        simp only [List.map_cons, List.flatten_cons, List.length_append, List.length_cons, List.length_nil] at this ⊢
        omega
    rw [List.length_cons]
    omega
theorem txt_join (w : Nat) : (Lib.join ((els w).map Lib.itoa) [32]).length ≤ 10000 := by
  have h := join_len ((els w).map Lib.itoa) (fun x hx => by
    obtain ⟨z, hz, rfl⟩ := List.mem_map.1 hx
    obtain ⟨h0, h1⟩ := els_range hz
    exact itoa_len h0 h1)
  have h2 : (els w).length ≤ 1024 := by
    unfold els
    rw [List.length_map]
    exact Nat.le_trans (List.length_filter_le _ _) (by rw [List.length_range]; exact Nat.le_refl _)
  rw [List.length_map] at h
  omega
end Go.Bs
