/- What a sequence of pairs makes of the representatives: the plain laws, no program in sight. No condition. -/
import Derived.Test.YtojfpobgncapjaaWr
set_option linter.unusedSimpArgs false
set_option linter.unusedVariables false
set_option maxHeartbeats 400000
namespace Go.Proofs.Ytojfpobgncapjaa
open Go Go.RowKit Go.PP

structure GoodR (n : Nat) (R : List Int) : Prop where
  len : R.length = n
  rep : ∀ a : Nat, a < n → ∃ r : Nat, r ≤ a ∧ R[a]? = some (r : Int) ∧ R[r]? = some (r : Int)

theorem Part.good {w : World} {p u n : Nat} {R : List Int} (h : Part w p u n R) : GoodR n R := ⟨h.len, fun a ha => h.rep ha⟩

theorem getD_of {R : List Int} {a : Nat} {x : Int} (h : R[a]? = some x) : R.getD a 0 = x := by simp [List.getD, h]

theorem GoodR.at {n : Nat} {R : List Int} (h : GoodR n R) {a : Nat} (ha : a < n) : ∃ r : Nat, r ≤ a ∧ R.getD a 0 = (r : Int) ∧ R.getD r 0 = (r : Int) ∧ R[a]? = some (r : Int) ∧ R[r]? = some (r : Int) := by
  obtain ⟨r, h1, h2, h3⟩ := h.rep a ha
  exact ⟨r, h1, getD_of h2, getD_of h3, h2, h3⟩

theorem GoodR.iota (n : Nat) : GoodR n (iota n) := ⟨iota_len n, fun a ha => ⟨a, Nat.le_refl _, iota_get n a ha, iota_get n a ha⟩⟩

theorem merged_getD {R : List Int} {m k a : Nat} (ha : a < R.length) : (merged R m k).getD a 0 = if R.getD a 0 = (m : Int) then (k : Int) else R.getD a 0 := by
  simp [List.getD, merged, ha]

theorem GoodR.merged {n : Nat} {R : List Int} (h : GoodR n R) {m k : Nat} (hm : R[m]? = some (m : Int)) (hk : R[k]? = some (k : Int)) (hle : k ≤ m) : GoodR n (merged R m k) := by
  refine ⟨by rw [merged_len, h.len], fun a ha => ?_⟩
  obtain ⟨r, h1, h2, h3⟩ := h.rep a ha
  by_cases e : r = m
  · subst e
    refine ⟨k, by omega, by rw [merged_at h2, if_pos rfl], ?_⟩
    rw [merged_at hk]
    split <;> simp
  · refine ⟨r, h1, by rw [merged_at h2, if_neg (by omega)], by rw [merged_at h3, if_neg (by omega)]⟩

theorem stepPair_there {n : Nat} {R : List Int} (h : GoodR n R) {a b : Int} (ha : thereB n a = true) (hb : thereB n b = true) :
    ∃ i j x y : Nat, a = i ∧ b = j ∧ i < n ∧ j < n ∧ R[i]? = some (x : Int) ∧ R[j]? = some (y : Int) ∧ R[x]? = some (x : Int) ∧ R[y]? = some (y : Int) ∧ stepPair n R a b = merged R (max x y) (min x y) := by
  obtain ⟨i, rfl, hi⟩ := thereB_true ha
  obtain ⟨j, rfl, hj⟩ := thereB_true hb
  obtain ⟨x, _, hx, hxx⟩ := h.rep i hi
  obtain ⟨y, _, hy, hyy⟩ := h.rep j hj
  exact ⟨i, j, x, y, rfl, rfl, hi, hj, hx, hy, hxx, hyy, by simp [stepPair, ha, hb, hx, hy]⟩

theorem stepPair_not {n : Nat} {R : List Int} {a b : Int} (h : (thereB n a && thereB n b) = false) : stepPair n R a b = R := by simp [stepPair, h]

theorem GoodR.step {n : Nat} {R : List Int} (h : GoodR n R) (a b : Int) : GoodR n (stepPair n R a b) := by
  cases ha : thereB n a with
  | false => rw [stepPair_not (by simp [ha])]; exact h
  | true =>
    cases hb : thereB n b with
    | false => rw [stepPair_not (by simp [hb])]; exact h
    | true =>
      obtain ⟨i, j, x, y, rfl, rfl, hi, hj, hx, hy, hxx, hyy, he⟩ := stepPair_there h ha hb
      rw [he]
      rcases Nat.le_total x y with e | e
      · rw [Nat.max_eq_right e, Nat.min_eq_left e]; exact h.merged hyy hxx e
      · rw [Nat.max_eq_left e, Nat.min_eq_right e]; exact h.merged hxx hyy e

theorem GoodR.fold {n : Nat} (ps : List (Int × Int)) : ∀ k, GoodR n (foldP n ps k)
  | 0 => GoodR.iota n
  | k + 1 => by
    simp only [foldP]
    cases h : ps[k]? with
    | none => exact GoodR.fold ps k
    | some q => obtain ⟨a, b⟩ := q; exact (GoodR.fold ps k).step a b

/-- What agrees with every pair agrees with the representatives. -/
theorem fold_ref {n : Nat} {Q : List Int} (ps : List (Int × Int)) : ∀ k, (∀ j, j < k → ∀ a b : Int, ps[j]? = some (a, b) → thereB n a = true → thereB n b = true → Q.getD a.toNat 0 = Q.getD b.toNat 0) →
    ∀ i : Nat, i < n → Q.getD i 0 = Q.getD ((foldP n ps k).getD i 0).toNat 0
  | 0, _, i, hi => by rw [show foldP n ps 0 = iota n from rfl, getD_of (iota_get n i hi)]; simp
  | k + 1, hq, i, hi => by
    have ih := fold_ref ps k (fun j hj => hq j (by omega))
    have hg := GoodR.fold (n := n) ps k
    simp only [foldP]
    cases h : ps[k]? with
    | none => exact ih i hi
    | some q =>
      obtain ⟨a, b⟩ := q
      show Q.getD i 0 = Q.getD ((stepPair n (foldP n ps k) a b).getD i 0).toNat 0
      cases ha : thereB n a with
      | false => rw [stepPair_not (by simp [ha])]; exact ih i hi
      | true =>
        cases hb : thereB n b with
        | false => rw [stepPair_not (by simp [hb])]; exact ih i hi
        | true =>
          obtain ⟨i', j', x, y, rfl, rfl, hi', hj', hx, hy, hxx, hyy, he⟩ := stepPair_there hg ha hb
          have hab := hq k (by omega) _ _ h ha hb
          have e1 := ih i' hi'
          have e2 := ih j' hj'
          rw [getD_of hx] at e1
          rw [getD_of hy] at e2
          simp only [Int.toNat_natCast] at hab e1 e2
          rw [he, merged_getD (by rw [hg.len]; exact hi)]
          have e3 := ih i hi
          split
          · rename_i hm
            rw [hm] at e3
            rw [e3]
            simp only [Int.toNat_natCast]
            rcases Nat.le_total x y with e | e
            · rw [Nat.max_eq_right e, Nat.min_eq_left e]; rw [← e2, ← hab, e1]
            · rw [Nat.max_eq_left e, Nat.min_eq_right e]; rw [← e1, hab, e2]
          · exact e3

/-- Each pair that was joined is together. -/
theorem fold_conn {n : Nat} (ps : List (Int × Int)) : ∀ k j, j < k → ∀ a b : Int, ps[j]? = some (a, b) → thereB n a = true → thereB n b = true → (foldP n ps k).getD a.toNat 0 = (foldP n ps k).getD b.toNat 0
  | 0, j, hj, _, _, _, _, _ => absurd hj (by omega)
  | k + 1, j, hj, a, b, hab, ha, hb => by
    have hg := GoodR.fold (n := n) ps k
    obtain ⟨i1, ra, hi1⟩ := thereB_true ha
    obtain ⟨j1, rb, hj1⟩ := thereB_true hb
    subst ra rb
    simp only [foldP, Int.toNat_natCast]
    rcases Nat.lt_or_ge j k with e | e
    · have ih := fold_conn ps k j e _ _ hab ha hb
      simp only [Int.toNat_natCast] at ih
      cases h : ps[k]? with
      | none => exact ih
      | some q =>
        obtain ⟨c, d⟩ := q
        show (stepPair n (foldP n ps k) c d).getD i1 0 = (stepPair n (foldP n ps k) c d).getD j1 0
        cases hc : (thereB n c && thereB n d) with
        | false => rw [stepPair_not hc]; exact ih
        | true =>
          simp only [Bool.and_eq_true] at hc
          obtain ⟨i', j', x, y, rfl, rfl, hi', hj', hx, hy, hxx, hyy, he⟩ := stepPair_there hg hc.1 hc.2
          rw [he, merged_getD (by rw [hg.len]; exact hi1), merged_getD (by rw [hg.len]; exact hj1), ih]
    · obtain rfl : j = k := by omega
      rw [hab]
      show (stepPair n (foldP n ps j) i1 j1).getD i1 0 = (stepPair n (foldP n ps j) i1 j1).getD j1 0
      obtain ⟨i', j', x, y, e1, e2, hi', hj', hx, hy, hxx, hyy, he⟩ := stepPair_there hg ha hb
      obtain rfl : i1 = i' := by omega
      obtain rfl : j1 = j' := by omega
      rw [he, merged_getD (by rw [hg.len]; exact hi1), merged_getD (by rw [hg.len]; exact hj1), getD_of hx, getD_of hy]
      split <;> split <;> omega

theorem refB_fold {n : Nat} {Q : List Int} (ps : List (Int × Int)) (k : Nat) (h : ∀ j, j < k → ∀ a b : Int, ps[j]? = some (a, b) → thereB n a = true → thereB n b = true → Q.getD a.toNat 0 = Q.getD b.toNat 0) : refB n (foldP n ps k) Q = true := by
  unfold refB
  rw [decide_eq_true_eq]
  exact fold_ref ps k h

/-! ### the number of blocks -/
theorem heads_merged {n : Nat} {R : List Int} (h : GoodR n R) {m k : Nat} (hm : R[m]? = some (m : Int)) (hk : R[k]? = some (k : Int)) (hlt : k < m) : ∀ t, t ≤ n → (heads (merged R m k) t).length + (if m < t then 1 else 0) = (heads R t).length
  | 0, _ => by simp [heads]
  | t + 1, ht => by
    have ih := heads_merged h hm hk hlt t (by omega)
    obtain ⟨r, hr1, hr2, hr3⟩ := h.rep t (by omega)
    simp only [heads, List.length_append]
    rw [merged_at hr2, hr2]
    simp only [Option.some.injEq]
    by_cases e : r = m
    · subst e
      by_cases e2 : r = t
      · subst e2
        rw [if_pos rfl, if_neg (by omega), if_pos rfl]
        rw [if_neg (by omega)] at ih
        rw [if_pos (by omega)]
        simp; omega
      · have hkt : k ≠ t := by
          intro e3; subst e3
          rw [hr2] at hk
          have := Option.some.inj hk
          omega
        rw [if_pos rfl, if_neg (show ¬ (k : Int) = (t : Int) by omega), if_neg (show ¬ (r : Int) = (t : Int) by omega), if_pos (show r < t + 1 by omega)]
        rw [if_pos (show r < t by omega)] at ih
        simpa using ih
    · rw [if_neg (show ¬ (r : Int) = (m : Int) by omega)]
      have hmt : m ≠ t := by
        intro e3; subst e3
        rw [hm] at hr2
        have := Option.some.inj hr2
        omega
      rw [show (if m < t + 1 then 1 else 0) = (if m < t then 1 else 0) by
          by_cases q : m < t
          · rw [if_pos q, if_pos (by omega)]
          · rw [if_neg q, if_neg (by omega)]]
      omega

theorem heads_iota (n : Nat) : ∀ t, t ≤ n → (heads (iota n) t).length = t
  | 0, _ => rfl
  | t + 1, ht => by
    simp only [heads, List.length_append, heads_iota n t (by omega), iota_get n t (by omega)]
    simp

theorem heads_step {n : Nat} {R : List Int} (h : GoodR n R) {x y : Nat} (hx : R[x]? = some (x : Int)) (hy : R[y]? = some (y : Int)) (hxn : x < n) (hyn : y < n) :
    (heads (merged R (max x y) (min x y)) n).length + (if ((x : Int) != (y : Int)) = true then 1 else 0) = (heads R n).length := by
  rcases Nat.lt_trichotomy x y with e | e | e
  · rw [Nat.max_eq_right (by omega), Nat.min_eq_left (by omega), if_pos (by simp; omega)]
    have := heads_merged h hy hx e n (Nat.le_refl _)
    rw [if_pos hyn] at this
    exact this
  · subst e
    rw [Nat.max_self, Nat.min_self, merged_self, if_neg (by simp)]; rfl
  · rw [Nat.max_eq_left (by omega), Nat.min_eq_right (by omega), if_pos (by simp; omega)]
    have := heads_merged h hx hy e n (Nat.le_refl _)
    rw [if_pos hxn] at this
    exact this

/-! ### another order -/
/-- The pairs as the law of the order takes them: from another place on, backwards, swapped. -/
def turned (ps : List (Int × Int)) (f K : Nat) : List (Int × Int) := (List.range K).map fun j => ((ps.getD ((f + K - 1 - j) % K) (0, 0)).2, (ps.getD ((f + K - 1 - j) % K) (0, 0)).1)

theorem turned_at {ps : List (Int × Int)} {f K j : Nat} (hj : j < K) {x y : Int} (h : ps[(f + K - 1 - j) % K]? = some (x, y)) : (turned ps f K)[j]? = some (y, x) := by
  simp [turned, hj, List.getD, h]

theorem turned_ref {n : Nat} (ps : List (Int × Int)) (f K : Nat) (hK : K ≤ ps.length) : refB n (foldP n (turned ps f K) K) (foldP n ps K) = true := by
  refine refB_fold _ K fun j hj a b hab ha hb => ?_
  have hlt : (f + K - 1 - j) % K < K := Nat.mod_lt _ (by omega)
  obtain ⟨⟨x, y⟩, hxy⟩ : ∃ q, ps[(f + K - 1 - j) % K]? = some q := ⟨ps[(f + K - 1 - j) % K]'(by omega), by simp⟩
  rw [turned_at hj hxy] at hab
  simp only [Option.some.injEq, Prod.mk.injEq] at hab
  obtain ⟨rfl, rfl⟩ := hab
  exact (fold_conn ps K _ hlt _ _ hxy hb ha).symm

theorem turned_ref' {n : Nat} (ps : List (Int × Int)) (f K : Nat) (hK : K ≤ ps.length) : refB n (foldP n ps K) (foldP n (turned ps f K) K) = true := by
  refine refB_fold _ K fun i hi a b hab ha hb => ?_
  have hj : (f + K - 1 - i) % K < K := Nat.mod_lt _ (by omega)
  have hback : (f + K - 1 - (f + K - 1 - i) % K) % K = i := by
    have h1 := Nat.div_add_mod (f + K - 1 - i) K
    generalize hq : (f + K - 1 - i) / K = t at h1
    generalize (f + K - 1 - i) % K = j at h1 hj
    have : f + K - 1 - j = i + K * t := by omega
    rw [this, Nat.add_mul_mod_self_left, Nat.mod_eq_of_lt hi]
  have := turned_at (ps := ps) (f := f) hj (by rw [hback]; exact hab)
  exact (fold_conn _ K _ hj _ _ this hb ha).symm
end Go.Proofs.Ytojfpobgncapjaa
