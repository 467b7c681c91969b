/- The plain laws of Meet and Join: the coarsest common refinement, the finest common coarsening. No condition. -/
import Derived.Test.YtojfpobgncapjaaWx
set_option linter.unusedSimpArgs false
set_option linter.unusedVariables false
set_option maxHeartbeats 400000
namespace Go.Proofs.Ytojfpobgncapjaa
open Go Go.RowKit Go.PP

theorem refB_iff {n : Nat} {R V : List Int} : refB n R V = true ↔ ∀ i : Nat, i < n → V.getD i 0 = V.getD (R.getD i 0).toNat 0 := by
  unfold refB; rw [decide_eq_true_eq]

theorem GoodR.lt {n : Nat} {R : List Int} (h : GoodR n R) {i : Nat} (hi : i < n) : (R.getD i 0).toNat < n := by
  obtain ⟨r, h1, h2, _⟩ := h.at hi
  rw [h2]; simp; omega

theorem refB_trans {n : Nat} {R V W : List Int} (hR : GoodR n R) (h1 : refB n R V = true) (h2 : refB n V W = true) : refB n R W = true := by
  rw [refB_iff] at *
  intro i hi
  rw [h2 i hi, h1 i hi, ← h2 _ (hR.lt hi)]

theorem by_eq {n : Nat} {A B X : List Int} (h : IsBy A B n X) {i j : Nat} (hi : i < n) (hj : j < n) : X.getD i 0 = X.getD j 0 ↔ A[i]? = A[j]? ∧ B[i]? = B[j]? := by
  obtain ⟨k, h1, h2⟩ := h.2 i hi
  obtain ⟨l, h3, h4⟩ := h.2 j hj
  rw [getD_of h1, getD_of h3]
  constructor
  · intro e
    have e : k = l := by omega
    subst e
    exact ⟨h2.2.1.symm.trans h4.2.1, h2.2.2.1.symm.trans h4.2.2.1⟩
  · intro ⟨e1, e2⟩
    have h5 : k ≤ j ∨ j < k := by omega
    have q : ∀ {a b : Nat}, Least A B i a → Least A B j b → ¬ b < a := fun ha hb hlt => ha.2.2.2 _ hlt ⟨hb.2.1.trans e1.symm, hb.2.2.1.trans e2.symm⟩
    have q' : ∀ {a b : Nat}, Least A B i a → Least A B j b → ¬ a < b := fun ha hb hlt => hb.2.2.2 _ hlt ⟨ha.2.1.trans e1, ha.2.2.1.trans e2⟩
    have := q h2 h4
    have := q' h2 h4
    omega

theorem getD_eq_iff {n : Nat} {A : List Int} (h : A.length = n) {i j : Nat} (hi : i < n) (hj : j < n) : A.getD i 0 = A.getD j 0 ↔ A[i]? = A[j]? := by
  simp [List.getD, List.getElem?_eq_getElem (show i < A.length by omega), List.getElem?_eq_getElem (show j < A.length by omega)]

/-- The coarsest common refinement. -/
theorem meet_coarsest {n : Nat} {A B C X : List Int} (hA : GoodR n A) (hB : GoodR n B) (hC : GoodR n C) (h : IsBy A B n X) (hCA : refB n C A = true) : refB n C B = refB n C X := by
  rw [Bool.eq_iff_iff, refB_iff, refB_iff]
  rw [refB_iff] at hCA
  constructor
  · intro hCB i hi
    rw [by_eq h hi (hC.lt hi)]
    exact ⟨(getD_eq_iff hA.len hi (hC.lt hi)).1 (hCA i hi), (getD_eq_iff hB.len hi (hC.lt hi)).1 (hCB i hi)⟩
  · intro hX i hi
    have := (by_eq h hi (hC.lt hi)).1 (hX i hi)
    exact (getD_eq_iff hB.len hi (hC.lt hi)).2 this.2

/-! ### Join -/
theorem step_keep {n : Nat} {R : List Int} (h : GoodR n R) (a b : Int) {i j : Nat} (hi : i < n) (hj : j < n) (e : R.getD i 0 = R.getD j 0) : (stepPair n R a b).getD i 0 = (stepPair n R a b).getD j 0 := by
  cases hc : (thereB n a && thereB n b) with
  | false => rw [stepPair_not hc]; exact e
  | true =>
    simp only [Bool.and_eq_true] at hc
    obtain ⟨i', j', x, y, rfl, rfl, hi', hj', hx, hy, hxx, hyy, he⟩ := stepPair_there h hc.1 hc.2
    rw [he, merged_getD (by rw [h.len]; exact hi), merged_getD (by rw [h.len]; exact hj), e]

theorem step_conn {n : Nat} {R : List Int} (h : GoodR n R) {a b : Nat} (ha : a < n) (hb : b < n) : (stepPair n R a b).getD a 0 = (stepPair n R a b).getD b 0 := by
  obtain ⟨i', j', x, y, e1, e2, hi', hj', hx, hy, hxx, hyy, he⟩ := stepPair_there h (a := (a : Int)) (b := (b : Int)) (by simp [thereB, ha]) (by simp [thereB, hb])
  obtain rfl : a = i' := by omega
  obtain rfl : b = j' := by omega
  rw [he, merged_getD (by rw [h.len]; exact ha), merged_getD (by rw [h.len]; exact hb), getD_of hx, getD_of hy]
  split <;> split <;> omega

theorem step_ref {n : Nat} {R Q : List Int} (h : GoodR n R) {a b : Nat} (ha : a < n) (hb : b < n) (hq : ∀ i : Nat, i < n → Q.getD i 0 = Q.getD (R.getD i 0).toNat 0) (hab : Q.getD a 0 = Q.getD b 0) :
    ∀ i : Nat, i < n → Q.getD i 0 = Q.getD ((stepPair n R a b).getD i 0).toNat 0 := by
  intro i hi
  obtain ⟨i', j', x, y, e1, e2, hi', hj', hx, hy, hxx, hyy, he⟩ := stepPair_there h (a := (a : Int)) (b := (b : Int)) (by simp [thereB, ha]) (by simp [thereB, hb])
  obtain rfl : a = i' := by omega
  obtain rfl : b = j' := by omega
  have e1 := hq a ha
  have e2 := hq b hb
  rw [getD_of hx] at e1
  rw [getD_of hy] at e2
  simp only [Int.toNat_natCast] at e1 e2
  rw [he, merged_getD (by rw [h.len]; exact hi)]
  have e3 := hq i hi
  split
  · rename_i hm
    rw [hm] at e3
    rw [e3]
    simp only [Int.toNat_natCast]
    rcases Nat.le_total x y with e | e
    · rw [Nat.max_eq_right e, Nat.min_eq_left e]; rw [← e2, ← hab, e1]
    · rw [Nat.max_eq_left e, Nat.min_eq_right e]; rw [← e1, hab, e2]
  · exact e3

theorem over_at {n : Nat} {R V : List Int} (hV : GoodR n V) {k : Nat} (hk : k < n) : overTo n R V (k + 1) = stepPair n (overTo n R V k) (k : Nat) (((V.getD k 0).toNat : Nat) : Int) := by
  obtain ⟨r, _, h2, _⟩ := hV.at hk
  simp only [overTo]
  rw [h2]; simp

theorem over_keep {n : Nat} {R V : List Int} (hR : GoodR n R) {i j : Nat} (hi : i < n) (hj : j < n) (e : R.getD i 0 = R.getD j 0) : ∀ k, (overTo n R V k).getD i 0 = (overTo n R V k).getD j 0
  | 0 => e
  | k + 1 => step_keep (hR.over V k) _ _ hi hj (over_keep hR hi hj e k)

theorem over_conn {n : Nat} {R V : List Int} (hR : GoodR n R) (hV : GoodR n V) : ∀ m, m ≤ n → ∀ k, k < m → (overTo n R V m).getD k 0 = (overTo n R V m).getD (V.getD k 0).toNat 0
  | 0, _, k, hk => absurd hk (by omega)
  | m + 1, hm, k, hk => by
    rw [over_at hV (show m < n by omega)]
    rcases Nat.lt_or_ge k m with e | e
    · exact step_keep (hR.over V m) _ _ (by omega) (hV.lt (by omega)) (over_conn hR hV m (by omega) k e)
    · obtain rfl : k = m := by omega
      exact step_conn (hR.over V k) (by omega) (hV.lt (by omega))

theorem over_ref {n : Nat} {R V Q : List Int} (hR : GoodR n R) (hV : GoodR n V) (h1 : refB n R Q = true) (h2 : refB n V Q = true) : ∀ k, k ≤ n → ∀ i : Nat, i < n → Q.getD i 0 = Q.getD ((overTo n R V k).getD i 0).toNat 0
  | 0, _ => refB_iff.1 h1
  | k + 1, hk => by
    rw [over_at hV (show k < n by omega)]
    exact step_ref (hR.over V k) (by omega) (hV.lt (by omega)) (over_ref hR hV h1 h2 k (by omega)) (refB_iff.1 h2 k (by omega))

theorem join_left {n : Nat} {R V : List Int} (hR : GoodR n R) : refB n R (overTo n R V n) = true := by
  rw [refB_iff]
  intro i hi
  obtain ⟨r, h1, h2, h3, _⟩ := hR.at hi
  rw [h2]
  simp only [Int.toNat_natCast]
  exact over_keep hR hi (by omega) (by rw [h2, h3]) n

theorem join_right {n : Nat} {R V : List Int} (hR : GoodR n R) (hV : GoodR n V) : refB n V (overTo n R V n) = true := by
  rw [refB_iff]
  intro i hi
  exact over_conn hR hV n (Nat.le_refl _) i hi

/-- The finest common coarsening. -/
theorem join_finest {n : Nat} {A B C : List Int} (hA : GoodR n A) (hB : GoodR n B) (hAC : refB n A C = true) : refB n B C = refB n (overTo n A B n) C := by
  rw [Bool.eq_iff_iff]
  constructor
  · intro h
    rw [refB_iff]
    exact over_ref hA hB hAC h n (Nat.le_refl _)
  · intro h
    exact refB_trans hB (join_right hA hB) h
end Go.Proofs.Ytojfpobgncapjaa
