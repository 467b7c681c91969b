/- The plain law of FromBlocks: out of its own blocks a partition comes back. No condition. -/
import Derived.Test.YtojfpobgncapjaaXa
set_option linter.unusedSimpArgs false
set_option linter.unusedVariables false
set_option maxHeartbeats 400000
namespace Go.Proofs.Ytojfpobgncapjaa
open Go Go.RowKit Go.PP

/-- The elements of L have their representatives, all others are their own. -/
structure Done (n : Nat) (R : List Int) (L : List Int) (Q : List Int) (S : Nat → Bool) : Prop where
  len : Q.length = n
  val : ∀ i : Nat, i < n → Q[i]? = some (if (i : Int) ∈ L then R.getD i 0 else (i : Int))
  seen : ∀ i : Nat, i < n → S i = decide ((i : Int) ∈ L)

theorem Done.start (n : Nat) (R : List Int) : Done n R [] (iota n) (fun _ => false) := ⟨iota_len n, fun i hi => by simp [iota_get n i hi], fun i hi => by simp⟩

theorem Done.step {n : Nat} {R L Q : List Int} {S : Nat → Bool} (hR : GoodR n R) (h : Done n R L Q S) {f a : Nat} (ha : a < n) (hRa : R[a]? = some (f : Int)) (hL : (a : Int) ∉ L) :
    Done n R (L ++ [(a : Int)]) (stepPair n Q f a) (fun i => if i = a then true else S i) := by
  obtain ⟨r, h1, h2, h3⟩ := hR.rep a ha
  have e : f = r := some_nat_inj (hRa.symm.trans h2)
  subst e
  have hfn : f < n := by omega
  have vf : Q[f]? = some (f : Int) := by
    rw [h.val f hfn]; split
    · rw [getD_of h3]
    · rfl
  have va : Q[a]? = some (a : Int) := by rw [h.val a ha, if_neg hL]
  have hst : stepPair n Q f a = merged Q a f := by
    have t1 : thereB n (f : Int) = true := by simp [thereB, hfn]
    have t2 : thereB n (a : Int) = true := by simp [thereB, ha]
    simp [stepPair, t1, t2, List.getD, vf, va, Nat.max_eq_right h1, Nat.min_eq_left h1]
  rw [hst]
  refine ⟨by rw [merged_len, h.len], fun i hi => ?_, fun i hi => ?_⟩
  · rw [merged_at (h.val i hi)]
    congr 1
    by_cases hiL : (i : Int) ∈ L
    · rw [if_pos hiL, if_pos (show (i : Int) ∈ L ++ [(a : Int)] by simp [hiL])]
      obtain ⟨q, g1, g2, g3, g4, g5⟩ := hR.at hi
      rw [g2]
      split
      · rename_i hq
        have hq' : q = a := by omega
        subst hq'
        rw [h2] at g5
        exact Option.some.inj g5
      · rfl
    · rw [if_neg hiL]
      by_cases hia : i = a
      · subst hia; rw [if_pos rfl, if_pos (by simp), getD_of hRa]
      · rw [if_neg (by omega), if_neg (by simp [hiL]; omega)]
  · by_cases hia : i = a
    · subst hia; simp
    · simp only [if_neg hia, h.seen i hi]
      have : ¬ ((i : Int) = (a : Int)) := by omega
      simp [this]

theorem Done.row {n : Nat} {R : List Int} (hR : GoodR n R) {f : Nat} : ∀ (l L Q : List Int) (S : Nat → Bool), Done n R L Q S → (∀ x ∈ l, ∃ a : Nat, x = a ∧ a < n ∧ R[a]? = some (f : Int)) → l.Nodup → (∀ x ∈ l, x ∉ L) →
    ∃ Q' S', ofRow n f l Q S = .good Q' S' ∧ Done n R (L ++ l) Q' S'
  | [], L, Q, S, h, _, _, _ => ⟨Q, S, rfl, by simpa using h⟩
  | x :: l, L, Q, S, h, h1, h2, h3 => by
    obtain ⟨a, rfl, ha, hRa⟩ := h1 x (by simp)
    have hnot := h3 (a : Int) (by simp)
    have hs := h.step hR ha hRa hnot
    obtain ⟨Q', S', e, hd⟩ := Done.row hR l (L ++ [(a : Int)]) _ _ hs (fun y hy => h1 y (by simp [hy])) (List.nodup_cons.1 h2).2 (fun y hy => by
      have := h3 y (by simp [hy])
      have h5 : y ≠ (a : Int) := fun e => (List.nodup_cons.1 h2).1 (e ▸ hy)
      simp [this, h5])
    refine ⟨Q', S', ?_, by simpa using hd⟩
    have t2 : thereB n (a : Int) = true := by simp [thereB, ha]
    rw [ofRow, if_pos t2]
    simp only [Int.toNat_natCast]
    rw [if_neg (by rw [h.seen a ha]; simp [hnot])]
    exact e

theorem mem_blockTo {R : List Int} {h : Int} {x : Int} : ∀ {k : Nat}, x ∈ blockTo R h k ↔ ∃ a : Nat, x = a ∧ a < k ∧ R[a]? = some h
  | 0 => by simp [blockTo]
  | k + 1 => by
    rw [blockTo, List.mem_append, mem_blockTo]
    constructor
    · rintro (⟨a, h1, h2, h3⟩ | h1)
      · exact ⟨a, h1, by omega, h3⟩
      · split at h1
        · simp at h1; exact ⟨k, h1, by omega, by assumption⟩
        · simp at h1
    · rintro ⟨a, h1, h2, h3⟩
      rcases Nat.lt_or_ge a k with e | e
      · exact .inl ⟨a, h1, e, h3⟩
      · obtain rfl : a = k := by omega
        exact .inr (by rw [if_pos h3]; simp [h1])

theorem nodup_blockTo {R : List Int} {h : Int} : ∀ k : Nat, (blockTo R h k).Nodup
  | 0 => by simp [blockTo]
  | k + 1 => by
    rw [blockTo, List.nodup_append]
    refine ⟨nodup_blockTo k, by split <;> simp, fun a ha b hb => ?_⟩
    obtain ⟨i, rfl, hi, _⟩ := mem_blockTo.1 ha
    split at hb
    · simp at hb; omega
    · simp at hb

theorem blockTo_head {n : Nat} {R : List Int} (hR : GoodR n R) {h : Nat} (hh : R[h]? = some (h : Int)) : ∀ k, k ≤ n → (k ≤ h → blockTo R h k = []) ∧ (h < k → ∃ t, blockTo R h k = (h : Int) :: t)
  | 0, _ => ⟨fun _ => rfl, fun e => absurd e (by omega)⟩
  | k + 1, hk => by
    obtain ⟨i1, i2⟩ := blockTo_head hR hh k (by omega)
    refine ⟨fun e => ?_, fun e => ?_⟩
    · obtain ⟨r, h1, h2, _⟩ := hR.rep k (by omega)
      rw [blockTo, i1 (by omega), h2, if_neg (by intro e2; have := Option.some.inj e2; omega)]; rfl
    · rcases Nat.lt_or_ge h k with e2 | e2
      · obtain ⟨t, ht⟩ := i2 e2
        exact ⟨_, by rw [blockTo, ht]; rfl⟩
      · obtain rfl : h = k := by omega
        exact ⟨[], by rw [blockTo, i1 (by omega), if_pos hh]; rfl⟩

theorem mem_heads {R : List Int} {h : Nat} : ∀ {k : Nat}, h ∈ heads R k ↔ h < k ∧ R[h]? = some (h : Int)
  | 0 => by simp [heads]
  | k + 1 => by
    rw [heads, List.mem_append, mem_heads]
    constructor
    · rintro (⟨h1, h2⟩ | h1)
      · exact ⟨by omega, h2⟩
      · split at h1
        · simp at h1; subst h1; exact ⟨by omega, by assumption⟩
        · simp at h1
    · rintro ⟨h1, h2⟩
      rcases Nat.lt_or_ge h k with e | e
      · exact .inl ⟨e, h2⟩
      · obtain rfl : h = k := by omega
        exact .inr (by rw [if_pos h2]; simp)

theorem nodup_heads {R : List Int} : ∀ k : Nat, (heads R k).Nodup
  | 0 => by simp [heads]
  | k + 1 => by
    rw [heads, List.nodup_append]
    refine ⟨nodup_heads k, by split <;> simp, fun a ha b hb => ?_⟩
    have := (mem_heads.1 ha).1
    split at hb
    · simp at hb; omega
    · simp at hb

theorem Done.rows {n : Nat} {R : List Int} (hR : GoodR n R) : ∀ (hs : List Nat) (L Q : List Int) (S : Nat → Bool), Done n R L Q S → (∀ h ∈ hs, h < n ∧ R[h]? = some (h : Int)) → hs.Nodup →
    (∀ x ∈ L, ∀ h ∈ hs, ∀ a : Nat, x = a → R[a]? ≠ some (h : Int)) → ∃ Q' S', ofRows n (hs.map fun (h : Nat) => blockTo R h n) Q S = .good Q' S' ∧ Done n R (L ++ (hs.map fun (h : Nat) => blockTo R h n).flatten) Q' S'
  | [], L, Q, S, h, _, _, _ => ⟨Q, S, rfl, by simpa using h⟩
  | h0 :: hs, L, Q, S, h, h1, h2, h3 => by
    obtain ⟨hn, hh⟩ := h1 h0 (by simp)
    obtain ⟨t, ht⟩ := (blockTo_head hR hh n (Nat.le_refl _)).2 hn
    obtain ⟨Q1, S1, e1, hd1⟩ := Done.row hR (f := h0) (blockTo R h0 n) L Q S h (fun x hx => by
      obtain ⟨a, e, h5, h6⟩ := mem_blockTo.1 hx; exact ⟨a, e, h5, h6⟩) (nodup_blockTo n) (fun x hx hxL => by
      obtain ⟨a, e, h5, h6⟩ := mem_blockTo.1 hx
      exact h3 x hxL h0 (by simp) a e h6)
    obtain ⟨Q2, S2, e2, hd2⟩ := Done.rows hR hs (L ++ blockTo R h0 n) Q1 S1 hd1 (fun h hh => h1 h (by simp [hh])) (List.nodup_cons.1 h2).2 (fun x hx h hh a e hRa => by
      rcases List.mem_append.1 hx with hx | hx
      · exact h3 x hx h (by simp [hh]) a e hRa
      · obtain ⟨a', e', h5, h6⟩ := mem_blockTo.1 hx
        obtain rfl : a = a' := by omega
        rw [h6] at hRa
        have : h0 = h := by have := Option.some.inj hRa; omega
        subst this
        exact (List.nodup_cons.1 h2).1 hh)
    refine ⟨Q2, S2, ?_, by simpa using hd2⟩
    have hhd : (blockTo R h0 n).headD 0 = (h0 : Int) := by rw [ht]; rfl
    rw [List.map_cons, ofRows, hhd, e1]
    exact e2

/-- Out of its own blocks a partition comes back. -/
theorem rows_back {n : Nat} {R : List Int} (hR : GoodR n R) : ∃ S, ofRows n (rowsTo R n) (iota n) (fun _ => false) = .good R S := by
  obtain ⟨Q, S, e, hd⟩ := Done.rows hR (heads R n) [] (iota n) (fun _ => false) (Done.start n R) (fun h hh => mem_heads.1 hh) (nodup_heads n) (by simp)
  have hQ : Q = R := by
    refine List.ext_getElem? fun i => ?_
    rcases Nat.lt_or_ge i n with hi | hi
    · obtain ⟨r, h1, h2, h3, h4, h5⟩ := hR.at hi
      rw [hd.val i hi, if_pos, h2, h4]
      rw [List.nil_append, List.mem_flatten]
      exact ⟨blockTo R r n, List.mem_map.2 ⟨r, mem_heads.2 ⟨by omega, h5⟩, rfl⟩, mem_blockTo.2 ⟨i, rfl, hi, h4⟩⟩
    · rw [List.getElem?_eq_none (by rw [hd.len]; exact hi), List.getElem?_eq_none (by rw [hR.len]; exact hi)]
  subst hQ
  exact ⟨S, e⟩
end Go.Proofs.Ytojfpobgncapjaa
