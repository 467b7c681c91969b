/- Automata, plainly: tables, states of trees, products. No condition. -/
import Derived.Test.YtichhfbkhnimmaaYMA

set_option linter.unusedSimpArgs false
set_option linter.unusedVariables false
set_option maxHeartbeats 400000
namespace Go.Mn
open Go Go.Rt
mutual
def stateT (A : Au) : Tr → Int
  | .node s l => atI A s (stateL A l)
def stateL (A : Au) : List Tr → List Int
  | [] => []
  | t :: ts => stateT A t :: stateL A ts
end
theorem stateT_node (A : Au) (s : Int) (l : List Tr) : stateT A (.node s l) = atI A s (stateL A l) := by rw [stateT]
theorem stateL_map (A : Au) : ∀ l : List Tr, stateL A l = l.map (stateT A)
  | [] => by rw [stateL]; rfl
  | t :: ts => by rw [stateL, stateL_map A ts]; rfl
theorem nodes_good {r : List Int} {s : Int} {l : List Tr} (h : nodesE r (.node s l) = 0) : 0 ≤ s ∧ s < r.length ∧ (l.length : Int) = r.getD s.toNat 0 ∧ nodesL r l = 0 := by
  rw [nodesE] at h
  split at h
  · cases h
  · split at h
    · cases h
    · rename_i h1 h2
      exact ⟨by omega, by omega, by omega, h⟩
theorem nodesL_good {r : List Int} {t : Tr} {ts : List Tr} (h : nodesL r (t :: ts) = 0) : nodesE r t = 0 ∧ nodesL r ts = 0 := by
  rw [nodesL] at h
  split at h
  · rename_i h1; exact absurd h h1
  · rename_i h1; exact ⟨by omega, h⟩
theorem nodesL_mem {r : List Int} : ∀ {l : List Tr}, nodesL r l = 0 → ∀ t ∈ l, nodesE r t = 0
  | [], _, t, h => by cases h
  | u :: us, hl, t, h => by
    obtain ⟨h1, h2⟩ := nodesL_good hl
    rcases List.mem_cons.1 h with rfl | h
    · exact h1
    · exact nodesL_mem h2 t h
mutual
theorem state_rng {A : Au} (hA : AuOk A) : ∀ t : Tr, nodesE A.ranks t = 0 → 0 ≤ stateT A t ∧ stateT A t < (A.final.length : Int)
  | .node s l, h => by
    obtain ⟨h1, h2, h3, h4⟩ := nodes_good h
    rw [stateT]
    have hf : Fits A s (stateL A l) := ⟨h1, h2, by rw [stateL_map, List.length_map]; exact h3, stateL_rng hA l h4⟩
    obtain ⟨i, p, row, q, rfl, hi, hrow, hp, hpl, hq, hat, hq0, hq1, hl2⟩ := hf.at hA
    rw [hat]
    exact ⟨hq0, hq1⟩
theorem stateL_rng {A : Au} (hA : AuOk A) : ∀ l : List Tr, nodesL A.ranks l = 0 → ∀ x ∈ stateL A l, 0 ≤ x ∧ x < (A.final.length : Int)
  | [], _, x, hx => by rw [stateL] at hx; cases hx
  | t :: ts, h, x, hx => by
    obtain ⟨h1, h2⟩ := nodesL_good h
    rw [stateL] at hx
    rcases List.mem_cons.1 hx with rfl | hx
    · exact state_rng hA t h1
    · exact stateL_rng hA ts h2 x hx
end
theorem state_fits {A : Au} (hA : AuOk A) {s : Int} {l : List Tr} (h : nodesE A.ranks (.node s l) = 0) : Fits A s (stateL A l) := by
  obtain ⟨h1, h2, h3, h4⟩ := nodes_good h
  exact ⟨h1, h2, by rw [stateL_map, List.length_map]; exact h3, stateL_rng hA l h4⟩
theorem chk_alphaE {A : Au} (h : chk A = 0) : alphaE A.ranks = 0 := by
  unfold chk at h
  split at h
  · rename_i h0; exact absurd h h0
  · omega
theorem chk_of {A : Au} (ha : alphaE A.ranks = 0) (h : AuOk A) : chk A = 0 := by
  have h1 := h.lo
  have h2 := h.hi
  unfold chk
  rw [if_neg (by omega), if_neg (by omega), if_neg (by simp [h.len]), if_neg, if_neg]
  · rintro ⟨l, hl, s, hs, e⟩
    have := h.rng l hl s hs
    omega
  · rintro ⟨i, l, k, q1, q2, e⟩
    exact e (h.wide i l k q1 q2)
theorem place_lt {n : Nat} : ∀ (l : List Int), (∀ x ∈ l, 0 ≤ x ∧ x < (n : Int)) → 0 ≤ placeOf n l ∧ placeOf n l < ((n ^ l.length : Nat) : Int) := fun l h => by
  have := place_from (n := n) l 0 1 (by omega) (by omega) h
  refine ⟨this.1, ?_⟩
  have h2 := this.2
  rw [Nat.one_mul] at h2
  exact h2
theorem digs_place {n : Nat} (hn : 0 < n) : ∀ (k : Nat) (l : List Int), l.length = k → (∀ x ∈ l, 0 ≤ x ∧ x < (n : Int)) → digs n k (placeOf n l).toNat = l
  | 0, l, hl, _ => by rw [List.eq_nil_of_length_eq_zero hl]; rfl
  | k + 1, l, hl, h => by
    have hne : l ≠ [] := fun e => by rw [e] at hl; simp at hl
    obtain ⟨m, x, rfl⟩ : ∃ m x, l = m ++ [x] := ⟨l.dropLast, l.getLast hne, (List.dropLast_concat_getLast hne).symm⟩
    have hm : m.length = k := by simpa using hl
    have hx := h x (by simp)
    have hml : ∀ y ∈ m, 0 ≤ y ∧ y < (n : Int) := fun y hy => h y (by simp [hy])
    have hp := place_lt m hml
    have ih := digs_place hn k m hm hml
    obtain ⟨p, hpe⟩ := Int.eq_ofNat_of_zero_le hp.1
    obtain ⟨x', rfl⟩ := Int.eq_ofNat_of_zero_le hx.1
    have hx' : x' < n := by omega
    have e1 : (placeOf n (m ++ [(x' : Int)])).toNat = p * n + x' := by
      rw [placeOf_snoc, hpe, ← Int.natCast_mul, ← Int.natCast_add, Int.toNat_natCast]
    rw [e1, digs]
    have e2 : (p * n + x') / n = p := by rw [Nat.mul_comm, Nat.mul_add_div hn, Nat.div_eq_of_lt hx', Nat.add_zero]
    have e3 : (p * n + x') % n = x' := by rw [Nat.mul_comm, Nat.mul_add_mod, Nat.mod_eq_of_lt hx']
    rw [e2, e3]
    rw [hpe, Int.toNat_natCast] at ih
    rw [ih]
theorem made_final_len (rs : List Int) (n : Nat) (T : Int → List Int → Int) (F : Nat → Bool) : (madeA rs n T F).final.length = n := by simp [madeA]
theorem made_to_len (rs : List Int) (n : Nat) (T : Int → List Int → Int) (F : Nat → Bool) : (madeA rs n T F).to.length = rs.length := by simp [madeA, tablesOf]
theorem made_to_at {rs : List Int} {n : Nat} {T : Int → List Int → Int} {F : Nat → Bool} {i : Nat} {k : Int} (h : rs[i]? = some k) : (madeA rs n T F).to[i]? = some (tableOf n T i k) := by
  have hi := (List.getElem?_eq_some_iff.1 h).1
  show (tablesOf n T rs)[i]? = _
  unfold tablesOf
  rw [List.getElem?_map, List.getElem?_range hi]
  simp [List.getD, h]
theorem made_ok {rs : List Int} {n : Nat} {T : Int → List Int → Int} {F : Nat → Bool} (ha : alphaE rs = 0) (h1 : 1 ≤ n) (h2 : n ≤ 512)
    (hT : ∀ (i k p : Nat), rs[i]? = some ((k : Nat) : Int) → p < wideN k n → 0 ≤ T i (digs n k p) ∧ T i (digs n k p) < (n : Int)) : AuOk (madeA rs n T F) := by
  have hal := alphaE_ok ha
  refine ⟨hal, by rw [made_final_len]; exact h1, by rw [made_final_len]; exact h2, made_to_len rs n T F, fun i l k q1 q2 => ?_, fun l hl s hs => ?_⟩
  · have q2 : rs[i]? = some k := q2
    rw [made_to_at q2] at q1
    cases q1
    rw [made_final_len]
    simp [tableOf]
  · rw [made_final_len]
    obtain ⟨i, hi, rfl⟩ := List.mem_iff_getElem.1 hl
    have hir : i < rs.length := by rw [made_to_len] at hi; exact hi
    have q2 : rs[i]? = some rs[i] := by simp
    have q3 := made_to_at (n := n) (T := T) (F := F) q2
    rw [List.getElem?_eq_getElem hi] at q3
    rw [Option.some.inj q3] at hs
    have hk := hal.rng rs[i] (by simp)
    obtain ⟨k, hke⟩ := Int.eq_ofNat_of_zero_le hk.1
    unfold tableOf at hs
    obtain ⟨p, hp, rfl⟩ := List.mem_map.1 hs
    rw [hke] at hp ⊢
    rw [Int.toNat_natCast]
    exact hT i k p (by rw [q2, hke]) (List.mem_range.1 hp)
theorem at_made {rs : List Int} {n : Nat} {T : Int → List Int → Int} {F : Nat → Bool} (hn : 0 < n) {s : Int} {l : List Int} (hf : Fits (madeA rs n T F) s l) : atI (madeA rs n T F) s l = T s l := by
  obtain ⟨i, rfl⟩ := Int.eq_ofNat_of_zero_le hf.s0
  have hi : i < rs.length := by have := hf.s1; show i < (madeA rs n T F).ranks.length; omega
  have hr : rs[i]? = some rs[i] := by simp
  have hlen : (l.length : Int) = rs[i] := by
    have := hf.len
    rw [Int.toNat_natCast] at this
    rw [this]
    show rs.getD i 0 = _
    simp [List.getD, hi]
  have hrg := hf.rng
  rw [made_final_len] at hrg
  have hpl := place_lt l hrg
  unfold atI
  have h1 : (madeA rs n T F).to.getD i [] = tableOf n T i rs[i] := by rw [List.getD_eq_getElem?_getD, made_to_at hr, Option.getD_some]
  rw [made_final_len, Int.toNat_natCast, h1]
  unfold tableOf
  have hw : wideN rs[i] n = n ^ l.length := by unfold wideN; rw [← hlen, Int.toNat_natCast]
  have hlt : (placeOf n l).toNat < wideN rs[i] n := by rw [hw]; omega
  rw [List.getD_eq_getElem?_getD, List.getElem?_map, List.getElem?_range hlt, Option.map_some, Option.getD_some]
  rw [← hlen, Int.toNat_natCast, digs_place hn l.length l rfl hrg]
theorem prodT_rng {A B : Au} (hA : AuOk A) (hB : AuOk B) {s : Int} {l : List Int} (h1 : Fits A s (l.map fun d => d / (B.final.length : Int))) (h2 : Fits B s (l.map fun d => d % (B.final.length : Int))) :
    0 ≤ prodT A B s l ∧ prodT A B s l < ((A.final.length * B.final.length : Nat) : Int) := by
  obtain ⟨_, _, _, a, _, _, _, _, _, _, e1, a0, a1, _⟩ := h1.at hA
  obtain ⟨_, _, _, b, _, _, _, _, _, _, e2, b0, b1, _⟩ := h2.at hB
  unfold prodT
  rw [e1, e2, Int.natCast_mul]
  have h3 : 0 ≤ a * (B.final.length : Int) := Int.mul_nonneg a0 (by omega)
  have h4 : (a + 1) * (B.final.length : Int) ≤ (A.final.length : Int) * (B.final.length : Int) := Int.mul_le_mul_of_nonneg_right (by omega) (by omega)
  rw [Int.add_mul, Int.one_mul] at h4
  omega
theorem prod_ok {A B : Au} {wh : List Bool} (hA : chk A = 0) (hB : chk B = 0) (hr : A.ranks = B.ranks) (h4 : A.final.length * B.final.length ≤ 512) : AuOk (prodA A B wh) := by
  have oA := chk_ok hA
  have oB := chk_ok hB
  have hpos : 0 < A.final.length * B.final.length := Nat.mul_pos oA.lo oB.lo
  refine made_ok (chk_alphaE hA) hpos h4 fun i k p hk hp => ?_
  have hf := prod_fits oA oB hr hk (ds := digs (A.final.length * B.final.length) k p) (by rw [digs_len]) (fun d hd => digs_rng hpos k p d hd)
  exact prodT_rng oA oB hf.1 hf.2
theorem divmod_pair {a b : Int} {m : Nat} (hb : 0 ≤ b ∧ b < (m : Int)) : (a * (m : Int) + b) / (m : Int) = a ∧ (a * (m : Int) + b) % (m : Int) = b := by
  have hm : (m : Int) ≠ 0 := by omega
  refine ⟨?_, ?_⟩
  · rw [Int.add_comm, Int.add_mul_ediv_right _ _ hm, Int.ediv_eq_zero_of_lt hb.1 hb.2, Int.zero_add]
  · rw [Int.add_comm, Int.add_mul_emod_self_right, Int.emod_eq_of_lt hb.1 hb.2]
end Go.Mn

set_option linter.unusedSimpArgs false
set_option linter.unusedVariables false
set_option maxHeartbeats 400000
namespace Go.Mn
open Go Go.Rt
theorem atE_bd {A : Au} (hok : AuOk A) {s : Int} {l : List Int} (hf : Fits A s l) : 0 ≤ atI A s l ∧ atI A s l < (A.final.length : Int) := by
  obtain ⟨i, p, row, q, rfl, hi, hrow, hp, hpl, hq, hat, hq0, hq1, hl2⟩ := hf.at hok
  rw [hat]
  exact ⟨hq0, hq1⟩
theorem digs_fits {A : Au} (hok : AuOk A) {i k p : Nat} (hk : A.ranks[i]? = some ((k : Nat) : Int)) : Fits A i (digs A.final.length k p) := by
  have hi := (List.getElem?_eq_some_iff.1 hk).1
  have := hok.lo
  exact ⟨by omega, by omega, by simp [List.getD, hk, digs_len], fun x hx => digs_rng (by omega) k p x hx⟩
def isB (n : Nat) (out : List Int) : List Bool := (List.range n).map fun (i : Nat) => decide ((i : Int) ∈ out)
def stepAdd (A : Au) (s : Int) (out : List Int) (l : List Int) : List Int := if atI A s l ∈ out then out else out ++ [atI A s l]
theorem isB_len (n : Nat) (out : List Int) : (isB n out).length = n := by simp [isB]
theorem isB_get {n i : Nat} (hi : i < n) (out : List Int) : (isB n out)[i]? = some (decide ((i : Int) ∈ out)) := by simp [isB, hi]
def enumL (of : List Int) : Nat → List Int → List (List Int)
  | 0, l => [l]
  | m + 1, l => of.flatMap fun s => enumL of m (l ++ [s])
def addAll (A : Au) (s : Int) (ls : List (List Int)) (out : List Int) : List Int := ls.foldl (stepAdd A s) out
structure OutOk (A : Au) (out : List Int) : Prop where
  rng : ∀ x ∈ out, 0 ≤ x ∧ x < (A.final.length : Int)
  nd : out.Nodup
theorem OutOk.len {A : Au} {out : List Int} (h : OutOk A out) : out.length ≤ A.final.length := pigeon_few _ _ h.nd h.rng
theorem OutOk.nil (A : Au) : OutOk A [] := ⟨by simp, by simp⟩
theorem OutOk.step {A : Au} (hok : AuOk A) {s : Int} {l out : List Int} (hf : Fits A s l) (h : OutOk A out) : OutOk A (stepAdd A s out l) := by
  unfold stepAdd
  split
  · exact h
  · rename_i hn
    refine ⟨fun x hx => ?_, List.nodup_append.2 ⟨h.nd, by simp, fun a ha b hb => by simp at hb; subst hb; intro e; subst e; exact hn ha⟩⟩
    rcases List.mem_append.1 hx with hx | hx
    · exact h.rng x hx
    · simp at hx; subst hx; exact atE_bd hok hf
theorem enumL_fits {A : Au} {s : Int} {of : List Int} (hs0 : 0 ≤ s) (hs1 : s < A.ranks.length) (hof : ∀ x ∈ of, 0 ≤ x ∧ x < (A.final.length : Int)) : ∀ (m : Nat) (l : List Int), ((l.length + m : Nat) : Int) = A.ranks.getD s.toNat 0 → (∀ x ∈ l, 0 ≤ x ∧ x < (A.final.length : Int)) → ∀ x ∈ enumL of m l, Fits A s x
  | 0, l, hl, hr, x, hx => by
    simp only [enumL, List.mem_singleton] at hx
    subst hx
    exact ⟨hs0, hs1, by simpa using hl, hr⟩
  | m + 1, l, hl, hr, x, hx => by
    simp only [enumL, List.mem_flatMap] at hx
    obtain ⟨y, hy, hx⟩ := hx
    refine enumL_fits hs0 hs1 hof m (l ++ [y]) (by rw [← hl]; simp; omega) (fun z hz => ?_) x hx
    rcases List.mem_append.1 hz with hz | hz
    · exact hr z hz
    · simp at hz; subst hz; exact hof _ hy
theorem OutOk.all {A : Au} (hok : AuOk A) {s : Int} : ∀ {ls : List (List Int)} {out : List Int}, (∀ x ∈ ls, Fits A s x) → OutOk A out → OutOk A (addAll A s ls out)
  | [], out, _, h => h
  | l :: ls, out, hf, h => OutOk.all (ls := ls) hok (fun x hx => hf x (by simp [hx])) (h.step hok (hf l (by simp)))
theorem addAll_app (A : Au) (s : Int) (l r : List (List Int)) (out : List Int) : addAll A s (l ++ r) out = addAll A s r (addAll A s l out) := by simp [addAll]
def symS (A : Au) (of : List Int) (o : List Int) (s : Nat) : List Int := addAll A s (enumL of (A.ranks.getD s 0).toNat []) o
def roundP (A : Au) (of out : List Int) (j : Nat) : List Int := (List.range j).foldl (symS A of) out
def roundA (A : Au) (out : List Int) : List Int := roundP A out out A.ranks.length
def foundK (A : Au) : Nat → List Int
  | 0 => []
  | k + 1 => roundA A (foundK A k)
def foundA (A : Au) : List Int := foundK A (A.final.length + 1)
theorem stepAdd_pre (A : Au) (s : Int) (out l : List Int) : out <+: stepAdd A s out l := by
  unfold stepAdd; split
  · exact List.prefix_refl _
  · exact List.prefix_append ..
theorem addAll_pre (A : Au) (s : Int) : ∀ (ls : List (List Int)) (out : List Int), out <+: addAll A s ls out
  | [], out => List.prefix_refl _
  | x :: r, out => (stepAdd_pre A s out x).trans (addAll_pre A s r (stepAdd A s out x))
theorem roundP_succ (A : Au) (of out : List Int) (j : Nat) : roundP A of out (j + 1) = symS A of (roundP A of out j) j := by simp [roundP, List.range_succ]
theorem roundP_pre (A : Au) (of out : List Int) : ∀ j, out <+: roundP A of out j
  | 0 => List.prefix_refl _
  | j + 1 => by rw [roundP_succ]; exact (roundP_pre A of out j).trans (addAll_pre ..)
theorem roundA_pre (A : Au) (out : List Int) : out <+: roundA A out := roundP_pre ..
theorem rank_at {A : Au} (hok : AuOk A) {j : Nat} (hj : j < A.ranks.length) : A.ranks[j]? = some (((A.ranks.getD j 0).toNat : Nat) : Int) ∧ (A.ranks.getD j 0).toNat ≤ 2 ∧ A.ranks.getD j 0 = (((A.ranks.getD j 0).toNat : Nat) : Int) := by
  have h1 : A.ranks.getD j 0 = A.ranks[j] := by simp [List.getD, hj]
  have h2 := hok.alpha.rng A.ranks[j] (by simp)
  rw [h1]
  have h3 : (((A.ranks[j]).toNat : Nat) : Int) = A.ranks[j] := by omega
  refine ⟨by rw [h3]; simp, by omega, h3.symm⟩
theorem roundP_ok {A : Au} (hok : AuOk A) {of out : List Int} (hof : ∀ x ∈ of, 0 ≤ x ∧ x < (A.final.length : Int)) (ho : OutOk A out) : ∀ j, j ≤ A.ranks.length → OutOk A (roundP A of out j)
  | 0, _ => ho
  | j + 1, h => by
    rw [roundP_succ]
    obtain ⟨r1, r2, r3⟩ := rank_at hok (show j < A.ranks.length by omega)
    exact OutOk.all hok (enumL_fits (by omega) (by omega) hof _ [] (by rw [Int.toNat_natCast]; simp only [List.length_nil, Nat.zero_add]; exact r3.symm) (by simp)) (roundP_ok hok hof ho j (by omega))
theorem foundK_ok {A : Au} (hok : AuOk A) : ∀ k, OutOk A (foundK A k)
  | 0 => OutOk.nil A
  | k + 1 => roundP_ok hok (foundK_ok hok k).rng (foundK_ok hok k) _ (Nat.le_refl _)
theorem foundK_stop {A : Au} {k : Nat} (h : (foundK A (k + 1)).length ≤ (foundK A k).length) : ∀ m, foundK A (k + m) = foundK A k
  | 0 => rfl
  | m + 1 => by
    have h1 : foundK A (k + 1) = foundK A k := (List.IsPrefix.eq_of_length_le (roundA_pre A (foundK A k)) h).symm
    have h2 : foundK A (k + (m + 1)) = roundA A (foundK A (k + m)) := rfl
    rw [h2, foundK_stop h m]
    exact h1
theorem foundK_grow {A : Au} : ∀ k, (∀ j < k, (foundK A j).length < (foundK A (j + 1)).length) → k ≤ (foundK A k).length
  | 0, _ => Nat.zero_le _
  | k + 1, h => by
    have := foundK_grow k (fun j hj => h j (by omega))
    have := h k (by omega)
    omega
theorem foundK_end {A : Au} (hok : AuOk A) {k : Nat} (hg : ∀ j < k, (foundK A j).length < (foundK A (j + 1)).length) (h : (foundK A (k + 1)).length ≤ (foundK A k).length) : foundK A (k + 1) = foundA A := by
  have h1 := foundK_grow k hg
  have h2 := (foundK_ok hok k).len
  have h3 := foundK_stop h (A.final.length + 1 - k)
  rw [show k + (A.final.length + 1 - k) = A.final.length + 1 by omega] at h3
  unfold foundA
  rw [h3]
  exact foundK_stop h 1
def wasK (A : Au) : Nat → Int
  | 0 => -1
  | k + 1 => ((foundK A k).length : Nat)
theorem alphaE_zero {r : List Int} (h : alphaE r = 0) : (0 : Int) ∈ r := by
  unfold alphaE at h
  split at h
  · cases h
  · split at h
    · cases h
    · split at h
      · assumption
      · cases h
theorem chk_zero {A : Au} (h : chk A = 0) : (0 : Int) ∈ A.ranks := by
  unfold chk at h
  split at h
  · rename_i h0; exact absurd h h0
  · rename_i h0
    exact alphaE_zero (by omega)
theorem foundK_fix {A : Au} (hok : AuOk A) : roundA A (foundA A) = foundA A := by
  have hex : ∃ k, k ≤ A.final.length ∧ (foundK A (k + 1)).length ≤ (foundK A k).length := by
    refine Classical.byContradiction fun hn => ?_
    have hg : ∀ j < A.final.length + 1, (foundK A j).length < (foundK A (j + 1)).length := fun j hj => by
      refine Classical.byContradiction fun h => hn ⟨j, by omega, by omega⟩
    have h1 := foundK_grow _ hg
    have h2 := (foundK_ok hok (A.final.length + 1)).len
    omega
  obtain ⟨k, hk, hle⟩ := hex
  have h1 := foundK_stop hle (A.final.length + 1 - k)
  have h2 := foundK_stop hle (A.final.length + 2 - k)
  rw [show k + (A.final.length + 1 - k) = A.final.length + 1 by omega] at h1
  rw [show k + (A.final.length + 2 - k) = A.final.length + 1 + 1 by omega] at h2
  have h3 : roundA A (foundA A) = foundK A (A.final.length + 1 + 1) := rfl
  rw [h3, h2, ← h1]; rfl
theorem mem_enumL {of : List Int} : ∀ {m : Nat} {l x : List Int}, x ∈ enumL of m l ↔ ∃ ds, ds.length = m ∧ (∀ d ∈ ds, d ∈ of) ∧ x = l ++ ds
  | 0, l, x => by
    simp only [enumL, List.mem_singleton]
    constructor
    · rintro rfl; exact ⟨[], rfl, by simp, by simp⟩
    · rintro ⟨ds, h1, _, rfl⟩
      rw [List.eq_nil_of_length_eq_zero h1]; simp
  | m + 1, l, x => by
    simp only [enumL, List.mem_flatMap, mem_enumL]
    constructor
    · rintro ⟨s, hs, ds, h1, h2, rfl⟩
      refine ⟨s :: ds, by simp [h1], fun d hd => ?_, by simp⟩
      rcases List.mem_cons.1 hd with rfl | hd
      · exact hs
      · exact h2 d hd
    · rintro ⟨ds, h1, h2, rfl⟩
      cases ds with
      | nil => simp at h1
      | cons s ds => exact ⟨s, h2 s (by simp), ds, by simpa using h1, fun d hd => h2 d (by simp [hd]), by simp⟩
theorem mem_addAll {A : Au} {s : Int} : ∀ {ls : List (List Int)} {out x : List Int}, x ∈ ls → atI A s x ∈ addAll A s ls out
  | l :: ls, out, x, h => by
    rcases List.mem_cons.1 h with rfl | h
    · refine (addAll_pre A s ls (stepAdd A s out x)).subset ?_
      unfold stepAdd; split
      · assumption
      · simp
    · exact mem_addAll (ls := ls) h
theorem roundP_pre_le (A : Au) (of out : List Int) {i j : Nat} (h : i ≤ j) : roundP A of out i <+: roundP A of out j := by
  induction h with
  | refl => exact List.prefix_refl _
  | step _ ih => exact ih.trans (by rw [roundP_succ]; exact addAll_pre ..)
theorem found_shut {A : Au} (hok : AuOk A) {i k : Nat} {ds : List Int} (hk : A.ranks[i]? = some (k : Int)) (hl : ds.length = k) (hd : ∀ d ∈ ds, d ∈ foundA A) : atI A i ds ∈ foundA A := by
  have hi := (List.getElem?_eq_some_iff.1 hk).1
  have h1 : atI A i ds ∈ roundP A (foundA A) (foundA A) (i + 1) := by
    rw [roundP_succ]
    exact mem_addAll (mem_enumL.2 ⟨ds, by simp [List.getD, hk, hl], hd, by simp⟩)
  have h2 := (roundP_pre_le A (foundA A) (foundA A) (show i + 1 ≤ A.ranks.length by omega)).subset h1
  have h3 : roundP A (foundA A) (foundA A) A.ranks.length = foundA A := foundK_fix hok
  rw [h3] at h2
  exact h2
theorem found_shutL {A : Au} (hok : AuOk A) (h0 : (0 : Int) ∈ A.ranks) : ShutL A (foundA A) := by
  have ho := foundK_ok hok (A.final.length + 1)
  have hn := hok.hi
  refine ⟨?_, by have := ho.len; unfold foundA; omega, ho.nd, ho.rng, fun i k ds hk hl hd => ?_⟩
  · obtain ⟨i, hi⟩ := List.getElem?_of_mem h0
    have := found_shut hok (k := 0) (ds := []) hi rfl (by simp)
    exact List.length_pos_iff.2 (fun e => by rw [e] at this; simp at this)
  · obtain ⟨k, rfl⟩ := Int.eq_ofNat_of_zero_le (hok.alpha.rng _ (List.mem_of_getElem? hk)).1
    refine found_shut hok hk (by rw [List.length_map]; omega) (fun d hd' => ?_)
    obtain ⟨e, he, rfl⟩ := List.mem_map.1 hd'
    exact getD_mem (hd e he)
noncomputable def trimE (A : Au) : Au × Nat := open Classical in if chk A ≠ 0 then (A00, chk A) else (keptA A (foundA A), 0)
theorem trimE_bad {A : Au} (h : chk A ≠ 0) : trimE A = (A00, chk A) := if_pos h
theorem trimE_ok {A : Au} (h : chk A = 0) : trimE A = (keptA A (foundA A), 0) := if_neg (by simp [h])
noncomputable def reachE (A : Au) : List Bool × Nat := open Classical in if chk A ≠ 0 then ([], chk A) else (isB A.final.length (foundA A), 0)
theorem reachE_bad {A : Au} (h : chk A ≠ 0) : reachE A = ([], chk A) := if_pos h
theorem reachE_ok {A : Au} (h : chk A = 0) : reachE A = (isB A.final.length (foundA A), 0) := if_neg (by simp [h])
def phi (l : List Int) (d : Int) : Int := l.getD d.toNat 0
theorem phi_mem {l : List Int} {d : Int} (h : 0 ≤ d ∧ d < (l.length : Int)) : phi l d ∈ l := getD_mem h
theorem phi_idx {l : List Int} {x : Int} (h : x ∈ l) : phi l (hasI l x) = x := by
  rw [hasI_mem h]
  have h1 := List.idxOf_lt_length_of_mem h
  simp [phi, List.getD, h1]
theorem idx_phi {l : List Int} (hn : l.Nodup) {d : Int} (h : 0 ≤ d ∧ d < (l.length : Int)) : hasI l (phi l d) = d := by
  rw [hasI_mem (phi_mem h)]
  obtain ⟨m, rfl⟩ := Int.eq_ofNat_of_zero_le h.1
  have hm : m < l.length := by omega
  rw [idx_at l m _ hn (by simp [phi, List.getD, hm])]
theorem phi_inj {l : List Int} (hn : l.Nodup) {c d : Int} (hc : 0 ≤ c ∧ c < (l.length : Int)) (hd : 0 ≤ d ∧ d < (l.length : Int)) (h : phi l c = phi l d) : c = d := by
  rw [← idx_phi hn hc, ← idx_phi hn hd, h]
theorem hasI_rng {l : List Int} {x : Int} (h : x ∈ l) : 0 ≤ hasI l x ∧ hasI l x < (l.length : Int) := by
  rw [hasI_mem h]
  have := List.idxOf_lt_length_of_mem h
  omega
section
variable {A : Au} {l : List Int}
theorem kept_len : (keptA A l).final.length = l.length := by simp [keptA, madeA]
theorem kept_ranks : (keptA A l).ranks = A.ranks := rfl
theorem kept_mem (hsh : ShutL A l) {i k : Nat} {ds : List Int} (hk : A.ranks[i]? = some (k : Int)) (hl : ds.length = k) (hd : ∀ d ∈ ds, 0 ≤ d ∧ d < (l.length : Int)) : atI A i (ds.map (phi l)) ∈ l := hsh.shut i k ds hk (by rw [hl]) hd
theorem kept_ok (hk : chk A = 0) (hsh : ShutL A l) : AuOk (keptA A l) :=
  made_ok (chk_alphaE hk) hsh.pos hsh.hi fun i k p hi hp => hasI_rng (kept_mem hsh hi (digs_len _ _ _) (digs_rng hsh.pos k p))
theorem kept_chk (hk : chk A = 0) (hsh : ShutL A l) : chk (keptA A l) = 0 := chk_of (show alphaE A.ranks = 0 from chk_alphaE hk) (kept_ok hk hsh)
theorem fits_rank {B : Au} (hok : AuOk B) {s : Int} {ds : List Int} (hf : Fits B s ds) : ∃ i : Nat, s = (i : Int) ∧ B.ranks[i]? = some (ds.length : Int) := by
  obtain ⟨i, rfl⟩ := Int.eq_ofNat_of_zero_le hf.s0
  have hi : i < B.ranks.length := by have := hf.s1; omega
  refine ⟨i, rfl, ?_⟩
  have := hf.len
  simp [List.getD, hi] at this
  simp [hi, this]
theorem kept_at (hk : chk A = 0) (hsh : ShutL A l) {s : Int} {ds : List Int} (hf : Fits (keptA A l) s ds) : atI (keptA A l) s ds = hasI l (atI A s (ds.map (phi l))) ∧ atI A s (ds.map (phi l)) ∈ l := by
  obtain ⟨i, rfl, hi⟩ := fits_rank (kept_ok hk hsh) hf
  exact ⟨at_made hsh.pos hf, kept_mem hsh hi rfl (fun d hd => by have := hf.rng d hd; rw [kept_len] at this; exact this)⟩
theorem kept_phi (hk : chk A = 0) (hsh : ShutL A l) {s : Int} {ds : List Int} (hf : Fits (keptA A l) s ds) : phi l (atI (keptA A l) s ds) = atI A s (ds.map (phi l)) := by
  obtain ⟨h1, h2⟩ := kept_at hk hsh hf
  rw [h1, phi_idx h2]
theorem enumL_map (l : List Int) (of : List Int) : ∀ (m : Nat) (x : List Int), enumL (of.map (phi l)) m (x.map (phi l)) = (enumL of m x).map (List.map (phi l))
  | 0, x => rfl
  | m + 1, x => by
    simp only [enumL, List.flatMap_map, List.map_flatMap]
    congr 1; funext s
    rw [← enumL_map l of m (x ++ [s])]; simp
theorem step_map (hk : chk A = 0) (hsh : ShutL A l) {s : Int} {ds out : List Int} (hf : Fits (keptA A l) s ds) (ho : OutOk (keptA A l) out) : (stepAdd (keptA A l) s out ds).map (phi l) = stepAdd A s (out.map (phi l)) (ds.map (phi l)) := by
  have h1 := kept_phi hk hsh hf
  have h2 := atE_bd (kept_ok hk hsh) hf
  unfold stepAdd
  rw [← h1]
  have h3 : phi l (atI (keptA A l) s ds) ∈ out.map (phi l) ↔ atI (keptA A l) s ds ∈ out := by
    constructor
    · intro h
      obtain ⟨y, hy, e⟩ := List.mem_map.1 h
      have hr := ho.rng y hy
      rw [kept_len] at hr h2
      rw [← phi_inj hsh.nd hr h2 e]; exact hy
    · exact fun h => List.mem_map_of_mem h
  by_cases h : atI (keptA A l) s ds ∈ out
  · rw [if_pos h, if_pos (h3.2 h)]
  · rw [if_neg h, if_neg (fun e => h (h3.1 e))]; simp
theorem addAll_map (hk : chk A = 0) (hsh : ShutL A l) {s : Int} : ∀ {ls : List (List Int)} {out : List Int}, (∀ x ∈ ls, Fits (keptA A l) s x) → OutOk (keptA A l) out → (addAll (keptA A l) s ls out).map (phi l) = addAll A s (ls.map (List.map (phi l))) (out.map (phi l))
  | [], out, _, _ => rfl
  | x :: ls, out, hf, ho => by
    show (addAll (keptA A l) s ls (stepAdd (keptA A l) s out x)).map (phi l) = addAll A s (ls.map (List.map (phi l))) (stepAdd A s (out.map (phi l)) (x.map (phi l)))
    rw [addAll_map hk hsh (fun y hy => hf y (by simp [hy])) (ho.step (kept_ok hk hsh) (hf x (by simp))), step_map hk hsh (hf x (by simp)) ho]
theorem roundP_map (hk : chk A = 0) (hsh : ShutL A l) {of out : List Int} (hof : OutOk (keptA A l) of) (ho : OutOk (keptA A l) out) : ∀ j, j ≤ A.ranks.length → (roundP (keptA A l) of out j).map (phi l) = roundP A (of.map (phi l)) (out.map (phi l)) j
  | 0, _ => rfl
  | j + 1, hj => by
    have hok := kept_ok hk hsh
    obtain ⟨r1, r2, r3⟩ := rank_at hok (j := j) (show j < (keptA A l).ranks.length by rw [kept_ranks]; omega)
    rw [roundP_succ, roundP_succ, ← roundP_map hk hsh hof ho j (by omega)]
    unfold symS
    rw [addAll_map hk hsh (enumL_fits (by omega) (by rw [kept_ranks]; omega) hof.rng _ [] (by rw [Int.toNat_natCast]; simp only [List.length_nil, Nat.zero_add]; exact r3.symm) (by simp)) (roundP_ok hok hof.rng ho j (by rw [kept_ranks]; omega))]
    rw [show (enumL of ((keptA A l).ranks.getD j 0).toNat []).map (List.map (phi l)) = enumL (of.map (phi l)) (A.ranks.getD j 0).toNat [] from (enumL_map l of _ []).symm]
theorem foundK_map (hk : chk A = 0) (hsh : ShutL A l) : ∀ k, (foundK (keptA A l) k).map (phi l) = foundK A k
  | 0 => rfl
  | k + 1 => by
    have ho := foundK_ok (kept_ok hk hsh) k
    show (roundP (keptA A l) _ _ (keptA A l).ranks.length).map (phi l) = roundP A _ _ A.ranks.length
    rw [kept_ranks, roundP_map hk hsh ho ho _ (Nat.le_refl _), foundK_map hk hsh k]
theorem foundK_all {B : Au} (hok : AuOk B) {m : Nat} (hm : B.final.length + 1 ≤ m) : foundK B m = foundA B := by
  have h1 : (foundK B (B.final.length + 1 + 1)).length ≤ (foundK B (B.final.length + 1)).length := by
    have := foundK_fix hok
    show (roundA B (foundA B)).length ≤ (foundA B).length
    rw [this]; exact Nat.le_refl _
  have h2 := foundK_stop h1 (m - (B.final.length + 1))
  rw [show B.final.length + 1 + (m - (B.final.length + 1)) = m by omega] at h2
  exact h2
theorem found_map (hk : chk A = 0) (hsh : ShutL A l) : (foundA (keptA A l)).map (phi l) = foundA A := by
  rw [← foundK_all (kept_ok hk hsh) (m := A.final.length + (keptA A l).final.length + 1) (by omega), ← foundK_all (chk_ok hk) (m := A.final.length + (keptA A l).final.length + 1) (by omega), foundK_map hk hsh]
theorem phi_phi {l m : List Int} (hm : ∀ x ∈ m, 0 ≤ x ∧ x < (l.length : Int)) {d : Int} (hd : 0 ≤ d ∧ d < (m.length : Int)) : phi (m.map (phi l)) d = phi l (phi m d) := by
  obtain ⟨i, rfl⟩ := Int.eq_ofNat_of_zero_le hd.1
  have hi : i < m.length := by omega
  simp [phi, List.getD, hi]
theorem idxOf_map {l : List Int} (hn : l.Nodup) {x : Int} (hx : 0 ≤ x ∧ x < (l.length : Int)) : ∀ {m : List Int}, (∀ y ∈ m, 0 ≤ y ∧ y < (l.length : Int)) → x ∈ m → (m.map (phi l)).idxOf (phi l x) = m.idxOf x
  | [], _, h => by simp at h
  | a :: m, hr, h => by
    rw [List.map_cons, List.idxOf_cons, List.idxOf_cons]
    by_cases e : a = x
    · subst e; simp
    · have e2 : ¬ phi l a = phi l x := fun h2 => e (phi_inj hn (hr a (by simp)) hx h2)
      rw [show (a == x) = false by simpa using e, show (phi l a == phi l x) = false by simpa using e2, cond_false, cond_false, idxOf_map hn hx (fun y hy => hr y (by simp [hy])) ((List.mem_cons.1 h).resolve_left (fun h => e h.symm))]
theorem kept_kept (hk : chk A = 0) (hsh : ShutL A l) {m : List Int} (hm : ShutL (keptA A l) m) : keptA (keptA A l) m = keptA A (m.map (phi l)) := by
  have hmr : ∀ x ∈ m, 0 ≤ x ∧ x < (l.length : Int) := fun x hx => by have := hm.rng x hx; rw [kept_len] at this; exact this
  have hok := kept_ok hk hsh
  have hT : ∀ (i k p : Nat), A.ranks[i]? = some (k : Int) → keptT (keptA A l) m i (digs m.length k p) = keptT A (m.map (phi l)) i (digs m.length k p) := fun i k p hi => by
    have hdr := digs_rng hm.pos k p
    have hfit := hm.fits (i := i) (k := (k : Int)) (ds := digs m.length k p) (by rw [kept_ranks]; exact hi) (by rw [digs_len]) hdr
    have hmem := hm.shut i k (digs m.length k p) (by rw [kept_ranks]; exact hi) (by rw [digs_len]) hdr
    have h1 := kept_phi hk hsh hfit
    have h2 : (digs m.length k p).map (fun d => (m.map (phi l)).getD d.toNat 0) = ((digs m.length k p).map fun d => m.getD d.toNat 0).map (phi l) := by
      rw [List.map_map]
      exact List.map_congr_left fun d hd => phi_phi hmr (hdr d hd)
    unfold keptT
    rw [h2, ← h1, hasI_mem hmem, hasI_mem (List.mem_map_of_mem hmem), idxOf_map hsh.nd (hmr _ hmem) hmr hmem]
  have hF : ∀ s, s < m.length → keptF (keptA A l) m s = keptF A (m.map (phi l)) s := fun s hs => by
    have hq := hmr m[s] (by simp)
    obtain ⟨q, hq2⟩ := Int.eq_ofNat_of_zero_le hq.1
    have hql : q < l.length := by omega
    simp [keptF, keptA, madeA, List.getD, hs, hq2, hql, phi]
  unfold keptA
  rw [List.length_map]
  show madeA A.ranks _ _ _ = madeA A.ranks _ _ _
  unfold madeA
  congr 1
  · exact List.map_congr_left fun s hs => hF s (List.mem_range.1 hs)
  · unfold tablesOf tableOf
    refine List.map_congr_left fun i hi => ?_
    have hi' : i < A.ranks.length := List.mem_range.1 hi
    obtain ⟨r1, r2, r3⟩ := rank_at (chk_ok hk) hi'
    refine List.map_congr_left fun p _ => ?_
    exact hT i _ p r1
theorem trim_kept (hk : chk A = 0) (hsh : ShutL A l) : keptA (keptA A l) (foundA (keptA A l)) = keptA A (foundA A) := by
  have hok := kept_ok hk hsh
  have h0 := chk_zero (kept_chk hk hsh)
  rw [kept_kept hk hsh (found_shutL hok h0), found_map hk hsh]
end
end Go.Mn
