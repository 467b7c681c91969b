/- Plain laws of made automata: products, complements. No condition. -/
import Derived.Test.YtdakoccbmeojhaaPe
import Derived.Test.YtdakoccbmeojhaaWh
set_option linter.unusedSimpArgs false
set_option linter.unusedVariables false
set_option maxHeartbeats 400000
namespace Go.Proofs.Ytdakoccbmeojhaa
open Go Go.RowKit Go.PP

theorem chk_alphaE {A : Au} (h : chk A = 0) : alphaE A.ranks = 0 := by
  unfold chk at h
  split at h
  · rename_i h0; exact absurd h h0
  · omega
theorem chk_of {A : Au} (ha : alphaE A.ranks = 0) (h : AuOk A) : chk A = 0 := by
  have h1 := h.lo
  have h2 := h.hi
  unfold chk
  rw [if_neg (by omega), if_neg (by omega), if_neg (by simp [h.len]), if_neg, if_neg]
  · rintro ⟨l, hl, s, hs, e⟩
    have := h.rng l hl s hs
    omega
  · rintro ⟨i, l, k, q1, q2, e⟩
    exact e (h.wide i l k q1 q2)

theorem place_lt {n : Nat} : ∀ (l : List Int), (∀ x ∈ l, 0 ≤ x ∧ x < (n : Int)) → 0 ≤ placeOf n l ∧ placeOf n l < ((n ^ l.length : Nat) : Int) := fun l h => by
  have := place_from (n := n) l 0 1 (by omega) (by omega) h
  refine ⟨this.1, ?_⟩
  have h2 := this.2
  rw [Nat.one_mul] at h2
  exact h2
/-- The digits of a place. -/
theorem digs_place {n : Nat} (hn : 0 < n) : ∀ (k : Nat) (l : List Int), l.length = k → (∀ x ∈ l, 0 ≤ x ∧ x < (n : Int)) → digs n k (placeOf n l).toNat = l
  | 0, l, hl, _ => by rw [List.eq_nil_of_length_eq_zero hl]; rfl
  | k + 1, l, hl, h => by
    have hne : l ≠ [] := fun e => by rw [e] at hl; simp at hl
    obtain ⟨m, x, rfl⟩ : ∃ m x, l = m ++ [x] := ⟨l.dropLast, l.getLast hne, (List.dropLast_concat_getLast hne).symm⟩
    have hm : m.length = k := by simpa using hl
    have hx := h x (by simp)
    have hml : ∀ y ∈ m, 0 ≤ y ∧ y < (n : Int) := fun y hy => h y (by simp [hy])
    have hp := place_lt m hml
    have ih := digs_place hn k m hm hml
    obtain ⟨p, hpe⟩ := Int.eq_ofNat_of_zero_le hp.1
    obtain ⟨x', rfl⟩ := Int.eq_ofNat_of_zero_le hx.1
    have hx' : x' < n := by omega
    have e1 : (placeOf n (m ++ [(x' : Int)])).toNat = p * n + x' := by
      rw [placeOf_snoc, hpe, ← Int.natCast_mul, ← Int.natCast_add, Int.toNat_natCast]
    rw [e1, digs]
    have e2 : (p * n + x') / n = p := by rw [Nat.mul_comm, Nat.mul_add_div hn, Nat.div_eq_of_lt hx', Nat.add_zero]
    have e3 : (p * n + x') % n = x' := by rw [Nat.mul_comm, Nat.mul_add_mod, Nat.mod_eq_of_lt hx']
    rw [e2, e3]
    rw [hpe, Int.toNat_natCast] at ih
    rw [ih]

theorem made_final_len (rs : List Int) (n : Nat) (T : Int → List Int → Int) (F : Nat → Bool) : (madeA rs n T F).final.length = n := by simp [madeA]
theorem made_to_len (rs : List Int) (n : Nat) (T : Int → List Int → Int) (F : Nat → Bool) : (madeA rs n T F).to.length = rs.length := by simp [madeA, tablesOf]
theorem made_to_at {rs : List Int} {n : Nat} {T : Int → List Int → Int} {F : Nat → Bool} {i : Nat} {k : Int} (h : rs[i]? = some k) : (madeA rs n T F).to[i]? = some (tableOf n T i k) := by
  have hi := (List.getElem?_eq_some_iff.1 h).1
  show (tablesOf n T rs)[i]? = _
  unfold tablesOf
  rw [List.getElem?_map, List.getElem?_range hi]
  simp [List.getD, h]
theorem made_ok {rs : List Int} {n : Nat} {T : Int → List Int → Int} {F : Nat → Bool} (ha : alphaE rs = 0) (h1 : 1 ≤ n) (h2 : n ≤ 512)
    (hT : ∀ (i k p : Nat), rs[i]? = some ((k : Nat) : Int) → p < wideN k n → 0 ≤ T i (digs n k p) ∧ T i (digs n k p) < (n : Int)) : AuOk (madeA rs n T F) := by
  have hal := alphaE_ok ha
  refine ⟨hal, by rw [made_final_len]; exact h1, by rw [made_final_len]; exact h2, made_to_len rs n T F, fun i l k q1 q2 => ?_, fun l hl s hs => ?_⟩
  · have q2 : rs[i]? = some k := q2
    rw [made_to_at q2] at q1
    cases q1
    rw [made_final_len]
    simp [tableOf]
  · rw [made_final_len]
    obtain ⟨i, hi, rfl⟩ := List.mem_iff_getElem.1 hl
    have hir : i < rs.length := by rw [made_to_len] at hi; exact hi
    have q2 : rs[i]? = some rs[i] := by simp
    have q3 := made_to_at (n := n) (T := T) (F := F) q2
    rw [List.getElem?_eq_getElem hi] at q3
    rw [Option.some.inj q3] at hs
    have hk := hal.rng rs[i] (by simp)
    obtain ⟨k, hke⟩ := Int.eq_ofNat_of_zero_le hk.1
    unfold tableOf at hs
    obtain ⟨p, hp, rfl⟩ := List.mem_map.1 hs
    rw [hke] at hp ⊢
    rw [Int.toNat_natCast]
    exact hT i k p (by rw [q2, hke]) (List.mem_range.1 hp)
theorem at_made {rs : List Int} {n : Nat} {T : Int → List Int → Int} {F : Nat → Bool} (hn : 0 < n) {s : Int} {l : List Int} (hf : Fits (madeA rs n T F) s l) : atI (madeA rs n T F) s l = T s l := by
  obtain ⟨i, rfl⟩ := Int.eq_ofNat_of_zero_le hf.s0
  have hi : i < rs.length := by have := hf.s1; show i < (madeA rs n T F).ranks.length; omega
  have hr : rs[i]? = some rs[i] := by simp
  have hlen : (l.length : Int) = rs[i] := by
    have := hf.len
    rw [Int.toNat_natCast] at this
    rw [this]
    show rs.getD i 0 = _
    simp [List.getD, hi]
  have hrg := hf.rng
  rw [made_final_len] at hrg
  have hpl := place_lt l hrg
  unfold atI
  have h1 : (madeA rs n T F).to.getD i [] = tableOf n T i rs[i] := by rw [List.getD_eq_getElem?_getD, made_to_at hr, Option.getD_some]
  rw [made_final_len, Int.toNat_natCast, h1]
  unfold tableOf
  have hw : wideN rs[i] n = n ^ l.length := by unfold wideN; rw [← hlen, Int.toNat_natCast]
  have hlt : (placeOf n l).toNat < wideN rs[i] n := by rw [hw]; omega
  rw [List.getD_eq_getElem?_getD, List.getElem?_map, List.getElem?_range hlt, Option.map_some, Option.getD_some]
  rw [← hlen, Int.toNat_natCast, digs_place hn l.length l rfl hrg]

theorem state_rng {A : Au} (hA : AuOk A) : ∀ (d : Nat) (t : Tr), nodesE d A.ranks t = 0 → 0 ≤ stateT A d t ∧ stateT A d t < (A.final.length : Int)
  | 0, t, h => by have := hA.lo; rw [stateT]; omega
  | d + 1, .node s l, h => by
    obtain ⟨h1, h2, h3, h4⟩ := nodes_good h
    rw [stateT]
    have hf : Fits A s (l.map (stateT A d)) := ⟨h1, h2, by rw [List.length_map]; exact h3, fun x hx => by
      obtain ⟨y, hy, rfl⟩ := List.mem_map.1 hx
      obtain ⟨i, hi, rfl⟩ := List.mem_iff_getElem.1 hy
      exact state_rng hA d _ (h4 i _ (by simp))⟩
    obtain ⟨i, p, row, q, rfl, hi, hrow, hp, hpl, hq, hat, hq0, hq1, hl2⟩ := hf.at hA
    rw [hat]
    exact ⟨hq0, hq1⟩
theorem state_fits {A : Au} (hA : AuOk A) {d : Nat} {s : Int} {l : List Tr} (h : nodesE (d + 1) A.ranks (.node s l) = 0) : Fits A s (l.map (stateT A d)) := by
  obtain ⟨h1, h2, h3, h4⟩ := nodes_good h
  refine ⟨h1, h2, by rw [List.length_map]; exact h3, fun x hx => ?_⟩
  obtain ⟨y, hy, rfl⟩ := List.mem_map.1 hx
  obtain ⟨i, hi, rfl⟩ := List.mem_iff_getElem.1 hy
  exact state_rng hA d _ (h4 i _ (by simp))

/-! the complement -/
noncomputable def chkN (r : List Int) (n : Nat) (to : List (List Int)) : Nat :=
  open Classical in
  if alphaE r ≠ 0 then alphaE r
  else if n < 1 ∨ 512 < n then 2
  else if to.length ≠ r.length then 3
  else if (∃ (i : Nat) (l : List Int) (k : Int), to[i]? = some l ∧ r[i]? = some k ∧ l.length ≠ wideN k n) then 3
  else if (∃ l ∈ to, ∃ s ∈ l, s < 0 ∨ (n : Int) ≤ s) then 2 else 0
theorem chk_eq (A : Au) : chk A = chkN A.ranks A.final.length A.to := rfl
theorem chk_not (A : Au) : chk (notA A) = chk A := by
  rw [chk_eq, chk_eq, show (notA A).final.length = A.final.length by simp [notA]]
  rfl
theorem at_not (A : Au) (s : Int) (l : List Int) : atI (notA A) s l = atI A s l := by unfold atI notA; simp
theorem state_not (A : Au) : ∀ (d : Nat) (t : Tr), stateT (notA A) d t = stateT A d t
  | 0, t => rfl
  | d + 1, .node s l => by
    rw [stateT, stateT, at_not]
    exact congrArg _ (List.map_congr_left fun x _ => state_not A d x)
theorem acc_eq {A : Au} {d : Nat} {t : Tr} (h : chk A = 0) (h2 : rightE d A.ranks t = 0) : acceptsB d A t = A.final.getD (stateT A d t).toNat false := by
  unfold acceptsB
  rw [runE_good h h2]
  rfl
theorem right_nodes {d : Nat} {r : List Int} {t : Tr} (h : rightE d r t = 0) : nodesE d r t = 0 := by
  unfold rightE at h
  split at h
  · rename_i h0; exact absurd h h0
  · split at h
    · cases h
    · split at h
      · cases h
      · exact h
theorem acc_not {A : Au} {d : Nat} {t : Tr} (h : chk A = 0) (h2 : rightE d A.ranks t = 0) : acceptsB d (notA A) t = !(acceptsB d A t) := by
  rw [acc_eq (A := notA A) (by rw [chk_not]; exact h) h2, acc_eq h h2, state_not]
  have hr := state_rng (chk_ok h) d t (right_nodes h2)
  obtain ⟨i, hi⟩ := Int.eq_ofNat_of_zero_le hr.1
  rw [hi, Int.toNat_natCast]
  have hlt : i < A.final.length := by omega
  show (A.final.map (!·)).getD i false = _
  simp [List.getD, hlt]

/-! the product -/
theorem prodT_rng {A B : Au} (hA : AuOk A) (hB : AuOk B) {s : Int} {l : List Int} (h1 : Fits A s (l.map fun d => d / (B.final.length : Int))) (h2 : Fits B s (l.map fun d => d % (B.final.length : Int))) :
    0 ≤ prodT A B s l ∧ prodT A B s l < ((A.final.length * B.final.length : Nat) : Int) := by
  obtain ⟨_, _, _, a, _, _, _, _, _, _, e1, a0, a1, _⟩ := h1.at hA
  obtain ⟨_, _, _, b, _, _, _, _, _, _, e2, b0, b1, _⟩ := h2.at hB
  unfold prodT
  rw [e1, e2, Int.natCast_mul]
  have h3 : 0 ≤ a * (B.final.length : Int) := Int.mul_nonneg a0 (by omega)
  have h4 : (a + 1) * (B.final.length : Int) ≤ (A.final.length : Int) * (B.final.length : Int) := Int.mul_le_mul_of_nonneg_right (by omega) (by omega)
  rw [Int.add_mul, Int.one_mul] at h4
  omega
theorem prod_ok {A B : Au} {wh : List Bool} (hA : chk A = 0) (hB : chk B = 0) (hr : A.ranks = B.ranks) (h4 : A.final.length * B.final.length ≤ 512) : AuOk (prodA A B wh) := by
  have oA := chk_ok hA
  have oB := chk_ok hB
  have hpos : 0 < A.final.length * B.final.length := Nat.mul_pos oA.lo oB.lo
  refine made_ok (chk_alphaE hA) hpos h4 fun i k p hk hp => ?_
  have hf := prod_fits oA oB hr hk (ds := digs (A.final.length * B.final.length) k p) (by rw [digs_len]) (fun d hd => digs_rng hpos k p d hd)
  exact prodT_rng oA oB hf.1 hf.2
theorem prod_chk {A B : Au} {wh : List Bool} (hA : chk A = 0) (hB : chk B = 0) (hr : A.ranks = B.ranks) (h4 : A.final.length * B.final.length ≤ 512) : chk (prodA A B wh) = 0 :=
  chk_of (show alphaE A.ranks = 0 from chk_alphaE hA) (prod_ok hA hB hr h4)
theorem divmod_pair {a b : Int} {m : Nat} (hb : 0 ≤ b ∧ b < (m : Int)) : (a * (m : Int) + b) / (m : Int) = a ∧ (a * (m : Int) + b) % (m : Int) = b := by
  have hm : (m : Int) ≠ 0 := by omega
  refine ⟨?_, ?_⟩
  · rw [Int.add_comm, Int.add_mul_ediv_right _ _ hm, Int.ediv_eq_zero_of_lt hb.1 hb.2, Int.zero_add]
  · rw [Int.add_comm, Int.add_mul_emod_self_right, Int.emod_eq_of_lt hb.1 hb.2]
theorem state_prod {A B : Au} {wh : List Bool} (hA : chk A = 0) (hB : chk B = 0) (hr : A.ranks = B.ranks) (h4 : A.final.length * B.final.length ≤ 512) : ∀ (d : Nat) (t : Tr), nodesE d A.ranks t = 0 →
    stateT (prodA A B wh) d t = stateT A d t * (B.final.length : Int) + stateT B d t
  | 0, t, _ => by simp [stateT]
  | d + 1, .node s l, h => by
    have oA := chk_ok hA
    have oB := chk_ok hB
    have oP := prod_ok (wh := wh) hA hB hr h4
    obtain ⟨h1, h2, h3, hk⟩ := nodes_good h
    have hP : Fits (prodA A B wh) s (l.map (stateT (prodA A B wh) d)) := state_fits oP h
    have e0 : atI (prodA A B wh) s (l.map (stateT (prodA A B wh) d)) = prodT A B s (l.map (stateT (prodA A B wh) d)) := at_made (Nat.mul_pos oA.lo oB.lo) hP
    rw [stateT, e0]
    unfold prodT
    have hx : ∀ x ∈ l, stateT (prodA A B wh) d x / (B.final.length : Int) = stateT A d x ∧ stateT (prodA A B wh) d x % (B.final.length : Int) = stateT B d x := fun x hx => by
      obtain ⟨i, hi, rfl⟩ := List.mem_iff_getElem.1 hx
      have hn := hk i _ (List.getElem?_eq_getElem hi)
      rw [state_prod hA hB hr h4 d _ hn]
      exact divmod_pair (state_rng oB d _ (by rw [← hr]; exact hn))
    rw [List.map_map, List.map_map, stateT, stateT]
    rw [show l.map ((fun d => d / (B.final.length : Int)) ∘ stateT (prodA A B wh) d) = l.map (stateT A d) from List.map_congr_left fun x q => (hx x q).1]
    rw [show l.map ((fun d => d % (B.final.length : Int)) ∘ stateT (prodA A B wh) d) = l.map (stateT B d) from List.map_congr_left fun x q => (hx x q).2]
theorem acc_prod {A B : Au} {wh : List Bool} (hA : chk A = 0) (hB : chk B = 0) (hr : A.ranks = B.ranks) (h4 : A.final.length * B.final.length ≤ 512) {d : Nat} {t : Tr} (h : rightE d A.ranks t = 0) :
    acceptsB d (prodA A B wh) t = wh.getD ((if acceptsB d A t then 1 else 0) + (if acceptsB d B t then 2 else 0)) false := by
  have oA := chk_ok hA
  have oB := chk_ok hB
  have hn := right_nodes h
  rw [acc_eq (prod_chk hA hB hr h4) h, acc_eq hA h, acc_eq hB (by rw [← hr]; exact h), state_prod hA hB hr h4 d t hn]
  have ra := state_rng oA d t hn
  have rb := state_rng oB d t (by rw [← hr]; exact hn)
  obtain ⟨a, ha⟩ := Int.eq_ofNat_of_zero_le ra.1
  obtain ⟨b, hb⟩ := Int.eq_ofNat_of_zero_le rb.1
  rw [ha, hb, Int.toNat_natCast, Int.toNat_natCast, ← Int.natCast_mul, ← Int.natCast_add, Int.toNat_natCast]
  have ha' : a < A.final.length := by omega
  have hb' : b < B.final.length := by omega
  have hlt : a * B.final.length + b < A.final.length * B.final.length := by
    have : (a + 1) * B.final.length ≤ A.final.length * B.final.length := Nat.mul_le_mul_right _ ha'
    rw [Nat.add_mul, Nat.one_mul] at this; omega
  show ((List.range (A.final.length * B.final.length)).map (prodF A B wh)).getD _ false = _
  rw [List.getD_eq_getElem?_getD, List.getElem?_map, List.getElem?_range hlt, Option.map_some, Option.getD_some]
  unfold prodF
  rw [show (a * B.final.length + b) / B.final.length = a by rw [Nat.mul_comm, Nat.mul_add_div (by omega), Nat.div_eq_of_lt hb', Nat.add_zero], show (a * B.final.length + b) % B.final.length = b by rw [Nat.mul_comm, Nat.mul_add_mod, Nat.mod_eq_of_lt hb']]
theorem pairE_zero {A B : Au} {wh : List Bool} (h : (pairE A B wh).2 = 0) : chk A = 0 ∧ chk B = 0 ∧ A.ranks = B.ranks ∧ A.final.length * B.final.length ≤ 512 := by
  unfold pairE at h
  split at h
  · rename_i h0; exact absurd h h0
  · split at h
    · rename_i h0; exact absurd h h0
    · split at h
      · cases h
      · split at h
        · cases h
        · rename_i h1 h2 h3 h4
          exact ⟨by omega, by omega, Classical.byContradiction h3, by omega⟩
theorem pairE_bad {A B : Au} {wh : List Bool} (h : (pairE A B wh).2 ≠ 0) : ∃ c : Nat, c ≠ 0 ∧ ∀ wh', pairE A B wh' = (A00, c) := by
  unfold pairE at h ⊢
  by_cases h1 : chk A ≠ 0
  · exact ⟨chk A, h1, fun _ => if_pos h1⟩
  · by_cases h2 : chk B ≠ 0
    · exact ⟨chk B, h2, fun _ => by rw [if_neg h1, if_pos h2]⟩
    · by_cases h3 : A.ranks ≠ B.ranks
      · exact ⟨11, by omega, fun _ => by rw [if_neg h1, if_neg h2, if_pos h3]⟩
      · by_cases h4 : 512 < A.final.length * B.final.length
        · exact ⟨8, by omega, fun _ => by rw [if_neg h1, if_neg h2, if_neg h3, if_pos h4]⟩
        · rw [if_neg h1, if_neg h2, if_neg h3, if_neg h4] at h; exact absurd rfl h
theorem acc_bad {A : Au} {d : Nat} {t : Tr} (h : rightE d A.ranks t ≠ 0) : acceptsB d A t = false := by
  unfold acceptsB
  by_cases h1 : chk A = 0
  · rw [runE_right h1 h]; simp [h]
  · rw [runE_chk h1]; simp [h1]
theorem notnot (A : Au) : notA (notA A) = A := by unfold notA; simp [Function.comp_def]
/-- The product that takes both accepts as the automaton itself. -/
theorem acc_both {A : Au} (hA : chk A = 0) (h4 : A.final.length * A.final.length ≤ 512) (d : Nat) (t : Tr) : acceptsB d (prodA A A [false, false, false, true]) t = acceptsB d A t := by
  by_cases h : rightE d A.ranks t = 0
  · rw [acc_prod hA hA rfl h4 h]
    cases acceptsB d A t <;> rfl
  · rw [acc_bad h, acc_bad (A := prodA A A [false, false, false, true]) h]
theorem demorgan (A B : Au) : notA (prodA A B [false, true, true, true]) = prodA A B [true, false, false, false] := by
  unfold notA prodA madeA
  simp only [List.map_map, Au.mk.injEq, and_true, true_and]
  refine List.map_congr_left fun s _ => ?_
  simp only [Function.comp, prodF]
  split <;> split <;> rfl
end Go.Proofs.Ytdakoccbmeojhaa
