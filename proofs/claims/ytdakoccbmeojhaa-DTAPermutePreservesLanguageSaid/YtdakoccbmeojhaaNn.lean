/- Contracts over data: runs. No condition. -/
import Derived.Test.YtdakoccbmeojhaaNm
import Derived.Test.YtdakoccbmeojhaaQa
set_option linter.unusedSimpArgs false
set_option linter.unusedVariables false
set_option maxHeartbeats 1000000
set_option maxRecDepth 8000
namespace Go.Proofs.Ytdakoccbmeojhaa
open Go Go.RowKit Go.PP Go.Dm
theorem run_d (A : Au) (t : Tr) (hs : TSm t) : DFun Try.prog 18 [auD A, treeD t] (.tup [intD (runE (depT t) A t).1, intD ((runE (depT t) A t).2 : Nat)]) := fun M w vals hM hv => by
  obtain ⟨v, v2, rfl, h1, h2⟩ := repl2 hv
  obtain ⟨s, u, rfl, hin⟩ := tree_in hs h2
  obtain ⟨v1, v2, v3, rfl, h3⟩ := au_in0 h1
  refine (run18_any (depT t) A s u v1 v2 v3 t w hin h3).mono fun e w' ⟨q1, q2⟩ => ?_
  exact ⟨_, q1, by simp only [Rep]; exact ⟨_, rfl, by simp only [RepL, intD, Rep]; exact ⟨_, _, rfl, rfl, _, _, rfl, rfl, rfl⟩⟩, q2⟩
end Go.Proofs.Ytdakoccbmeojhaa
/- The plain laws of restricted automata. No condition. -/
set_option linter.unusedSimpArgs false
set_option linter.unusedVariables false
set_option maxHeartbeats 400000
namespace Go.Proofs.Ytdakoccbmeojhaa
open Go Go.RowKit Go.PP Go.Dm

/-- The state of A that stands behind a number. -/
def phi (l : List Int) (d : Int) : Int := l.getD d.toNat 0
theorem phi_mem {l : List Int} {d : Int} (h : 0 ≤ d ∧ d < (l.length : Int)) : phi l d ∈ l := getD_mem h
theorem phi_idx {l : List Int} {x : Int} (h : x ∈ l) : phi l (hasI l x) = x := by
  rw [hasI_mem h]
  have h1 := List.idxOf_lt_length_of_mem h
  simp [phi, List.getD, h1]
theorem idx_phi {l : List Int} (hn : l.Nodup) {d : Int} (h : 0 ≤ d ∧ d < (l.length : Int)) : hasI l (phi l d) = d := by
  rw [hasI_mem (phi_mem h)]
  obtain ⟨m, rfl⟩ := Int.eq_ofNat_of_zero_le h.1
  have hm : m < l.length := by omega
  rw [idx_at l m _ hn (by simp [phi, List.getD, hm])]
theorem phi_inj {l : List Int} (hn : l.Nodup) {c d : Int} (hc : 0 ≤ c ∧ c < (l.length : Int)) (hd : 0 ≤ d ∧ d < (l.length : Int)) (h : phi l c = phi l d) : c = d := by
  rw [← idx_phi hn hc, ← idx_phi hn hd, h]
theorem hasI_rng {l : List Int} {x : Int} (h : x ∈ l) : 0 ≤ hasI l x ∧ hasI l x < (l.length : Int) := by
  rw [hasI_mem h]
  have := List.idxOf_lt_length_of_mem h
  omega

section
variable {A : Au} {l : List Int}
theorem kept_len : (keptA A l).final.length = l.length := by simp [keptA, madeA]
theorem kept_ranks : (keptA A l).ranks = A.ranks := rfl
theorem kept_mem (hsh : ShutL A l) {i k : Nat} {ds : List Int} (hk : A.ranks[i]? = some (k : Int)) (hl : ds.length = k) (hd : ∀ d ∈ ds, 0 ≤ d ∧ d < (l.length : Int)) : atI A i (ds.map (phi l)) ∈ l := hsh.shut i k ds hk (by rw [hl]) hd
theorem kept_ok (hk : chk A = 0) (hsh : ShutL A l) : AuOk (keptA A l) :=
  made_ok (chk_alphaE hk) hsh.pos hsh.hi fun i k p hi hp => hasI_rng (kept_mem hsh hi (digs_len _ _ _) (digs_rng hsh.pos k p))
theorem kept_chk (hk : chk A = 0) (hsh : ShutL A l) : chk (keptA A l) = 0 := chk_of (show alphaE A.ranks = 0 from chk_alphaE hk) (kept_ok hk hsh)
theorem fits_rank {B : Au} (hok : AuOk B) {s : Int} {ds : List Int} (hf : Fits B s ds) : ∃ i : Nat, s = (i : Int) ∧ B.ranks[i]? = some (ds.length : Int) := by
  obtain ⟨i, rfl⟩ := Int.eq_ofNat_of_zero_le hf.s0
  have hi : i < B.ranks.length := by have := hf.s1; omega
  refine ⟨i, rfl, ?_⟩
  have := hf.len
  simp [List.getD, hi] at this
  simp [hi, this]
theorem kept_at (hk : chk A = 0) (hsh : ShutL A l) {s : Int} {ds : List Int} (hf : Fits (keptA A l) s ds) : atI (keptA A l) s ds = hasI l (atI A s (ds.map (phi l))) ∧ atI A s (ds.map (phi l)) ∈ l := by
  obtain ⟨i, rfl, hi⟩ := fits_rank (kept_ok hk hsh) hf
  exact ⟨at_made hsh.pos hf, kept_mem hsh hi rfl (fun d hd => by have := hf.rng d hd; rw [kept_len] at this; exact this)⟩
theorem kept_phi (hk : chk A = 0) (hsh : ShutL A l) {s : Int} {ds : List Int} (hf : Fits (keptA A l) s ds) : phi l (atI (keptA A l) s ds) = atI A s (ds.map (phi l)) := by
  obtain ⟨h1, h2⟩ := kept_at hk hsh hf
  rw [h1, phi_idx h2]
/-- The state of a tree. -/
theorem state_kept (hk : chk A = 0) (hsh : ShutL A l) : ∀ (d : Nat) (t : Tr), depT t ≤ d → nodesE d A.ranks t = 0 → stateT A d t = phi l (stateT (keptA A l) d t)
  | 0, .node s ts, hd, h => by simp [depT] at hd
  | d + 1, .node s ts, hd, h => by
    have hf : Fits (keptA A l) s (ts.map (stateT (keptA A l) d)) := state_fits (A := keptA A l) (kept_ok hk hsh) h
    have h1 := kept_phi hk hsh hf
    rw [stateT, stateT, h1]
    congr 1
    rw [List.map_map]
    obtain ⟨_, _, _, h4⟩ := nodes_good h
    refine List.map_congr_left fun y hy => ?_
    obtain ⟨i, hi⟩ := List.getElem?_of_mem hy
    have h6 := depL_at hi
    simp only [depT] at hd
    exact state_kept hk hsh d y (by omega) (h4 i y hi)
theorem acc_kept (hk : chk A = 0) (hsh : ShutL A l) (t : Tr) : acceptsB (depT t) (keptA A l) t = acceptsB (depT t) A t := by
  by_cases h : rightE (depT t) A.ranks t = 0
  · rw [acc_eq (kept_chk hk hsh) h, acc_eq hk h]
    have h1 := state_kept hk hsh (depT t) t (Nat.le_refl _) (right_nodes h)
    have h2 := state_rng (kept_ok hk hsh) (depT t) t (right_nodes h)
    rw [kept_len] at h2
    rw [h1]
    generalize stateT (keptA A l) (depT t) t = q at *
    obtain ⟨m, rfl⟩ := Int.eq_ofNat_of_zero_le h2.1
    have hm : m < l.length := by omega
    simp [keptA, madeA, keptF, phi, List.getD, hm]
  · rw [acc_bad h, acc_bad (A := keptA A l) h]

/-! what is found in a restricted automaton -/
theorem enumL_map (l : List Int) (of : List Int) : ∀ (m : Nat) (x : List Int), enumL (of.map (phi l)) m (x.map (phi l)) = (enumL of m x).map (List.map (phi l))
  | 0, x => rfl
  | m + 1, x => by
    simp only [enumL, List.flatMap_map, List.map_flatMap]
    congr 1; funext s
    rw [← enumL_map l of m (x ++ [s])]; simp
theorem step_map (hk : chk A = 0) (hsh : ShutL A l) {s : Int} {ds out : List Int} (hf : Fits (keptA A l) s ds) (ho : OutOk (keptA A l) out) : (stepAdd (keptA A l) s out ds).map (phi l) = stepAdd A s (out.map (phi l)) (ds.map (phi l)) := by
  have h1 := kept_phi hk hsh hf
  have h2 := atE_bd (kept_ok hk hsh) hf
  unfold stepAdd
  rw [← h1]
  have h3 : phi l (atI (keptA A l) s ds) ∈ out.map (phi l) ↔ atI (keptA A l) s ds ∈ out := by
    constructor
    · intro h
      obtain ⟨y, hy, e⟩ := List.mem_map.1 h
      have hr := ho.rng y hy
      rw [kept_len] at hr h2
      rw [← phi_inj hsh.nd hr h2 e]; exact hy
    · exact fun h => List.mem_map_of_mem h
  by_cases h : atI (keptA A l) s ds ∈ out
  · rw [if_pos h, if_pos (h3.2 h)]
  · rw [if_neg h, if_neg (fun e => h (h3.1 e))]; simp
theorem addAll_map (hk : chk A = 0) (hsh : ShutL A l) {s : Int} : ∀ {ls : List (List Int)} {out : List Int}, (∀ x ∈ ls, Fits (keptA A l) s x) → OutOk (keptA A l) out → (addAll (keptA A l) s ls out).map (phi l) = addAll A s (ls.map (List.map (phi l))) (out.map (phi l))
  | [], out, _, _ => rfl
  | x :: ls, out, hf, ho => by
    show (addAll (keptA A l) s ls (stepAdd (keptA A l) s out x)).map (phi l) = addAll A s (ls.map (List.map (phi l))) (stepAdd A s (out.map (phi l)) (x.map (phi l)))
    rw [addAll_map hk hsh (fun y hy => hf y (by simp [hy])) (ho.step (kept_ok hk hsh) (hf x (by simp))), step_map hk hsh (hf x (by simp)) ho]
theorem roundP_map (hk : chk A = 0) (hsh : ShutL A l) {of out : List Int} (hof : OutOk (keptA A l) of) (ho : OutOk (keptA A l) out) : ∀ j, j ≤ A.ranks.length → (roundP (keptA A l) of out j).map (phi l) = roundP A (of.map (phi l)) (out.map (phi l)) j
  | 0, _ => rfl
  | j + 1, hj => by
    have hok := kept_ok hk hsh
    obtain ⟨r1, r2, r3⟩ := rank_at hok (j := j) (show j < (keptA A l).ranks.length by rw [kept_ranks]; omega)
    rw [roundP_succ, roundP_succ, ← roundP_map hk hsh hof ho j (by omega)]
    unfold symS
    rw [addAll_map hk hsh (enumL_fits (by omega) (by rw [kept_ranks]; omega) hof.rng _ [] (by rw [Int.toNat_natCast]; simp only [List.length_nil, Nat.zero_add]; exact r3.symm) (by simp)) (roundP_ok hok hof.rng ho j (by rw [kept_ranks]; omega))]
    rw [show (enumL of ((keptA A l).ranks.getD j 0).toNat []).map (List.map (phi l)) = enumL (of.map (phi l)) (A.ranks.getD j 0).toNat [] from (enumL_map l of _ []).symm]
theorem foundK_map (hk : chk A = 0) (hsh : ShutL A l) : ∀ k, (foundK (keptA A l) k).map (phi l) = foundK A k
  | 0 => rfl
  | k + 1 => by
    have ho := foundK_ok (kept_ok hk hsh) k
    show (roundP (keptA A l) _ _ (keptA A l).ranks.length).map (phi l) = roundP A _ _ A.ranks.length
    rw [kept_ranks, roundP_map hk hsh ho ho _ (Nat.le_refl _), foundK_map hk hsh k]
theorem foundK_all {B : Au} (hok : AuOk B) {m : Nat} (hm : B.final.length + 1 ≤ m) : foundK B m = foundA B := by
  have h1 : (foundK B (B.final.length + 1 + 1)).length ≤ (foundK B (B.final.length + 1)).length := by
    have := foundK_fix hok
    show (roundA B (foundA B)).length ≤ (foundA B).length
    rw [this]; exact Nat.le_refl _
  have h2 := foundK_stop h1 (m - (B.final.length + 1))
  rw [show B.final.length + 1 + (m - (B.final.length + 1)) = m by omega] at h2
  exact h2
theorem found_map (hk : chk A = 0) (hsh : ShutL A l) : (foundA (keptA A l)).map (phi l) = foundA A := by
  rw [← foundK_all (kept_ok hk hsh) (m := A.final.length + (keptA A l).final.length + 1) (by omega), ← foundK_all (chk_ok hk) (m := A.final.length + (keptA A l).final.length + 1) (by omega), foundK_map hk hsh]

/-! restricted twice -/
theorem phi_phi {l m : List Int} (hm : ∀ x ∈ m, 0 ≤ x ∧ x < (l.length : Int)) {d : Int} (hd : 0 ≤ d ∧ d < (m.length : Int)) : phi (m.map (phi l)) d = phi l (phi m d) := by
  obtain ⟨i, rfl⟩ := Int.eq_ofNat_of_zero_le hd.1
  have hi : i < m.length := by omega
  simp [phi, List.getD, hi]
theorem idxOf_map {l : List Int} (hn : l.Nodup) {x : Int} (hx : 0 ≤ x ∧ x < (l.length : Int)) : ∀ {m : List Int}, (∀ y ∈ m, 0 ≤ y ∧ y < (l.length : Int)) → x ∈ m → (m.map (phi l)).idxOf (phi l x) = m.idxOf x
  | [], _, h => by simp at h
  | a :: m, hr, h => by
    rw [List.map_cons, List.idxOf_cons, List.idxOf_cons]
    by_cases e : a = x
    · subst e; simp
    · have e2 : ¬ phi l a = phi l x := fun h2 => e (phi_inj hn (hr a (by simp)) hx h2)
      rw [show (a == x) = false by simpa using e, show (phi l a == phi l x) = false by simpa using e2, cond_false, cond_false, idxOf_map hn hx (fun y hy => hr y (by simp [hy])) ((List.mem_cons.1 h).resolve_left (fun h => e h.symm))]
theorem kept_kept (hk : chk A = 0) (hsh : ShutL A l) {m : List Int} (hm : ShutL (keptA A l) m) : keptA (keptA A l) m = keptA A (m.map (phi l)) := by
  have hmr : ∀ x ∈ m, 0 ≤ x ∧ x < (l.length : Int) := fun x hx => by have := hm.rng x hx; rw [kept_len] at this; exact this
  have hok := kept_ok hk hsh
  have hT : ∀ (i k p : Nat), A.ranks[i]? = some (k : Int) → keptT (keptA A l) m i (digs m.length k p) = keptT A (m.map (phi l)) i (digs m.length k p) := fun i k p hi => by
    have hdr := digs_rng hm.pos k p
    have hfit := hm.fits (i := i) (k := (k : Int)) (ds := digs m.length k p) (by rw [kept_ranks]; exact hi) (by rw [digs_len]) hdr
    have hmem := hm.shut i k (digs m.length k p) (by rw [kept_ranks]; exact hi) (by rw [digs_len]) hdr
    have h1 := kept_phi hk hsh hfit
    have h2 : (digs m.length k p).map (fun d => (m.map (phi l)).getD d.toNat 0) = ((digs m.length k p).map fun d => m.getD d.toNat 0).map (phi l) := by
      rw [List.map_map]
      exact List.map_congr_left fun d hd => phi_phi hmr (hdr d hd)
    unfold keptT
    rw [h2, ← h1, hasI_mem hmem, hasI_mem (List.mem_map_of_mem hmem), idxOf_map hsh.nd (hmr _ hmem) hmr hmem]
  have hF : ∀ s, s < m.length → keptF (keptA A l) m s = keptF A (m.map (phi l)) s := fun s hs => by
    have hq := hmr m[s] (by simp)
    obtain ⟨q, hq2⟩ := Int.eq_ofNat_of_zero_le hq.1
    have hql : q < l.length := by omega
    simp [keptF, keptA, madeA, List.getD, hs, hq2, hql, phi]
  unfold keptA
  rw [List.length_map]
  show madeA A.ranks _ _ _ = madeA A.ranks _ _ _
  unfold madeA
  congr 1
  · exact List.map_congr_left fun s hs => hF s (List.mem_range.1 hs)
  · unfold tablesOf tableOf
    refine List.map_congr_left fun i hi => ?_
    have hi' : i < A.ranks.length := List.mem_range.1 hi
    obtain ⟨r1, r2, r3⟩ := rank_at (chk_ok hk) hi'
    refine List.map_congr_left fun p _ => ?_
    exact hT i _ p r1
theorem trim_kept (hk : chk A = 0) (hsh : ShutL A l) : keptA (keptA A l) (foundA (keptA A l)) = keptA A (foundA A) := by
  have hok := kept_ok hk hsh
  have h0 := chk_zero (kept_chk hk hsh)
  rw [kept_kept hk hsh (found_shutL hok h0), found_map hk hsh]
end
end Go.Proofs.Ytdakoccbmeojhaa
