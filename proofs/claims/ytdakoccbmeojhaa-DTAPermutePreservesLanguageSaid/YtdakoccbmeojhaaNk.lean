/- Contracts over data: automata restricted to some states. No condition. -/
import Derived.Test.YtdakoccbmeojhaaNj
set_option linter.unusedSimpArgs false
set_option linter.unusedVariables false
set_option maxHeartbeats 1000000
set_option maxRecDepth 8000
namespace Go.Proofs.Ytdakoccbmeojhaa
open Go Go.RowKit Go.PP Go.Dm

theorem some2_d (A : Au) (hn : A.final.length ≤ 512) (old : List Int) (hr : ∀ s ∈ old, 0 ≤ s ∧ s < (A.final.length : Int)) (hl : old.length ≤ 512) (s : Nat) (hs : s < old.length) : DFun Try.prog 78 [intD s, .ptr (auC A) 0, .ptr [intsD old] 0] (boolD (keptF A old s)) := by
  obtain ⟨q, hq⟩ : ∃ q, old[s]? = some q := ⟨old[s], by simp⟩
  have hqr := hr q (List.mem_of_getElem? hq)
  obtain ⟨m, rfl⟩ := Int.eq_ofNat_of_zero_le hqr.1
  have hm : m < A.final.length := by omega
  obtain ⟨b, hb⟩ : ∃ b, A.final[m]? = some b := ⟨A.final[m], by simp⟩
  have hp := part_map (f := fun x => D.flat (.int .i64 x)) hq
  have hp2 := part_map (f := fun x => D.flat (.bool x)) hb
  have hk : keptF A old s = b := by simp [keptF, List.getD, hq, hb]
  rw [hk]
  unfold auC intsD boolsD
  refine DFun.enterA Try.func78 Try.ntmps78 ?_
  refine DW.walk ?_
  exact ⟨.inr rfl, ResOk.one [] rfl rfl trivial (Vw.pers rfl)⟩

theorem some1_d (A : Au) (hok : AuOk A) (old : List Int) (hsh : ShutL A old) (i k : Nat) (ds : List Int) (hk : A.ranks[i]? = some (k : Int)) (hdl : ds.length = k) (hdr : ∀ d ∈ ds, 0 ≤ d ∧ d < (old.length : Int)) :
    DFun Try.prog 77 [intD i, intsD ds, .ptr [intsD old] 0, .ptr [intsD (ixL A.final.length old)] 0, .ptr (auC A) 0] (intD (keptT A old i ds)) := by
  have hfit := hsh.fits hk (by omega) hdr
  have hat := at_d A hok i _ hfit
  have hmem := hsh.shut i k ds hk (by omega) hdr
  have hrg := hsh.rng _ hmem
  have hx := ixL_at (n := A.final.length) hmem hrg.1 hrg.2
  have hkt : keptT A old i ds = hasI old (atI A i (ds.map fun d => old.getD d.toNat 0)) := rfl
  rw [hkt, ← hx]
  have hk2 := hok.alpha.rng _ (List.mem_of_getElem? hk)
  have hn := hok.hi
  have hol := hsh.hi
  generalize hf : ds.map (fun d => old.getD d.toNat 0) = fr at *
  have hfl : fr.length = ds.length := by rw [← hf]; simp
  generalize hy : atI A i fr = y at *
  obtain ⟨m, rfl⟩ := Int.eq_ofNat_of_zero_le hrg.1
  have hm : m < A.final.length := by omega
  have hix : (ixL A.final.length old).length = A.final.length := by simp [ixL]
  generalize ixL A.final.length old = ix at *
  obtain ⟨z, hz⟩ : ∃ z, ix[m]? = some z := ⟨ix[m], by simp⟩
  have hp := part_map (f := fun x => D.flat (.int .i64 x)) hz
  rw [show ix.getD (m : Int).toNat 0 = z by simp [List.getD, hz]]
  unfold auC intsD
  refine DFun.enterA Try.func77 Try.ntmps77 ?_
  refine DW.walk ?_
  refine DW.adopt 8 8 3 1 rfl rfl ?_
  refine DW.loopA (fun j : Nat => ⟨[(0, intD i), (2, .ptr [intsD old] 0), (3, .ptr [intsD ix] 0), (4, .ptr (auC A) 0), (8, .own 8 j), (11, intsD ds), (12, intD ds.length), (13, intD j)], [(8, some (.row 3 1 j ((fr.take j).map fun x => .flat (.int .i64 x))))]⟩) (fun j => j ≤ ds.length) (fun j => ds.length - j) 0 ?_ (by omega)
  intro j hj
  rcases Nat.lt_or_ge j ds.length with hlt | hge
  · obtain ⟨d, hd⟩ : ∃ d, ds[j]? = some d := ⟨ds[j], by simp⟩
    have hdr2 := hdr d (List.mem_of_getElem? hd)
    obtain ⟨e, rfl⟩ := Int.eq_ofNat_of_zero_le hdr2.1
    have he : e < old.length := by omega
    obtain ⟨q, hq⟩ : ∃ q, old[e]? = some q := ⟨old[e], by simp⟩
    have hfj : fr[j]? = some q := by rw [← hf, List.getElem?_map, hd]; simp [List.getD, hq]
    have hp1 := part_map (f := fun x => D.flat (.int .i64 x)) hd
    have hp2 := part_map (f := fun x => D.flat (.int .i64 x)) hq
    have hrow : (fr.take j).map (fun x => D.flat (.int .i64 x)) ++ [.flat (.int .i64 q)] = (fr.take (j + 1)).map (fun x => D.flat (.int .i64 x)) := by rw [List.take_add_one, hfj]; simp
    unfold intsD intD
    refine DW.walk ?_
    refine ⟨j + 1, by omega, by omega, Sub.auto⟩
  · have hje : j = ds.length := by omega
    subst hje
    rw [List.take_of_length_le (by omega)]
    refine DW.sub (s' := ⟨[(0, intD i), (2, .ptr [intsD old] 0), (3, .ptr [intsD ix] 0), (4, .ptr (auC A) 0), (8, .sl false 1 fr.length (fr.map fun x => .flat (.int .i64 x))), (11, intsD ds), (12, intD ds.length), (13, intD ds.length)], []⟩) (by unfold intsD intD; exact Sub.auto) ?_
    unfold intsD intD auD at *
    refine DW.walk ?_
    exact ⟨.inr rfl, ResOk.one [] rfl rfl trivial (Vw.pers rfl)⟩
end Go.Proofs.Ytdakoccbmeojhaa
/- Contracts over data: restricting, trimming, renumbering. No condition. -/
set_option linter.unusedSimpArgs false
set_option linter.unusedVariables false
set_option maxHeartbeats 1000000
set_option maxRecDepth 8000
namespace Go.Proofs.Ytdakoccbmeojhaa
open Go Go.RowKit Go.PP Go.Dm

/-- The inverse as far as the first j. -/
def ixP (n : Nat) (l : List Int) (j : Nat) : List Int := ixL n (l.take j)
theorem ixL_len (n : Nat) (l : List Int) : (ixL n l).length = n := by simp [ixL]
theorem idxOf_take {l : List Int} {x : Int} : ∀ {j : Nat}, x ∈ l.take j → (l.take j).idxOf x = l.idxOf x := by
  induction l with
  | nil => intro j h; simp at h
  | cons a l ih =>
    intro j h
    cases j with
    | zero => simp at h
    | succ j =>
      rw [List.take_succ_cons] at h ⊢
      by_cases e : a = x
      · subst e; simp
      · rw [List.idxOf_cons, List.idxOf_cons, show (a == x) = false by simpa using e, cond_false, cond_false, ih]
        rcases List.mem_cons.1 h with h | h
        · exact absurd h.symm e
        · exact h
theorem ixL_set {n : Nat} {l : List Int} {j m : Nat} (hnd : l.Nodup) (hj : l[j]? = some (m : Int)) (hm : m < n) : spliceD ((ixL n (l.take j)).map fun x => D.flat (.int .i64 x)) m [.flat (.int .i64 (j : Int))] = (ixL n (l.take (j + 1))).map fun x => D.flat (.int .i64 x) := by
  rw [splice_set (by simp [ixL_len, hm])]
  refine List.ext_getElem? fun i => ?_
  rw [List.getElem?_set, List.getElem?_map, List.getElem?_map]
  have hlen := ixL_len n (l.take j)
  have hjl := (List.getElem?_eq_some_iff.1 hj).1
  have htk : l.take (j + 1) = l.take j ++ [(m : Int)] := by rw [List.take_add_one, hj]; rfl
  have hno : (m : Int) ∉ l.take j := fun hm' => by
    have h1 := idxOf_take hm'
    rw [idx_at l j _ hnd hj] at h1
    have h2 := List.idxOf_lt_length_of_mem hm'
    rw [h1] at h2; simp at h2; omega
  by_cases hi : m = i
  · subst hi
    rw [if_pos rfl, if_pos (by simp [hlen, hm])]
    have h3 : (m : Int) ∈ l.take (j + 1) := by rw [htk]; simp
    have h4 := idxOf_take h3
    rw [idx_at l j _ hnd hj] at h4
    simp [ixL, hm, h3, h4]
  · rw [if_neg hi]
    by_cases h5 : i < n
    · have h6 : ((i : Int) ∈ l.take (j + 1)) ↔ ((i : Int) ∈ l.take j) := by
        rw [htk]; simp; intro h; omega
      by_cases h7 : (i : Int) ∈ l.take j
      · simp [ixL, h5, h7, h6.2 h7, idxOf_take h7, idxOf_take (h6.2 h7)]
      · have : ¬ (i : Int) ∈ l.take (j + 1) := fun h => h7 (h6.1 h)
        simp [ixL, h5, h7, this]
    · rw [List.getElem?_eq_none (by rw [ixL_len]; omega), List.getElem?_eq_none (by rw [ixL_len]; omega)]

theorem some_d (A : Au) (hok : AuOk A) (old : List Int) (hsh : ShutL A old) : DFun Try.prog 62 [auD A, intsD old] (auD (keptA A old)) := by
  have hn := hok.hi
  have hol := hsh.hi
  have hpos := hsh.pos
  have hz : List.replicate A.final.length (D.flat (.int .i64 0)) = (ixL A.final.length (old.take 0)).map fun x => D.flat (.int .i64 x) := by
    refine List.ext_getElem? fun i => ?_
    rw [List.getElem?_map]
    by_cases hi : i < A.final.length
    · simp [ixL, hi]
    · rw [List.getElem?_eq_none (by simp; omega), List.getElem?_eq_none (by rw [ixL_len]; omega)]; rfl
  unfold auD
  refine DFun.enterA Try.func62 Try.ntmps62 ?_
  refine DW.walk ?_
  refine DW.loopA (fun j : Nat => ⟨[(2, .ptr (auC A) 0), (3, .ptr [intsD old] 0), (4, .ref 4 0), (5, .ref 5 0), (12, intsD old), (13, intD old.length), (14, intD j)], [(4, some (.box [.flat (.slice none 0 0), .flat (.slice none 0 0), .flat (.slice none 0 0)])), (5, some (.box [.own 11 A.final.length])), (11, some (.row 3 1 A.final.length ((ixL A.final.length (old.take j)).map fun x => .flat (.int .i64 x))))]⟩) (fun j => j ≤ old.length) (fun j => old.length - j) 0 ?_ (by omega)
  intro j hj
  rcases Nat.lt_or_ge j old.length with hlt | hge
  · obtain ⟨q, hq⟩ : ∃ q, old[j]? = some q := ⟨old[j], by simp⟩
    have hqr := hsh.rng q (List.mem_of_getElem? hq)
    obtain ⟨m, rfl⟩ := Int.eq_ofNat_of_zero_le hqr.1
    have hm : m < A.final.length := by omega
    have hp := part_map (f := fun x => D.flat (.int .i64 x)) hq
    have hset := ixL_set (n := A.final.length) hsh.nd hq hm
    have hset' : List.take ((m : Int).toNat * 1) ((ixL A.final.length (old.take j)).map fun x => D.flat (.int .i64 x)) ++ [D.flat (.int .i64 (j : Int))] ++ List.drop ((m : Int).toNat * 1 + 1) ((ixL A.final.length (old.take j)).map fun x => D.flat (.int .i64 x)) = (ixL A.final.length (old.take (j + 1))).map fun x => D.flat (.int .i64 x) := by simpa [spliceD] using hset
    have hlen : ((ixL A.final.length (old.take j)).map fun x => D.flat (.int .i64 x)).length = A.final.length := by simp [ixL_len]
    unfold intsD intD
    refine DW.walk ?_
    exact ⟨j + 1, by omega, by omega, Sub.auto⟩
  · have hje : j = old.length := by omega
    subst hje
    rw [List.take_length]
    have hlx := ixL_len A.final.length old
    refine DW.walkTo 7 ?_
    refine DW.sub (s' := ⟨[(2, .ptr (auC A) 0), (3, .ptr [intsD old] 0), (4, .ref 4 0), (5, .ptr [intsD (ixL A.final.length old)] 0)], [(4, some (.box [.flat (.slice none 0 0), .flat (.slice none 0 0), .flat (.slice none 0 0)]))]⟩) ?_ ?_
    · refine Sub.of (by exact ⟨⟨_, rfl, VsL.pers rfl⟩, trivial⟩) ⟨Vs.pers rfl, Vs.pers rfl, Vs.ref rfl, ?_, trivial⟩
      rw [show intsD (ixL A.final.length old) = .sl false 1 A.final.length ((ixL A.final.length old).map fun x => .flat (.int .i64 x)) by simp [intsD, hlx]]
      exact Vs.shut (pe := [(5, some (.box [.own 11 A.final.length])), (11, some (.row 3 1 A.final.length ((ixL A.final.length old).map fun x => .flat (.int .i64 x))))]) ⟨rfl, rfl, trivial⟩ (Vw.ref (List.mem_cons_self ..) (.cons (Vw.own (List.mem_cons_of_mem _ (List.mem_cons_self ..)) (VwL.pers (persL_map (fun _ => rfl) _))) .nil) (by simp)) (by simp [keys]; exact ⟨rfl, rfl⟩)
    have hal := hok.alpha
    have hm := made_d A.ranks old.length (keptT A old) (keptF A old) 77 78 [] [.ptr [intsD old] 0, .ptr [intsD (ixL A.final.length old)] 0, .ptr (auC A) 0] [] [.ptr (auC A) 0, .ptr [intsD old] 0] hal.hi hal.rng hol hpos ent77 ent78 rfl rfl
      (fun i l k pe hl => ⟨Vw.pers rfl, by subst hl; exact Vw.own (.head _) (VwL.pers (persL_map (fun _ => rfl) _)), Vw.pers rfl, Vw.pers rfl, Vw.pers rfl, trivial⟩) (fun _ => rfl)
      (fun i k p hk hp => some1_d A hok old hsh i k _ hk (digs_len _ _ _) (digs_rng hpos k p)) (fun s hs => some2_d A hn old hsh.rng hol s hs)
    unfold auD at hm
    unfold auC at *
    refine DW.walk ?_
    exact ⟨.inr rfl, ResOk.cellA [] rfl rfl rfl ag35 sz35 trivial (VwL.pers rfl) (Le.refl _)⟩
end Go.Proofs.Ytdakoccbmeojhaa
/- The plain law of what is found. No condition. -/
set_option linter.unusedSimpArgs false
set_option linter.unusedVariables false
set_option maxHeartbeats 400000
namespace Go.Proofs.Ytdakoccbmeojhaa
open Go Go.RowKit Go.PP Go.Dm

theorem alphaE_zero {r : List Int} (h : alphaE r = 0) : (0 : Int) ∈ r := by
  unfold alphaE at h
  split at h
  · cases h
  · split at h
    · cases h
    · split at h
      · assumption
      · cases h
theorem chk_zero {A : Au} (h : chk A = 0) : (0 : Int) ∈ A.ranks := by
  unfold chk at h
  split at h
  · rename_i h0; exact absurd h h0
  · rename_i h0
    exact alphaE_zero (by omega)
theorem foundK_fix {A : Au} (hok : AuOk A) : roundA A (foundA A) = foundA A := by
  have hex : ∃ k, k ≤ A.final.length ∧ (foundK A (k + 1)).length ≤ (foundK A k).length := by
    refine Classical.byContradiction fun hn => ?_
    have hg : ∀ j < A.final.length + 1, (foundK A j).length < (foundK A (j + 1)).length := fun j hj => by
      refine Classical.byContradiction fun h => hn ⟨j, by omega, by omega⟩
    have h1 := foundK_grow _ hg
    have h2 := (foundK_ok hok (A.final.length + 1)).len
    omega
  obtain ⟨k, hk, hle⟩ := hex
  have h1 := foundK_stop hle (A.final.length + 1 - k)
  have h2 := foundK_stop hle (A.final.length + 2 - k)
  rw [show k + (A.final.length + 1 - k) = A.final.length + 1 by omega] at h1
  rw [show k + (A.final.length + 2 - k) = A.final.length + 1 + 1 by omega] at h2
  have h3 : roundA A (foundA A) = foundK A (A.final.length + 1 + 1) := rfl
  rw [h3, h2, ← h1]; rfl
theorem mem_enumL {of : List Int} : ∀ {m : Nat} {l x : List Int}, x ∈ enumL of m l ↔ ∃ ds, ds.length = m ∧ (∀ d ∈ ds, d ∈ of) ∧ x = l ++ ds
  | 0, l, x => by
    simp only [enumL, List.mem_singleton]
    constructor
    · rintro rfl; exact ⟨[], rfl, by simp, by simp⟩
    · rintro ⟨ds, h1, _, rfl⟩
      rw [List.eq_nil_of_length_eq_zero h1]; simp
  | m + 1, l, x => by
    simp only [enumL, List.mem_flatMap, mem_enumL]
    constructor
    · rintro ⟨s, hs, ds, h1, h2, rfl⟩
      refine ⟨s :: ds, by simp [h1], fun d hd => ?_, by simp⟩
      rcases List.mem_cons.1 hd with rfl | hd
      · exact hs
      · exact h2 d hd
    · rintro ⟨ds, h1, h2, rfl⟩
      cases ds with
      | nil => simp at h1
      | cons s ds => exact ⟨s, h2 s (by simp), ds, by simpa using h1, fun d hd => h2 d (by simp [hd]), by simp⟩
theorem mem_addAll {A : Au} {s : Int} : ∀ {ls : List (List Int)} {out x : List Int}, x ∈ ls → atI A s x ∈ addAll A s ls out
  | l :: ls, out, x, h => by
    rcases List.mem_cons.1 h with rfl | h
    · refine (addAll_pre A s ls (stepAdd A s out x)).subset ?_
      unfold stepAdd; split
      · assumption
      · simp
    · exact mem_addAll (ls := ls) h
theorem roundP_pre_le (A : Au) (of out : List Int) {i j : Nat} (h : i ≤ j) : roundP A of out i <+: roundP A of out j := by
  induction h with
  | refl => exact List.prefix_refl _
  | step _ ih => exact ih.trans (by rw [roundP_succ]; exact addAll_pre ..)
/-- What is found is closed. -/
theorem found_shut {A : Au} (hok : AuOk A) {i k : Nat} {ds : List Int} (hk : A.ranks[i]? = some (k : Int)) (hl : ds.length = k) (hd : ∀ d ∈ ds, d ∈ foundA A) : atI A i ds ∈ foundA A := by
  have hi := (List.getElem?_eq_some_iff.1 hk).1
  have h1 : atI A i ds ∈ roundP A (foundA A) (foundA A) (i + 1) := by
    rw [roundP_succ]
    exact mem_addAll (mem_enumL.2 ⟨ds, by simp [List.getD, hk, hl], hd, by simp⟩)
  have h2 := (roundP_pre_le A (foundA A) (foundA A) (show i + 1 ≤ A.ranks.length by omega)).subset h1
  have h3 : roundP A (foundA A) (foundA A) A.ranks.length = foundA A := foundK_fix hok
  rw [h3] at h2
  exact h2
theorem found_shutL {A : Au} (hok : AuOk A) (h0 : (0 : Int) ∈ A.ranks) : ShutL A (foundA A) := by
  have ho := foundK_ok hok (A.final.length + 1)
  have hn := hok.hi
  refine ⟨?_, by have := ho.len; unfold foundA; omega, ho.nd, ho.rng, fun i k ds hk hl hd => ?_⟩
  · obtain ⟨i, hi⟩ := List.getElem?_of_mem h0
    have := found_shut hok (k := 0) (ds := []) hi rfl (by simp)
    exact List.length_pos_iff.2 (fun e => by rw [e] at this; simp at this)
  · obtain ⟨k, rfl⟩ := Int.eq_ofNat_of_zero_le (hok.alpha.rng _ (List.mem_of_getElem? hk)).1
    refine found_shut hok hk (by rw [List.length_map]; omega) (fun d hd' => ?_)
    obtain ⟨e, he, rfl⟩ := List.mem_map.1 hd'
    exact getD_mem (hd e he)

/-- Trim. -/
noncomputable def trimE (A : Au) : Au × Nat := open Classical in if chk A ≠ 0 then (A00, chk A) else (keptA A (foundA A), 0)
theorem trimE_bad {A : Au} (h : chk A ≠ 0) : trimE A = (A00, chk A) := if_pos h
theorem trimE_ok {A : Au} (h : chk A = 0) : trimE A = (keptA A (foundA A), 0) := if_neg (by simp [h])
noncomputable def reachE (A : Au) : List Bool × Nat := open Classical in if chk A ≠ 0 then ([], chk A) else (isB A.final.length (foundA A), 0)
theorem reachE_bad {A : Au} (h : chk A ≠ 0) : reachE A = ([], chk A) := if_pos h
theorem reachE_ok {A : Au} (h : chk A = 0) : reachE A = (isB A.final.length (foundA A), 0) := if_neg (by simp [h])
end Go.Proofs.Ytdakoccbmeojhaa
/- Contracts over data: Trim, Reachable, Permute, Run. No condition. -/
set_option linter.unusedSimpArgs false
set_option linter.unusedVariables false
set_option maxHeartbeats 1000000
set_option maxRecDepth 8000
namespace Go.Proofs.Ytdakoccbmeojhaa
open Go Go.RowKit Go.PP Go.Dm

theorem trim_d (A : Au) : DFun Try.prog 37 [auD A] (.tup [auD (trimE A).1, intD ((trimE A).2 : Nat)]) := by
  have hc := check_d A
  by_cases hk : chk A = 0
  · rw [hk] at hc
    rw [trimE_ok hk]
    have hok := chk_ok hk
    have hf := found_d A hok
    have hs := some_d A hok (foundA A) (found_shutL hok (chk_zero hk))
    unfold auD at *
    refine DFun.enterA Try.func37 Try.ntmps37 ?_
    refine DW.walk ?_
    exact ⟨.inr rfl, ResOk.cellTmpA [] rfl rfl rfl ag35 sz35 rfl trivial (VwL.pers rfl) (Le.refl _) (Vw.pers rfl)⟩
  · have hne : ((chk A : Nat) : Int) ≠ 0 := by omega
    rw [trimE_bad hk]
    unfold auD at *
    refine DFun.enterA Try.func37 Try.ntmps37 ?_
    refine DW.walk ?_
    exact ⟨.inr rfl, ResOk.cellTmpA [] rfl rfl rfl ag35 sz35 rfl trivial (.cons (Vw.p rfl Le.empty) (.cons (Vw.p rfl Le.empty) (.cons (Vw.p rfl Le.empty) .nil))) (Le.refl _) (Vw.pers rfl)⟩

theorem reach_d (A : Au) : DFun Try.prog 36 [auD A] (.tup [boolsD (reachE A).1, intD ((reachE A).2 : Nat)]) := by
  have hc := check_d A
  by_cases hk : chk A = 0
  · rw [hk] at hc
    rw [reachE_ok hk]
    have hok := chk_ok hk
    have hn := hok.hi
    have hf := found_d A hok
    have ho : OutOk A (foundA A) := foundK_ok hok _
    have hlen := ho.len
    have hz : List.replicate A.final.length (D.flat (.bool false)) = (isB A.final.length ((foundA A).take 0)).map boolD := by
      refine List.ext_getElem? fun i => ?_
      rw [List.getElem?_map]
      by_cases hi : i < A.final.length
      · rw [isB_get hi]; simp [hi, boolD]
      · rw [List.getElem?_eq_none (by simp; omega), List.getElem?_eq_none (by rw [isB_len]; omega)]; rfl
    generalize foundA A = fo at *
    unfold auD at *
    refine DFun.enterA Try.func36 Try.ntmps36 ?_
    refine DW.walk ?_
    refine DW.loopA (fun j : Nat => ⟨[(3, .flat (.int .i64 0)), (5, .own 16 A.final.length), (18, intsD fo), (19, intD fo.length), (20, intD j)], [(16, some (.row 4 1 A.final.length ((isB A.final.length (fo.take j)).map boolD)))]⟩) (fun j => j ≤ fo.length) (fun j => fo.length - j) 0 ?_ (by omega)
    intro j hj
    rcases Nat.lt_or_ge j fo.length with hlt | hge
    · obtain ⟨q, hq⟩ : ∃ q, fo[j]? = some q := ⟨fo[j], by simp⟩
      have hqr := ho.rng q (List.mem_of_getElem? hq)
      obtain ⟨m, rfl⟩ := Int.eq_ofNat_of_zero_le hqr.1
      have hm : m < A.final.length := by omega
      have hp := part_map (f := fun x => D.flat (.int .i64 x)) hq
      have hset := isB_set hm (fo.take j)
      rw [show fo.take j ++ [(m : Int)] = fo.take (j + 1) by rw [List.take_add_one, hq]; rfl] at hset
      have hset' : List.take ((m : Int).toNat * 1) ((isB A.final.length (fo.take j)).map boolD) ++ [D.flat (.bool true)] ++ List.drop ((m : Int).toNat * 1 + 1) ((isB A.final.length (fo.take j)).map boolD) = (isB A.final.length (fo.take (j + 1))).map boolD := by simpa [spliceD] using hset
      have hl2 : ((isB A.final.length (fo.take j)).map boolD).length = A.final.length := by simp [isB_len]
      unfold intsD intD
      refine DW.walk ?_
      exact ⟨j + 1, by omega, by omega, Sub.auto⟩
    · have hje : j = fo.length := by omega
      subst hje
      rw [List.take_length]
      refine DW.walk ?_
      have hb : boolsD (isB A.final.length fo) = .sl false 1 A.final.length ((isB A.final.length fo).map boolD) := by simp [boolsD, isB_len, boolD]
      rw [hb]
      exact ⟨.inr rfl, ResOk.two [(16, some (.row 4 1 A.final.length ((isB A.final.length fo).map boolD)))] rfl rfl rfl ⟨rfl, trivial⟩ (Vw.own (List.mem_cons_self ..) (VwL.pers (persL_map (fun _ => rfl) _))) (Vw.pers rfl)⟩
  · have hne : ((chk A : Nat) : Int) ≠ 0 := by omega
    rw [reachE_bad hk]
    unfold auD at *
    refine DFun.enterA Try.func36 Try.ntmps36 ?_
    refine DW.walk ?_
    exact ⟨.inr rfl, ResOk.two [] rfl rfl rfl trivial (Vw.p rfl Le.empty) (Vw.pers rfl)⟩

theorem ixL_all {n : Nat} {l : List Int} (h : PermOk n l) : ixL n l = backL l := by
  unfold ixL backL
  rw [h.len]
  refine List.map_congr_left fun i hi => ?_
  rw [if_pos (pigeon_all n l h i (List.mem_range.1 hi))]
theorem ixL_set' {n : Nat} {l : List Int} {j m : Nat} (hno : (m : Int) ∉ l.take j) (hj : l[j]? = some (m : Int)) (hm : m < n) : spliceD ((ixL n (l.take j)).map fun x => D.flat (.int .i64 x)) m [.flat (.int .i64 (j : Int))] = (ixL n (l.take (j + 1))).map fun x => D.flat (.int .i64 x) := by
  rw [splice_set (by simp [ixL_len, hm])]
  refine List.ext_getElem? fun i => ?_
  rw [List.getElem?_set, List.getElem?_map, List.getElem?_map]
  have hlen := ixL_len n (l.take j)
  have hjl := (List.getElem?_eq_some_iff.1 hj).1
  have htk : l.take (j + 1) = l.take j ++ [(m : Int)] := by rw [List.take_add_one, hj]; rfl
  by_cases hi : m = i
  · subst hi
    rw [if_pos rfl, if_pos (by simp [hlen, hm])]
    have h3 : (m : Int) ∈ l.take (j + 1) := by rw [htk]; simp
    have h4 : (l.take (j + 1)).idxOf (m : Int) = j := by
      rw [htk, List.idxOf_append, if_neg hno]; simp; omega
    simp [ixL, hm, h3, h4]
  · rw [if_neg hi]
    by_cases h5 : i < n
    · have h6 : ((i : Int) ∈ l.take (j + 1)) ↔ ((i : Int) ∈ l.take j) := by
        rw [htk]; simp; intro h; omega
      by_cases h7 : (i : Int) ∈ l.take j
      · have h8 : (l.take (j + 1)).idxOf (i : Int) = (l.take j).idxOf (i : Int) := by rw [htk, List.idxOf_append, if_pos h7]
        simp [ixL, h5, h7, h6.2 h7, h8]
      · have : ¬ (i : Int) ∈ l.take (j + 1) := fun h => h7 (h6.1 h)
        simp [ixL, h5, h7, this]
    · rw [List.getElem?_eq_none (by rw [ixL_len]; omega), List.getElem?_eq_none (by rw [ixL_len]; omega)]

theorem rep_ix (n : Nat) (l : List Int) : List.replicate n (D.flat (.int .i64 0)) = (ixL n (l.take 0)).map fun x => D.flat (.int .i64 x) := by
  refine List.ext_getElem? fun i => ?_
  rw [List.getElem?_map]
  by_cases hi : i < n
  · simp [ixL, hi]
  · rw [List.getElem?_eq_none (by simp; omega), List.getElem?_eq_none (by rw [ixL_len]; omega)]; rfl
theorem rep_is (n : Nat) (l : List Int) : List.replicate n (D.flat (.bool false)) = (isB n (l.take 0)).map boolD := by
  refine List.ext_getElem? fun i => ?_
  rw [List.getElem?_map]
  by_cases hi : i < n
  · rw [isB_get hi]; simp [hi, boolD]
  · rw [List.getElem?_eq_none (by simp; omega), List.getElem?_eq_none (by rw [isB_len]; omega)]; rfl

theorem permute_d (A : Au) (l : List Int) : DFun Try.prog 28 [auD A, intsD l] (.tup [auD (permuteE A l).1, intD ((permuteE A l).2 : Nat)]) := by
  have hc := check_d A
  by_cases hk : chk A = 0
  · rw [hk] at hc
    rw [permuteE_ok hk]
    have hok := chk_ok hk
    have hn := hok.hi
    by_cases hl : l.length = A.final.length
    · have hz := rep_ix A.final.length l
      have hz2 := rep_is A.final.length l
      rw [← hl] at hz hz2
      have hst := fun s => state_d A s
      unfold auD intsD at *
      refine DFun.enterA Try.func28 Try.ntmps28 ?_
      refine DW.walk ?_
      refine DW.loopA (fun j : Nat => ⟨[(2, .ptr (auC A) 0), (4, .ref 4 0), (5, .flat (.int .i64 0)), (7, .own 26 l.length), (8, .own 29 l.length), (30, intsD l), (31, intD l.length), (32, intD j)], [(4, some (.box [.flat (.slice none 0 0), .flat (.slice none 0 0), .flat (.slice none 0 0)])), (26, some (.row 3 1 l.length ((ixL l.length (l.take j)).map fun x => .flat (.int .i64 x)))), (29, some (.row 4 1 l.length ((isB l.length (l.take j)).map boolD)))]⟩)
        (fun j => j ≤ l.length ∧ (l.take j).Nodup ∧ ∀ s ∈ l.take j, 0 ≤ s ∧ s < (A.final.length : Int)) (fun j => l.length - j) 0 ?_ ⟨by omega, by simp, by simp⟩
      rintro j ⟨hj, hnd, hrg⟩
      rcases Nat.lt_or_ge j l.length with hlt | hge
      · obtain ⟨q, hq⟩ : ∃ q, l[j]? = some q := ⟨l[j], by simp⟩
        have hp := part_map (f := fun x => D.flat (.int .i64 x)) hq
        have hsq := hst q
        have htk : l.take (j + 1) = l.take j ++ [q] := by rw [List.take_add_one, hq]; rfl
        by_cases hqr : 0 ≤ q ∧ q < (A.final.length : Int)
        · rw [decide_eq_true hqr] at hsq
          obtain ⟨m, rfl⟩ := Int.eq_ofNat_of_zero_le hqr.1
          have hm : m < l.length := by omega
          have hp2 := part_map (f := boolD) (isB_get hm (l.take j))
          by_cases hin : (m : Int) ∈ l.take j
          · rw [decide_eq_true hin] at hp2
            have hno : ¬ PermOk A.final.length l := fun h => by
              have h4 : l = l.take (j + 1) ++ l.drop (j + 1) := (List.take_append_drop _ l).symm
              have h5 := h.nd
              rw [h4, htk] at h5
              have h6 := (List.nodup_append.1 (List.nodup_append.1 h5).1).2.2
              exact h6 _ hin _ (by simp) rfl
            rw [permE_no hno]
            unfold intsD intD auC boolD
            refine DW.walk ?_
            exact ⟨.inr rfl, ResOk.cellTmpA [] rfl rfl rfl ag35 sz35 rfl trivial (.cons (Vw.p rfl Le.empty) (.cons (Vw.p rfl Le.empty) (.cons (Vw.p rfl Le.empty) .nil))) (Le.refl _) (Vw.pers rfl)⟩
          · rw [decide_eq_false hin] at hp2
            have hset := ixL_set' (n := l.length) hin hq hm
            have hset' : List.take ((m : Int).toNat * 1) ((ixL l.length (l.take j)).map fun x => D.flat (.int .i64 x)) ++ [D.flat (.int .i64 (j : Int))] ++ List.drop ((m : Int).toNat * 1 + 1) ((ixL l.length (l.take j)).map fun x => D.flat (.int .i64 x)) = (ixL l.length (l.take (j + 1))).map fun x => D.flat (.int .i64 x) := by simpa [spliceD] using hset
            have hset2 := isB_set hm (l.take j)
            rw [← htk] at hset2
            have hset2' : List.take ((m : Int).toNat * 1) ((isB l.length (l.take j)).map boolD) ++ [D.flat (.bool true)] ++ List.drop ((m : Int).toNat * 1 + 1) ((isB l.length (l.take j)).map boolD) = (isB l.length (l.take (j + 1))).map boolD := by simpa [spliceD] using hset2
            have hl1 : ((ixL l.length (l.take j)).map fun x => D.flat (.int .i64 x)).length = l.length := by simp [ixL_len]
            have hl2 : ((isB l.length (l.take j)).map boolD).length = l.length := by simp [isB_len]
            unfold intsD intD auC boolD at *
            refine DW.walk ?_
            refine ⟨j + 1, ⟨by omega, ?_, ?_⟩, by omega, Sub.auto⟩
            · rw [htk]; exact List.nodup_append.2 ⟨hnd, by simp, fun a ha b hb => by simp at hb; subst hb; intro e; subst e; exact hin ha⟩
            · rw [htk]; intro s hs
              rcases List.mem_append.1 hs with hs | hs
              · exact hrg s hs
              · simp at hs; subst hs; exact hqr
        · rw [decide_eq_false hqr] at hsq
          have hno : ¬ PermOk A.final.length l := fun h => hqr (h.rng q (List.mem_of_getElem? hq))
          rw [permE_no hno]
          unfold intsD intD auC
          refine DW.walk ?_
          exact ⟨.inr rfl, ResOk.cellTmpA [] rfl rfl rfl ag35 sz35 rfl trivial (.cons (Vw.p rfl Le.empty) (.cons (Vw.p rfl Le.empty) (.cons (Vw.p rfl Le.empty) .nil))) (Le.refl _) (Vw.pers rfl)⟩
      · have hje : j = l.length := by omega
        subst hje
        rw [List.take_length] at *
        have hp : PermOk A.final.length l := ⟨hl, hnd, hrg⟩
        rw [permE_ok hp]
        have hix : ixL l.length l = backL l := by rw [hl]; exact ixL_all hp
        rw [hix]
        have hsm := some_d A hok (backL l) (backL_shut hok hp)
        have hbl := backL_len l
        unfold auD intsD at hsm
        rw [hbl] at hsm
        refine DW.walkTo 15 ?_
        refine DW.sub (s' := ⟨[(2, .ptr (auC A) 0), (4, .ref 4 0), (7, .sl false 1 l.length ((backL l).map fun x => .flat (.int .i64 x)))], [(4, some (.box [.flat (.slice none 0 0), .flat (.slice none 0 0), .flat (.slice none 0 0)]))]⟩) (by unfold intsD intD; exact Sub.auto) ?_
        unfold auC
        refine DW.walk ?_
        exact ⟨.inr rfl, ResOk.cellTmpA [] rfl rfl rfl ag35 sz35 rfl trivial (VwL.pers rfl) (Le.refl _) (Vw.pers rfl)⟩
    · have hno : ¬ PermOk A.final.length l := fun h => hl h.len
      rw [permE_no hno]
      have hne : ((l.length : Nat) : Int) ≠ (A.final.length : Nat) := by omega
      unfold auD intsD at *
      refine DFun.enterA Try.func28 Try.ntmps28 ?_
      refine DW.walk ?_
      exact ⟨.inr rfl, ResOk.cellTmpA [] rfl rfl rfl ag35 sz35 rfl trivial (.cons (Vw.p rfl Le.empty) (.cons (Vw.p rfl Le.empty) (.cons (Vw.p rfl Le.empty) .nil))) (Le.refl _) (Vw.pers rfl)⟩
  · have hne : ((chk A : Nat) : Int) ≠ 0 := by omega
    rw [permuteE_bad hk]
    unfold auD at *
    refine DFun.enterA Try.func28 Try.ntmps28 ?_
    refine DW.walk ?_
    exact ⟨.inr rfl, ResOk.cellTmpA [] rfl rfl rfl ag35 sz35 rfl trivial (.cons (Vw.p rfl Le.empty) (.cons (Vw.p rfl Le.empty) (.cons (Vw.p rfl Le.empty) .nil))) (Le.refl _) (Vw.pers rfl)⟩
end Go.Proofs.Ytdakoccbmeojhaa
