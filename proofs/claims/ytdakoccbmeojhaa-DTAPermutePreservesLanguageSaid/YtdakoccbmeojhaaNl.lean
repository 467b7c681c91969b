/- Contracts over data: the reference's rounds and what it finds; runs. No condition. -/
import Derived.Test.YtdakoccbmeojhaaNk
set_option linter.unusedSimpArgs false
set_option linter.unusedVariables false
set_option maxHeartbeats 1000000
set_option maxRecDepth 8000
namespace Go.Proofs.Ytdakoccbmeojhaa
open Go Go.RowKit Go.PP Go.Dm

def stepR (A : Au) (s : Int) (found come l : List Int) : List Int := if atI A s l ∈ found ∨ atI A s l ∈ come then come else come ++ [atI A s l]
def addR (A : Au) (s : Int) (found : List Int) (ls : List (List Int)) (come : List Int) : List Int := ls.foldl (stepR A s found) come
theorem stepR_add (A : Au) (s : Int) (found come l : List Int) : found ++ stepR A s found come l = stepAdd A s (found ++ come) l := by
  unfold stepR stepAdd
  by_cases h : atI A s l ∈ found ∨ atI A s l ∈ come
  · rw [if_pos h, if_pos (List.mem_append.2 h)]
  · rw [if_neg h, if_neg (fun e => h (List.mem_append.1 e)), List.append_assoc]
theorem addR_add (A : Au) (s : Int) (found : List Int) : ∀ (ls : List (List Int)) (come : List Int), found ++ addR A s found ls come = addAll A s ls (found ++ come)
  | [], come => rfl
  | l :: ls, come => by
    show found ++ addR A s found ls (stepR A s found come l) = addAll A s ls (stepAdd A s (found ++ come) l)
    rw [addR_add, stepR_add]
theorem addR_app (A : Au) (s : Int) (found : List Int) (l r : List (List Int)) (come : List Int) : addR A s found (l ++ r) come = addR A s found r (addR A s found l come) := by simp [addR]

theorem enumL_len (of : List Int) : ∀ (m : Nat) (l : List Int), (enumL of m l).length = of.length ^ m
  | 0, l => rfl
  | m + 1, l => by
    have : ∀ r : List Int, (r.flatMap fun s => enumL of m (l ++ [s])).length = r.length * of.length ^ m := fun r => by
      induction r with
      | nil => simp
      | cons x r ih => rw [List.flatMap_cons, List.length_append, ih, enumL_len of m, List.length_cons, Nat.add_mul]; omega
    show (of.flatMap fun s => enumL of m (l ++ [s])).length = _
    rw [this, Nat.pow_succ, Nat.mul_comm]
theorem round_d (A : Au) (hok : AuOk A) (s k : Nat) (hk : A.ranks[s]? = some (k : Int)) (found come : List Int) (ho : OutOk A (found ++ come)) : DFun Try.prog 71 [auD A, intD s, intsD found, intsD come] (intsD (addR A s found (enumL found k []) come)) := by
  have hs := (List.getElem?_eq_some_iff.1 hk).1
  have hk2 := hok.alpha.rng _ (List.mem_of_getElem? hk)
  have hal := hok.alpha.hi
  have hn := hok.hi
  have hfr : ∀ x ∈ found, 0 ≤ x ∧ x < (A.final.length : Int) := fun x hx => ho.rng x (by simp [hx])
  have hlen := ho.len
  have hfl : found.length ≤ 512 := by simp at hlen; omega
  have hfit := enumL_fits (A := A) (s := s) (by omega) (by omega) hfr k [] (by simp [List.getD, hk]) (by simp)
  have hlls := enumL_len found k []
  have hpk := part_map (f := fun x => D.flat (.int .i64 x)) hk
  have hlls2 : (enumL found k []).length ≤ 262144 := by
    rw [hlls]
    calc found.length ^ k ≤ 512 ^ k := Nat.pow_le_pow_left hfl k
      _ ≤ 512 ^ 2 := Nat.pow_le_pow_right (by omega) (by omega)
      _ = 262144 := rfl
  unfold auD intsD
  refine DFun.enterA Try.func71 Try.ntmps71 ?_
  refine DW.walkTo 2 ?_
  refine DW.cut2 ⟨[(1, intD s), (2, intsD found), (3, intsD come), (4, .ptr (auC A) 0), (9, rowsD (enumL found k []))], []⟩ ?_ ?_
  · unfold intsD intD auC
    obtain rfl | rfl | rfl : k = 0 ∨ k = 1 ∨ k = 2 := by omega
    · refine DW.walk ?_
      exact Nm.mk (Sub.of trivial ⟨Vs.pers rfl, Vs.pers rfl, Vs.pers rfl, Vs.shutRef' rfl rfl rfl rfl rfl rfl, Vs.le (Vs.pers rfl) (Le.full.trans (Le.slc ⟨Le.nil _ _, trivial⟩)), trivial⟩)
    · refine DW.walk ?_
      refine DW.adopt 9 9 22 1 rfl rfl ?_
      refine DW.loopA (fun j : Nat => ⟨[(1, intD s), (2, intsD found), (3, intsD come), (4, .ptr (auC A) 0), (9, .own 9 j), (10, intD j)], [(9, some (.row 22 1 j ((found.take j).map fun x => .sl true 1 1 [intD x])))]⟩) (fun j => j ≤ found.length) (fun j => found.length - j) 0 ?_ (by omega)
      intro j hj
      rcases Nat.lt_or_ge j found.length with hlt | hge
      · obtain ⟨x, hx⟩ : ∃ x, found[j]? = some x := ⟨found[j], by simp⟩
        have hp := part_map (f := fun x => D.flat (.int .i64 x)) hx
        have hrow : (found.take j).map (fun x => D.sl true 1 1 [intD x]) ++ [.sl true 1 1 [intD x]] = (found.take (j + 1)).map (fun x => D.sl true 1 1 [intD x]) := by rw [List.take_add_one, hx]; simp
        unfold intsD intD at *
        refine DW.walk ?_
        exact ⟨j + 1, by omega, by omega, Sub.auto⟩
      · have hje : j = found.length := by omega
        subst hje
        rw [List.take_length]
        unfold intsD intD
        refine DW.walk ?_
        refine Nm.mk (Sub.of trivial ⟨Vs.pers rfl, Vs.pers rfl, Vs.pers rfl, Vs.pers rfl, ?_, trivial⟩)
        have he : enumL found 1 [] = found.map fun x => [x] := by
          show found.flatMap (fun s => [[s]]) = _
          clear hk hfit hlls hlls2 hj hge hlen ho hfr hfl
          induction found with
          | nil => rfl
          | cons a r ih => simp [ih]
        rw [he]
        unfold rowsD
        rw [List.map_map, List.length_map]
        exact Vs.le (Vs.shutOwn' rfl rfl rfl rfl rfl (persL_map (fun _ => rfl) _)) (Le.slc (leL_map (fun x => Le.full) found))
    · refine DW.walk ?_
      refine DW.adopt 9 9 22 1 rfl rfl ?_
      have hpr : ∀ i x, i ≤ found.length → x ≤ found.length → i * found.length + x ≤ 262656 := fun i x hi hx => by
        have : i * found.length ≤ 512 * 512 := Nat.mul_le_mul (by omega) hfl
        omega
      refine DW.loopA (fun i : Nat => ⟨[(1, intD s), (2, intsD found), (3, intsD come), (4, .ptr (auC A) 0), (9, .own 9 (i * found.length)), (11, intD i)], [(9, some (.row 22 1 (i * found.length) ((found.take i).flatMap fun x => found.map fun y => .sl true 1 2 [intD x, intD y])))]⟩) (fun j => j ≤ found.length) (fun j => found.length - j) 0 ?_ (by omega)
      intro i hi
      rcases Nat.lt_or_ge i found.length with hlt | hge
      · obtain ⟨x, hx⟩ : ∃ x, found[i]? = some x := ⟨found[i], by simp⟩
        have hp := part_map (f := fun x => D.flat (.int .i64 x)) hx
        have hrow : ((found.take i).flatMap fun x => found.map fun y => D.sl true 1 2 [intD x, intD y]) ++ found.map (fun y => D.sl true 1 2 [intD x, intD y]) = (found.take (i + 1)).flatMap fun x => found.map fun y => .sl true 1 2 [intD x, intD y] := by rw [List.take_add_one, hx]; simp
        have hmul : (i + 1) * found.length = i * found.length + found.length := Nat.succ_mul ..
        generalize hpi : ((found.take i).flatMap fun x => found.map fun y => D.sl true 1 2 [intD x, intD y]) = pi at *
        have hpp : persL pi = true := by rw [← hpi]; exact persL_flat (fun _ => persL_map (fun _ => rfl) _) _
        generalize hpi2 : ((found.take (i + 1)).flatMap fun x => found.map fun y => D.sl true 1 2 [intD x, intD y]) = pi2 at *
        have hpp2 : persL pi2 = true := by rw [← hrow]; exact persL_append hpp (persL_map (fun _ => rfl) _)
        have hb := hpr i found.length (by omega) (by omega)
        generalize i * found.length = il at *
        unfold intsD intD at *
        refine DW.walk ?_
        refine DW.loopA (fun j : Nat => ⟨[(1, intD s), (2, intsD found), (3, intsD come), (4, .ptr (auC A) 0), (9, .own 9 (il + j)), (11, intD i), (12, intD j)], [(9, some (.row 22 1 (il + j) (pi ++ (found.take j).map fun y => .sl true 1 2 [intD x, intD y])))]⟩) (fun j => j ≤ found.length) (fun j => found.length - j) 0 ?_ (by omega)
        intro j hj
        rcases Nat.lt_or_ge j found.length with hlt2 | hge2
        · obtain ⟨y, hy⟩ : ∃ y, found[j]? = some y := ⟨found[j], by simp⟩
          have hp2 := part_map (f := fun x => D.flat (.int .i64 x)) hy
          have hrow2 : pi ++ (found.take j).map (fun y => D.sl true 1 2 [intD x, intD y]) ++ [.sl true 1 2 [intD x, intD y]] = pi ++ (found.take (j + 1)).map (fun y => D.sl true 1 2 [intD x, intD y]) := by rw [List.take_add_one, hy]; simp
          have hpp3 : persL (pi ++ (found.take (j + 1)).map (fun y => D.sl true 1 2 [intD x, intD y])) = true := persL_append hpp (persL_map (fun _ => rfl) _)
          unfold intsD intD at *
          refine DW.walk ?_
          exact ⟨j + 1, by omega, by omega, Sub.auto⟩
        · have hje : j = found.length := by omega
          subst hje
          rw [List.take_length]
          unfold intsD intD at *
          refine DW.walk ?_
          refine ⟨i + 1, by omega, by omega, ?_⟩
          rw [hmul]
          simp only [hpi2]
          exact Sub.auto
      · have hje : i = found.length := by omega
        subst hje
        rw [List.take_length]
        unfold intsD intD
        refine DW.walk ?_
        refine Nm.mk (Sub.of trivial ⟨Vs.pers rfl, Vs.pers rfl, Vs.pers rfl, Vs.pers rfl, ?_, trivial⟩)
        have he : enumL found 2 [] = found.flatMap fun x => found.map fun y => [x, y] := by
          show found.flatMap (fun s => found.flatMap fun y => [[] ++ [s] ++ [y]]) = _
          congr 1; funext s
          show found.flatMap (fun y => [[s, y]]) = _
          clear hk hfit hlls hlls2 hi hge hlen ho hfr hfl hpr
          induction found with
          | nil => rfl
          | cons a r ih => simp [ih]
        have hel : (enumL found 2 []).length = found.length * found.length := by rw [hlls, Nat.pow_two]
        unfold rowsD
        rw [hel, he, List.map_flatMap]
        refine Vs.le (Vs.shutOwn' rfl rfl rfl rfl rfl (persL_flat (fun _ => persL_map (fun _ => rfl) _) _)) (Le.slc (leL_flat (fun x => ?_) found))
        rw [List.map_map]
        exact leL_map (fun y => Le.full) found
  · generalize hls : enumL found k [] = ls at *
    refine DW.walk ?_
    refine DW.loopA (fun j : Nat => ⟨[(1, intD s), (2, intsD found), (3, intsD (addR A s found (ls.take j) come)), (4, .ptr (auC A) 0), (9, rowsD ls), (13, intD j)], []⟩) (fun j => j ≤ ls.length) (fun j => ls.length - j) 0 ?_ (by omega) (by exact Sub.auto)
    intro j hj
    have hokj : OutOk A (found ++ addR A s found (ls.take j) come) := by rw [addR_add]; exact OutOk.all hok (fun x hx => hfit x (List.mem_of_mem_take hx)) ho
    have hlj := hokj.len
    rw [List.length_append] at hlj
    rcases Nat.lt_or_ge j ls.length with hlt | hge
    · obtain ⟨l, hl⟩ : ∃ l, ls[j]? = some l := ⟨ls[j], by simp⟩
      have hp := part_map (f := intsD) hl
      have hst := rstep_d A hok s l (hfit l (List.mem_of_getElem? hl))
      have hh := has_d found (atI A s l) (by omega)
      have hh2 := has_d (addR A s found (ls.take j) come) (atI A s l) (by omega)
      have hnx : addR A s found (ls.take (j + 1)) come = stepR A s found (addR A s found (ls.take j) come) l := by rw [List.take_add_one, hl, Option.toList_some, addR_app]; rfl
      generalize hcm : addR A s found (ls.take j) come = cm at *
      have h90 := OwnAt.of 90
      by_cases h1 : atI A s l ∈ found
      · have hi := hasI_nonneg.2 h1
        have h2 : stepR A s found cm l = cm := if_pos (.inl h1)
        rw [h2] at hnx
        unfold rowsD intD auD at *
        refine DW.walk ?_
        refine ⟨j + 1, by omega, by omega, ?_⟩
        rw [hnx]; exact Sub.auto
      · have hi := hasI_no h1
        by_cases h3 : atI A s l ∈ cm
        · have hi2 := hasI_nonneg.2 h3
          have h2 : stepR A s found cm l = cm := if_pos (.inr h3)
          rw [h2] at hnx
          unfold rowsD intD auD at *
          refine DW.walk ?_
          refine ⟨j + 1, by omega, by omega, ?_⟩
          rw [hnx]; exact Sub.auto
        · have hi2 := hasI_no h3
          have h2 : stepR A s found cm l = cm ++ [atI A s l] := if_neg (fun e => e.elim h1 h3)
          rw [h2] at hnx
          unfold rowsD intD auD intsD at *
          refine DW.walk ?_
          refine ⟨j + 1, by omega, by omega, ?_⟩
          rw [hnx]; exact Sub.auto
    · have hje : j = ls.length := by omega
      subst hje
      rw [List.take_length]
      unfold rowsD
      refine DW.walk ?_
      exact ⟨.inr rfl, ResOk.one [] rfl rfl trivial (Vw.pers rfl)⟩
end Go.Proofs.Ytdakoccbmeojhaa
/- Contracts over data: the reference's found states. No condition. -/
set_option linter.unusedSimpArgs false
set_option linter.unusedVariables false
set_option maxHeartbeats 1000000
set_option maxRecDepth 8000
namespace Go.Proofs.Ytdakoccbmeojhaa
open Go Go.RowKit Go.PP Go.Dm

def comeP (A : Au) (out : List Int) (j : Nat) : List Int := (List.range j).foldl (fun come (s : Nat) => addR A s out (enumL out (A.ranks.getD s 0).toNat []) come) []
theorem comeP_round (A : Au) (out : List Int) : ∀ j, out ++ comeP A out j = roundP A out out j
  | 0 => by simp [comeP, roundP]
  | j + 1 => by
    rw [roundP_succ, ← comeP_round A out j]
    unfold comeP symS
    rw [List.range_succ, List.foldl_append, List.foldl_cons, List.foldl_nil, addR_add]
theorem comeP_succ (A : Au) (out : List Int) (j : Nat) : comeP A out (j + 1) = addR A j out (enumL out (A.ranks.getD j 0).toNat []) (comeP A out j) := by simp [comeP, List.range_succ]

theorem rfound_d (A : Au) (hok : AuOk A) : DFun Try.prog 38 [auD A] (intsD (foundA A)) := by
  have hn := hok.hi
  have hrl := hok.alpha.hi
  unfold auD
  refine DFun.enterA Try.func38 Try.ntmps38 ?_
  refine DW.walk ?_
  refine DW.loopA (fun k : Nat => ⟨[(1, .ptr (auC A) 0), (3, intsD (foundK A k))], []⟩) (fun k => ∀ j < k, (foundK A j).length < (foundK A (j + 1)).length) (fun k => A.final.length - (foundK A k).length) 0 ?_ (by omega)
  intro k hk
  have hok1 := foundK_ok hok k
  have hlen := hok1.len
  have hok2 := foundK_ok hok (k + 1)
  have hlen2 := hok2.len
  have hpre : (foundK A k).length ≤ (foundK A (k + 1)).length := (roundA_pre A (foundK A k)).length_le
  have hnext : foundK A k ++ comeP A (foundK A k) A.ranks.length = foundK A (k + 1) := comeP_round ..
  have hend := fun h => foundK_end hok (k := k) hk h
  generalize hf : foundK A k = out at *
  unfold intsD auC
  refine DW.walk ?_
  refine DW.loopA (fun j : Nat => ⟨[(1, .ptr (auC A) 0), (3, intsD out), (4, intD out.length), (5, intsD (comeP A out j)), (6, intD j)], []⟩) (fun j => j ≤ A.ranks.length) (fun j => A.ranks.length - j) 0 ?_ (by omega)
  intro j hj
  have hokj := roundP_ok hok hok1.rng hok1 j hj
  rw [← comeP_round] at hokj
  have hlenj := hokj.len
  rw [List.length_append] at hlenj
  rcases Nat.lt_or_ge j A.ranks.length with hlt | hge
  · obtain ⟨r1, r2, r3⟩ := rank_at hok hlt
    have hr := round_d A hok j _ r1 out (comeP A out j) hokj
    rw [← comeP_succ] at hr
    unfold auD intsD intD auC at *
    refine DW.walk ?_
    exact ⟨j + 1, by omega, by omega, Sub.auto⟩
  · have hje : j = A.ranks.length := by omega
    subst hje
    have hl3 := congrArg List.length hnext
    rw [List.length_append] at hl3
    have h21 := OwnAt.of 21
    generalize hcm : comeP A out A.ranks.length = cm at *
    by_cases hz : cm.length = 0
    · have he := hend (by omega)
      rw [← he, ← hnext]
      unfold intsD intD auC at *
      refine DW.walk ?_
      exact ⟨.inr rfl, ResOk.one [(21, some (.row 3 1 (0 + out.length + cm.length) ([] ++ out.map (fun x => .flat (.int .i64 x)) ++ cm.map fun x => .flat (.int .i64 x))))] rfl rfl ⟨rfl, trivial⟩ (by
        rw [show (D.sl false 1 (out ++ cm).length ((out ++ cm).map fun x => D.flat (.int .i64 x))) = .sl false 1 (0 + out.length + cm.length) ([] ++ out.map (fun x => .flat (.int .i64 x)) ++ cm.map fun x => .flat (.int .i64 x)) by simp]
        exact Vw.own (List.mem_cons_self ..) (VwL.pers (persL_append (persL_map (fun _ => rfl) _) (persL_map (fun _ => rfl) _))))⟩
    · unfold intsD intD auC at *
      refine DW.walk ?_
      refine ⟨k + 1, fun i hi => ?_, by omega, ?_⟩
      · by_cases h : i < k
        · exact hk i h
        · have : i = k := by omega
          subst this; rw [hf]; omega
      · rw [← hnext]; exact Sub.auto
end Go.Proofs.Ytdakoccbmeojhaa
/- Contracts over data: the reference's restricted automaton. No condition. -/
set_option linter.unusedSimpArgs false
set_option linter.unusedVariables false
set_option maxHeartbeats 1000000
set_option maxRecDepth 8000
namespace Go.Proofs.Ytdakoccbmeojhaa
open Go Go.RowKit Go.PP Go.Dm

theorem digs1 {n p : Nat} (h : p < n) : digs n 1 p = [(p : Int)] := by
  simp [digs, Nat.mod_eq_of_lt h]
theorem digs2 {n p : Nat} (h : p < n * n) : digs n 2 p = [((p / n : Nat) : Int), ((p % n : Nat) : Int)] := by
  show [((p / n % n : Nat) : Int), ((p % n : Nat) : Int)] = _
  rw [Nat.mod_eq_of_lt (Nat.div_lt_of_lt_mul h)]

theorem rkept_d (A : Au) (hok : AuOk A) (l : List Int) (hsh : ShutL A l) : DFun Try.prog 39 [auD A, intsD l] (auD (keptA A l)) := by
  have hn := hok.hi
  have hrl := hok.alpha.hi
  have hl := hsh.hi
  have hpos := hsh.pos
  have htl : (tablesOf l.length (keptT A l) A.ranks).length = A.ranks.length := by simp [tablesOf]
  unfold auD
  refine DFun.enterA Try.func39 Try.ntmps39 ?_
  refine DW.walk ?_
  refine DW.adoptBox 5 1 105 4 1 rfl rfl rfl ?_
  refine DW.adoptBox 5 2 106 22 1 rfl rfl rfl ?_
  refine DW.loopA (fun i : Nat => ⟨[(1, intsD l), (2, .ptr (auC A) 0), (4, .ref 4 0), (5, .ref 5 0), (6, intD i)], [(4, some (.box [.flat (.slice none 0 0), .flat (.slice none 0 0), .flat (.slice none 0 0)])), (5, some (.box [intsD A.ranks, .own 105 i, .own 106 0])), (105, some (.row 4 1 i ((List.range i).map fun s => boolD (keptF A l s)))), (106, some (.row 22 1 0 []))]⟩)
    (fun i => i ≤ l.length) (fun i => l.length - i) 0 ?_ (by omega)
  intro i hi
  rcases Nat.lt_or_ge i l.length with hlt | hge
  · obtain ⟨q, hq⟩ : ∃ q, l[i]? = some q := ⟨l[i], by simp⟩
    have hqr := hsh.rng q (List.mem_of_getElem? hq)
    obtain ⟨m, rfl⟩ := Int.eq_ofNat_of_zero_le hqr.1
    have hm : m < A.final.length := by omega
    obtain ⟨b, hb⟩ : ∃ b, A.final[m]? = some b := ⟨A.final[m], by simp⟩
    have hp := part_map (f := fun x => D.flat (.int .i64 x)) hq
    have hp2 := part_map (f := fun x => D.flat (.bool x)) hb
    have hkf : keptF A l i = b := by simp [keptF, List.getD, hq, hb]
    have hrow : (List.range i).map (fun s => boolD (keptF A l s)) ++ [.flat (.bool b)] = (List.range (i + 1)).map fun s => boolD (keptF A l s) := by rw [List.range_succ, List.map_append]; simp [hkf, boolD]
    have hone : oneL ((List.range i).map fun s => boolD (keptF A l s)) = true := oneL_map (fun _ => rfl) _
    unfold intsD intD auC boolsD
    refine DW.walk ?_
    exact ⟨i + 1, by omega, by omega, Sub.auto⟩
  have hje : i = l.length := by omega
  subst hje
  unfold intsD intD auC
  refine DW.walk ?_
  refine DW.loopA (fun s : Nat => ⟨[(1, intsD l), (2, .ptr (auC A) 0), (4, .ref 4 0), (5, .ref 5 0), (7, intD s)], [(4, some (.box [.flat (.slice none 0 0), .flat (.slice none 0 0), .flat (.slice none 0 0)])), (5, some (.box [intsD A.ranks, .sl false 1 l.length ((List.range l.length).map fun s => boolD (keptF A l s)), .own 106 s])), (106, some (.row 22 1 s (((tablesOf l.length (keptT A l) A.ranks).take s).map intsD)))]⟩)
    (fun s => s ≤ A.ranks.length) (fun s => A.ranks.length - s) 0 ?_ (by omega)
  intro s hs
  rcases Nat.lt_or_ge s A.ranks.length with hlt | hge2
  · obtain ⟨r1, r2, r3⟩ := rank_at hok hlt
    have hk2 := hok.alpha.rng _ (List.mem_of_getElem? r1)
    have hpk := part_map (f := fun x => D.flat (.int .i64 x)) r1
    have htb : ((tablesOf l.length (keptT A l) A.ranks).take s).length = s := by rw [List.length_take]; omega
    have hnext : (tablesOf l.length (keptT A l) A.ranks).take (s + 1) = (tablesOf l.length (keptT A l) A.ranks).take s ++ [tableOf l.length (keptT A l) s (A.ranks.getD s 0)] := by
      rw [List.take_add_one]; simp [tablesOf, hlt]
    have hpl := places_d ⟨A.ranks, (List.range l.length).map (keptF A l), (tablesOf l.length (keptT A l) A.ranks).take s⟩ s _ r1 hk2 (by simp; omega)
    have hw := wideN_le (k := (A.ranks.getD s 0)) (n := l.length) (by omega) hl
    rw [r3] at hnext hw
    simp only [List.length_map, List.length_range] at hpl
    generalize htt : (tablesOf l.length (keptT A l) A.ranks).take s = tb at *
    generalize hkk : (A.ranks.getD s 0).toNat = k at *
    have hpl2 : DFun Try.prog 51 [.agg [intsD A.ranks, .sl false 1 l.length ((List.range l.length).map fun s => boolD (keptF A l s)), .sl false 1 s (tb.map intsD)], intD s] (intD (wideN k l.length : Nat)) := by
      have : auD ⟨A.ranks, (List.range l.length).map (keptF A l), tb⟩ = .agg [intsD A.ranks, .sl false 1 l.length ((List.range l.length).map fun s => boolD (keptF A l s)), .sl false 1 s (tb.map intsD)] := by
        simp [auD, boolsD, rowsD, htb, boolD, Function.comp_def]
      rw [← this]; exact hpl
    clear hpl
    have hdl : ∀ p, (digs l.length k p).length = k := digs_len _ _
    unfold intsD intD auC at *
    refine DW.walk ?_
    refine DW.adopt 8 8 3 1 rfl rfl ?_
    refine DW.loopA (fun p : Nat => ⟨[(1, intsD l), (2, .ptr (auC A) 0), (4, .ref 4 0), (5, .ref 5 0), (7, intD s), (8, .own 8 p), (9, intD p)], [(4, some (.box [.flat (.slice none 0 0), .flat (.slice none 0 0), .flat (.slice none 0 0)])), (5, some (.box [intsD A.ranks, .sl false 1 l.length ((List.range l.length).map fun s => boolD (keptF A l s)), .own 106 s])), (106, some (.row 22 1 s (tb.map intsD))), (8, some (.row 3 1 p ((List.range p).map fun p => intD (keptT A l s (digs l.length k p)))))]⟩)
      (fun p => p ≤ wideN k l.length) (fun p => wideN k l.length - p) 0 ?_ (by omega)
    intro p hp
    unfold intsD intD auC at *
    refine DW.walk ?_
    refine DC.t (T.callV («as» := [_, _]) (ds' := [_, _]) [(106, some (.row 22 1 s (tb.map intsD)))] EntC.h hpl2 rfl (by exact ⟨Vw.agg ⟨Vw.pers rfl, Vw.pers rfl, Vw.own (List.mem_cons_self ..) (VwL.pers (persL_map (fun _ => rfl) _)), trivial⟩, Vw.pers rfl, trivial⟩) rfl) ⟨rfl, rfl, trivial⟩ ⟨rfl, trivial⟩ ?_
    rcases Nat.lt_or_ge p (wideN k l.length) with hlt2 | hge3
    · have hkn : (k : Int) = 0 ∨ (k : Int) = 1 ∨ (k : Int) = 2 := by omega
      have hdr := digs_rng hpos k p
      have hst := rstep_d A hok s ((digs l.length k p).map fun d => l.getD d.toNat 0) (hsh.fits r1 (by rw [hdl]) hdr)
      have hmem := hsh.shut s k (digs l.length k p) r1 (by rw [hdl]) hdr
      have hh := has_d l (atI A s ((digs l.length k p).map fun d => l.getD d.toNat 0)) (by omega)
      have hT : hasI l (atI A s ((digs l.length k p).map fun d => l.getD d.toNat 0)) = keptT A l s (digs l.length k p) := rfl
      rw [hT] at hh
      have hrow : (List.range p).map (fun p => intD (keptT A l s (digs l.length k p))) ++ [intD (keptT A l s (digs l.length k p))] = (List.range (p + 1)).map fun p => intD (keptT A l s (digs l.length k p)) := by rw [List.range_succ, List.map_append]; rfl
      have hone : oneL ((List.range p).map fun p => intD (keptT A l s (digs l.length k p))) = true := oneL_map (fun _ => rfl) _
      refine DC.walkTo 14 ?_
      refine DW.cut2 ⟨[(1, intsD l), (2, .ptr (auC A) 0), (4, .ref 4 0), (5, .ref 5 0), (7, intD s), (8, .own 8 p), (9, intD p), (10, intsD ((digs l.length k p).map fun d => l.getD d.toNat 0))], [(4, some (.box [.flat (.slice none 0 0), .flat (.slice none 0 0), .flat (.slice none 0 0)])), (5, some (.box [intsD A.ranks, .sl false 1 l.length ((List.range l.length).map fun s => boolD (keptF A l s)), .own 106 s])), (106, some (.row 22 1 s (tb.map intsD))), (8, some (.row 3 1 p ((List.range p).map fun p => intD (keptT A l s (digs l.length k p)))))]⟩ ?_ ?_
      · have hpb : p ≤ 262144 := by omega
        clear hst hh hmem hT hnext hw
        unfold wideN at hlt2
        rw [Int.toNat_natCast] at hlt2
        obtain rfl | rfl | rfl : k = 0 ∨ k = 1 ∨ k = 2 := by omega
        · refine DW.walk ?_
          exact Nm.mk Sub.auto
        · rw [Nat.pow_one] at hlt2
          rw [digs1 hlt2] at *
          obtain ⟨x, hx⟩ : ∃ x, l[p]? = some x := ⟨l[p], by simp⟩
          have hp2 := part_map (f := fun x => D.flat (.int .i64 x)) hx
          rw [show [(p : Int)].map (fun d => l.getD d.toNat 0) = [x] by simp [List.getD, hx]]
          refine DW.walk ?_
          exact Nm.mk (Sub.of (by exact ⟨⟨_, rfl, VsL.pers rfl⟩, ⟨_, rfl, VsL.cons' (Vs.pers rfl) (VsL.cons' (Vs.pers rfl) (VsL.cons' (Vs.own' rfl rfl rfl rfl) VsL.nil'))⟩, ⟨_, rfl, VsL.pers (persL_map (fun _ => rfl) _)⟩, ⟨_, rfl, VsL.pers (persL_map (fun _ => rfl) _)⟩, trivial⟩) ⟨Vs.pers rfl, Vs.pers rfl, Vs.ref rfl, Vs.ref rfl, Vs.pers rfl, Vs.own rfl rfl, Vs.pers rfl, Vs.le (Vs.pers rfl) Le.full, trivial⟩)
        · rw [Nat.pow_two] at hlt2
          rw [digs2 hlt2] at *
          have hd1 : p / l.length < l.length := Nat.div_lt_of_lt_mul hlt2
          have hd2 : p % l.length < l.length := Nat.mod_lt _ hpos
          obtain ⟨x, hx⟩ : ∃ x, l[p / l.length]? = some x := ⟨l[p / l.length], by simp⟩
          obtain ⟨y, hy⟩ : ∃ y, l[p % l.length]? = some y := ⟨l[p % l.length], by simp⟩
          have hp2 := part_map (f := fun x => D.flat (.int .i64 x)) hx
          have hp3 := part_map (f := fun x => D.flat (.int .i64 x)) hy
          rw [Int.natCast_ediv] at hp2
          rw [Int.natCast_emod] at hp3
          have hq1 : (0 : Int) ≤ (p : Int) / (l.length : Int) ∧ (p : Int) / (l.length : Int) < (l.length : Int) := by rw [← Int.natCast_ediv]; exact ⟨Int.natCast_nonneg _, Int.ofNat_lt.2 hd1⟩
          have hq2 : (0 : Int) ≤ (p : Int) % (l.length : Int) ∧ (p : Int) % (l.length : Int) < (l.length : Int) := by rw [← Int.natCast_emod]; exact ⟨Int.natCast_nonneg _, Int.ofNat_lt.2 hd2⟩
          rw [show [((p / l.length : Nat) : Int), ((p % l.length : Nat) : Int)].map (fun d => l.getD d.toNat 0) = [x, y] by simp [List.getD, hx, hy]; exact ⟨by rw [← Int.natCast_ediv, Int.toNat_natCast, hx]; rfl, by rw [← Int.natCast_emod, Int.toNat_natCast, hy]; rfl⟩]
          refine DW.walk ?_
          exact Nm.mk (Sub.of (by exact ⟨⟨_, rfl, VsL.pers rfl⟩, ⟨_, rfl, VsL.cons' (Vs.pers rfl) (VsL.cons' (Vs.pers rfl) (VsL.cons' (Vs.own' rfl rfl rfl rfl) VsL.nil'))⟩, ⟨_, rfl, VsL.pers (persL_map (fun _ => rfl) _)⟩, ⟨_, rfl, VsL.pers (persL_map (fun _ => rfl) _)⟩, trivial⟩) ⟨Vs.pers rfl, Vs.pers rfl, Vs.ref rfl, Vs.ref rfl, Vs.pers rfl, Vs.own rfl rfl, Vs.pers rfl, Vs.le (Vs.pers rfl) Le.full, trivial⟩)
      · generalize hxx : (digs l.length k p).map (fun d => l.getD d.toNat 0) = xs at *
        unfold intsD intD auC auD at *
        refine DW.walk ?_
        exact ⟨p + 1, by omega, by omega, Sub.auto⟩
    · have hpe : p = wideN k l.length := by omega
      subst hpe
      have htab : (List.range (wideN k l.length)).map (fun p => intD (keptT A l s (digs l.length k p))) = (tableOf l.length (keptT A l) s k).map fun x => .flat (.int .i64 x) := by
        unfold tableOf; rw [List.map_map, Int.toNat_natCast]; rfl
      have htabl : (tableOf l.length (keptT A l) s k).length = wideN k l.length := by simp [tableOf]
      refine DC.walkTo 21 ?_
      rw [show (List.range (wideN k l.length)).map (fun p => D.flat (.int .i64 (keptT A l s (digs l.length k p)))) = (tableOf l.length (keptT A l) s k).map fun x => .flat (.int .i64 x) from htab]
      refine DW.sub (s' := ⟨[(1, intsD l), (2, .ptr (auC A) 0), (4, .ref 4 0), (5, .ref 5 0), (7, intD s), (8, intsD (tableOf l.length (keptT A l) s k))], [(4, some (.box [.flat (.slice none 0 0), .flat (.slice none 0 0), .flat (.slice none 0 0)])), (5, some (.box [intsD A.ranks, .sl false 1 l.length ((List.range l.length).map fun s => boolD (keptF A l s)), .own 106 s])), (106, some (.row 22 1 s (tb.map intsD)))]⟩) ?_ ?_
      · unfold intsD
        rw [htabl]
        exact Sub.auto
      have hrow : tb.map intsD ++ [intsD (tableOf l.length (keptT A l) s k)] = ((tablesOf l.length (keptT A l) A.ranks).take (s + 1)).map intsD := by rw [hnext]; simp
      have hone : oneL (tb.map intsD) = true := oneL_map (fun _ => rfl) _
      unfold intD auC
      refine DW.walk ?_
      exact ⟨s + 1, by omega, by omega, Sub.auto⟩
  · have hse : s = A.ranks.length := by omega
    subst hse
    rw [List.take_of_length_le (by omega)]
    unfold intsD intD auC
    refine DW.walk ?_
    refine ⟨.inr rfl, ResOk.cellA [(106, some (.row 22 1 A.ranks.length ((tablesOf l.length (keptT A l) A.ranks).map intsD)))] rfl rfl rfl ag26 sz26 ⟨rfl, trivial⟩ (VwL.cons (Vw.pers rfl) (VwL.cons (Vw.pers rfl) (VwL.cons (Vw.own (List.mem_cons_self ..) (VwL.pers (persL_map (fun _ => rfl) _))) .nil))) (Le.of_eq ?_)⟩
    simp [keptA, madeA, auD, intsD, boolsD, rowsD, htl, boolD, Function.comp_def]
end Go.Proofs.Ytdakoccbmeojhaa
