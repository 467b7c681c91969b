/- palmettelaw33.DTATrim over data; runs. No condition. -/
import Derived.Test.YtdakoccbmeojhaaNl
import Derived.Test.YtdakoccbmeojhaaNf
set_option linter.unusedSimpArgs false
set_option linter.unusedVariables false
set_option maxHeartbeats 1000000
set_option maxRecDepth 8000
namespace Go.Proofs.Ytdakoccbmeojhaa
open Go Go.RowKit Go.PP Go.Dm

theorem ent9 : Enters Try.prog 9 := fun args w => by go_simp
theorem count_isB {A : Au} : ∀ (n : Nat) (out : List Int), out.Nodup → (∀ x ∈ out, 0 ≤ x ∧ x < (n : Int)) → (isB n out).count true = out.length
  | 0, out, _, h => by
    cases out with
    | nil => rfl
    | cons a l => have := h a (by simp); omega
  | n + 1, out, hn, h => by
    have h1 : isB (n + 1) out = isB n out ++ [decide ((n : Int) ∈ out)] := by simp [isB, List.range_succ]
    have h2 : isB n out = isB n (out.erase (n : Int)) := by
      unfold isB
      refine List.map_congr_left fun i hi => ?_
      rw [List.mem_range] at hi
      have : ((i : Int) ∈ out.erase (n : Int)) ↔ ((i : Int) ∈ out) := List.mem_erase_of_ne (by omega)
      simp [this]
    have h3 := count_isB (A := A) n (out.erase (n : Int)) (hn.erase _) (fun x hx => by
      have h4 := h x (List.mem_of_mem_erase hx)
      have h5 : x ≠ (n : Int) := fun e => by subst e; exact (List.Nodup.not_mem_erase hn) hx
      omega)
    rw [h1, List.count_append, h2, h3]
    by_cases hm : (n : Int) ∈ out
    · rw [List.length_erase_of_mem hm]
      have := List.length_pos_of_mem hm
      simp [hm]; omega
    · rw [List.erase_of_not_mem hm]; simp [hm]

theorem law9_d (A : Au) : DFun Try.prog 9 [auD A] (boolD true) := by
  have hfew := few_d A
  have hkn := known_d
  have hfr := from_d A
  by_cases hf : fewB A = true
  · rw [hf] at hfew
    have hre := reach_d A
    have htr := trim_d A
    have hch := rcheck_d A
    by_cases hk : chk A = 0
    · rw [hk] at hch
      rw [reachE_ok hk] at hre
      rw [trimE_ok hk] at htr
      have hok := chk_ok hk
      have hn := hok.hi
      have hfo := rfound_d A hok
      have hsh := found_shutL hok (chk_zero hk)
      have hkp := rkept_d A hok (foundA A) hsh
      have hto := to_d (keptA A (foundA A))
      have hsm := same_d (keptA A (foundA A)) (keptA A (foundA A))
      have hrefl : eqAu (keptA A (foundA A)) (keptA A (foundA A)) = true := by simp [eqAu]
      rw [hrefl] at hsm
      have ho : OutOk A (foundA A) := foundK_ok hok _
      have hcnt := count_isB (A := A) A.final.length (foundA A) ho.nd ho.rng
      have hlen := ho.len
      have hbl := isB_len A.final.length (foundA A)
      have hget : ∀ x ∈ foundA A, ∃ m : Nat, x = (m : Int) ∧ (isB A.final.length (foundA A))[m]? = some true := fun x hx => by
        obtain ⟨m, rfl⟩ := Int.eq_ofNat_of_zero_le (ho.rng x hx).1
        exact ⟨m, rfl, by rw [isB_get (by have := (ho.rng _ hx).2; omega)]; simp [hx]⟩
      generalize foundA A = fo at *
      generalize isB A.final.length fo = bs at *
      generalize keptA A fo = K at *
      unfold auD boolsD at *
      rw [hbl] at hre
      refine DFun.enterA Try.func9 Try.ntmps9 ?_
      refine DW.walk ?_
      have hbx : (5, some (Ent.box [intsD K.ranks, .sl false 1 K.final.length (K.final.map fun x => .flat (.bool x)), rowsD K.to])) = (5, some (Ent.box [intsD K.ranks, .sl false 1 K.final.length (K.final.map fun x => .flat (.bool x)), rowsD K.to])) := rfl
      refine DW.loopA (fun i : Nat => ⟨[(1, .ref 1 0), (3, .sl false 1 A.final.length (bs.map fun x => .flat (.bool x))), (5, .ref 5 0), (8, intsD fo), (9, intD ((bs.take i).count true : Nat)), (10, intD i)], [(5, some (.box [intsD K.ranks, .sl false 1 K.final.length (K.final.map fun x => .flat (.bool x)), rowsD K.to])), (1, some (.box [intsD A.ranks, .sl false 1 A.final.length (A.final.map fun x => .flat (.bool x)), rowsD A.to]))]⟩)
        (fun i => i ≤ bs.length) (fun i => bs.length - i) 0 ?_ (by omega)
      intro i hi
      rcases Nat.lt_or_ge i bs.length with hlt | hge
      · obtain ⟨b, hb⟩ : ∃ b, bs[i]? = some b := ⟨bs[i], by simp⟩
        have hp := part_map (f := fun x => D.flat (.bool x)) hb
        have hc1 : (bs.take i).count true ≤ bs.length := Nat.le_trans List.count_le_length (by simp; omega)
        have hc2 : (bs.take (i + 1)).count true = (bs.take i).count true + if b then 1 else 0 := by
          rw [List.take_add_one, hb]; cases b <;> simp
        cases b
        all_goals
          unfold intsD intD
          refine DW.walk ?_
          refine ⟨i + 1, by omega, by omega, ?_⟩
          simp only [if_true, if_false, Bool.false_eq_true, reduceIte, Nat.add_zero] at hc2
          rw [hc2]
          exact Sub.auto
      · have hie : i = bs.length := by omega
        subst hie
        rw [List.take_length, hcnt]
        unfold intD
        refine DW.walk ?_
        refine DW.loopA (fun j : Nat => ⟨[(1, .ref 1 0), (3, .sl false 1 A.final.length (bs.map fun x => .flat (.bool x))), (5, .ref 5 0), (8, intsD fo), (9, intD (fo.length : Nat)), (11, intD j)], [(5, some (.box [intsD K.ranks, .sl false 1 K.final.length (K.final.map fun x => .flat (.bool x)), rowsD K.to])), (1, some (.box [intsD A.ranks, .sl false 1 A.final.length (A.final.map fun x => .flat (.bool x)), rowsD A.to]))]⟩)
          (fun j => j ≤ fo.length) (fun j => fo.length - j) 0 ?_ (by omega)
        intro j hj
        rcases Nat.lt_or_ge j fo.length with hlt | hge
        · obtain ⟨x, hx⟩ : ∃ x, fo[j]? = some x := ⟨fo[j], by simp⟩
          obtain ⟨m, rfl, hm⟩ := hget x (List.mem_of_getElem? hx)
          have hmr := (ho.rng _ (List.mem_of_getElem? hx)).2
          have hp := part_map (f := fun x => D.flat (.int .i64 x)) hx
          have hp2 := part_map (f := fun x => D.flat (.bool x)) hm
          unfold intsD intD
          refine DW.walk ?_
          exact ⟨j + 1, by omega, by omega, Sub.auto⟩
        · have hje : j = fo.length := by omega
          subst hje
          unfold intsD intD at *
          refine DW.walk ?_
          exact ⟨.inr rfl, ResOk.one [] rfl rfl trivial (Vw.pers rfl)⟩
    · rw [reachE_bad hk] at hre
      rw [trimE_bad hk] at htr
      have hne : ((chk A : Nat) : Int) ≠ 0 := by omega
      have hto := to_d A00
      have hsm := (same_d A00 A00).le (args' := [auD A00, .agg [.flat (.slice none 0 0), .flat (.slice none 0 0), .flat (.slice none 0 0)]]) ⟨Le.refl _, Le.agg ⟨Le.nil _ _, Le.nil _ _, Le.nil _ _, trivial⟩, trivial⟩ (Le.refl _)
      rw [show eqAu A00 A00 = true by simp [eqAu]] at hsm
      have hkn := known_d
      unfold auD boolsD at *
      refine DFun.enterA Try.func9 Try.ntmps9 ?_
      refine DW.walk ?_
      exact ⟨.inr rfl, ResOk.one [] rfl rfl trivial (Vw.pers rfl)⟩
  · have hf' : fewB A = false := by simpa using hf
    rw [hf'] at hfew
    unfold auD at *
    refine DFun.enterA Try.func9 Try.ntmps9 ?_
    refine DW.walk ?_
    exact ⟨.inr rfl, ResOk.one [] rfl rfl trivial (Vw.pers rfl)⟩
end Go.Proofs.Ytdakoccbmeojhaa
