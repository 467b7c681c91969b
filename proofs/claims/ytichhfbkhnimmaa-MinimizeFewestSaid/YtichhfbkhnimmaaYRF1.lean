/- The reference: a round with a symbol of one operand. No condition. -/
import Derived.Test.YtichhfbkhnimmaaYRF0

set_option linter.unusedSimpArgs false
set_option linter.unusedVariables false
set_option maxHeartbeats 4000000
set_option maxRecDepth 8000
namespace Go.Proofs.Ytichhfbkhnimmaa
open Go Go.RowKit Go.PP Go.Dm Go.Rt Go.Mn
theorem round1_d (A : Au) (hok : AuOk A) (s : Nat) (hs : A.ranks[s]? = some (1 : Int)) (F C : List Int) (ho : OutOk A (F ++ C)) : DFun Try.prog 101 [auD A, .flat (.int .i64 ((s : Nat) : Int)), .sl false 1 F.length (F.map fun x => D.flat (.int .i64 x)), .sl false 1 C.length (C.map fun x => D.flat (.int .i64 x))] (.sl false 1 (addC A s F (enumL F 1 []) C).length ((addC A s F (enumL F 1 []) C).map fun x => D.flat (.int .i64 x))) := by
  have hsl := (List.getElem?_eq_some_iff.1 hs).1
  have hn := hok.hi
  have hrl := hok.alpha.hi
  have hF := ho.len
  rw [List.length_append] at hF
  have hfits : ∀ x ∈ enumL F 1 [], Fits A s x := fun x hx => enumL_fits (by omega) (by omega) (fun x hx => ho.rng x (List.mem_append.2 (.inl hx))) 1 [] (by rw [Int.toNat_natCast, List.getD_eq_getElem?_getD, hs]; rfl) (by simp) x hx
  have hstep := fun l hl => rstep_d A hok s l (hfits l hl)
  have hlen := addC_len hok hfits ho
  have hrp := part_i hs
  have hhas := fun (l : List Int) (h : l.length ≤ 1000000) (v : Int) => has_d l h v
  have hhF := fun v : Int => has_d F (by omega) v
  have hFp := pers_i F
  have hFt : ∀ (i : Nat) (x : Int), F[i]? = some x → partD false 1 (i * 1) (F.map fun x => D.flat (.int .i64 x)) = some (.flat (.int .i64 x)) := fun i x h => part_i h
  have h90 := OwnAt.of 90
  have hpI := fun U : List Int => pers_i U
  have hoI := fun U : List Int => oneL_ints U
  have hsn := fun (j : Nat) (l : List Int) (h : (enumL F 1 [])[j]? = some l) => addC_snoc A s F C h
  generalize hLS : enumL F 1 [] = LS at *
  have q1 := pers_i A.ranks
  have q2 := pers_b A.final
  have q3 := pers_r A.to
  rw [auD_eq A] at hstep ⊢
  generalize (A.ranks.map fun x => D.flat (.int .i64 x)) = LR at *
  generalize (A.final.map fun x => D.flat (.bool x)) = LB at *
  generalize rowsL A.to = LT at *
  have hrow : ∀ j l, LS[j]? = some l → partD false 1 (j * 1) (LS.map fun l : List Int => D.sl true 1 l.length (l.map fun x => D.flat (.int .i64 x))) = some (D.sl true 1 l.length (l.map fun x => D.flat (.int .i64 x))) := fun j l h => part_map1 h
  have hpC : persL (C.map fun x => D.flat (.int .i64 x)) = true := pers_i C
  have hCn : (C.map fun x => D.flat (.int .i64 x)) = ((addC A s F (LS.take 0) C).map fun x => D.flat (.int .i64 x)) := rfl
  have hCl : C.length = (addC A s F (LS.take 0) C).length := rfl
  have hLS2 : LS = F.map fun x => [x] := by
    rw [← hLS]
    show F.flatMap (fun s => [[] ++ [s]]) = _
    rw [List.map_eq_flatMap]; rfl
  have hLl : LS.length = F.length := by rw [hLS2, List.length_map]
  have hLr : LS.map (fun l : List Int => D.sl true 1 l.length (l.map fun x => D.flat (.int .i64 x))) = F.map (fun x : Int => D.sl true 1 1 [D.flat (.int .i64 x)]) := by rw [hLS2, List.map_map]; rfl
  have hpr : ∀ U : List Int, persL (U.map fun x : Int => D.sl true 1 1 [D.flat (.int .i64 x)]) = true := fun U => persL_map (fun _ => rfl) U
  have hta : ∀ (i : Nat) (x : Int), F[i]? = some x → (F.take i).map (fun x : Int => D.sl true 1 1 [D.flat (.int .i64 x)]) ++ [D.sl true 1 1 [.flat (.int .i64 x)]] = (F.take (i + 1)).map (fun x : Int => D.sl true 1 1 [D.flat (.int .i64 x)]) := fun i x h => by rw [List.take_add_one, h]; simp
  generalize (F.map fun x => D.flat (.int .i64 x)) = FL at *
  refine DFun.enterA Try.func101 Try.ntmps101 ?_
  refine DW.walkTo 2 ?_
  refine DW.adopt 9 71 22 1 rfl rfl ?_
  refine DW.walk ?_
  refine DW.loopA (fun i : Nat => ⟨[(1, .flat (.int .i64 ((s : Nat) : Int))), (2, .sl false 1 F.length FL), (3, .sl false 1 C.length (C.map fun x => D.flat (.int .i64 x))), (4, .ref 4 0), (9, .own 71 i), (10, .flat (.int .i64 ((i : Nat) : Int)))], [(4, some (.box [.sl false 1 A.ranks.length LR, .sl false 1 A.final.length LB, .sl false 1 A.to.length LT])), (71, some (.row 22 1 i ((F.take i).map fun x : Int => D.sl true 1 1 [D.flat (.int .i64 x)])))]⟩) (fun i => i ≤ F.length) (fun i => F.length - i) 0 ?_ (Nat.zero_le _)
  intro i hi
  rcases Nat.lt_or_ge i F.length with hlt | hge
  · obtain ⟨x, hx⟩ : ∃ x, F[i]? = some x := ⟨_, List.getElem?_eq_getElem hlt⟩
    have hxp := hFt i x hx
    have hxa := hta i x hx
    have p0 := hpr (F.take i)
    have p1 := hpr (F.take (i + 1))
    clear hrow hstep hsn hlen hhas hhF hpI hoI hfits hFt hta hpr
    generalize hX1 : (F.take (i + 1)).map (fun x : Int => D.sl true 1 1 [D.flat (.int .i64 x)]) = X1 at *
    generalize (F.take i).map (fun x : Int => D.sl true 1 1 [D.flat (.int .i64 x)]) = X0 at *
    generalize (C.map fun x => D.flat (.int .i64 x)) = CL at *
    refine DW.walk ?_
    rw [hxa]
    exact ⟨i + 1, by omega, by omega, by rw [hX1]; exact Sub.auto⟩
  · obtain rfl : i = F.length := by omega
    have p0 := hpr F
    rw [List.take_length, ← hLr]
    rw [← hLr] at p0
    clear hta hpr hLr hLS2
    refine DW.walkTo 17 ?_
    refine DW.sub (s' := ⟨[(1, .flat (.int .i64 ((s : Nat) : Int))), (2, .sl false 1 F.length FL), (3, .sl false 1 C.length (C.map fun x => D.flat (.int .i64 x))), (4, .ref 4 0), (9, .sl false 1 LS.length (LS.map fun l : List Int => D.sl true 1 l.length (l.map fun x => D.flat (.int .i64 x))))], [(4, some (.box [.sl false 1 A.ranks.length LR, .sl false 1 A.final.length LB, .sl false 1 A.to.length LT]))]⟩) (by rw [hLl]; exact Sub.auto) ?_
    refine DW.walk ?_
    refine DW.loopA (fun j : Nat => ⟨[(1, .flat (.int .i64 ((s : Nat) : Int))), (2, .sl false 1 F.length FL), (3, .sl false 1 (addC A s F (LS.take j) C).length ((addC A s F (LS.take j) C).map fun x => D.flat (.int .i64 x))), (4, .ref 4 0), (9, .sl false 1 LS.length (LS.map fun l : List Int => D.sl true 1 l.length (l.map fun x => D.flat (.int .i64 x)))), (13, .flat (.int .i64 ((j : Nat) : Int)))], [(4, some (.box [.sl false 1 A.ranks.length LR, .sl false 1 A.final.length LB, .sl false 1 A.to.length LT]))]⟩) (fun j => j ≤ LS.length) (fun j => LS.length - j) 0 ?_ (Nat.zero_le _)
    intro j hj
    rcases Nat.lt_or_ge j LS.length with hlt | hge
    · obtain ⟨l, hl⟩ : ∃ l, LS[j]? = some l := ⟨_, List.getElem?_eq_getElem hlt⟩
      have hr := hrow j l hl
      have hst := hstep l (List.mem_of_getElem? hl)
      have hs1 := hsn j l hl
      have hl0 := hlen j
      have hf0 := hhF (atI A s l)
      have hc0 := hhas (addC A s F (LS.take j) C) (by omega) (atI A s l)
      have p0 := hpI (addC A s F (LS.take j) C)
      have p1 := hpI (addC A s F (LS.take (j + 1)) C)
      have o0 := hoI (addC A s F (LS.take j) C)
      have mF := @hasI_nonneg F (atI A s l)
      have mC := @hasI_nonneg (addC A s F (LS.take j) C) (atI A s l)
      unfold stepC at hs1
      generalize hC1 : (addC A s F (LS.take (j + 1)) C) = C1 at *
      generalize (addC A s F (LS.take j) C) = C0 at *
      generalize hasI F (atI A s l) = xF at *
      generalize hasI C0 (atI A s l) = xC at *
      by_cases h1 : atI A s l ∈ F
      · have hx := mF.2 h1
        rw [if_pos (.inl h1)] at hs1
        subst hs1
        clear hrow hstep hsn hlen hhas hhF hpI hoI hfits hFt
        refine DW.walk ?_
        exact ⟨j + 1, by omega, by omega, by rw [hC1]; exact Sub.auto⟩
      · have hx : ¬ 0 ≤ xF := fun h => h1 (mF.1 h)
        by_cases h2 : atI A s l ∈ C0
        · have hx2 := mC.2 h2
          rw [if_pos (.inr h2)] at hs1
          subst hs1
          clear hrow hstep hsn hlen hhas hhF hpI hoI hfits hFt
          refine DW.walk ?_
          exact ⟨j + 1, by omega, by omega, by rw [hC1]; exact Sub.auto⟩
        · have hx2 : ¬ 0 ≤ xC := fun h => h2 (mC.1 h)
          rw [if_neg (by rintro (h | h); exact h1 h; exact h2 h)] at hs1
          have hc1 : (C0.map fun x => D.flat (.int .i64 x)) ++ [.flat (.int .i64 (atI A s l))] = (C1.map fun x => D.flat (.int .i64 x)) := by rw [hs1, List.map_append]; rfl
          have hc2 : C1.length = C0.length + 1 := by rw [hs1, List.length_append]; rfl
          generalize hX1 : (C1.map fun x => D.flat (.int .i64 x)) = X1 at *
          generalize (C0.map fun x => D.flat (.int .i64 x)) = X0 at *
          clear hrow hstep hsn hlen hhas hhF hpI hoI hfits hFt
          refine DW.walk ?_
          try simp only [List.nil_append]
          rw [hc1]
          exact ⟨j + 1, by omega, by omega, by rw [hC1, hX1, hc2]; exact Sub.auto⟩
    · obtain rfl : j = LS.length := by omega
      rw [List.take_length]
      have p0 := hpI (addC A s F LS C)
      generalize addC A s F LS C = C0 at *
      generalize (C0.map fun x => D.flat (.int .i64 x)) = X0 at *
      clear hrow hstep hsn hlen hhas hhF hpI hoI hfits hFt
      refine DW.walk ?_
      exact ⟨.inr rfl, ResOk.one [] rfl rfl trivial (Vw.pers rfl)⟩
end Go.Proofs.Ytichhfbkhnimmaa
