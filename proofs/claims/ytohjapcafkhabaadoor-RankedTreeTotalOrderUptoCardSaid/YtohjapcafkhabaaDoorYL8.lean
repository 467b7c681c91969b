/- The law RankedTreeTotalOrder over data: its parts. No condition. -/
import Derived.Test.YtohjapcafkhabaaDoorYP9
import Derived.Test.YtohjapcafkhabaaDoorYL0
import Derived.Test.YtohjapcafkhabaaDoorYC3
import Derived.Test.YtohjapcafkhabaaDoorYC6
import Derived.Test.YtohjapcafkhabaaDoorYTE

set_option linter.unusedSimpArgs false
set_option linter.unusedVariables false
set_option maxHeartbeats 4000000
set_option maxRecDepth 8000
namespace Go.Proofs.YtohjapcafkhabaaDoor
open Go Go.RowKit Go.PP Go.Dm Go.Rt
noncomputable abbrev code8 : Code := Tryd.f8.body.getD .skip
theorem to_p4 {cc : Code} (hsel : selC [1, 1, 1, 0] code8 = some cc) (s1 s2 s3 : Int) (l1 l2 l3 : List Tr) (x y z : Int) (a1 : DFun Tryd.prog 33 [.agg [.flat (.int .i64 s1), treesD l1], .agg [.flat (.int .i64 s2), treesD l2]] (.flat (.int .i64 x))) (a2 : DFun Tryd.prog 33 [.agg [.flat (.int .i64 s2), treesD l2], .agg [.flat (.int .i64 s3), treesD l3]] (.flat (.int .i64 y))) (a3 : DFun Tryd.prog 33 [.agg [.flat (.int .i64 s1), treesD l1], .agg [.flat (.int .i64 s3), treesD l3]] (.flat (.int .i64 z))) (h : x ≤ 0 → y ≤ 0 → ¬ 0 < z) : DW Tryd.prog 82 cc ⟨[(6, .flat (.bool false)), (7, .ref 7 0), (8, .ref 8 0), (9, .ref 9 0)], [(7, some (.box [.flat (.int .i64 s1), treesD l1])), (8, some (.box [.flat (.int .i64 s2), treesD l2])), (9, some (.box [.flat (.int .i64 s3), treesD l3]))]⟩ (Nm 82 ⟨[(6, .flat (.bool false)), (7, .ref 7 0), (8, .ref 8 0), (9, .ref 9 0)], [(7, some (.box [.flat (.int .i64 s1), treesD l1])), (8, some (.box [.flat (.int .i64 s2), treesD l2])), (9, some (.box [.flat (.int .i64 s3), treesD l3]))]⟩) := by
  refine DW.sel hsel (by rfl) ?_
  by_cases h1 : x ≤ 0
  · by_cases h2 : y ≤ 0
    · have h3 := h h1 h2
      clear h
      refine DW.walk ?_
      exact Nm.mk Sub.auto
    · clear h
      refine DW.walk ?_
      exact Nm.mk Sub.auto
  · clear h
    refine DW.walk ?_
    exact Nm.mk Sub.auto
theorem to_p6 {cc : Code} (hsel : selC [1, 1, 1, 1, 0] code8 = some cc) (s1 s2 s3 : Int) (l1 l2 l3 : List Tr) (x y z : Int) (a1 : DFun Tryd.prog 33 [.agg [.flat (.int .i64 s1), treesD l1], .agg [.flat (.int .i64 s2), treesD l2]] (.flat (.int .i64 x))) (a2 : DFun Tryd.prog 33 [.agg [.flat (.int .i64 s2), treesD l2], .agg [.flat (.int .i64 s3), treesD l3]] (.flat (.int .i64 y))) (a3 : DFun Tryd.prog 33 [.agg [.flat (.int .i64 s1), treesD l1], .agg [.flat (.int .i64 s3), treesD l3]] (.flat (.int .i64 z))) (h : 0 ≤ x → 0 ≤ y → ¬ z < 0) : DW Tryd.prog 82 cc ⟨[(6, .flat (.bool false)), (7, .ref 7 0), (8, .ref 8 0), (9, .ref 9 0)], [(7, some (.box [.flat (.int .i64 s1), treesD l1])), (8, some (.box [.flat (.int .i64 s2), treesD l2])), (9, some (.box [.flat (.int .i64 s3), treesD l3]))]⟩ (Nm 82 ⟨[(6, .flat (.bool false)), (7, .ref 7 0), (8, .ref 8 0), (9, .ref 9 0)], [(7, some (.box [.flat (.int .i64 s1), treesD l1])), (8, some (.box [.flat (.int .i64 s2), treesD l2])), (9, some (.box [.flat (.int .i64 s3), treesD l3]))]⟩) := by
  refine DW.sel hsel (by rfl) ?_
  by_cases h1 : 0 ≤ x
  · by_cases h2 : 0 ≤ y
    · have h3 := h h1 h2
      clear h
      refine DW.walk ?_
      exact Nm.mk Sub.auto
    · clear h
      refine DW.walk ?_
      exact Nm.mk Sub.auto
  · clear h
    refine DW.walk ?_
    exact Nm.mk Sub.auto
theorem to_p8 {cc : Code} (hsel : selC [1, 1, 1, 1, 1] code8 = some cc) (s1 s2 s3 : Int) (l1 l2 l3 : List Tr) (hs1 : l1.length * 32 ≤ 140737488351232) (hk : ∀ (i : Nat) k, l1[i]? = some k → ∃ z, z < 0 ∧ DFun Tryd.prog 33 [treeD k, .agg [.flat (.int .i64 s1), treesD l1]] (.flat (.int .i64 z))) (h0 : DFun Tryd.prog 33 [.agg [.flat (.int .i64 s1), treesD l1], .agg [.flat (.int .i64 s1), treesD l1]] (.flat (.int .i64 0))) (hK : DFun Tryd.prog 12 [] (.flat (.bool true))) : DW Tryd.prog 82 cc ⟨[(6, .flat (.bool false)), (7, .ref 7 0), (8, .ref 8 0), (9, .ref 9 0)], [(7, some (.box [.flat (.int .i64 s1), treesD l1])), (8, some (.box [.flat (.int .i64 s2), treesD l2])), (9, some (.box [.flat (.int .i64 s3), treesD l3]))]⟩ (QF Tryd.prog Tryd.f8 (.flat (.bool true))) := by
  refine DW.sel hsel (by rfl) ?_
  refine DW.walk ?_
  refine DW.loopA (fun i : Nat => ⟨[(6, .flat (.bool false)), (7, .ref 7 0), (10, .flat (.int .i64 (i : Nat)))], [(7, some (.box [.flat (.int .i64 s1), treesD l1]))]⟩) (fun i => i ≤ l1.length) (fun i => l1.length - i) 0 ?_ (Nat.zero_le _) (by exact Sub.auto)
  intro i hi
  rcases Nat.lt_or_ge i l1.length with hlt | hge
  · obtain ⟨k, hki⟩ : ∃ k, l1[i]? = some k := ⟨_, List.getElem?_eq_getElem hlt⟩
    have hp := part_kids hki
    obtain ⟨z, hz, hc⟩ := hk i k hki
    clear hk hki
    obtain ⟨s', l'⟩ := k
    rw [treeD_node] at hp hc
    refine DW.walk ?_
    exact ⟨i + 1, by omega, by omega, Sub.auto⟩
  · obtain rfl : i = l1.length := by omega
    clear hk
    refine DW.walk ?_
    exact ⟨.inr rfl, ResOk.one [] rfl rfl trivial (Vw.pers rfl)⟩
end Go.Proofs.YtohjapcafkhabaaDoor

set_option linter.unusedSimpArgs false
set_option linter.unusedVariables false
set_option maxHeartbeats 4000000
set_option maxRecDepth 8000
namespace Go.Proofs.YtohjapcafkhabaaDoor
open Go Go.RowKit Go.PP Go.Dm Go.Rt
theorem law8_d (s t u : Tr) (os : TSm s ∧ SymR s) (ot : TSm t ∧ SymR t) (ou : TSm u ∧ SymR u) (hb : sizeT s ≤ 4611686018427387904) : DFun Tryd.prog 8 [treeD s, treeD t, treeD u] (.flat (.bool true)) := by
  have hK := known_d
  have gr : ∀ x : Tr, TSm x → DFun Tryd.prog 11 [treeD x] (.flat (.bool true)) ∨ DFun Tryd.prog 11 [treeD x] (.flat (.bool false)) := fun x hx => by
    by_cases h1 : 40 < deepW x
    · exact .inl (great_t x hx (.inl h1))
    · by_cases h2 : 300 < sizeW x
      · exact .inl (great_t x hx (.inr h2))
      · exact .inr (great_f x hx h1 h2)
  have g1 := gr s os.1
  have g2 := gr t ot.1
  have g3 := gr u ou.1
  have b1 := own_d _ s (Nat.le_refl _) os.1
  have b2 := own_d _ t (Nat.le_refl _) ot.1
  have b3 := own_d _ u (Nat.le_refl _) ou.1
  have a1 := cmp33_d _ s t (Nat.le_refl _) os.1 ot.1
  have a2 := cmp33_d _ t u (Nat.le_refl _) ot.1 ou.1
  have a3 := cmp33_d _ s u (Nat.le_refl _) os.1 ou.1
  have a0 := cmp33_d _ s s (Nat.le_refl _) os.1 os.1
  rw [cmpT_self] at a0
  have hle : cmpT s t ≤ 0 → cmpT t u ≤ 0 → ¬ 0 < cmpT s u := fun h1 h2 h3 => by
    have := cmpT_le_trans h1 h2
    omega
  have hge : 0 ≤ cmpT s t → 0 ≤ cmpT t u → ¬ cmpT s u < 0 := fun h1 h2 h3 => by
    have := cmpT_ge_trans h1 h2
    omega
  generalize cmpT s t = x at *
  generalize cmpT t u = y at *
  generalize cmpT s u = z at *
  clear gr
  obtain ⟨s1, l1⟩ := s
  obtain ⟨s2, l2⟩ := t
  obtain ⟨s3, l3⟩ := u
  have os1 := TSm_node.1 os.1
  have hk : ∀ (i : Nat) k, l1[i]? = some k → ∃ z, z < 0 ∧ DFun Tryd.prog 33 [treeD k, .agg [.flat (.int .i64 s1), treesD l1]] (.flat (.int .i64 z)) := fun i k hi => by
    have h := cmp33_d _ k (.node s1 l1) (Nat.le_refl _) (TSmL.at os1.2 hi) os.1
    rw [treeD_node] at h
    exact ⟨_, cmpT_kid hi hb, h⟩
  rw [treeD_node] at *
  rw [treeD_node] at *
  rw [treeD_node] at *
  clear os ot ou hb
  have hs1 := os1.1
  clear os1
  have p4 := fun (cc : Code) (h : selC [1, 1, 1, 0] code8 = some cc) => to_p4 h s1 s2 s3 l1 l2 l3 x y z a1 a2 a3 hle
  have p6 := fun (cc : Code) (h : selC [1, 1, 1, 1, 0] code8 = some cc) => to_p6 h s1 s2 s3 l1 l2 l3 x y z a1 a2 a3 hge
  have p8 := fun (cc : Code) (h : selC [1, 1, 1, 1, 1] code8 = some cc) => to_p8 h s1 s2 s3 l1 l2 l3 hs1 hk a0 hK
  clear hk a1 a2 a3 a0 hle hge
  rcases g1 with g1 | g1
  · clear p4 p6 p8
    refine DFun.enterA Tryd.func8 Tryd.ntmps8 ?_
    refine DW.walk ?_
    exact ⟨.inr rfl, ResOk.one [] rfl rfl trivial (Vw.pers rfl)⟩
  · rcases g2 with g2 | g2
    · clear p4 p6 p8
      refine DFun.enterA Tryd.func8 Tryd.ntmps8 ?_
      refine DW.walk ?_
      exact ⟨.inr rfl, ResOk.one [] rfl rfl trivial (Vw.pers rfl)⟩
    · rcases g3 with g3 | g3
      · clear p4 p6 p8
        refine DFun.enterA Tryd.func8 Tryd.ntmps8 ?_
        refine DW.walk ?_
        exact ⟨.inr rfl, ResOk.one [] rfl rfl trivial (Vw.pers rfl)⟩
      · refine DFun.enterA Tryd.func8 Tryd.ntmps8 ?_
        refine DW.walkTo 3 ?_
        refine DW.cut ⟨[(6, .flat (.bool false)), (7, .ref 7 0), (8, .ref 8 0), (9, .ref 9 0)], [(7, some (.box [.flat (.int .i64 s1), treesD l1])), (8, some (.box [.flat (.int .i64 s2), treesD l2])), (9, some (.box [.flat (.int .i64 s3), treesD l3]))]⟩ ?_ ?_
        · clear p4 p6 p8
          refine DW.walk ?_
          exact Nm.mk Sub.auto
        · refine DW.seq ?_
          refine DW.cut _ (p4 _ (by rfl)) ?_
          refine DW.seq ?_
          refine DW.cut _ (p6 _ (by rfl)) ?_
          exact p8 _ (by rfl)
end Go.Proofs.YtohjapcafkhabaaDoor
