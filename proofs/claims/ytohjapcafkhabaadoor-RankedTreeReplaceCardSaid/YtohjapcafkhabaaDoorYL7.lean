/- The law RankedTreeReplace over data: its cases. No condition. -/
import Derived.Test.YtohjapcafkhabaaDoorYP9
import Derived.Test.YtohjapcafkhabaaDoorYR5
import Derived.Test.YtohjapcafkhabaaDoorYL0
import Derived.Test.YtohjapcafkhabaaDoorYC6
import Derived.Test.YtohjapcafkhabaaDoorYC8
import Derived.Test.YtohjapcafkhabaaDoorYTE

set_option linter.unusedSimpArgs false
set_option linter.unusedVariables false
set_option maxHeartbeats 4000000
set_option maxRecDepth 8000
namespace Go.Proofs.YtohjapcafkhabaaDoor
open Go Go.RowKit Go.PP Go.Dm Go.Rt
theorem rp_g1 (rl : Nat) (LR : List D) (hln : LR.length = rl) (hrp : persL LR = true) (hr8 : rl * 8 ≤ 140737488351232) (s1 s2 : Int) (l1 l2 : List Tr) (g1 : DFun Tryd.prog 11 [.agg [.flat (.int .i64 s1), treesD l1]] (.flat (.bool true)))  (hK : DFun Tryd.prog 12 [] (.flat (.bool true))) : DFun Tryd.prog 7 [.agg [.flat (.int .i64 s1), treesD l1], .agg [.flat (.int .i64 s2), treesD l2], .sl false 1 rl LR] (.flat (.bool true)) := by
  have k1 := kidsC_pers l1
  have k2 := kidsC_pers l2
  refine DFun.enterA Tryd.func7 Tryd.ntmps7 ?_
  refine DW.walk ?_
  exact ⟨.inr rfl, ResOk.one [] rfl rfl trivial (Vw.pers rfl)⟩
theorem rp_g2 (rl : Nat) (LR : List D) (hln : LR.length = rl) (hrp : persL LR = true) (hr8 : rl * 8 ≤ 140737488351232) (s1 s2 : Int) (l1 l2 : List Tr) (g1 : DFun Tryd.prog 11 [.agg [.flat (.int .i64 s1), treesD l1]] (.flat (.bool false))) (g2 : DFun Tryd.prog 11 [.agg [.flat (.int .i64 s2), treesD l2]] (.flat (.bool true)))  (hK : DFun Tryd.prog 12 [] (.flat (.bool true))) : DFun Tryd.prog 7 [.agg [.flat (.int .i64 s1), treesD l1], .agg [.flat (.int .i64 s2), treesD l2], .sl false 1 rl LR] (.flat (.bool true)) := by
  have k1 := kidsC_pers l1
  have k2 := kidsC_pers l2
  refine DFun.enterA Tryd.func7 Tryd.ntmps7 ?_
  refine DW.walk ?_
  exact ⟨.inr rfl, ResOk.one [] rfl rfl trivial (Vw.pers rfl)⟩
theorem rp_g3 (rl : Nat) (LR : List D) (hln : LR.length = rl) (hrp : persL LR = true) (hr8 : rl * 8 ≤ 140737488351232) (s1 s2 : Int) (l1 l2 : List Tr) (g1 : DFun Tryd.prog 11 [.agg [.flat (.int .i64 s1), treesD l1]] (.flat (.bool false))) (g2 : DFun Tryd.prog 11 [.agg [.flat (.int .i64 s2), treesD l2]] (.flat (.bool false))) (hb : 50 < rl) (hK : DFun Tryd.prog 12 [] (.flat (.bool true))) : DFun Tryd.prog 7 [.agg [.flat (.int .i64 s1), treesD l1], .agg [.flat (.int .i64 s2), treesD l2], .sl false 1 rl LR] (.flat (.bool true)) := by
  have k1 := kidsC_pers l1
  have k2 := kidsC_pers l2
  refine DFun.enterA Tryd.func7 Tryd.ntmps7 ?_
  refine DW.walk ?_
  exact ⟨.inr rfl, ResOk.one [] rfl rfl trivial (Vw.pers rfl)⟩
theorem rp_no (rl : Nat) (LR : List D) (hln : LR.length = rl) (hrp : persL LR = true) (hr8 : rl * 8 ≤ 140737488351232) (s1 s2 : Int) (l1 l2 : List Tr) (g1 : DFun Tryd.prog 11 [.agg [.flat (.int .i64 s1), treesD l1]] (.flat (.bool false))) (g2 : DFun Tryd.prog 11 [.agg [.flat (.int .i64 s2), treesD l2]] (.flat (.bool false))) (hb : rl ≤ 50) (c1 : DFun Tryd.prog 16 [.agg [.flat (.int .i64 s1), treesD l1]] (.agg [.flat (.int .i64 s1), treesD l1])) (c2 : DFun Tryd.prog 16 [.agg [.flat (.int .i64 s2), treesD l2]] (.agg [.flat (.int .i64 s2), treesD l2])) (c3 : DFun Tryd.prog 29 [.agg [.flat (.int .i64 s1), treesD l1], .sl false 1 rl LR] (.tup [.agg [.flat (.int .i64 0), treesD []], .flat (.bool false)])) (c4 : DFun Tryd.prog 30 [.agg [.flat (.int .i64 s1), treesD l1], .sl false 1 rl LR] (.tup [.agg [.flat (.int .i64 0), treesD []], .flat (.bool false)])) (c5 : DFun Tryd.prog 21 [.agg [.flat (.int .i64 s1), treesD l1], .sl false 1 rl LR, .agg [.flat (.int .i64 s2), treesD l2]] (.tup [.agg [.flat (.int .i64 0), treesD []], .flat (.int .i64 9)])) (c6 : DFun Tryd.prog 19 [.agg [.flat (.int .i64 0), treesD []]] (.agg [.flat (.int .i64 0), treesD []])) (c7 : DFun Tryd.prog 18 [.agg [.flat (.int .i64 0), treesD []], .agg [.flat (.int .i64 0), treesD []]] (.flat (.int .i64 0))) (c8 : DFun Tryd.prog 31 [.agg [.flat (.int .i64 0), treesD []], .agg [.flat (.int .i64 0), .flat (.slice none 0 0)]] (.flat (.bool true))) (hK : DFun Tryd.prog 12 [] (.flat (.bool true))) : DFun Tryd.prog 7 [.agg [.flat (.int .i64 s1), treesD l1], .agg [.flat (.int .i64 s2), treesD l2], .sl false 1 rl LR] (.flat (.bool true)) := by
  have k1 := kidsC_pers l1
  have k2 := kidsC_pers l2
  refine DFun.enterA Tryd.func7 Tryd.ntmps7 ?_
  refine DW.walk ?_
  exact ⟨.inr rfl, ResOk.one [] rfl rfl trivial (Vw.pers rfl)⟩
end Go.Proofs.YtohjapcafkhabaaDoor

set_option linter.unusedSimpArgs false
set_option linter.unusedVariables false
set_option maxHeartbeats 4000000
set_option maxRecDepth 8000
namespace Go.Proofs.YtohjapcafkhabaaDoor
open Go Go.RowKit Go.PP Go.Dm Go.Rt
theorem rp_ok (rl : Nat) (LR : List D) (hln : LR.length = rl) (hrp : persL LR = true) (hr8 : rl * 8 ≤ 140737488351232) (s1 s2 : Int) (l1 l2 : List Tr) (g1 : DFun Tryd.prog 11 [.agg [.flat (.int .i64 s1), treesD l1]] (.flat (.bool false))) (g2 : DFun Tryd.prog 11 [.agg [.flat (.int .i64 s2), treesD l2]] (.flat (.bool false))) (s3 s4 : Int) (l3 l4 : List Tr) (hb : rl ≤ 50) (c1 : DFun Tryd.prog 16 [.agg [.flat (.int .i64 s1), treesD l1]] (.agg [.flat (.int .i64 s1), treesD l1])) (c2 : DFun Tryd.prog 16 [.agg [.flat (.int .i64 s2), treesD l2]] (.agg [.flat (.int .i64 s2), treesD l2])) (c3 : DFun Tryd.prog 29 [.agg [.flat (.int .i64 s1), treesD l1], .sl false 1 rl LR] (.tup [.agg [.flat (.int .i64 s3), treesD l3], .flat (.bool true)])) (c4 : DFun Tryd.prog 30 [.agg [.flat (.int .i64 s1), treesD l1], .sl false 1 rl LR] (.tup [.agg [.flat (.int .i64 s3), treesD l3], .flat (.bool true)])) (c5 : DFun Tryd.prog 21 [.agg [.flat (.int .i64 s1), treesD l1], .sl false 1 rl LR, .agg [.flat (.int .i64 s2), treesD l2]] (.tup [.agg [.flat (.int .i64 s4), treesD l4], .flat (.int .i64 0)])) (c6 : DFun Tryd.prog 19 [.agg [.flat (.int .i64 s3), treesD l3]] (.agg [.flat (.int .i64 s3), treesD l3])) (c7 : DFun Tryd.prog 18 [.agg [.flat (.int .i64 s3), treesD l3], .agg [.flat (.int .i64 s3), treesD l3]] (.flat (.int .i64 0))) (d1 : DFun Tryd.prog 19 [.agg [.flat (.int .i64 s4), treesD l4]] (.agg [.flat (.int .i64 s4), treesD l4])) (d2 : DFun Tryd.prog 32 [.agg [.flat (.int .i64 s1), treesD l1], .sl false 1 rl LR, .agg [.flat (.int .i64 s2), treesD l2]] (.agg [.flat (.int .i64 s4), treesD l4])) (d3 : DFun Tryd.prog 18 [.agg [.flat (.int .i64 s4), treesD l4], .agg [.flat (.int .i64 s4), treesD l4]] (.flat (.int .i64 0))) (d4 : DFun Tryd.prog 19 [.agg [.flat (.int .i64 s1), treesD l1]] (.agg [.flat (.int .i64 s1), treesD l1])) (d5 : DFun Tryd.prog 18 [.agg [.flat (.int .i64 s1), treesD l1], .agg [.flat (.int .i64 s1), treesD l1]] (.flat (.int .i64 0))) (d6 : DFun Tryd.prog 21 [.agg [.flat (.int .i64 s4), treesD l4], .sl false 1 rl LR, .agg [.flat (.int .i64 s3), treesD l3]] (.tup [.agg [.flat (.int .i64 s1), treesD l1], .flat (.int .i64 0)])) (d7 : DFun Tryd.prog 29 [.agg [.flat (.int .i64 s4), treesD l4], .sl false 1 rl LR] (.tup [.agg [.flat (.int .i64 s2), treesD l2], .flat (.bool true)])) (d8 : DFun Tryd.prog 31 [.agg [.flat (.int .i64 s1), treesD l1], .agg [.flat (.int .i64 s1), treesD l1]] (.flat (.bool true))) (d9 : DFun Tryd.prog 31 [.agg [.flat (.int .i64 s2), treesD l2], .agg [.flat (.int .i64 s2), treesD l2]] (.flat (.bool true))) (hK : DFun Tryd.prog 12 [] (.flat (.bool true))) : DFun Tryd.prog 7 [.agg [.flat (.int .i64 s1), treesD l1], .agg [.flat (.int .i64 s2), treesD l2], .sl false 1 rl LR] (.flat (.bool true)) := by
  have k1 := kidsC_pers l1
  have k2 := kidsC_pers l2
  have k3 := kidsC_pers l3
  have k4 := kidsC_pers l4
  refine DFun.enterA Tryd.func7 Tryd.ntmps7 ?_
  refine DW.walk ?_
  exact ⟨.inr rfl, ResOk.one [] rfl rfl trivial (Vw.pers rfl)⟩
end Go.Proofs.YtohjapcafkhabaaDoor

set_option linter.unusedSimpArgs false
set_option linter.unusedVariables false
set_option maxHeartbeats 4000000
set_option maxRecDepth 8000
namespace Go.Proofs.YtohjapcafkhabaaDoor
open Go Go.RowKit Go.PP Go.Dm Go.Rt
theorem law7_d (t part : Tr) (p : List Int) (ot : TSm t ∧ SymR t) (op : TSm part ∧ SymR part) (hp8 : p.length * 8 ≤ 140737488351232) : DFun Tryd.prog 7 [treeD t, treeD part, .sl false 1 p.length (p.map fun x => .flat (.int .i64 x))] (.flat (.bool true)) := by
  have hK := known_d
  have hpp := ints_pers p
  have hln : (p.map fun x => D.flat (.int .i64 x)).length = p.length := List.length_map _
  by_cases g1 : 40 < deepW t ∨ 300 < sizeW t
  · have g1 := great_t t ot.1 g1
    obtain ⟨s1, l1⟩ := t
    obtain ⟨s2, l2⟩ := part
    rw [treeD_node] at g1
    rw [treeD_node, treeD_node]
    exact rp_g1 _ _ hln hpp hp8 s1 s2 l1 l2 g1 hK
  · have g1 := great_f t ot.1 (by omega) (by omega)
    by_cases g2 : 40 < deepW part ∨ 300 < sizeW part
    · have g2 := great_t part op.1 g2
      obtain ⟨s1, l1⟩ := t
      obtain ⟨s2, l2⟩ := part
      rw [treeD_node] at g1 g2
      rw [treeD_node, treeD_node]
      exact rp_g2 _ _ hln hpp hp8 s1 s2 l1 l2 g1 g2 hK
    · have g2 := great_f part op.1 (by omega) (by omega)
      have c1 := own_d _ t (Nat.le_refl _) ot.1
      have c2 := own_d _ part (Nat.le_refl _) op.1
      by_cases hb : 50 < p.length
      · obtain ⟨s1, l1⟩ := t
        obtain ⟨s2, l2⟩ := part
        rw [treeD_node] at g1 g2
        rw [treeD_node, treeD_node]
        exact rp_g3 _ _ hln hpp hp8 s1 s2 l1 l2 g1 g2 hb hK
      · have hb : p.length ≤ 50 := by omega
        have c3 := sub29_d p (by omega) t ot.1
        have c4 := at30_d p (by omega) t ot.1
        cases hA : atT p t with
        | none =>
          rw [hA] at c3 c4
          have c3 : DFun Tryd.prog 29 [treeD t, .sl false 1 p.length (p.map fun x => D.flat (.int .i64 x))] (.tup [treeD (.node 0 []), .flat (.bool false)]) := c3
          have c4 : DFun Tryd.prog 30 [treeD t, .sl false 1 p.length (p.map fun x => D.flat (.int .i64 x))] (.tup [treeD (.node 0 []), .flat (.bool false)]) := c4
          have z : TSm (.node 0 []) := by simp [TSm, TSmL]
          have c6 := back_d _ (.node 0 []) (Nat.le_refl _) z
          have c7 := cmp18_d _ (.node 0 []) (.node 0 []) (Nat.le_refl _) z z
          have c8 := equal_d _ (.node 0 []) (.node 0 []) (Nat.le_refl _) z z
          rw [cmpT_self] at c7
          rw [eqB_t rfl, treeD_node] at c8
          have c8 : DFun Tryd.prog 31 [.agg [.flat (.int .i64 0), treesD []], .agg [.flat (.int .i64 0), .flat (.slice none 0 0)]] (.flat (.bool true)) := c8.le (LeL.cons (Le.refl _) (LeL.cons (Le.agg (LeL.cons (Le.refl _) (LeL.cons (show Le (.flat (.slice none 0 0)) (treesD []) by rw [treesD, kidsC_nil]; exact Le.nil _ _) LeL.nil))) LeL.nil)) (Le.refl _)
          obtain ⟨s1, l1⟩ := t
          obtain ⟨s2, l2⟩ := part
          rw [treeD_node (s := s1)] at g1 c1 c3 c4
          rw [treeD_node] at g2 c2 c3 c4 c6 c7
          rw [treeD_node, treeD_node]
          exact rp_no _ _ hln hpp hp8 s1 s2 l1 l2 g1 g2 hb c1 c2 c3 c4 (rep_no _ _ hln hpp (by omega) s1 s2 0 l1 l2 [] c3) c6 c7 c8 hK
        | some x =>
          obtain ⟨q1, q2, q3, q4⟩ := with_all part op.1 p t x ot.1 hA
          have hne : atT p t ≠ none := by rw [hA]; intro h; cases h
          have hne2 : atT p (withT part p t) ≠ none := by rw [q3]; intro h; cases h
          have d7 := sub29_d p (by omega) (withT part p t) q2
          rw [q3] at d7
          rw [hA] at c3 c4
          have c6 := back_d _ x (Nat.le_refl _) q1
          have c7 := cmp18_d _ x x (Nat.le_refl _) q1 q1
          have d1 := back_d _ (withT part p t) (Nat.le_refl _) q2
          have d3 := cmp18_d _ (withT part p t) (withT part p t) (Nat.le_refl _) q2 q2
          have d4 := back_d _ t (Nat.le_refl _) ot.1
          have d5 := cmp18_d _ t t (Nat.le_refl _) ot.1 ot.1
          have d8 := equal_d _ t t (Nat.le_refl _) ot.1 ot.1
          have d9 := equal_d _ part part (Nat.le_refl _) op.1 op.1
          rw [cmpT_self] at c7 d3 d5
          rw [eqB_t rfl] at d8 d9
          obtain ⟨s2, l2⟩ := part
          obtain ⟨s3, l3⟩ := x
          have e1 := with49_d s2 l2 op.1 p (by omega) t ot.1 hne
          have d2 := with32_d s2 l2 op.1 p (by omega) t ot.1 hne
          have e2 := with49_d s3 l3 q1 p (by omega) (withT (.node s2 l2) p t) q2 hne2
          rw [q4] at e2
          generalize withT (.node s2 l2) p t = y at *
          obtain ⟨s1, l1⟩ := t
          obtain ⟨s4, l4⟩ := y
          simp only [atR] at c3 c4 d7
          simp only [treeD_node] at *
          exact rp_ok _ _ hln hpp hp8 s1 s2 l1 l2 g1 g2 s3 s4 l3 l4 hb c1 c2 c3 c4 (rep_ok _ _ hln hpp (by omega) s1 s2 s3 s4 l1 l2 l3 l4 c3 e1) c6 c7 d1 d2 d3 d4 d5 (rep_ok _ _ hln hpp (by omega) s4 s3 s2 s1 l4 l3 l2 l1 d7 e2) d7 d8 d9 hK
end Go.Proofs.YtohjapcafkhabaaDoor
