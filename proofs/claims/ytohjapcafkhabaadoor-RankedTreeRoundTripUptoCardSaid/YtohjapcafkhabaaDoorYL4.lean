/- The law RankedTreeRoundTrip over data: its cases. No condition. -/
import Derived.Test.YtohjapcafkhabaaDoorYP9
import Derived.Test.YtohjapcafkhabaaDoorYP13
import Derived.Test.YtohjapcafkhabaaDoorYV4a
import Derived.Test.YtohjapcafkhabaaDoorYL0
import Derived.Test.YtohjapcafkhabaaDoorYC3
import Derived.Test.YtohjapcafkhabaaDoorYC6
import Derived.Test.YtohjapcafkhabaaDoorYB4

set_option linter.unusedSimpArgs false
set_option linter.unusedVariables false
set_option maxHeartbeats 4000000
set_option maxRecDepth 8000
namespace Go.Proofs.YtohjapcafkhabaaDoor
open Go Go.RowKit Go.PP Go.Dm Go.Rt
theorem rt_00 (rl : Nat) (LR : List D) (hln : LR.length = rl) (hrp : persL LR = true) (ha : rl ≤ 4096) (s1 s2 : Int) (l1 l2 : List Tr) (s : List UInt8) (hs : s.length ≤ 2000) (g1 : DFun Tryd.prog 11 [.agg [.flat (.int .i64 s1), treesD l1]] (.flat (.bool false))) (hK : DFun Tryd.prog 12 [] (.flat (.bool true))) (e : Int) (a20 : DFun Tryd.prog 20 [.sl false 1 rl LR, .agg [.flat (.int .i64 s1), treesD l1]] (.flat (.int .i64 e))) (he : ¬ e = 0) (f : Int) (c1 : DFun Tryd.prog 13 [strD s] (.tup [.agg [.flat (.int .i64 s2), treesD l2], .flat (.int .i64 f)])) (hf : ¬ f = 0) : DFun Tryd.prog 4 [.sl false 1 rl LR, .agg [.flat (.int .i64 s1), treesD l1], strD s] (.flat (.bool true)) := by
  refine DFun.enterA Tryd.func4 Tryd.ntmps4 ?_
  refine DW.walk ?_
  exact ⟨.inr rfl, ResOk.one [] rfl rfl trivial (Vw.pers rfl)⟩
theorem rt_01 (rl : Nat) (LR : List D) (hln : LR.length = rl) (hrp : persL LR = true) (ha : rl ≤ 4096) (s1 s2 : Int) (l1 l2 : List Tr) (s : List UInt8) (hs : s.length ≤ 2000) (g1 : DFun Tryd.prog 11 [.agg [.flat (.int .i64 s1), treesD l1]] (.flat (.bool false))) (hK : DFun Tryd.prog 12 [] (.flat (.bool true))) (e : Int) (a20 : DFun Tryd.prog 20 [.sl false 1 rl LR, .agg [.flat (.int .i64 s1), treesD l1]] (.flat (.int .i64 e))) (he : ¬ e = 0) (f : Int) (c1 : DFun Tryd.prog 13 [strD s] (.tup [.agg [.flat (.int .i64 s2), treesD l2], .flat (.int .i64 f)])) (hf : f = 0) (hss : decide (s = s) = true) (c2 : DFun Tryd.prog 15 [.agg [.flat (.int .i64 s2), treesD l2]] (strD s)) : DFun Tryd.prog 4 [.sl false 1 rl LR, .agg [.flat (.int .i64 s1), treesD l1], strD s] (.flat (.bool true)) := by
  refine DFun.enterA Tryd.func4 Tryd.ntmps4 ?_
  refine DW.walk ?_
  exact ⟨.inr rfl, ResOk.one [] rfl rfl trivial (Vw.pers rfl)⟩
theorem rt_10 (rl : Nat) (LR : List D) (hln : LR.length = rl) (hrp : persL LR = true) (ha : rl ≤ 4096) (s1 s2 : Int) (l1 l2 : List Tr) (s : List UInt8) (hs : s.length ≤ 2000) (g1 : DFun Tryd.prog 11 [.agg [.flat (.int .i64 s1), treesD l1]] (.flat (.bool false))) (hK : DFun Tryd.prog 12 [] (.flat (.bool true))) (e : Int) (a20 : DFun Tryd.prog 20 [.sl false 1 rl LR, .agg [.flat (.int .i64 s1), treesD l1]] (.flat (.int .i64 e))) (he : e = 0) (X : List UInt8) (b1 : DFun Tryd.prog 16 [.agg [.flat (.int .i64 s1), treesD l1]] (.agg [.flat (.int .i64 s1), treesD l1])) (b2 : DFun Tryd.prog 15 [.agg [.flat (.int .i64 s1), treesD l1]] (strD X)) (b3 : DFun Tryd.prog 13 [strD X] (.tup [.agg [.flat (.int .i64 s1), treesD l1], .flat (.int .i64 0)])) (b4 : DFun Tryd.prog 19 [.agg [.flat (.int .i64 s1), treesD l1]] (.agg [.flat (.int .i64 s1), treesD l1])) (b5 : DFun Tryd.prog 18 [.agg [.flat (.int .i64 s1), treesD l1], .agg [.flat (.int .i64 s1), treesD l1]] (.flat (.int .i64 0))) (f : Int) (c1 : DFun Tryd.prog 13 [strD s] (.tup [.agg [.flat (.int .i64 s2), treesD l2], .flat (.int .i64 f)])) (hf : ¬ f = 0) : DFun Tryd.prog 4 [.sl false 1 rl LR, .agg [.flat (.int .i64 s1), treesD l1], strD s] (.flat (.bool true)) := by
  refine DFun.enterA Tryd.func4 Tryd.ntmps4 ?_
  refine DW.walk ?_
  exact ⟨.inr rfl, ResOk.one [] rfl rfl trivial (Vw.pers rfl)⟩
theorem rt_11 (rl : Nat) (LR : List D) (hln : LR.length = rl) (hrp : persL LR = true) (ha : rl ≤ 4096) (s1 s2 : Int) (l1 l2 : List Tr) (s : List UInt8) (hs : s.length ≤ 2000) (g1 : DFun Tryd.prog 11 [.agg [.flat (.int .i64 s1), treesD l1]] (.flat (.bool false))) (hK : DFun Tryd.prog 12 [] (.flat (.bool true))) (e : Int) (a20 : DFun Tryd.prog 20 [.sl false 1 rl LR, .agg [.flat (.int .i64 s1), treesD l1]] (.flat (.int .i64 e))) (he : e = 0) (X : List UInt8) (b1 : DFun Tryd.prog 16 [.agg [.flat (.int .i64 s1), treesD l1]] (.agg [.flat (.int .i64 s1), treesD l1])) (b2 : DFun Tryd.prog 15 [.agg [.flat (.int .i64 s1), treesD l1]] (strD X)) (b3 : DFun Tryd.prog 13 [strD X] (.tup [.agg [.flat (.int .i64 s1), treesD l1], .flat (.int .i64 0)])) (b4 : DFun Tryd.prog 19 [.agg [.flat (.int .i64 s1), treesD l1]] (.agg [.flat (.int .i64 s1), treesD l1])) (b5 : DFun Tryd.prog 18 [.agg [.flat (.int .i64 s1), treesD l1], .agg [.flat (.int .i64 s1), treesD l1]] (.flat (.int .i64 0))) (f : Int) (c1 : DFun Tryd.prog 13 [strD s] (.tup [.agg [.flat (.int .i64 s2), treesD l2], .flat (.int .i64 f)])) (hf : f = 0) (hss : decide (s = s) = true) (c2 : DFun Tryd.prog 15 [.agg [.flat (.int .i64 s2), treesD l2]] (strD s)) : DFun Tryd.prog 4 [.sl false 1 rl LR, .agg [.flat (.int .i64 s1), treesD l1], strD s] (.flat (.bool true)) := by
  refine DFun.enterA Tryd.func4 Tryd.ntmps4 ?_
  refine DW.walk ?_
  exact ⟨.inr rfl, ResOk.one [] rfl rfl trivial (Vw.pers rfl)⟩
theorem rt_g1 (rl : Nat) (LR : List D) (hln : LR.length = rl) (hrp : persL LR = true) (hr8 : rl * 8 ≤ 140737488351232) (s1 : Int) (l1 : List Tr) (s : List UInt8) (hs : s.length ≤ 140737488351232) (g1 : DFun Tryd.prog 11 [.agg [.flat (.int .i64 s1), treesD l1]] (.flat (.bool true))) (hK : DFun Tryd.prog 12 [] (.flat (.bool true))) : DFun Tryd.prog 4 [.sl false 1 rl LR, .agg [.flat (.int .i64 s1), treesD l1], strD s] (.flat (.bool true)) := by
  refine DFun.enterA Tryd.func4 Tryd.ntmps4 ?_
  refine DW.walk ?_
  exact ⟨.inr rfl, ResOk.one [] rfl rfl trivial (Vw.pers rfl)⟩
theorem rt_g2 (rl : Nat) (LR : List D) (hln : LR.length = rl) (hrp : persL LR = true) (hr8 : rl * 8 ≤ 140737488351232) (s1 : Int) (l1 : List Tr) (s : List UInt8) (hs : s.length ≤ 140737488351232) (g1 : DFun Tryd.prog 11 [.agg [.flat (.int .i64 s1), treesD l1]] (.flat (.bool false))) (h2 : 2000 < s.length) (hK : DFun Tryd.prog 12 [] (.flat (.bool true))) : DFun Tryd.prog 4 [.sl false 1 rl LR, .agg [.flat (.int .i64 s1), treesD l1], strD s] (.flat (.bool true)) := by
  refine DFun.enterA Tryd.func4 Tryd.ntmps4 ?_
  refine DW.walk ?_
  exact ⟨.inr rfl, ResOk.one [] rfl rfl trivial (Vw.pers rfl)⟩
theorem rt_g3 (rl : Nat) (LR : List D) (hln : LR.length = rl) (hrp : persL LR = true) (hr8 : rl * 8 ≤ 140737488351232) (s1 : Int) (l1 : List Tr) (s : List UInt8) (g1 : DFun Tryd.prog 11 [.agg [.flat (.int .i64 s1), treesD l1]] (.flat (.bool false))) (h2 : s.length ≤ 2000) (h3 : 4096 < rl) (hK : DFun Tryd.prog 12 [] (.flat (.bool true))) : DFun Tryd.prog 4 [.sl false 1 rl LR, .agg [.flat (.int .i64 s1), treesD l1], strD s] (.flat (.bool true)) := by
  refine DFun.enterA Tryd.func4 Tryd.ntmps4 ?_
  refine DW.walk ?_
  exact ⟨.inr rfl, ResOk.one [] rfl rfl trivial (Vw.pers rfl)⟩
end Go.Proofs.YtohjapcafkhabaaDoor

set_option linter.unusedSimpArgs false
set_option linter.unusedVariables false
set_option maxHeartbeats 4000000
set_option maxRecDepth 8000
namespace Go.Proofs.YtohjapcafkhabaaDoor
open Go Go.RowKit Go.PP Go.Dm Go.Rt
theorem law4_d (r : List Int) (t : Tr) (s : List UInt8) (or' : r.length * 8 ≤ 140737488351232) (ot : TSm t ∧ SymR t) (hs : s.length ≤ 140737488351232) (hb : sizeT t ≤ 4611686018427387904) : DFun Tryd.prog 4 [.sl false 1 r.length (r.map fun x => .flat (.int .i64 x)), treeD t, strD s] (.flat (.bool true)) := by
  have hK := known_d
  have hrp := ints_pers r
  have hln : (r.map fun x => D.flat (.int .i64 x)).length = r.length := List.length_map _
  by_cases gt : 40 < deepW t ∨ 300 < sizeW t
  · have g1 := great_t t ot.1 gt
    obtain ⟨s1, l1⟩ := t
    rw [treeD_node] at *
    exact rt_g1 _ _ hln hrp or' s1 l1 s hs g1 hK
  · have hsz : sizeW t ≤ 300 := by omega
    have hdp : deepW t ≤ 40 := by omega
    have g1 := great_f t ot.1 (by omega) (by omega)
    by_cases h2 : 2000 < s.length
    · obtain ⟨s1, l1⟩ := t
      rw [treeD_node] at *
      exact rt_g2 _ _ hln hrp or' s1 l1 s hs g1 h2 hK
    · have h2 : s.length ≤ 2000 := by omega
      by_cases h3 : 4096 < r.length
      · obtain ⟨s1, l1⟩ := t
        rw [treeD_node] at *
        exact rt_g3 _ _ hln hrp or' s1 l1 s g1 h2 h3 hK
      · have h3 : r.length ≤ 4096 := by omega
        have a20 := val20_d r (by omega) t ot.1
        have b1 := own_d _ t (Nat.le_refl _) ot.1
        have b4 := back_d _ t (Nat.le_refl _) ot.1
        have b5 := cmp18_d _ t t (Nat.le_refl _) ot.1 ot.1
        rw [cmpT_self] at b5
        have key : rightE r t = 0 → ∃ X, DFun Tryd.prog 15 [treeD t] (strD X) ∧ DFun Tryd.prog 13 [strD X] (.tup [treeD t, .flat (.int .i64 0)]) := fun h0 => by
          obtain ⟨q1, q2, q3, q4⟩ := right_zero h0
          obtain ⟨q5, q6⟩ := alpha_le q1
          have hl := text_len r q5 q6 t q4
          have hse := sizeW_eq t hb
          have hp := parse_text r q5 q6 _ t (Nat.le_refl _) q4 [] (fun b hb => by cases hb) (by intro h; cases h) (by rw [List.append_nil]; omega)
          rw [List.append_nil] at hp
          have h42 := small42_d t ot.1
          rw [if_neg q2, if_neg q3] at h42
          exact ⟨_, format_d t ot.1 ot.2 (by omega), parse13_ok _ t (by omega) hp h42⟩
        obtain ⟨u, f, c1, c2, c3, c4⟩ := parse13_any s h2
        have hss : decide (s = s) = true := decide_eq_true rfl
        have key2 : f = 0 → DFun Tryd.prog 15 [treeD u] (strD s) := fun h0 => by
          have h5 := c4 h0
          have h6 := format_d u c2 c3 (by rw [← h5]; omega)
          rwa [← h5] at h6
        generalize rightE r t = e at *
        clear gt hsz hdp hb ot c2 c3 c4
        obtain ⟨s1, l1⟩ := t
        obtain ⟨s2, l2⟩ := u
        rw [treeD_node] at *
        by_cases he : e = 0
        · obtain ⟨X, k1, k2⟩ := key he
          by_cases hf : f = 0
          · exact rt_11 _ _ hln hrp h3 s1 s2 l1 l2 s h2 g1 hK e a20 (by omega) X b1 k1 k2 b4 b5 f c1 hf hss (key2 hf)
          · exact rt_10 _ _ hln hrp h3 s1 s2 l1 l2 s h2 g1 hK e a20 (by omega) X b1 k1 k2 b4 b5 f c1 hf
        · by_cases hf : f = 0
          · exact rt_01 _ _ hln hrp h3 s1 s2 l1 l2 s h2 g1 hK e a20 (by omega) f c1 hf hss (key2 hf)
          · exact rt_00 _ _ hln hrp h3 s1 s2 l1 l2 s h2 g1 hK e a20 (by omega) f c1 hf
end Go.Proofs.YtohjapcafkhabaaDoor
