/- The example. No condition. -/
import Derived.Test.YtichhfbkhnimmaaYKN1
import Derived.Test.YtichhfbkhnimmaaYDI2
import Derived.Test.YtichhfbkhnimmaaYRP
import Derived.Test.YtichhfbkhnimmaaYPG
import Derived.Test.YtichhfbkhnimmaaYPD
import Derived.Test.YtichhfbkhnimmaaYD5
import Derived.Test.YtichhfbkhnimmaaYA
import Derived.Test.YtichhfbkhnimmaaYBG
import Derived.Test.YtichhfbkhnimmaaYD1
import Derived.Test.YtichhfbkhnimmaaYEC10
import Derived.Test.YtichhfbkhnimmaaXQu

set_option linter.unusedSimpArgs false
set_option linter.unusedVariables false
set_option maxHeartbeats 4000000
set_option maxRecDepth 8000
namespace Go.Proofs.Ytichhfbkhnimmaa
open Go Go.RowKit Go.PP Go.Dm Go.Rt Go.Mn
theorem nine : ∀ base : List D, base.length = 9 * 1 → fillD (fun i => some (i * 1, 1)) base [(0, D.flat (.int .i64 0)), (1, D.flat (.int .i64 1)), (2, D.flat (.int .i64 2)), (3, D.flat (.int .i64 1)), (4, D.flat (.int .i64 2)), (5, D.flat (.int .i64 0)), (6, D.flat (.int .i64 2)), (7, D.flat (.int .i64 0)), (8, D.flat (.int .i64 1))] = some [.flat (.int .i64 0), .flat (.int .i64 1), .flat (.int .i64 2), .flat (.int .i64 1), .flat (.int .i64 2), .flat (.int .i64 0), .flat (.int .i64 2), .flat (.int .i64 0), .flat (.int .i64 1)]
  | [b0, b1, b2, b3, b4, b5, b6, b7, b8], _ => rfl
theorem le1 : Le (.agg [.sl true 1 2 [.flat (.int .i64 0), .flat (.int .i64 2)], .sl true 1 3 [.flat (.bool false), .flat (.bool false), .flat (.bool false)], .sl true 1 2 [.sl true 1 1 [.flat (.int .i64 1)], .sl true 1 9 [.flat (.int .i64 0), .flat (.int .i64 1), .flat (.int .i64 2), .flat (.int .i64 1), .flat (.int .i64 2), .flat (.int .i64 0), .flat (.int .i64 2), .flat (.int .i64 0), .flat (.int .i64 1)]]]) (auD K1) := Le.agg ⟨Le.full, Le.full, Le.full.trans (Le.slc ⟨Le.full, Le.full, trivial⟩), trivial⟩
theorem le2 : Le (.agg [.sl true 1 2 [.flat (.int .i64 0), .flat (.int .i64 2)], .sl true 1 3 [.flat (.bool true), .flat (.bool false), .flat (.bool false)], .sl true 1 2 [.sl true 1 1 [.flat (.int .i64 1)], .sl true 1 9 [.flat (.int .i64 0), .flat (.int .i64 1), .flat (.int .i64 2), .flat (.int .i64 1), .flat (.int .i64 2), .flat (.int .i64 0), .flat (.int .i64 2), .flat (.int .i64 0), .flat (.int .i64 1)]]]) (auD K2) := Le.agg ⟨Le.full, Le.full, Le.full.trans (Le.slc ⟨Le.full, Le.full, trivial⟩), trivial⟩
theorem known_d : DFun Try.prog 12 [] (.flat (.bool true)) := by
  have hm := DFun.le (args' := [.agg [.sl true 1 2 [.flat (.int .i64 0), .flat (.int .i64 2)], .sl true 1 3 [.flat (.bool false), .flat (.bool false), .flat (.bool false)], .sl true 1 2 [.sl true 1 1 [.flat (.int .i64 1)], .sl true 1 9 [.flat (.int .i64 0), .flat (.int .i64 1), .flat (.int .i64 2), .flat (.int .i64 1), .flat (.int .i64 2), .flat (.int .i64 0), .flat (.int .i64 2), .flat (.int .i64 0), .flat (.int .i64 1)]]]]) (minimize_ok K1 k1_ok) ⟨le1, trivial⟩ (Le.refl _)
  have hc := lendLe (args' := [.agg [.sl true 1 2 [.flat (.int .i64 0), .flat (.int .i64 2)], .sl true 1 3 [.flat (.bool true), .flat (.bool false), .flat (.bool false)], .sl true 1 2 [.sl true 1 1 [.flat (.int .i64 1)], .sl true 1 9 [.flat (.int .i64 0), .flat (.int .i64 1), .flat (.int .i64 2), .flat (.int .i64 1), .flat (.int .i64 2), .flat (.int .i64 0), .flat (.int .i64 2), .flat (.int .i64 0), .flat (.int .i64 1)]]]]) (classesE_d K2 k2_ok) ⟨le2, trivial⟩ (Le.refl _)
  have hb := nb_d (clsU K2) (clsU_flat (chk_ok k2_ok)) (by rw [clsU_len]; decide) (by rw [clsU_len]; decide)
  rw [clsU_len, k2_nb] at hb
  obtain ⟨l0, hl0, hd0⟩ : ∃ l : List Nat, l.length = 0 ∧ DFun Try.prog 20 [auD K2, .flat (.int .i64 0), .flat (.int .i64 1)] (.tup [.sl false 3 l.length (spC (wordS K2 l)), .flat (.bool true), .flat (.int .i64 0)]) := by
    refine ⟨[], rfl, dist_walk K2 k2_ok 0 1 (by constructor <;> decide) (by constructor <;> decide) _ (fun l h1 h2 => ?_) (fun h => absurd (h 0) (Classical.not_not.2 (distW_of k2_a)))⟩
    rcases h2 [] k2_a with e | e
    · rw [e]
    · rcases e with e | e
      · exact absurd e (Nat.not_lt_zero _)
      · rw [List.length_eq_zero_iff.1 e.1]
  obtain ⟨l1, hl1, hd1⟩ : ∃ l : List Nat, l.length = 1 ∧ DFun Try.prog 20 [auD K2, .flat (.int .i64 1), .flat (.int .i64 2)] (.tup [.sl false 3 l.length (spC (wordS K2 l)), .flat (.bool true), .flat (.int .i64 0)]) := by
    obtain ⟨g, hg1, hg2⟩ := k2_b
    have hd : Dist K2 1 1 2 := by have := distW_of hg1; rw [hg2] at this; exact this
    have hmin : MinD K2 1 1 2 := ⟨hd, fun e he h => by
      obtain rfl : e = 0 := by omega
      exact (dist_zero.1 h) k2_c⟩
    obtain ⟨a1, a2, a3⟩ := apart_least 1 1 2 (by decide) hmin
    refine ⟨apartL K2 1 1 2, a2, dist_walk K2 k2_ok 1 2 (by constructor <;> decide) (by constructor <;> decide) _ (fun l h1 h2 => ?_) (fun h => absurd (h 1) (Classical.not_not.2 hd))⟩
    rw [sle_antisymm (h2 _ a1) (a3 _ h1)]
  have hd0 := DFun.le (args' := [.agg [.sl true 1 2 [.flat (.int .i64 0), .flat (.int .i64 2)], .sl true 1 3 [.flat (.bool true), .flat (.bool false), .flat (.bool false)], .sl true 1 2 [.sl true 1 1 [.flat (.int .i64 1)], .sl true 1 9 [.flat (.int .i64 0), .flat (.int .i64 1), .flat (.int .i64 2), .flat (.int .i64 1), .flat (.int .i64 2), .flat (.int .i64 0), .flat (.int .i64 2), .flat (.int .i64 0), .flat (.int .i64 1)]]], .flat (.int .i64 0), .flat (.int .i64 1)]) hd0 ⟨le2, Le.refl _, Le.refl _, trivial⟩ (Le.refl _)
  have hd1 := DFun.le (args' := [.agg [.sl true 1 2 [.flat (.int .i64 0), .flat (.int .i64 2)], .sl true 1 3 [.flat (.bool true), .flat (.bool false), .flat (.bool false)], .sl true 1 2 [.sl true 1 1 [.flat (.int .i64 1)], .sl true 1 9 [.flat (.int .i64 0), .flat (.int .i64 1), .flat (.int .i64 2), .flat (.int .i64 1), .flat (.int .i64 2), .flat (.int .i64 0), .flat (.int .i64 2), .flat (.int .i64 0), .flat (.int .i64 1)]]], .flat (.int .i64 1), .flat (.int .i64 2)]) hd1 ⟨le2, Le.refl _, Le.refl _, trivial⟩ (Le.refl _)
  rw [hl0] at hd0
  rw [hl1] at hd1
  have hk2l : K2.final.length = 3 := rfl
  have hmb := k1_len
  rw [hk2l] at hc hb
  have p0 := pers_i ((List.range K1.final.length).map (leastTo K1))
  have p1 := pers_i (clsU K2)
  have p2 := spC_pers (wordS K2 l0)
  have p3 := spC_pers (wordS K2 l1)
  have q1 := pers_i (leastA K1).ranks
  have q2 := pers_b (leastA K1).final
  have q3 := pers_r (leastA K1).to
  rw [auD_eq (leastA K1)] at hm
  generalize ((leastA K1).ranks.map fun x => D.flat (.int .i64 x)) = LR at *
  generalize ((leastA K1).final.map fun x => D.flat (.bool x)) = LB at *
  generalize rowsL (leastA K1).to = LT at *
  generalize (leastA K1).ranks.length = lr at *
  generalize (leastA K1).final.length = lb at *
  generalize (leastA K1).to.length = lt at *
  generalize (((List.range K1.final.length).map (leastTo K1)).map fun x => D.flat (.int .i64 x)) = TO at *
  generalize K1.final.length = nk at *
  generalize ((clsU K2).map fun x => D.flat (.int .i64 x)) = CU at *
  generalize spC (wordS K2 l0) = W0 at *
  generalize spC (wordS K2 l1) = W1 at *
  subst hmb
  refine DFun.enterA Try.func12 Try.ntmps12 ?_
  refine DW.walk ?_
  refine DC.t (T.buildSl (cs := [.flat (.int .i64 0), .flat (.int .i64 1), .flat (.int .i64 2), .flat (.int .i64 1), .flat (.int .i64 2), .flat (.int .i64 0), .flat (.int .i64 2), .flat (.int .i64 0), .flat (.int .i64 1)]) (len := 9) 22 [(0, .const (.int .i64 0), .flat (.int .i64 0)), (1, .const (.int .i64 1), .flat (.int .i64 1)), (2, .const (.int .i64 2), .flat (.int .i64 2)), (3, .const (.int .i64 1), .flat (.int .i64 1)), (4, .const (.int .i64 2), .flat (.int .i64 2)), (5, .const (.int .i64 0), .flat (.int .i64 0)), (6, .const (.int .i64 2), .flat (.int .i64 2)), (7, .const (.int .i64 0), .flat (.int .i64 0)), (8, .const (.int .i64 1), .flat (.int .i64 1))] TySl.h TyZ.h TyI.sz (by decide) (by decide) nine rfl rfl) ⟨rfl, rfl, rfl, rfl, rfl, rfl, rfl, rfl, rfl, trivial⟩ trivial ?_
  refine DC.walk ?_
  exact ⟨.inr rfl, ResOk.one [] rfl rfl trivial (by rw [decide_eq_true rfl]; exact Vw.pers rfl)⟩
end Go.Proofs.Ytichhfbkhnimmaa

set_option linter.unusedSimpArgs false
set_option linter.unusedVariables false
set_option maxHeartbeats 4000000
set_option maxRecDepth 8000
namespace Go.Proofs.Ytichhfbkhnimmaa
open Go Go.RowKit Go.PP Go.Dm Go.Rt Go.Mn
theorem law7_bad (A : Au) (hr : rightB A = false) (b : Nat) (hb : b < 256) : DFun Try.prog 7 [auD A, .flat (.int .u8 ((b : Nat) : Int))] (.flat (.bool true)) := by
  have hrd := right_d A
  rw [hr] at hrd
  have hkn := known_d
  have q1 := pers_i A.ranks
  have q2 := pers_b A.final
  have q3 := pers_r A.to
  rw [auD_eq A] at hrd ⊢
  generalize (A.ranks.map fun x => D.flat (.int .i64 x)) = LR at *
  generalize (A.final.map fun x => D.flat (.bool x)) = LB at *
  generalize rowsL A.to = LT at *
  generalize A.ranks.length = lr at *
  generalize A.final.length = lb at *
  generalize A.to.length = lt at *
  refine DFun.enterA Try.func7 Try.ntmps7 ?_
  refine DW.walk ?_
  exact ⟨.inr rfl, ResOk.one [] rfl rfl trivial (Vw.pers rfl)⟩
theorem law7_d (A : Au) (hr : rightB A = true) (b : Nat) (hb : b < 256) : DFun Try.prog 7 [auD A, .flat (.int .u8 ((b : Nat) : Int))] (.flat (.bool true)) := by
  have hrd := right_d A
  rw [hr] at hrd
  have hk : chk A = 0 := by unfold rightB at hr; simpa using (Bool.and_eq_true_iff.1 hr).2
  have hok := chk_ok hk
  have hkn := known_d
  have hfr := from_d A
  have hn0 := hok.lo
  have hn := hok.hi
  obtain ⟨to, hto, htp⟩ : ∃ to, PermOk A.final.length to ∧ to = if b % 2 = 1 ∧ 1 < A.final.length then rotS A.final.length b else rotL A.final.length b A.final.length := ⟨_, by split; exact rotS_ok (by omega); exact rot_ok (by omega), rfl⟩
  have hpe := permute_d A (few_of hok) to (by rw [hto.len]; omega)
  rw [permuteE_ok hk, permE_ok hto] at hpe
  have hte := trim_d A (few_of hok)
  rw [trimE_ok hk] at hte
  have hce := complement_d A (few_of hok)
  rw [compE_ok hk] at hce
  have hm1 := minimize_ok A hk
  have hsh : ShutL A (backL to) := backL_shut hok hto
  have hm2 := minimize_ok (keptA A (backL to)) (kept_chk hk hsh)
  rw [least_kept hk hsh] at hm2
  have hm3 := minimize_ok (keptA A (foundA A)) (trim_chk hk)
  rw [show leastA (keptA A (foundA A)) = leastA A from least_trim hk] at hm3
  have hm4 := minimize_ok (notA A) (chk_not' hk)
  rw [least_not hk] at hm4
  have hcl := complement_d (leastA A) (few_of (chk_ok (least_chk hk)))
  rw [compE_ok (least_chk hk)] at hcl
  have he1 := equal_d (leastA A) (leastA A) (few_of (chk_ok (least_chk hk))) (few_of (chk_ok (least_chk hk)))
  rw [eqB_self] at he1
  have he2 := equal_d (notA (leastA A)) (notA (leastA A)) (few_of (chk_ok (chk_not' (least_chk hk)))) (few_of (chk_ok (chk_not' (least_chk hk))))
  rw [eqB_self] at he2
  have t1 := pers_i ((List.range A.final.length).map (leastTo A))
  have t2 := pers_i ((List.range (keptA A (backL to)).final.length).map (leastTo (keptA A (backL to))))
  have t3 := pers_i ((List.range (keptA A (foundA A)).final.length).map (leastTo (keptA A (foundA A))))
  have t4 := pers_i ((List.range (notA A).final.length).map (leastTo (notA A)))
  generalize (((List.range A.final.length).map (leastTo A)).map fun x => D.flat (.int .i64 x)) = T1 at *
  generalize (((List.range (keptA A (backL to)).final.length).map (leastTo (keptA A (backL to)))).map fun x => D.flat (.int .i64 x)) = T2 at *
  generalize (((List.range (keptA A (foundA A)).final.length).map (leastTo (keptA A (foundA A)))).map fun x => D.flat (.int .i64 x)) = T3 at *
  generalize (((List.range (notA A).final.length).map (leastTo (notA A))).map fun x => D.flat (.int .i64 x)) = T4 at *
  have hto1 := hto.len
  have hro : ∀ j, ((rotL A.final.length b j).map fun x => D.flat (.int .i64 x)) ++ [.flat (.int .i64 (((j + b) % A.final.length : Nat) : Int))] = ((rotL A.final.length b (j + 1)).map fun x => D.flat (.int .i64 x)) := fun j => by unfold rotL; rw [List.range_succ, List.map_append, List.map_append]; rfl
  have hpI := fun U : List Int => pers_i U
  have hRl : ∀ j, (rotL A.final.length b j).length = j := fun j => by simp [rotL]
  have u1 := pers_i (keptA A (backL to)).ranks
  have u2 := pers_b (keptA A (backL to)).final
  have u3 := pers_r (keptA A (backL to)).to
  rw [auD_eq (keptA A (backL to))] at hpe hm2
  generalize ((keptA A (backL to)).ranks.map fun x => D.flat (.int .i64 x)) = UR at *
  generalize ((keptA A (backL to)).final.map fun x => D.flat (.bool x)) = UB at *
  generalize rowsL (keptA A (backL to)).to = UT at *
  generalize (keptA A (backL to)).ranks.length = ur at *
  generalize (keptA A (backL to)).final.length = ub at *
  generalize (keptA A (backL to)).to.length = ut at *
  have v1 := pers_i (keptA A (foundA A)).ranks
  have v2 := pers_b (keptA A (foundA A)).final
  have v3 := pers_r (keptA A (foundA A)).to
  rw [auD_eq (keptA A (foundA A))] at hte hm3
  generalize ((keptA A (foundA A)).ranks.map fun x => D.flat (.int .i64 x)) = VR at *
  generalize ((keptA A (foundA A)).final.map fun x => D.flat (.bool x)) = VB at *
  generalize rowsL (keptA A (foundA A)).to = VT at *
  generalize (keptA A (foundA A)).ranks.length = vr at *
  generalize (keptA A (foundA A)).final.length = vb at *
  generalize (keptA A (foundA A)).to.length = vt at *
  have x1 := pers_i (notA (leastA A)).ranks
  have x2 := pers_b (notA (leastA A)).final
  have x3 := pers_r (notA (leastA A)).to
  rw [auD_eq (notA (leastA A))] at hcl hm4 he2
  generalize ((notA (leastA A)).ranks.map fun x => D.flat (.int .i64 x)) = XR at *
  generalize ((notA (leastA A)).final.map fun x => D.flat (.bool x)) = XB at *
  generalize rowsL (notA (leastA A)).to = XT at *
  generalize (notA (leastA A)).ranks.length = xr at *
  generalize (notA (leastA A)).final.length = xb at *
  generalize (notA (leastA A)).to.length = xt at *
  have w1 := pers_i (notA A).ranks
  have w2 := pers_b (notA A).final
  have w3 := pers_r (notA A).to
  rw [auD_eq (notA A)] at hce hm4
  generalize ((notA A).ranks.map fun x => D.flat (.int .i64 x)) = WR at *
  generalize ((notA A).final.map fun x => D.flat (.bool x)) = WB at *
  generalize rowsL (notA A).to = WT at *
  generalize (notA A).ranks.length = wr at *
  generalize (notA A).final.length = wb at *
  generalize (notA A).to.length = wt at *
  have k1 := pers_i (leastA A).ranks
  have k2 := pers_b (leastA A).final
  have k3 := pers_r (leastA A).to
  rw [auD_eq (leastA A)] at hm1 hm2 hm3 hcl he1
  generalize ((leastA A).ranks.map fun x => D.flat (.int .i64 x)) = MR at *
  generalize ((leastA A).final.map fun x => D.flat (.bool x)) = MB at *
  generalize rowsL (leastA A).to = MT at *
  generalize (leastA A).ranks.length = mr at *
  generalize (leastA A).final.length = mb at *
  generalize (leastA A).to.length = mt at *
  have q1 := pers_i A.ranks
  have q2 := pers_b A.final
  have q3 := pers_r A.to
  rw [auD_eq A] at hrd hfr hpe hte hce hm1 ⊢
  generalize (A.ranks.map fun x => D.flat (.int .i64 x)) = LR at *
  generalize (A.final.map fun x => D.flat (.bool x)) = LB at *
  generalize rowsL A.to = LT at *
  generalize hnA : A.final.length = n at *
  generalize A.ranks.length = ar at *
  generalize A.to.length = at_ at *
  refine DFun.enterA Try.func7 Try.ntmps7 ?_
  refine DW.walkTo 6 ?_
  refine DW.adopt 7 71 3 1 rfl rfl ?_
  refine DW.walk ?_
  refine DW.loopA (fun j : Nat => ⟨[(1, .flat (.int .u8 ((b : Nat) : Int))), (2, .ptr [.sl false 1 ar LR, .sl false 1 n LB, .sl false 1 at_ LT] 0), (5, .ptr [.sl false 1 ar LR, .sl false 1 n LB, .sl false 1 at_ LT] 0), (6, .flat (.int .i64 ((n : Nat) : Int))), (7, .own 71 j), (8, .flat (.int .i64 ((j : Nat) : Int)))], [(71, some (.row 3 1 j ((rotL n b j).map fun x => D.flat (.int .i64 x))))]⟩) (fun j => j ≤ n) (fun j => n - j) 0 ?_ (Nat.zero_le _)
  intro j hj
  rcases Nat.lt_or_ge j n with hlt | hge
  · have h0 := hpI (rotL n b j)
    have h1 := hpI (rotL n b (j + 1))
    have hr1 := hro j
    generalize hX1 : ((rotL n b (j + 1)).map fun x => D.flat (.int .i64 x)) = X1 at *
    generalize ((rotL n b j).map fun x => D.flat (.int .i64 x)) = X0 at *
    clear hkn hpe hte hce hm1 hm2 hm3 hm4 hcl he1 he2 hro hpI hRl
    refine DW.walk ?_
    rw [hr1]
    exact ⟨j + 1, by omega, by omega, by rw [hX1]; exact Sub.auto⟩
  · obtain rfl : n = j := by omega
    have h0 := hpI (rotL n b n)
    have hpt := hpI to
    by_cases hc : b % 2 = 1 ∧ 1 < n
    · rw [if_pos hc] at htp
      obtain ⟨hc1, hc2⟩ := hc
      have g0 := part_i (l := rotL n b n) (i := 0) (x := (((0 + b) % n : Nat) : Int)) (rotL_get (by omega))
      have g1 := part_i (l := rotL n b n) (i := 1) (x := (((1 + b) % n : Nat) : Int)) (rotL_get (by omega))
      have hl0 : (((rotL n b n).map fun x => D.flat (.int .i64 x))).length = n := by rw [List.length_map, hRl]
      generalize hX0 : ((rotL n b n).map fun x => D.flat (.int .i64 x)) = X0 at *
      generalize hTO : (to.map fun x => D.flat (.int .i64 x)) = TO at *
      clear hro
      have hq : decide (((b % 2 : Nat) : Int) = 1) = true := decide_eq_true (by omega)
      refine DW.walkTo 12 ?_
      refine DC.t (T.storeElp _ _ _ TyI.sz rfl rfl rfl (by rw [splice_len (by simp only [List.length_singleton]; omega)]; omega)) ⟨rfl, rfl, trivial⟩ ⟨rfl, trivial⟩ ?_
      refine DC.walkTo 12 ?_
      have hsw : D.flat (.int .i64 (((1 + b) % n : Nat) : Int)) :: D.flat (.int .i64 (((0 + b) % n : Nat) : Int)) :: List.drop 1 (List.drop 1 X0) = TO := by
        rw [← hTO, htp, ← rotS_set hc2, List.map_set, List.map_set, hX0]
        cases X0 with
        | nil => simp at hl0; omega
        | cons x0 X0 =>
          cases X0 with
          | nil => simp at hl0; omega
          | cons x1 X0 => simp
      rw [hsw]
      refine DW.sub (s' := ⟨[(5, .ptr [.sl false 1 ar LR, .sl false 1 n LB, .sl false 1 at_ LT] 0), (7, .sl false 1 n TO)], []⟩) Sub.auto ?_
      rw [hto1] at hpe
      refine DW.walk ?_
      exact ⟨.inr rfl, ResOk.one [] rfl rfl trivial (by rw [decide_eq_true rfl]; exact Vw.pers rfl)⟩
    · rw [if_neg hc] at htp
      subst htp
      have hc2 : b % 2 = 0 ∨ (b % 2 = 1 ∧ n = 1) := by omega
      generalize ((rotL n b n).map fun x => D.flat (.int .i64 x)) = TO at *
      clear hc hro
      rcases hc2 with hc2 | ⟨hc1, hc2⟩
      have hq : decide (((b % 2 : Nat) : Int) = 1) = false := decide_eq_false (by omega)
      rotate_left
      have hq : decide (((b % 2 : Nat) : Int) = 1) = true := decide_eq_true (by omega)
      all_goals
        refine DW.walkTo 12 ?_
        refine DW.sub (s' := ⟨[(5, .ptr [.sl false 1 ar LR, .sl false 1 n LB, .sl false 1 at_ LT] 0), (7, .sl false 1 n TO)], []⟩) Sub.auto ?_
        rw [hto1] at hpe
        refine DW.walk ?_
        exact ⟨.inr rfl, ResOk.one [] rfl rfl trivial (by rw [decide_eq_true rfl]; exact Vw.pers rfl)⟩
theorem law7_all (A : Au) (z : Int) (h : 0 ≤ z ∧ z ≤ 255) : DFun Try.prog 7 [auD A, .flat (.int .u8 z)] (.flat (.bool true)) := by
  obtain ⟨b, rfl⟩ : ∃ b : Nat, z = ((b : Nat) : Int) := ⟨z.toNat, by omega⟩
  cases hr : rightB A with
  | false => exact law7_bad A hr b (by omega)
  | true => exact law7_d A hr b (by omega)
end Go.Proofs.Ytichhfbkhnimmaa

set_option linter.unusedSimpArgs false
set_option linter.unusedVariables false
set_option maxHeartbeats 1000000
set_option maxRecDepth 8000
namespace Go.Proofs.Ytichhfbkhnimmaa
open Go Go.RowKit Go.PP Go.Dm Go.Rt Go.Mn
theorem opSub {P : Program} {t : TypeId} {n : Nat} {α β : Type} {f : α → List D} {g : β → List D} {ok : α → Prop} {ok2 : β → Prop} (h : Opens P t n f ok) (hl : ∀ y, (g y).length = n) (hs : ∀ y, ok y → ∃ z, g z = f y ∧ ok2 z) : Opens P t n g ok2 :=
  ⟨h.1, hl, fun H enc w base held fuel cs x hx hw => by
    obtain ⟨y, h1, h2⟩ := h.2.2 H enc w base held fuel cs x hx hw
    obtain ⟨z, h3, h4⟩ := hs y h2
    exact ⟨z, h3 ▸ h1, h4⟩⟩
theorem opInt : Opens Try.prog 3 1 (fun z : Int => [.flat (.int .i64 z)]) (fun z => (Lit.int .i64 z).wf = true) := Opens.int (P := Try.prog) TyInt.h (by kernel_rfl)
theorem opU8 : Opens Try.prog 5 1 (fun z : Int => [.flat (.int .u8 z)]) (fun z => (Lit.int .u8 z).wf = true) := Opens.int (P := Try.prog) TyInt.h (by kernel_rfl)
theorem opBool : Opens Try.prog 4 1 (fun z : Bool => [.flat (.bool z)]) (fun _ => True) := Opens.bool (P := Try.prog) (by kernel_rfl) (by kernel_rfl)
theorem u8_range {z : Int} (h : (Lit.int .u8 z).wf = true) : 0 ≤ z ∧ z ≤ 255 := by simpa [Lit.wf, IntKind.min, IntKind.max, IntKind.signed, IntKind.bits] using h
theorem opInts : Opens Try.prog 22 1 (fun l : List Int => [.sl false 1 l.length (l.map fun x => .flat (.int .i64 x))]) (fun _ => True) :=
  opSub (Opens.slice (P := Try.prog) (bytes := 8) Try.underlying22 (by kernel_rfl) (by decide) (by kernel_rfl) opInt) (fun _ => rfl) fun l hl => ⟨l, by simp only [List.map_eq_flatMap], trivial⟩
theorem opBools : Opens Try.prog 23 1 (fun l : List Bool => [.sl false 1 l.length (l.map fun x => .flat (.bool x))]) (fun _ => True) :=
  opSub (Opens.slice (P := Try.prog) (bytes := 1) Try.underlying23 (by kernel_rfl) (by decide) (by kernel_rfl) opBool) (fun _ => rfl) fun l hl => ⟨l, by simp only [List.map_eq_flatMap], trivial⟩
theorem opRows : Opens Try.prog 24 1 (fun l : List (List Int) => [.sl false 1 l.length (rowsL l)]) (fun _ => True) :=
  opSub (Opens.slice (P := Try.prog) (bytes := 24) Try.underlying24 (by kernel_rfl) (by decide) (by kernel_rfl) opInts) (fun _ => rfl) fun l hl => ⟨l, by simp only [rowsL, List.map_eq_flatMap], trivial⟩
theorem opAu : Opens Try.prog 26 3 (fun A : Au => auC A) (fun _ => True) :=
  opSub (Opens.triple (P := Try.prog) (n0 := 1) (n1 := 1) (n2 := 1) Try.underlying26 (by kernel_rfl) rfl rfl rfl opInts opBools opRows) (fun _ => rfl) fun x hx => ⟨⟨x.1, x.2.1, x.2.2⟩, rfl, trivial⟩
end Go.Proofs.Ytichhfbkhnimmaa
