/- The run of an automaton on a tree. No condition. -/
import Derived.Test.YtichhfbkhnimmaaYPD
import Derived.Test.YtichhfbkhnimmaaYD5
import Derived.Test.YtichhfbkhnimmaaYD1
import Derived.Test.YtichhfbkhnimmaaYEO
import Derived.Test.YtichhfbkhnimmaaYDI2
import Derived.Test.YtichhfbkhnimmaaYEC10
import Derived.Test.YtichhfbkhnimmaaYA
import Derived.Test.YtichhfbkhnimmaaYBG
import Derived.Test.YtichhfbkhnimmaaXQu
import Derived.Test.YtichhfbkhnimmaaYTD

set_option linter.unusedSimpArgs false
set_option linter.unusedVariables false
set_option maxHeartbeats 4000000
set_option maxRecDepth 8000
namespace Go.Proofs.Ytichhfbkhnimmaa
open Go Go.RowKit Go.PP Go.Dm Go.Rt Go.Mn
theorem run_d (A : Au) (hk : chk A = 0) : ∀ (n : Nat) (t : Tr), depT t ≤ n → TSm t → nodesE A.ranks t = 0 → DFun Try.prog 75 [auD A, treeD t] (.flat (.int .i64 (stateT A t)))
  | 0, .node s l, h, _, _ => by rw [depT_node] at h; omega
  | n + 1, .node s l, h, hs, hn => by
    have hok := chk_ok hk
    rw [depT_node] at h
    rw [TSm_node] at hs
    have hs1 := hs.1
    have ih := run_d A hk n
    have hat := at_d A hok s (stateL A l) (state_fits hok hn)
    rw [← stateT_node, stateL_map, List.length_map] at hat
    obtain ⟨_, _, _, hl4⟩ := nodes_good hn
    have hno := nodesL_mem hl4
    clear hl4 hn
    have hro : ∀ j k, l[j]? = some k → (((l.take j).map (stateT A)).map fun x => D.flat (.int .i64 x)) ++ [.flat (.int .i64 (stateT A k))] = (((l.take (j + 1)).map (stateT A)).map fun x => D.flat (.int .i64 x)) := fun j k hk => by rw [List.take_add_one, hk]; simp
    have hpI := fun U : List Int => pers_i U
    have hpk := kidsC_pers l
    have hpa := fun (i : Nat) (k : Tr) (h : l[i]? = some k) => part_kids h
    rw [treeD_node]
    have q1 := pers_i A.ranks
    have q2 := pers_b A.final
    have q3 := pers_r A.to
    rw [auD_eq A] at hat ih ⊢
    generalize (A.ranks.map fun x => D.flat (.int .i64 x)) = LR at *
    generalize (A.final.map fun x => D.flat (.bool x)) = LB at *
    generalize rowsL A.to = LT at *
    generalize A.ranks.length = lr at *
    generalize A.final.length = lb at *
    generalize A.to.length = lt at *
    generalize hST : stateT A = ST at *
    refine DFun.enterA Try.func75 Try.ntmps75 ?_
    refine DW.walkTo 2 ?_
    refine DW.adopt 5 71 3 1 rfl rfl ?_
    refine DW.walk ?_
    refine DW.loopA (fun j : Nat => ⟨[(2, .ref 2 0), (3, .ref 3 0), (5, .own 71 j), (9, .sl false 2 l.length (kidsC l)), (10, .flat (.int .i64 ((l.length : Nat) : Int))), (11, .flat (.int .i64 ((j : Nat) : Int)))], [(2, some (.box [.sl false 1 lr LR, .sl false 1 lb LB, .sl false 1 lt LT])), (3, some (.box [.flat (.int .i64 s), .sl false 2 l.length (kidsC l)])), (71, some (.row 3 1 j (((l.take j).map ST).map fun x => D.flat (.int .i64 x))))]⟩) (fun j => j ≤ l.length) (fun j => l.length - j) 0 ?_ (Nat.zero_le _)
    intro j hj
    rcases Nat.lt_or_ge j l.length with hlt | hge
    · obtain ⟨k, hkk⟩ : ∃ k, l[j]? = some k := ⟨_, List.getElem?_eq_getElem hlt⟩
      have hp := hpa j k hkk
      have hd := depL_at hkk
      have hks := TSmL.at hs.2 hkk
      have ihk := ih k (by omega) hks (hno k (List.mem_of_getElem? hkk))
      have hr := hro j k hkk
      have q1 := hpI ((l.take j).map ST)
      have q2 := hpI ((l.take (j + 1)).map ST)
      generalize hX1 : (((l.take (j + 1)).map ST).map fun x => D.flat (.int .i64 x)) = X1 at *
      generalize (((l.take j).map ST).map fun x => D.flat (.int .i64 x)) = X0 at *
      clear ih hkk hs hks hd h hro hpa hno hpI hat
      obtain ⟨s', l'⟩ := k
      rw [treeD_node] at hp ihk
      have hpk2 := kidsC_pers l'
      generalize kidsC l' = KL' at *
      generalize l'.length = ll' at *
      refine DW.walk ?_
      rw [hr]
      exact ⟨j + 1, by omega, by omega, by rw [hX1]; exact Sub.auto⟩
    · obtain rfl : j = l.length := by omega
      rw [List.take_length]
      have q1 := hpI (l.map ST)
      generalize ((l.map ST).map fun x => D.flat (.int .i64 x)) = X0 at *
      clear ih h hs hro hpa hno hpI
      refine DW.sub (s' := ⟨[(2, .ref 2 0), (3, .ref 3 0), (5, .sl false 1 l.length X0), (11, .flat (.int .i64 ((l.length : Nat) : Int))), (10, .flat (.int .i64 ((l.length : Nat) : Int)))], [(2, some (.box [.sl false 1 lr LR, .sl false 1 lb LB, .sl false 1 lt LT])), (3, some (.box [.flat (.int .i64 s), .sl false 2 l.length (kidsC l)]))]⟩) Sub.auto ?_
      refine DW.walk ?_
      exact ⟨.inr rfl, ResOk.one [] rfl rfl trivial (Vw.pers rfl)⟩
theorem run39_d (A : Au) (hk : chk A = 0) (t : Tr) (ts : TSm t) : DFun Try.prog 39 [auD A, treeD t] (.tup [.flat (.int .i64 (if rightE A.ranks t = 0 then stateT A t else 0)), .flat (.int .i64 (((rightE A.ranks t) : Nat) : Int))]) := by
  have hok := chk_ok hk
  have hc := check_d A (few_of hok)
  rw [hk] at hc
  have hrl : A.ranks.length ≤ 1000000000 := Nat.le_trans (few_of hok).r (by decide)
  have hv := val74_d A.ranks hrl t ts
  by_cases he : rightE A.ranks t = 0
  · rw [if_pos he, he]
    rw [he] at hv
    have hn : nodesE A.ranks t = 0 := by
      unfold rightE at he
      split at he
      · omega
      · split at he
        · cases he
        · split at he
          · cases he
          · exact he
    have hr := run_d A hk _ t (Nat.le_refl _) ts hn
    clear he hn hrl
    generalize stateT A t = st at *
    obtain ⟨s, l⟩ := t
    rw [treeD_node] at hv hr ⊢
    have hpk := kidsC_pers l
    generalize kidsC l = KL at *
    generalize l.length = ll at *
    have q1 := pers_i A.ranks
    have q2 := pers_b A.final
    have q3 := pers_r A.to
    rw [auD_eq A] at hc hr ⊢
    generalize (A.ranks.map fun x => D.flat (.int .i64 x)) = LR at *
    generalize (A.final.map fun x => D.flat (.bool x)) = LB at *
    generalize rowsL A.to = LT at *
    generalize A.ranks.length = lr at *
    generalize A.final.length = lb at *
    generalize A.to.length = lt at *
    refine DFun.enterA Try.func39 Try.ntmps39 ?_
    refine DW.walk ?_
    exact ⟨.inr rfl, ResOk.two [] rfl rfl rfl trivial (Vw.pers rfl) (Vw.pers rfl)⟩
  · rw [if_neg he]
    have hne : ((rightE A.ranks t : Nat) : Int) ≠ 0 := by omega
    generalize rightE A.ranks t = re at *
    obtain ⟨s, l⟩ := t
    rw [treeD_node] at hv ⊢
    have hpk := kidsC_pers l
    generalize kidsC l = KL at *
    generalize l.length = ll at *
    have q1 := pers_i A.ranks
    have q2 := pers_b A.final
    have q3 := pers_r A.to
    rw [auD_eq A] at hc ⊢
    generalize (A.ranks.map fun x => D.flat (.int .i64 x)) = LR at *
    generalize (A.final.map fun x => D.flat (.bool x)) = LB at *
    generalize rowsL A.to = LT at *
    generalize A.ranks.length = lr at *
    generalize A.final.length = lb at *
    generalize A.to.length = lt at *
    refine DFun.enterA Try.func39 Try.ntmps39 ?_
    refine DW.walk ?_
    exact ⟨.inr rfl, ResOk.two [] rfl rfl rfl trivial (Vw.pers rfl) (Vw.pers rfl)⟩
end Go.Proofs.Ytichhfbkhnimmaa

set_option linter.unusedSimpArgs false
set_option linter.unusedVariables false
set_option maxHeartbeats 4000000
set_option maxRecDepth 8000
namespace Go.Proofs.Ytichhfbkhnimmaa
open Go Go.RowKit Go.PP Go.Dm Go.Rt Go.Mn
theorem right_nodes {r : List Int} {t : Tr} (he : rightE r t = 0) : nodesE r t = 0 := by
  unfold rightE at he
  split at he
  · omega
  · split at he
    · cases he
    · split at he
      · cases he
      · exact he
theorem acc_d (A : Au) (hk : chk A = 0) (t : Tr) (ts : TSm t) : DFun Try.prog 40 [auD A, treeD t] (.flat (.bool (decide (rightE A.ranks t = 0) && finI A (stateT A t)))) := by
  have hok := chk_ok hk
  have hr := run39_d A hk t ts
  by_cases he : rightE A.ranks t = 0
  · rw [if_pos he, he] at hr
    obtain ⟨h0, h1⟩ := state_rng hok t (right_nodes he)
    obtain ⟨p, hp⟩ := Int.eq_ofNat_of_zero_le h0
    rw [he, show (decide (0 = 0) && finI A (stateT A t)) = finI A (stateT A t) by simp]
    rw [hp] at hr h1 ⊢
    have hpl : p < A.final.length := by omega
    have hb : A.final[p]? = some (finI A ((p : Nat) : Int)) := by unfold finI; rw [Int.toNat_natCast, List.getD_eq_getElem?_getD, List.getElem?_eq_getElem hpl]; rfl
    have hpb := part_b hb
    have hn := hok.hi
    generalize finI A ((p : Nat) : Int) = fb at *
    clear hp he h0 h1 hb
    obtain ⟨s, l⟩ := t
    rw [treeD_node] at hr ⊢
    have hpk := kidsC_pers l
    generalize kidsC l = KL at *
    generalize l.length = ll at *
    have q1 := pers_i A.ranks
    have q2 := pers_b A.final
    have q3 := pers_r A.to
    rw [auD_eq A] at hr ⊢
    generalize (A.ranks.map fun x => D.flat (.int .i64 x)) = LR at *
    generalize (A.final.map fun x => D.flat (.bool x)) = LB at *
    generalize rowsL A.to = LT at *
    generalize A.ranks.length = lr at *
    generalize A.final.length = lb at *
    generalize A.to.length = lt at *
    refine DFun.enterA Try.func40 Try.ntmps40 ?_
    refine DW.walk ?_
    exact ⟨.inr rfl, ResOk.one [] rfl rfl trivial (Vw.pers rfl)⟩
  · rw [if_neg he] at hr
    rw [show (decide (rightE A.ranks t = 0) && finI A (stateT A t)) = false by simp [he]]
    have hne : ((rightE A.ranks t : Nat) : Int) ≠ 0 := by omega
    generalize rightE A.ranks t = re at *
    obtain ⟨s, l⟩ := t
    rw [treeD_node] at hr ⊢
    have hpk := kidsC_pers l
    generalize kidsC l = KL at *
    generalize l.length = ll at *
    have q1 := pers_i A.ranks
    have q2 := pers_b A.final
    have q3 := pers_r A.to
    rw [auD_eq A] at hr ⊢
    generalize (A.ranks.map fun x => D.flat (.int .i64 x)) = LR at *
    generalize (A.final.map fun x => D.flat (.bool x)) = LB at *
    generalize rowsL A.to = LT at *
    generalize A.ranks.length = lr at *
    generalize A.final.length = lb at *
    generalize A.to.length = lt at *
    refine DFun.enterA Try.func40 Try.ntmps40 ?_
    refine DW.walk ?_
    exact ⟨.inr rfl, ResOk.one [] rfl rfl trivial (Vw.pers rfl)⟩
end Go.Proofs.Ytichhfbkhnimmaa

set_option linter.unusedSimpArgs false
set_option linter.unusedVariables false
set_option maxHeartbeats 4000000
set_option maxRecDepth 8000
namespace Go.Proofs.Ytichhfbkhnimmaa
open Go Go.RowKit Go.PP Go.Dm Go.Rt Go.Mn
theorem law8_bad (A : Au) (t : Tr) (ts : TSm t) (hr : rightB A = false ∨ 30 < deepW t ∨ 200 < sizeW t) : DFun Try.prog 8 [auD A, treeD t] (.flat (.bool true)) := by
  have hrd := right_d A
  have hkn := known_d
  have hz := size37_d _ t (Nat.le_refl _) ts
  have hd := deep36_d _ t (Nat.le_refl _) ts
  generalize sizeW t = sz at *
  generalize deepW t = dw at *
  obtain ⟨s, l⟩ := t
  rw [treeD_node] at hz hd ⊢
  have hpk := kidsC_pers l
  generalize kidsC l = KL at *
  generalize l.length = ll at *
  generalize rightB A = rb at *
  have q1 := pers_i A.ranks
  have q2 := pers_b A.final
  have q3 := pers_r A.to
  rw [auD_eq A] at hrd ⊢
  generalize (A.ranks.map fun x => D.flat (.int .i64 x)) = LR at *
  generalize (A.final.map fun x => D.flat (.bool x)) = LB at *
  generalize rowsL A.to = LT at *
  generalize A.ranks.length = lr at *
  generalize A.final.length = lb at *
  generalize A.to.length = lt at *
  cases rb with
  | false =>
    refine DFun.enterA Try.func8 Try.ntmps8 ?_
    refine DW.walk ?_
    exact ⟨.inr rfl, ResOk.one [] rfl rfl trivial (Vw.pers rfl)⟩
  | true =>
    by_cases h30 : 30 < dw
    · refine DFun.enterA Try.func8 Try.ntmps8 ?_
      refine DW.walk ?_
      exact ⟨.inr rfl, ResOk.one [] rfl rfl trivial (Vw.pers rfl)⟩
    · have h200 : 200 < sz := by rcases hr with h | h | h; cases h; exact absurd h h30; exact h
      refine DFun.enterA Try.func8 Try.ntmps8 ?_
      refine DW.walk ?_
      exact ⟨.inr rfl, ResOk.one [] rfl rfl trivial (Vw.pers rfl)⟩
theorem law8_ok (A : Au) (t : Tr) (ts : TSm t) (hr : rightB A = true) (h30 : deepW t ≤ 30) (h200 : sizeW t ≤ 200) : DFun Try.prog 8 [auD A, treeD t] (.flat (.bool true)) := by
  have hrd := right_d A
  rw [hr] at hrd
  have hk : chk A = 0 := by unfold rightB at hr; simpa using (Bool.and_eq_true_iff.1 hr).2
  have hok := chk_ok hk
  have hlk := least_chk hk
  have hkn := known_d
  have hfr := from_d A
  have hz := size37_d _ t (Nat.le_refl _) ts
  have hd := deep36_d _ t (Nat.le_refl _) ts
  have how := own_d _ t (Nat.le_refl _) ts
  have hm := minimize_ok A hk
  have r1 := run39_d A hk t ts
  have r2 := run39_d (leastA A) hlk t ts
  have a1 := acc_d A hk t ts
  have a2 := acc_d (leastA A) hlk t ts
  have hrr : (leastA A).ranks = A.ranks := rfl
  rw [hrr] at r2 a2
  have t1 := pers_i ((List.range A.final.length).map (leastTo A))
  have hn := hok.hi
  generalize sizeW t = sz at *
  generalize deepW t = dw at *
  by_cases he : rightE A.ranks t = 0
  · rw [if_pos he, he] at r1 r2
    rw [he] at a1 a2
    obtain ⟨h0, h1⟩ := state_rng hok t (right_nodes he)
    obtain ⟨p, hp⟩ := Int.eq_ofNat_of_zero_le h0
    obtain ⟨s1, s2⟩ := state_least hk t (right_nodes he)
    rw [s2] at a2
    generalize (decide (0 = 0) && finI A (stateT A t)) = fb at *
    rw [s1, hp, Int.toNat_natCast] at r2
    rw [hp] at r1 h1
    have hpl : p < A.final.length := by omega
    have hpt := part_i (l := (List.range A.final.length).map (leastTo A)) (i := p) (x := leastTo A p) (by rw [List.getElem?_map, List.getElem?_range hpl]; rfl)
    generalize leastTo A p = q at *
    clear hp he h0 h1 s1 s2 hlk hok hk hr hrr ts
    generalize (((List.range A.final.length).map (leastTo A)).map fun x => D.flat (.int .i64 x)) = T1 at *
    obtain ⟨s, l⟩ := t
    rw [treeD_node] at hz hd how r1 r2 a1 a2 ⊢
    have hpk := kidsC_pers l
    generalize kidsC l = KL at *
    generalize l.length = ll at *
    have k1 := pers_i (leastA A).ranks
    have k2 := pers_b (leastA A).final
    have k3 := pers_r (leastA A).to
    rw [auD_eq (leastA A)] at hm r2 a2
    generalize ((leastA A).ranks.map fun x => D.flat (.int .i64 x)) = MR at *
    generalize ((leastA A).final.map fun x => D.flat (.bool x)) = MB at *
    generalize rowsL (leastA A).to = MT at *
    generalize (leastA A).ranks.length = mr at *
    generalize (leastA A).final.length = mb at *
    generalize (leastA A).to.length = mt at *
    have q1 := pers_i A.ranks
    have q2 := pers_b A.final
    have q3 := pers_r A.to
    rw [auD_eq A] at hrd hfr hm r1 a1 ⊢
    generalize (A.ranks.map fun x => D.flat (.int .i64 x)) = LR at *
    generalize (A.final.map fun x => D.flat (.bool x)) = LB at *
    generalize rowsL A.to = LT at *
    generalize A.ranks.length = lr at *
    generalize A.final.length = lb at *
    generalize A.to.length = lt at *
    refine DFun.enterA Try.func8 Try.ntmps8 ?_
    refine DW.walk ?_
    exact ⟨.inr rfl, ResOk.one [] rfl rfl trivial (Vw.pers rfl)⟩
  · rw [if_neg he] at r1 r2
    rw [show (decide (rightE A.ranks t = 0) && finI A (stateT A t)) = false by simp [he]] at a1
    rw [show (decide (rightE A.ranks t = 0) && finI (leastA A) (stateT (leastA A) t)) = false by simp [he]] at a2
    have hne : ((rightE A.ranks t : Nat) : Int) ≠ 0 := by omega
    generalize rightE A.ranks t = re at *
    clear hlk hok hk hr hrr ts
    generalize (((List.range A.final.length).map (leastTo A)).map fun x => D.flat (.int .i64 x)) = T1 at *
    obtain ⟨s, l⟩ := t
    rw [treeD_node] at hz hd how r1 r2 a1 a2 ⊢
    have hpk := kidsC_pers l
    generalize kidsC l = KL at *
    generalize l.length = ll at *
    have k1 := pers_i (leastA A).ranks
    have k2 := pers_b (leastA A).final
    have k3 := pers_r (leastA A).to
    rw [auD_eq (leastA A)] at hm r2 a2
    generalize ((leastA A).ranks.map fun x => D.flat (.int .i64 x)) = MR at *
    generalize ((leastA A).final.map fun x => D.flat (.bool x)) = MB at *
    generalize rowsL (leastA A).to = MT at *
    generalize (leastA A).ranks.length = mr at *
    generalize (leastA A).final.length = mb at *
    generalize (leastA A).to.length = mt at *
    have q1 := pers_i A.ranks
    have q2 := pers_b A.final
    have q3 := pers_r A.to
    rw [auD_eq A] at hrd hfr hm r1 a1 ⊢
    generalize (A.ranks.map fun x => D.flat (.int .i64 x)) = LR at *
    generalize (A.final.map fun x => D.flat (.bool x)) = LB at *
    generalize rowsL A.to = LT at *
    generalize A.ranks.length = lr at *
    generalize A.final.length = lb at *
    generalize A.to.length = lt at *
    refine DFun.enterA Try.func8 Try.ntmps8 ?_
    refine DW.walk ?_
    exact ⟨.inr rfl, ResOk.one [] rfl rfl trivial (Vw.pers rfl)⟩
theorem law8_all (A : Au) (t : Tr) (ts : TSm t ∧ SymR t) : DFun Try.prog 8 [auD A, treeD t] (.flat (.bool true)) := by
  cases hr : rightB A with
  | false => exact law8_bad A t ts.1 (.inl hr)
  | true =>
    by_cases h30 : deepW t ≤ 30
    · by_cases h200 : sizeW t ≤ 200
      · exact law8_ok A t ts.1 hr h30 h200
      · exact law8_bad A t ts.1 (.inr (.inr (by omega)))
    · exact law8_bad A t ts.1 (.inr (.inl (by omega)))
end Go.Proofs.Ytichhfbkhnimmaa

set_option linter.unusedSimpArgs false
set_option linter.unusedVariables false
set_option maxHeartbeats 1000000
set_option maxRecDepth 8000
namespace Go.Proofs.Ytichhfbkhnimmaa
open Go Go.RowKit Go.PP Go.Dm Go.Rt Go.Mn
theorem opTree : Opens Try.prog 74 2 treeC (fun t => TSm t ∧ SymR t) := Opens.tree Try.underlying74 rfl rfl rfl (by kernel_rfl) Try.underlying72 (by kernel_rfl) (by kernel_rfl) (by kernel_rfl) (by kernel_rfl)
end Go.Proofs.Ytichhfbkhnimmaa
