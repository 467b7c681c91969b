/- Splitting a partition: keep. No condition. -/
import Derived.Test.YtichhfbkhnimmaaYKB
import Derived.Test.YtichhfbkhnimmaaYD8
import Derived.Test.YtichhfbkhnimmaaYMG
import Derived.Test.YtichhfbkhnimmaaYME
import Derived.Scope
import Derived.Test.YtichhfbkhnimmaaYD5

set_option linter.unusedSimpArgs false
set_option linter.unusedVariables false
set_option maxHeartbeats 4000000
set_option maxRecDepth 8000
namespace Go.Proofs.Ytichhfbkhnimmaa
open Go Go.RowKit Go.PP Go.Dm Go.Rt Go.Mn
theorem keep0_d (U M : List Int) (n : Nat) (hn : U.length = n) (hn2 : n ≤ 4096) (hM : M.length = n) (hf : Flat U) (hb : KBd (fun b => (U.getD b 0, M.getD b 0)) n) :
    DLend Try.prog 121 [.ref 225626701274425600001 0, .clo (.func 122) [] [.ptr [.sl false 1 M.length (M.map fun x => D.flat (.int .i64 x))] 0]] [(15, none), (90003, none), (225626701274425600001, some (.box [.own 225626701274425600002 n])), (225626701274425600002, some (.row 3 1 n (U.map fun x => D.flat (.int .i64 x))))] [(15, some (.box [.own 90003 n])), (90003, some (.row 3 1 n ((keepU U M).map fun x => D.flat (.int .i64 x)))), (225626701274425600001, some (.box [.own 225626701274425600002 n])), (225626701274425600002, some (.row 3 1 n (U.map fun x => D.flat (.int .i64 x))))] (.ref 15 0) := by
  have h1 := IdAt.of 13 90003
  have hln := len0_d U
  have hhd := fun (a m : Nat) (h : U[a]? = some (m : Int)) => head0_d U hf (by omega) a m h
  have hmk := fun (a : Nat) (x : Int) (h : M[a]? = some x) => mark_d M (by omega) a x h
  have hat := hf.at_
  have hky : ∀ a : Nat, a < n → U[a]? = some (((fun b => (U.getD b 0, M.getD b 0)) a).1) ∧ M[a]? = some (((fun b => (U.getD b 0, M.getD b 0)) a).2) := fun a ha => by
    have e1 : a < U.length := by omega
    have e2 : a < M.length := by omega
    simp [List.getD, e1, e2]
  have hku : keepU U M = fillF (fun a => ((firstK (fun b => (U.getD b 0, M.getD b 0)) a : Nat) : Int)) n n := by rw [fillF_all]; unfold keepU; rw [hn]
  rw [hku]
  generalize (fun b => (U.getD b 0, M.getD b 0)) = k at *
  have hp := pers_i U
  have hpM := pers_i M
  rw [hn] at hln hhd
  generalize (U.map fun x => D.flat (.int .i64 x)) = LU at *
  generalize (M.map fun x => D.flat (.int .i64 x)) = LM at *
  have hz : List.replicate n (D.flat (.int .i64 0)) = ((fillF (fun a => ((firstK k a : Nat) : Int)) n 0).map fun x => D.flat (.int .i64 x)) := by rw [fillF_zero]; simp
  have hset := fun j (h : j < n) => fillF_set (f := fun a => ((firstK k a : Nat) : Int)) h
  have hlen := fun j (h : j ≤ n) => fillF_len (f := fun a => ((firstK k a : Nat) : Int)) h
  have hpf := fun j => pers_i (fillF (fun a => ((firstK k a : Nat) : Int)) n j)
  have hpd : ∀ j, persL (dsK k j) = true := fun j => persL_map (f := fun a : Nat => D.flat (.int .i64 ((a : Nat) : Int))) (fun _ => rfl) (fstK k j)
  have hks0 : ksK k 0 = [] := rfl
  have hds0 : dsK k 0 = [] := rfl
  have hok0 := ksK_ok hb (Nat.zero_le n)
  refine DLend.enterA Try.func121 Try.ntmps121 ?_
  refine DW.walk ?_
  refine DW.loopA (fun j : Nat => ⟨[(0, .ref 225626701274425600001 0), (1, .clo (.func 122) [] [.ptr [.sl false 1 M.length LM] 0]), (5, .ref 15 0), (6, .mp 16), (18, .flat (.int .i64 ((n : Nat) : Int))), (19, .flat (.int .i64 ((j : Nat) : Int)))], [(225626701274425600001, some (.box [.own 225626701274425600002 n])), (225626701274425600002, some (.row 3 1 n LU)), (15, some (.box [.own 90003 n])), (90003, some (.row 3 1 n ((fillF (fun a => ((firstK k a : Nat) : Int)) n j).map fun x => D.flat (.int .i64 x)))), (16, some (.box (.keys (ksK k j) :: dsK k j)))]⟩) (fun j => j ≤ n) (fun j => n - j) 0 ?_ (Nat.zero_le _) (by rw [hks0, hds0]; have hp0 := hpf 0; rw [← hz] at hp0 ⊢; generalize (List.replicate n (D.flat (.int .i64 0))) = RZ at *; exact Sub.auto)
  intro j hj
  rcases Nat.lt_or_ge j n with hlt | hge
  · obtain ⟨u1, u2⟩ := hky j hlt
    obtain ⟨m, hm, -, -⟩ := hat j _ u1
    have hhj := hhd j m (by rw [← hm]; exact u1)
    have hmj := hmk j _ u2
    have hIs := isV_pair (k j).1 (k j).2
    have hs := hset j hlt
    have hl := hlen j hj
    have hl2 : (((fillF (fun a => ((firstK k a : Nat) : Int)) n j).map fun x => D.flat (.int .i64 x))).length = n := by simp [hl]
    have q0 := hpf j
    have q1 := hpf (j + 1)
    have q2 : persL (dsK k j) = true := hpd j
    have q3 : persL (dsK k (j + 1)) = true := hpd (j + 1)
    by_cases he : firstK k j = j
    · have hLN := look_new hb hlt he
      obtain ⟨i, hLT, hdi⟩ := look_put hb hlt he
      obtain ⟨k1, k2⟩ := ksK_new he
      unfold kvK at *
      generalize (k j).2 = y at *
      generalize (k j).1 = x at *
      subst hm
      generalize hKS1 : ksK k (j + 1) = KS1 at *
      generalize hDS1 : dsK k (j + 1) = DS1 at *
      generalize ksK k j = KS at *
      generalize dsK k j = DS0 at *
      generalize hF1 : ((fillF (fun a => ((firstK k a : Nat) : Int)) n (j + 1)).map fun x => D.flat (.int .i64 x)) = F1 at *
      generalize ((fillF (fun a => ((firstK k a : Nat) : Int)) n j).map fun x => D.flat (.int .i64 x)) = F0 at *
      clear hset hlen hpf hpd hhd hmk hat hky hln hz hf hb hks0 hds0 hok0
      refine DW.walk ?_
      rw [hs, ← k1, ← k2]
      exact ⟨j + 1, by omega, by omega, by rw [hF1, hKS1, hDS1]; exact Sub.auto⟩
    · obtain ⟨i, hLT, hdi⟩ := look_old hb hlt he
      obtain ⟨k1, k2⟩ := ksK_old he
      unfold kvK at hLT
      generalize (k j).2 = y at *
      generalize (k j).1 = x at *
      subst hm
      generalize ksK k j = KS at *
      generalize dsK k j = DS0 at *
      generalize hF1 : ((fillF (fun a => ((firstK k a : Nat) : Int)) n (j + 1)).map fun x => D.flat (.int .i64 x)) = F1 at *
      generalize ((fillF (fun a => ((firstK k a : Nat) : Int)) n j).map fun x => D.flat (.int .i64 x)) = F0 at *
      clear hset hlen hpf hpd hhd hmk hat hky hln hz hf hb hks0 hds0 hok0
      refine DW.walk ?_
      rw [hs]
      rw [k2] at q3
      exact ⟨j + 1, by omega, by omega, by rw [hF1, k1, k2]; exact Sub.auto⟩
  · obtain rfl : n = j := by omega
    have q0 := hpf n
    generalize ((fillF (fun a => ((firstK k a : Nat) : Int)) n n).map fun x => D.flat (.int .i64 x)) = F0 at *
    clear hset hlen hpf hhd hmk hat hky hz hf hks0 hds0
    refine DW.walk ?_
    exact ⟨.inr rfl, ResL.oneA⟩
end Go.Proofs.Ytichhfbkhnimmaa

set_option linter.unusedSimpArgs false
set_option linter.unusedVariables false
set_option maxHeartbeats 4000000
set_option maxRecDepth 8000
namespace Go.Proofs.Ytichhfbkhnimmaa
open Go Go.RowKit Go.PP Go.Dm Go.Rt Go.Mn
theorem split0_d (U M : List Int) (n : Nat) (hn : U.length = n) (hn2 : n ≤ 4096) (hM : M.length = n) (hf : Flat U) (hb : KBd (fun b => (U.getD b 0, M.getD b 0)) n) :
    DLend Try.prog 94 [.ref 225626701274425600001 0, .sl false 1 M.length (M.map fun x => D.flat (.int .i64 x))] [(90003, none), (225626701274425600001, some (.box [.own 225626701274425600002 n])), (225626701274425600002, some (.row 3 1 n (U.map fun x => D.flat (.int .i64 x))))] [(90003, some (.row 3 1 n ((keepU U M).map fun x => D.flat (.int .i64 x)))), (225626701274425600001, some (.box [.own 90003 n])), (225626701274425600002, some (.row 3 1 n (U.map fun x => D.flat (.int .i64 x))))] (.flat (.int .i64 0)) := by
  have hk := keep0_d U M n hn hn2 hM hf hb
  have hln := len0_d U
  have hp := pers_i U
  have hpM := pers_i M
  have hpK := pers_i (keepU U M)
  rw [hn] at hln
  generalize (U.map fun x => D.flat (.int .i64 x)) = LU at *
  generalize (M.map fun x => D.flat (.int .i64 x)) = LM at *
  generalize ((keepU U M).map fun x => D.flat (.int .i64 x)) = LK at *
  clear hf hb
  refine DLend.enterA Try.func94 Try.ntmps94 ?_
  refine DW.walkTo 3 ?_
  refine DW.sub (s' := ⟨[(0, .ref 225626701274425600001 0), (3, .ptr [.sl false 1 M.length LM] 0)], [(225626701274425600001, some (.box [.own 225626701274425600002 n])), (225626701274425600002, some (.row 3 1 n LU))]⟩) Sub.auto ?_
  refine DW.walk ?_
  exact ⟨.inr rfl, ResL.oneA⟩
end Go.Proofs.Ytichhfbkhnimmaa

set_option linter.unusedSimpArgs false
set_option linter.unusedVariables false
set_option maxHeartbeats 4000000
set_option maxRecDepth 8000
namespace Go.Proofs.Ytichhfbkhnimmaa
open Go Go.RowKit Go.PP Go.Dm Go.Rt Go.Mn
def spC (l : List Sp) : List D := l.flatMap fun s => [.flat (.int .i64 s.sym), .flat (.int .i64 s.at_), .flat (.int .i64 s.other)]
theorem spC_snoc (l : List Sp) (s : Sp) : spC (l ++ [s]) = spC l ++ [.flat (.int .i64 s.sym), .flat (.int .i64 s.at_), .flat (.int .i64 s.other)] := by simp [spC]
theorem spC_pers (l : List Sp) : persL (spC l) = true := persL_flat (fun _ => rfl) l
def stQ (A : Au) (i : Nat) : List Sp := (List.range i).flatMap (stepsS A)
def stW (A : Au) (i w : Nat) : List Sp := (List.range w).flatMap fun (w : Nat) => ((List.range A.final.length).filter fun (m : Nat) => decide ((m : Int) ∈ foundA A)).map fun (m : Nat) => (⟨i, w, m⟩ : Sp)
def stO (A : Au) (i w o : Nat) : List Sp := ((List.range o).filter fun (m : Nat) => decide ((m : Int) ∈ foundA A)).map fun (m : Nat) => (⟨i, w, m⟩ : Sp)
theorem stQ_succ (A : Au) (i : Nat) : stQ A (i + 1) = stQ A i ++ stepsS A i := by simp [stQ, List.range_succ]
theorem stW_succ (A : Au) (i w : Nat) : stW A i (w + 1) = stW A i w ++ stO A i w A.final.length := by simp [stW, stO, List.range_succ]
theorem stO_succ (A : Au) (i w o : Nat) : stO A i w (o + 1) = if (o : Int) ∈ foundA A then stO A i w o ++ [⟨i, w, o⟩] else stO A i w o := by
  unfold stO
  rw [List.range_succ, List.filter_append, List.map_append]
  by_cases h : (o : Int) ∈ foundA A <;> simp [h]
theorem stO_len (A : Au) (i w o : Nat) : (stO A i w o).length ≤ o := by
  unfold stO
  rw [List.length_map]
  exact Nat.le_trans (List.length_filter_le ..) (by simp)
theorem stW_len (A : Au) (i : Nat) : ∀ w, (stW A i w).length ≤ w * A.final.length
  | 0 => by simp [stW]
  | w + 1 => by
    rw [stW_succ, List.length_append]
    have h1 := stW_len A i w
    have h2 := stO_len A i w A.final.length
    rw [Nat.add_mul]; omega
theorem stepsS_len (A : Au) (hn : A.final.length ≤ 512) (i : Nat) : (stepsS A i).length ≤ 1024 := by
  unfold stepsS
  split
  · simp
  · split
    · have h1 := stW_len A i 2
      unfold stW at h1
      omega
    · simp
theorem stQ_len (A : Au) (hn : A.final.length ≤ 512) : ∀ i, (stQ A i).length ≤ i * 1024
  | 0 => by simp [stQ]
  | i + 1 => by
    rw [stQ_succ, List.length_append]
    have h1 := stQ_len A hn i
    have h2 := stepsS_len A hn i
    omega
theorem steps_d (A : Au) (hk : chk A = 0) : DFun Try.prog 54 [auD A] (.sl false 3 (stepsA A).length (spC (stepsA A))) := by
  have hok := chk_ok hk
  have hre := reach_d A (few_of hok)
  rw [reachE_ok hk] at hre
  have hn := hok.hi
  have hrl := hok.alpha.hi
  have hlb : (isB A.final.length (foundA A)).length = A.final.length := isB_len _ _
  have hgb : ∀ o : Nat, o < A.final.length → partD false 1 (o * 1) ((isB A.final.length (foundA A)).map fun x => D.flat (.bool x)) = some (.flat (.bool (decide ((o : Int) ∈ foundA A)))) := fun o h => part_b (isB_get h _)
  have hpr : ∀ (i : Nat) (x : Int), A.ranks[i]? = some x → partD false 1 (i * 1) (A.ranks.map fun x => D.flat (.int .i64 x)) = some (.flat (.int .i64 x)) := fun i x h => part_i h
  have hrk : ∀ (i : Nat) (x : Int), A.ranks[i]? = some x → ∃ m : Nat, x = (m : Int) ∧ m ≤ 2 := fun i x h => rank_nat hok h
  have hsS : ∀ (i : Nat) (x : Int), A.ranks[i]? = some x → stepsS A i = if x = 1 then [⟨i, 0, -1⟩] else if x = 2 then stW A i 2 else [] := fun i x h => by
    unfold stepsS stW
    simp [List.getD, h]
  have hQl := stQ_len A hn
  have hWl := fun i w => stW_len A i w
  have hOl := fun i w o => stO_len A i w o
  have hQs := stQ_succ A
  have hWs := fun i w => stW_succ A i w
  have hOs := fun i w o => stO_succ A i w o
  have hst : stepsA A = stQ A A.ranks.length := rfl
  rw [hst]
  have hQ0 : stQ A 0 = [] := rfl
  have hW0 : ∀ i, stW A i 0 = [] := fun _ => rfl
  have hO0 : ∀ i w, stO A i w 0 = [] := fun _ _ => rfl
  have hpF := pers_b (isB A.final.length (foundA A))
  have q1 := pers_i A.ranks
  have q2 := pers_b A.final
  have q3 := pers_r A.to
  rw [auD_eq] at *
  rw [hlb] at hre
  generalize ((isB A.final.length (foundA A)).map fun x => D.flat (.bool x)) = LF at *
  generalize (A.ranks.map fun x => D.flat (.int .i64 x)) = LR at *
  generalize (A.final.map fun x => D.flat (.bool x)) = LB at *
  generalize rowsL A.to = LT at *
  generalize stQ A = Q at *
  generalize stW A = W at *
  generalize stO A = O at *
  generalize stepsS A = S at *
  generalize A.final.length = n at *
  clear hst hlb hok
  refine DFun.enterA Try.func54 Try.ntmps54 ?_
  refine DW.walkTo 3 ?_
  refine DW.adopt 5 109 50 3 rfl rfl ?_
  refine DW.sub (s' := ⟨[(1, .ptr [.sl false 1 A.ranks.length LR, .sl false 1 n LB, .sl false 1 A.to.length LT] 0), (3, .sl false 1 n LF), (5, .own 109 0)], [(109, some (.row 50 3 0 []))]⟩) Sub.auto ?_
  refine DW.walk ?_
  refine DW.loopA (fun i : Nat => ⟨[(1, .ptr [.sl false 1 A.ranks.length LR, .sl false 1 n LB, .sl false 1 A.to.length LT] 0), (3, .sl false 1 n LF), (5, .own 109 (Q i).length), (17, .sl false 1 A.ranks.length LR), (18, .flat (.int .i64 ((A.ranks.length : Nat) : Int))), (19, .flat (.int .i64 ((i : Nat) : Int)))], [(109, some (.row 50 3 (Q i).length (spC (Q i))))]⟩) (fun i => i ≤ A.ranks.length) (fun i => A.ranks.length - i) 0 ?_ (Nat.zero_le _) (by rw [hQ0]; exact Sub.auto)
  intro i hi
  rcases Nat.lt_or_ge i A.ranks.length with hil | hig
  · obtain ⟨x, hx⟩ : ∃ x, A.ranks[i]? = some x := ⟨A.ranks[i], by simp⟩
    obtain ⟨m, rfl, hm2⟩ := hrk i x hx
    have hp := hpr i _ hx
    have hss := hsS i _ hx
    have hqs := hQs i
    have hql := hQl i
    have hq1 := spC_pers (Q i)
    have hq2 := spC_pers (Q (i + 1))
    rcases (show m = 0 ∨ m = 1 ∨ m = 2 by omega) with rfl | rfl | rfl
    · rw [if_neg (by decide), if_neg (by decide)] at hss
      rw [hss, List.append_nil] at hqs
      clear hpr hrk hsS hQl hWl hOl hQs hWs hOs hQ0 hW0 hO0 hgb
      refine DW.walk ?_
      refine DW.loopA (fun _ : Unit => ⟨[(34, .flat (.int .i64 0)), (35, .flat (.int .i64 0)), (1, .ptr [.sl false 1 A.ranks.length LR, .sl false 1 n LB, .sl false 1 A.to.length LT] 0), (3, .sl false 1 n LF), (5, .own 109 (Q i).length), (17, .sl false 1 A.ranks.length LR), (18, .flat (.int .i64 ((A.ranks.length : Nat) : Int))), (19, .flat (.int .i64 ((i : Nat) : Int)))], [(109, some (.row 50 3 (Q i).length (spC (Q i))))]⟩) (fun _ => True) (fun _ => 0) () ?_ trivial
      intro _ _
      refine DW.walk ?_
      exact ⟨i + 1, by omega, by omega, by rw [hqs]; exact Sub.auto⟩
    · rw [if_pos (by decide)] at hss
      rw [hss] at hqs
      have hsn := spC_snoc (Q i) ⟨i, 0, -1⟩
      rw [← hqs] at hsn
      have hql2 : (Q (i + 1)).length = (Q i).length + 1 := by rw [hqs]; simp
      clear hpr hrk hsS hQl hWl hOl hQs hWs hOs hQ0 hW0 hO0 hgb hqs
      refine DW.walkTo 8 ?_
      rw [← hsn]
      refine DW.walk ?_
      refine DW.loopA (fun _ : Unit => ⟨[(34, .flat (.int .i64 0)), (35, .flat (.int .i64 0)), (1, .ptr [.sl false 1 A.ranks.length LR, .sl false 1 n LB, .sl false 1 A.to.length LT] 0), (3, .sl false 1 n LF), (5, .own 109 (Q (i + 1)).length), (17, .sl false 1 A.ranks.length LR), (18, .flat (.int .i64 ((A.ranks.length : Nat) : Int))), (19, .flat (.int .i64 ((i : Nat) : Int)))], [(109, some (.row 50 3 (Q (i + 1)).length (spC (Q (i + 1)))))]⟩) (fun _ => True) (fun _ => 0) () ?_ trivial (by rw [hql2]; exact Sub.auto)
      intro _ _
      refine DW.walk ?_
      exact ⟨i + 1, by omega, by omega, Sub.auto⟩
    · rw [if_neg (by decide), if_pos (by decide)] at hss
      rw [hss] at hqs
      clear hpr hrk hsS hQl hQs hQ0
      refine DW.walk ?_
      refine DW.loopA (fun w : Nat => ⟨[(6, .flat (.int .i64 ((i : Nat) : Int))), (34, .flat (.int .i64 ((2 : Nat) : Int))), (35, .flat (.int .i64 ((w : Nat) : Int))), (1, .ptr [.sl false 1 A.ranks.length LR, .sl false 1 n LB, .sl false 1 A.to.length LT] 0), (3, .sl false 1 n LF), (5, .own 109 (Q i ++ W i w).length), (17, .sl false 1 A.ranks.length LR), (18, .flat (.int .i64 ((A.ranks.length : Nat) : Int))), (19, .flat (.int .i64 ((i : Nat) : Int)))], [(109, some (.row 50 3 (Q i ++ W i w).length (spC (Q i ++ W i w))))]⟩) (fun w => w ≤ 2) (fun w => 2 - w) 0 ?_ (Nat.zero_le _) (by rw [hW0, List.append_nil]; exact Sub.auto)
      intro w hw
      have hwl := hWl i w
      have hq3 := spC_pers (Q i ++ W i w)
      rcases Nat.lt_or_ge w 2 with hwlt | hwge
      · refine DW.walk ?_
        refine DW.loopA (fun o : Nat => ⟨[(8, .flat (.int .i64 ((w : Nat) : Int))), (38, .sl false 1 n LF), (39, .flat (.int .i64 ((n : Nat) : Int))), (40, .flat (.int .i64 ((o : Nat) : Int))), (6, .flat (.int .i64 ((i : Nat) : Int))), (34, .flat (.int .i64 ((2 : Nat) : Int))), (35, .flat (.int .i64 ((w : Nat) : Int))), (1, .ptr [.sl false 1 A.ranks.length LR, .sl false 1 n LB, .sl false 1 A.to.length LT] 0), (3, .sl false 1 n LF), (5, .own 109 (Q i ++ W i w ++ O i w o).length), (17, .sl false 1 A.ranks.length LR), (18, .flat (.int .i64 ((A.ranks.length : Nat) : Int))), (19, .flat (.int .i64 ((i : Nat) : Int)))], [(109, some (.row 50 3 (Q i ++ W i w ++ O i w o).length (spC (Q i ++ W i w ++ O i w o))))]⟩) (fun o => o ≤ n) (fun o => n - o) 0 ?_ (Nat.zero_le _) (by rw [hO0, List.append_nil]; exact Sub.auto)
        intro o ho
        have hol := hOl i w o
        have hos := hOs i w o
        have hws := hWs i w
        have hq4 := spC_pers (Q i ++ W i w ++ O i w o)
        rcases Nat.lt_or_ge o n with holt | hoge
        · have hg := hgb o holt
          by_cases hmem : (o : Int) ∈ foundA A
          · rw [decide_eq_true hmem] at hg
            rw [if_pos hmem] at hos
            have hsn := spC_snoc (Q i ++ W i w ++ O i w o) ⟨i, w, o⟩
            have hcat : Q i ++ W i w ++ O i w o ++ [⟨i, w, o⟩] = Q i ++ W i w ++ O i w (o + 1) := by rw [hos, List.append_assoc (Q i ++ W i w)]
            rw [hcat] at hsn
            have hll : (Q i ++ W i w ++ O i w (o + 1)).length = (Q i ++ W i w ++ O i w o).length + 1 := by rw [← hcat]; simp; omega
            have hlb2 : (Q i ++ W i w ++ O i w o).length ≤ i * 1024 + 2000 := by simp only [List.length_append]; have : w * n ≤ 1 * 512 := Nat.mul_le_mul (by omega) hn; omega
            have hq5 := spC_pers (Q i ++ W i w ++ O i w (o + 1))
            generalize hX1 : Q i ++ W i w ++ O i w (o + 1) = X1 at *
            generalize Q i ++ W i w ++ O i w o = X0 at *
            clear hgb hWl hOl hWs hOs hW0 hO0 hws hos hcat hss hqs
            refine DW.walk ?_
            rw [← hsn]
            exact ⟨o + 1, by omega, by omega, by rw [hX1, hll]; exact Sub.auto⟩
          · rw [decide_eq_false hmem] at hg
            rw [if_neg hmem] at hos
            generalize hX0 : Q i ++ W i w ++ O i w o = X0 at *
            clear hgb hWl hOl hWs hOs hW0 hO0 hws hss hqs
            refine DW.walk ?_
            exact ⟨o + 1, by omega, by omega, by rw [hos, hX0]; exact Sub.auto⟩
        · obtain rfl : n = o := by omega
          have hcat : Q i ++ W i w ++ O i w n = Q i ++ W i (w + 1) := by rw [hws, List.append_assoc]
          generalize hX0 : Q i ++ W i w ++ O i w n = X0 at *
          clear hgb hWl hOl hWs hOs hW0 hO0 hws hss hqs hos
          refine DW.walk ?_
          exact ⟨w + 1, by omega, by omega, by rw [← hcat]; exact Sub.auto⟩
      · obtain rfl : w = 2 := by omega
        rw [← hqs]
        clear hgb hWl hOl hWs hOs hW0 hO0 hss hqs hq3 hwl
        refine DW.walk ?_
        exact ⟨i + 1, by omega, by omega, Sub.auto⟩
  · obtain rfl : i = A.ranks.length := by omega
    have hq1 := spC_pers (Q A.ranks.length)
    generalize Q A.ranks.length = X at *
    clear hpr hrk hsS hQl hWl hOl hQs hWs hOs hQ0 hW0 hO0 hgb
    refine DW.walk ?_
    exact ⟨.inr rfl, ResOk.one [(109, some (.row 50 3 X.length (spC X)))] rfl rfl ⟨rfl, trivial⟩ (Vw.own (.head _) (VwL.pers hq1))⟩
end Go.Proofs.Ytichhfbkhnimmaa

set_option linter.unusedSimpArgs false
set_option linter.unusedVariables false
set_option maxHeartbeats 4000000
set_option maxRecDepth 8000
namespace Go.Proofs.Ytichhfbkhnimmaa
open Go Go.RowKit Go.PP Go.Dm Go.Rt Go.Mn
theorem sub_ren {N : Nat} {σ : Sg} {f : Fr} {c a b e n L : Nat} {cs : List D} (hc : lkE σ c = some (.box [.own a L])) (ha : lkE σ a = some (.row e n L cs)) (hb : lkE σ b = none) (hid : newId N b = true) :
    Dm.Sub N ⟨f, σ⟩ ⟨f, (c, some (.box [.own b L])) :: (b, some (.row e n L cs)) :: (a, some .dead) :: σ⟩ := by
  intro w0 M0 B0 act w ⟨g, hs⟩
  have hca : c ≠ a := fun q => by rw [q, ha] at hc; cases hc
  have hcb : c ≠ b := fun q => by rw [q, hb] at hc; cases hc
  have hab : a ≠ b := fun q => by rw [q, hb] at ha; cases ha
  obtain ⟨g', hg'⟩ : ∃ g' : Gh, g' = ⟨g.blk, fun k => if k = b then g.row a else g.row k⟩ := ⟨_, rfl⟩
  have gb : g'.blk = g.blk := by rw [hg']
  have gr : ∀ k, g'.row k = if k = b then g.row a else g.row k := by rw [hg']; intro k; rfl
  clear hg'
  generalize hσ : (c, some (Ent.box [.own b L])) :: (b, some (Ent.row e n L cs)) :: (a, some Ent.dead) :: σ = σ'
  have l : ∀ k, lkE σ' k = if c = k then some (Ent.box [.own b L]) else if b = k then some (Ent.row e n L cs) else if a = k then some Ent.dead else lkE σ k := by
    intro k; rw [← hσ, lkE_cons, lkE_cons, lkE_cons]
  have lc : lkE σ' c = some (.box [.own b L]) := by rw [l, if_pos rfl]
  have lb : lkE σ' b = some (.row e n L cs) := by rw [l, if_neg hcb, if_pos rfl]
  have la : lkE σ' a = some .dead := by rw [l, if_neg hca, if_neg (fun q => hab q.symm), if_pos rfl]
  have lo : ∀ k, k ≠ c → k ≠ b → k ≠ a → lkE σ' k = lkE σ k := fun k h1 h2 h3 => by rw [l, if_neg (fun q => h1 q.symm), if_neg (fun q => h2 q.symm), if_neg (fun q => h3 q.symm)]
  clear l hσ
  have ba : blkOf g' σ' a = none := by unfold blkOf; rw [la]
  have bb0 : blkOf g σ b = none := by unfold blkOf; rw [hb]
  have bb : blkOf g' σ' b = blkOf g σ a := by unfold blkOf; rw [lb, ha, gr, if_pos rfl]
  have bo : ∀ k, k ≠ a → k ≠ b → blkOf g' σ' k = blkOf g σ k := fun k h1 h2 => by
    by_cases h3 : k = c
    · subst h3; unfold blkOf; rw [lc, hc, gb]
    · unfold blkOf; rw [lo k h3 h2 h1, gb, gr, if_neg h2]
  have hsub : ∀ k x, blkOf g' σ' k = some x → ∃ k', blkOf g σ k' = some x ∧ (k = b → k' = a) ∧ (k ≠ b → k' = k ∧ k ≠ a) := fun k x q => by
    by_cases h1 : k = a
    · subst h1; rw [ba] at q; cases q
    · by_cases h2 : k = b
      · subst h2; exact ⟨a, by rw [← bb]; exact q, fun _ => rfl, fun h => absurd rfl h⟩
      · exact ⟨k, by rw [← bo k h1 h2]; exact q, fun h => absurd h h2, fun _ => ⟨rfl, h1⟩⟩
  have hMx : Mx M0 g' σ' = Mx M0 g σ := by
    funext x
    refine propext ⟨fun h => h.imp id fun ⟨k, q⟩ => ?_, fun h => h.imp id fun ⟨k, q⟩ => ?_⟩
    · obtain ⟨k', q', -, -⟩ := hsub k x q; exact ⟨k', q'⟩
    · by_cases h1 : k = a
      · subst h1; exact ⟨b, by rw [bb]; exact q⟩
      · by_cases h2 : k = b
        · subst h2; rw [bb0] at q; cases q
        · exact ⟨k, by rw [bo k h1 h2]; exact q⟩
  have hG : GrowO (some (g, σ)) (some (g', σ')) := by
    refine ⟨fun k ds q => ⟨?_, by rw [gb]⟩, fun k e' n' len ds q => ?_, fun k q => ?_⟩
    · by_cases h3 : k = c
      · subst h3; exact ⟨_, lc⟩
      · exact ⟨ds, by
          have q : lkE σ k = _ := q
          show lkE σ' k = _
          rw [lo k h3 (fun h => by rw [h, hb] at q; cases q) (fun h => by rw [h, ha] at q; cases q)]; exact q⟩
    · have q : lkE σ k = some (.row e' n' len ds) := q
      show lkE σ' k = some .dead ∨ _
      by_cases h1 : k = a
      · subst h1; exact .inl la
      · have h2 : k ≠ b := fun h => by rw [h, hb] at q; cases q
        have h3 : k ≠ c := fun h => by rw [h, hc] at q; cases q
        exact .inr ⟨e', n', len, ds, by show lkE σ' k = _; rw [lo k h3 h2 h1]; exact q, Nat.le_refl _, fun _ => by show g'.row k = g.row k; rw [gr, if_neg h2]⟩
    · have q : lkE σ k = some .dead := q
      show lkE σ' k = _
      rw [lo k (fun h => by rw [h, hc] at q; cases q) (fun h => by rw [h, hb] at q; cases q) (fun h => by rw [h, ha] at q; cases q)]; exact q
  have hr : ∀ d v, Rep (Mx M0 g σ) w (some (g, σ)) d v → Rep (Mx M0 g σ) w (some (g', σ')) d v := fun d v q => Rep.step hG (Mut.refl (fun _ => False) w) (fun _ _ e => e.elim) (fun _ _ q => q) d v q
  have hrl : ∀ d v, RepL (Mx M0 g σ) w (some (g, σ)) d v → RepL (Mx M0 g σ) w (some (g', σ')) d v := fun d v q => RepL.step hG (Mut.refl (fun _ => False) w) (fun _ _ e => e.elim) (fun _ _ q => q) d v q
  refine ⟨g', hs.chg, hs.m0, ?_, hs.sz, fun t => by show Rep (Mx M0 g' σ') w _ _ _; rw [hMx]; exact hr _ _ (hs.tm t), fun k x he => ?_, fun k k' x q1 q2 => ?_, fun k x q => ?_, fun k => ⟨fun ds q => ?_, fun e' n' len ds q => ?_⟩, hs.glo⟩
  · obtain ⟨Ds, h1, h2, h3⟩ := hs.df
    exact ⟨Ds, h1, h2, fun D hD => ⟨(h3 D hD).1, fun k q => by
      obtain ⟨k', q', -, -⟩ := hsub k D q
      exact (h3 D hD).2 k' q'⟩⟩
  · have he : lkE σ' k = some x := he
    show EntOk (Mx M0 g' σ') w g' σ' k x
    rw [hMx]
    by_cases h3 : k = c
    · subst h3
      rw [lc] at he; cases he
      obtain ⟨vs, o, q1, q2, q3⟩ := hs.ent k _ hc
      simp only [RepL] at q2
      obtain ⟨u, us, rfl, r1, rfl⟩ := q2
      refine ⟨[u], o, by rw [gb]; exact q1, ?_, q3.of rfl⟩
      simp only [RepL]
      refine ⟨u, [], rfl, ?_, rfl⟩
      simp only [Rep] at r1 ⊢
      obtain ⟨g0, σ0, e0, r2, a0, c0, r3⟩ := r1
      cases e0
      obtain ⟨r4, r5⟩ := row_at ha r2
      exact ⟨g', σ', rfl, .inr ⟨e, n, L, cs, lb, Nat.le_refl _, fun _ => by rw [gr, if_pos rfl]; exact r5 rfl⟩, a0, c0, r3⟩
    · by_cases h2 : k = b
      · subst h2
        rw [lb] at he; cases he
        obtain ⟨vs, q1, q2⟩ := hs.ent a _ ha
        exact ⟨vs, by rw [gr, if_pos rfl]; exact q1, hrl _ _ q2⟩
      · by_cases h1 : k = a
        · subst h1; rw [la] at he; cases he; trivial
        · rw [lo k h3 h2 h1] at he
          have h0 := hs.ent k x he
          cases x with
          | box ds => obtain ⟨vs, o, q1, q2, q3⟩ := h0; exact ⟨vs, o, by rw [gb]; exact q1, hrl _ _ q2, q3⟩
          | row e' n' len ds => obtain ⟨vs, q1, q2⟩ := h0; exact ⟨vs, by rw [gr, if_neg h2]; exact q1, hrl _ _ q2⟩
          | dead => trivial
  · obtain ⟨k1, p1, p2, p3⟩ := hsub k x q1
    obtain ⟨k2, p4, p5, p6⟩ := hsub k' x q2
    have hk := hs.sep k1 k2 x p1 p4
    by_cases h1 : k = b
    · by_cases h2 : k' = b
      · rw [h1, h2]
      · exact absurd ((p6 h2).1.symm.trans (hk.symm.trans (p2 h1))) (p6 h2).2
    · by_cases h2 : k' = b
      · exact absurd ((p3 h1).1.symm.trans (hk.trans (p5 h2))) (p3 h1).2
      · rw [← (p3 h1).1, hk, (p6 h2).1]
  · obtain ⟨k', q', -, -⟩ := hsub k x q
    exact hs.new k' x q'
  · have q : lkE σ' k = some (.box ds) := q
    show newId N k = true ∨ B0.box k (g'.blk k)
    rw [gb]
    by_cases h3 : k = c
    · subst h3; exact (hs.anc k).1 _ hc
    · by_cases h2 : k = b
      · subst h2; exact .inl hid
      · by_cases h1 : k = a
        · subst h1; rw [la] at q; cases q
        · rw [lo k h3 h2 h1] at q; exact (hs.anc k).1 _ q
  · have q : lkE σ' k = some (.row e' n' len ds) := q
    show newId N k = true ∨ B0.row k len (g'.row k)
    by_cases h2 : k = b
    · subst h2; exact .inl hid
    · by_cases h3 : k = c
      · subst h3; rw [lc] at q; cases q
      · by_cases h1 : k = a
        · subst h1; rw [la] at q; cases q
        · rw [lo k h3 h2 h1] at q; rw [gr, if_neg h2]; exact (hs.anc k).2 _ _ _ _ q
theorem stepR_scope {P : Program} {b : Frame} {a : Act} {k : List Item} {cs : List Frame} {w : World} {c : Code} : step P (lone (b.atR a (.code (.scope c) :: k)) cs w) = .next (lone (b.atR a (.code c :: .inScope c :: k)) cs w) :=
  step_lone_go (by simp [stepG, stepG.exec, Frame.atR])
theorem stepR_inScope {P : Program} {b : Frame} {a : Act} {k : List Item} {cs : List Frame} {w : World} {c : Code} : step P (lone (b.atR a (.inScope c :: k)) cs w) = .next (lone (b.atR a k) cs w) :=
  step_lone_go (by simp [stepG, stepG.exec, Frame.atR])
theorem wpIn_scope {F : Fence} {n : Nat} {P : Program} {Q : Exit → Act → World → Prop} {a : Act} {w : World} {c : Code} (h : c.wpIn F n P (Exit.noGoto Q) a w) : (Code.scope c).wpIn F n P Q a w := by
  intro b k cs hro hb hr
  have h0 : (lone (b.atR a (.code (.scope c) :: k)) cs w).fenced P F := fenced_calm hb hr rfl
  obtain ⟨e, a₁, w₁, hq, harr⟩ := h b (.inScope c :: k) cs hro hb hr
  cases e with
  | normal => exact ⟨.normal, a₁, w₁, hq, .head h0 stepR_scope (StepsIn.trans harr (.one (fenced_calm hb hr rfl) stepR_inScope))⟩
  | exit id =>
    have hx : exitTo id (.inScope c :: k) = exitTo id k := by simp [exitTo]
    exact ⟨.exit id, a₁, w₁, hq, fun k' hk => .head h0 stepR_scope (harr.1 k' (by rw [hx]; exact hk)),
      fun hr' hk => let ⟨k₁, h1, h2⟩ := harr.2 hr' (by rw [hx]; exact hk); ⟨k₁, h1, .head h0 stepR_scope h2⟩⟩
  | goto l => exact hq.elim
  | ret => exact ⟨_, a₁, w₁, hq, .of_steps (.one h0 stepR_scope) harr⟩
  | panic ch => exact ⟨_, a₁, w₁, hq, .of_steps (.one h0 stepR_scope) harr⟩
  | outgrown => exact ⟨_, a₁, w₁, hq, .of_steps (.one h0 stepR_scope) harr⟩
def NoG (Q : Exit → DS → Prop) : Exit → DS → Prop
  | .goto _, _ => False
  | e, s => Q e s
theorem dw_scope {P : Program} {N : Nat} {Q : Exit → DS → Prop} {s : DS} {c : Code} (h : DW P N c s (NoG Q)) : DW P N (.scope c) s Q := ⟨fun w0 M0 B0 a w hs =>
  wpIn_scope (wpIn_mono (h.go w0 M0 B0 a w hs) fun e a' w' ⟨s', q, r⟩ => by
    cases e with
    | normal => exact ⟨s', q, r⟩
    | exit id => exact ⟨s', q, r⟩
    | goto l => exact q.elim
    | ret => exact ⟨s', q, r⟩
    | panic c => exact ⟨s', q, r⟩
    | outgrown => exact ⟨s', q, r⟩)⟩
end Go.Proofs.Ytichhfbkhnimmaa

set_option linter.unusedSimpArgs false
set_option linter.unusedVariables false
set_option maxHeartbeats 4000000
set_option maxRecDepth 8000
namespace Go.Proofs.Ytichhfbkhnimmaa
open Go Go.RowKit Go.PP Go.Dm Go.Rt Go.Mn
def headsL (A : Au) (U : List Int) (s : Sp) : List Int := (List.range A.final.length).map fun (p : Nat) => U.getD (nextI A s (p : Int)).toNat 0
theorem classes1_d (A : Au) (hok : AuOk A) (s : Sp) (hs : SpOk A s) (p : Int) (hp : InA A p) : DFun Try.prog 96 [.flat (.int .i64 p), .ptr [.flat (.int .i64 s.sym), .flat (.int .i64 s.at_), .flat (.int .i64 s.other)] 0, .ptr (auC A) 0] (.flat (.int .i64 (nextI A s p))) := by
  have hx := next_d A hok s hs p hp
  rw [auD_eq] at hx
  rw [auC_eq]
  have q1 := pers_i A.ranks
  have q2 := pers_b A.final
  have q3 := pers_r A.to
  generalize (A.ranks.map fun x => D.flat (.int .i64 x)) = LR at *
  generalize (A.final.map fun x => D.flat (.bool x)) = LB at *
  generalize rowsL A.to = LT at *
  refine DFun.enterA Try.func96 Try.ntmps96 ?_
  refine DW.walk ?_
  exact ⟨.inr rfl, ResOk.one [] rfl rfl trivial (Vw.pers rfl)⟩
theorem heads0_d (A : Au) (hok : AuOk A) (s : Sp) (hs : SpOk A s) (U : List Int) (n : Nat) (hn : A.final.length = n) (hU : U.length = n) (hf : Flat U) :
    DLend Try.prog 95 [.ref 225626701274425600001 0, .clo (.func 96) [] [.ptr [.flat (.int .i64 s.sym), .flat (.int .i64 s.at_), .flat (.int .i64 s.other)] 0, .ptr (auC A) 0]] [(225626701274425600001, some (.box [.own 225626701274425600002 n])), (225626701274425600002, some (.row 3 1 n (U.map fun x => D.flat (.int .i64 x))))] [(225626701274425600001, some (.box [.own 225626701274425600002 n])), (225626701274425600002, some (.row 3 1 n (U.map fun x => D.flat (.int .i64 x))))] (.sl false 1 n ((headsL A U s).map fun x => D.flat (.int .i64 x))) := by
  have hn2 := hok.hi
  have hln := len0_d U
  have hfd := fun (a m : Nat) (h : U[a]? = some (m : Int)) => find0_d U hf (by omega) a m h
  have hc := fun (p : Int) (h : InA A p) => classes1_d A hok s hs p h
  have hin := fun (p : Int) (h : InA A p) => next_in hok hs h
  have hat := hf.at_
  have hHL : headsL A U s = fillF (fun p : Nat => U.getD (nextI A s (p : Int)).toNat 0) n n := by rw [fillF_all]; unfold headsL; rw [hn]
  rw [hHL]
  have hp := pers_i U
  rw [hU] at hln hfd
  have q1 := pers_i A.ranks
  have q2 := pers_b A.final
  have q3 := pers_r A.to
  rw [auC_eq] at *
  generalize (A.ranks.map fun x => D.flat (.int .i64 x)) = LR at *
  generalize (A.final.map fun x => D.flat (.bool x)) = LB at *
  generalize rowsL A.to = LT at *
  generalize (U.map fun x => D.flat (.int .i64 x)) = LU at *
  have hz : List.replicate n (D.flat (.int .i64 0)) = ((fillF (fun p : Nat => U.getD (nextI A s (p : Int)).toNat 0) n 0).map fun x => D.flat (.int .i64 x)) := by rw [fillF_zero]; simp
  have hset := fun j (h : j < n) => fillF_set (f := fun p : Nat => U.getD (nextI A s (p : Int)).toNat 0) h
  have hlen := fun j (h : j ≤ n) => fillF_len (f := fun p : Nat => U.getD (nextI A s (p : Int)).toNat 0) h
  have hpf := fun j => pers_i (fillF (fun p : Nat => U.getD (nextI A s (p : Int)).toNat 0) n j)
  refine DLend.enterA Try.func95 Try.ntmps95 ?_
  refine DW.walk ?_
  refine DW.loopA (fun j : Nat => ⟨[(0, .ref 225626701274425600001 0), (1, .clo (.func 96) [] [.ptr [.flat (.int .i64 s.sym), .flat (.int .i64 s.at_), .flat (.int .i64 s.other)] 0, .ptr [.sl false 1 A.ranks.length LR, .sl false 1 A.final.length LB, .sl false 1 A.to.length LT] 0]), (5, .own 9 n), (11, .flat (.int .i64 ((n : Nat) : Int))), (12, .flat (.int .i64 ((j : Nat) : Int)))], [(225626701274425600001, some (.box [.own 225626701274425600002 n])), (225626701274425600002, some (.row 3 1 n LU)), (9, some (.row 3 1 n ((fillF (fun p : Nat => U.getD (nextI A s (p : Int)).toNat 0) n j).map fun x => D.flat (.int .i64 x))))]⟩) (fun j => j ≤ n) (fun j => n - j) 0 ?_ (Nat.zero_le _) (by have hp0 := hpf 0; rw [← hz] at hp0 ⊢; generalize (List.replicate n (D.flat (.int .i64 0))) = RZ at *; exact Sub.auto)
  intro j hj
  rcases Nat.lt_or_ge j n with hlt | hge
  · have hjin : InA A (j : Int) := ⟨by omega, by omega⟩
    have hcj := hc j hjin
    obtain ⟨g1, g2⟩ := hin j hjin
    have hs1 := hset j hlt
    have hl := hlen j hj
    have hl2 : (((fillF (fun p : Nat => U.getD (nextI A s (p : Int)).toNat 0) n j).map fun x => D.flat (.int .i64 x))).length = n := by rw [List.length_map]; exact hl
    have q0 := hpf j
    have q1 := hpf (j + 1)
    obtain ⟨t, ht⟩ := Int.eq_ofNat_of_zero_le g1
    rw [ht] at hcj g2
    obtain ⟨u, hu⟩ : ∃ u, U[t]? = some u := ⟨U[t]'(by omega), by simp⟩
    obtain ⟨m, rfl, -, -⟩ := hat t u hu
    have hfj := hfd t m hu
    have hval : U.getD (nextI A s (j : Int)).toNat 0 = (m : Int) := by rw [ht]; simp [List.getD, hu]
    rw [hval] at hs1
    generalize hF1 : ((fillF (fun p : Nat => U.getD (nextI A s (p : Int)).toNat 0) n (j + 1)).map fun x => D.flat (.int .i64 x)) = F1 at *
    generalize ((fillF (fun p : Nat => U.getD (nextI A s (p : Int)).toNat 0) n j).map fun x => D.flat (.int .i64 x)) = F0 at *
    clear hset hlen hpf hz hc hin hat hfd hln
    refine DW.walk ?_
    rw [hs1]
    exact ⟨j + 1, by omega, by omega, by rw [hF1]; exact Sub.auto⟩
  · obtain rfl : n = j := by omega
    have q0 := hpf n
    generalize ((fillF (fun p : Nat => U.getD (nextI A s (p : Int)).toNat 0) n n).map fun x => D.flat (.int .i64 x)) = F0 at *
    clear hset hlen hpf hz hc hin hat hfd hln
    refine DW.walkTo 7 ?_
    refine DW.sub (s' := ⟨[(5, .sl false 1 n F0)], [(225626701274425600001, some (.box [.own 225626701274425600002 n])), (225626701274425600002, some (.row 3 1 n LU))]⟩) Sub.auto ?_
    refine DW.walk ?_
    exact ⟨.inr rfl, ResL.oneA⟩
end Go.Proofs.Ytichhfbkhnimmaa
