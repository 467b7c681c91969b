/- Contracts over data: partitions, first part. No condition. -/
import Derived.Test.YtichhfbkhnimmaaYD8
import Derived.Test.YtichhfbkhnimmaaYD1
import Derived.DeepKeys4
import Derived.Maps.Keyed
import Derived.Test.YtichhfbkhnimmaaYME

set_option linter.unusedSimpArgs false
set_option linter.unusedVariables false
set_option maxHeartbeats 4000000
set_option maxRecDepth 8000
namespace Go.Proofs.Ytichhfbkhnimmaa
open Go Go.RowKit Go.PP Go.Dm Go.Rt Go.Mn
theorem stg_ext {w0 w : World} {M0 : Nat → Prop} {B0 : Bd} {N : Nat} {g : Gh} {f : Fr} {σ σ' : Sg} {a : Act} (h : ∀ id, lkE σ id = lkE σ' id) (hs : StG w0 M0 B0 N g ⟨f, σ⟩ a w) : StG w0 M0 B0 N g ⟨f, σ'⟩ a w := by
  have hb : ∀ id, blkOf g σ' id = blkOf g σ id := fun id => by unfold blkOf; rw [h]
  have hM : Mx M0 g σ' = Mx M0 g σ := by funext b; unfold Mx; simp only [hb]
  have hG : GrowO (some (g, σ)) (some (g, σ')) := ⟨fun id cs q => ⟨⟨cs, by rw [← h]; exact q⟩, rfl⟩, fun id e n len cs q => .inr ⟨e, n, len, cs, by rw [← h]; exact q, Nat.le_refl _, fun _ => rfl⟩, fun id q => by rw [← h]; exact q⟩
  have hr : ∀ d v, Rep (Mx M0 g σ) w (some (g, σ)) d v → Rep (Mx M0 g σ) w (some (g, σ')) d v := fun d v q => Rep.step hG (Mut.refl (fun _ => False) w) (fun _ _ e => e.elim) (fun _ _ q => q) d v q
  have hrl : ∀ d v, RepL (Mx M0 g σ) w (some (g, σ)) d v → RepL (Mx M0 g σ) w (some (g, σ')) d v := fun d v q => RepL.step hG (Mut.refl (fun _ => False) w) (fun _ _ e => e.elim) (fun _ _ q => q) d v q
  refine ⟨hs.chg, hs.m0, ?_, hs.sz, fun t => by show Rep (Mx M0 g σ') w _ _ _; rw [hM]; exact hr _ _ (hs.tm t), fun id e he => ?_, fun id id' b q1 q2 => hs.sep id id' b (by rw [← hb]; exact q1) (by rw [← hb]; exact q2), fun id b q => hs.new id b (by rw [← hb]; exact q), fun id => ⟨fun cs q => (hs.anc id).1 cs (by rw [h]; exact q), fun e n len cs q => (hs.anc id).2 e n len cs (by rw [h]; exact q)⟩, hs.glo⟩
  · obtain ⟨Ds, h1, h2, h3⟩ := hs.df
    exact ⟨Ds, h1, h2, fun D hD => ⟨(h3 D hD).1, fun id q => (h3 D hD).2 id (by rw [← hb]; exact q)⟩⟩
  · have h0 := hs.ent id e (by show lkE σ id = _; rw [h]; exact he)
    show EntOk (Mx M0 g σ') w g σ' id e
    rw [hM]
    cases e with
    | box cs => obtain ⟨vs, o, q1, q2, q3⟩ := h0; exact ⟨vs, o, q1, hrl _ _ q2, q3⟩
    | row e n len cs => obtain ⟨vs, q1, q2⟩ := h0; exact ⟨vs, q1, hrl _ _ q2⟩
    | dead => trivial
theorem ens_at {σ : Sg} : ∀ {pe : List (Nat × Option Ent)}, Ens σ pe → ∀ id e, fnd pe id = some e → lkE σ id = e
  | [], _, id, e, h => by simp [fnd] at h
  | p :: r, hE, id, e, h => by
    simp only [fnd] at h
    by_cases q : p.1 = id
    · subst q
      simp at h
      rw [← h]; exact hE.1
    · rw [show (p.1 == id) = false by simpa using q] at h
      exact ens_at hE.2 id e h
theorem tri_quiet {P : Program} {N : Nat} {o : Oper} {pf : List (Operand × D)} {pe : List (Nat × Option Ent)} {d : D} (h : Tri P N o pf pe d pe) : Tri P N o pf pe d [] := by
  refine ⟨fun w0 M0 B0 s a w next Q h1 h2 hd hst hk => h.go w0 M0 B0 s a w next Q h1 h2 hd hst fun a' w' ⟨g, hg⟩ => hk a' w' ⟨g, stg_ext (fun id => ?_) hg⟩⟩
  rw [lkE_app]
  cases hf : fnd pe id with
  | none => rfl
  | some e => exact (ens_at h2 id e hf).symm
structure Flat (U : List Int) : Prop where
  at_ : ∀ (a : Nat) (x : Int), U[a]? = some x → ∃ m : Nat, x = (m : Int) ∧ m ≤ a ∧ U[m]? = some (m : Int)
theorem len0_d (U : List Int) : DLend Try.prog 17 [.ref 225626701274425600001 0] [(225626701274425600001, some (.box [.own 225626701274425600002 U.length])), (225626701274425600002, some (.row 3 1 U.length (U.map fun x => D.flat (.int .i64 x))))] [(225626701274425600001, some (.box [.own 225626701274425600002 U.length])), (225626701274425600002, some (.row 3 1 U.length (U.map fun x => D.flat (.int .i64 x))))] (.flat (.int .i64 ((U.length : Nat) : Int))) := by
  have hp := pers_i U
  have ho := oneL_ints U
  generalize (U.map fun x => D.flat (.int .i64 x)) = LU at *
  refine DLend.enterA Try.func17 Try.ntmps17 ?_
  refine DW.walk ?_
  exact ⟨.inr rfl, ResL.oneA⟩
theorem there0_d (U : List Int) (a : Int) : DLend Try.prog 52 [.ref 225626701274425600001 0, .flat (.int .i64 a)] [(225626701274425600001, some (.box [.own 225626701274425600002 U.length])), (225626701274425600002, some (.row 3 1 U.length (U.map fun x => D.flat (.int .i64 x))))] [(225626701274425600001, some (.box [.own 225626701274425600002 U.length])), (225626701274425600002, some (.row 3 1 U.length (U.map fun x => D.flat (.int .i64 x))))] (.flat (.bool (decide (0 ≤ a ∧ a < (U.length : Int))))) := by
  have hp := pers_i U
  have ho := oneL_ints U
  generalize (U.map fun x => D.flat (.int .i64 x)) = LU at *
  by_cases h0 : 0 ≤ a
  · rw [show decide (0 ≤ a ∧ a < (U.length : Int)) = decide (a < (U.length : Int)) by simp [h0]]
    refine DLend.enterA Try.func52 Try.ntmps52 ?_
    refine DW.walk ?_
    exact ⟨.inr rfl, ResL.oneA⟩
  · rw [show decide (0 ≤ a ∧ a < (U.length : Int)) = false by simp [h0]]
    refine DLend.enterA Try.func52 Try.ntmps52 ?_
    refine DW.walk ?_
    exact ⟨.inr rfl, ResL.oneA⟩
theorem headr0_d (U : List Int) (hU : U.length ≤ 1000000) (a : Nat) (h : U[a]? = some (a : Int)) : DLend Try.prog 97 [.flat (.int .i64 ((a : Nat) : Int)), .ref 6871947673600001 0, .ref 6871947673600002 0] [(225626701274425600001, some (.box [.own 225626701274425600002 U.length])), (225626701274425600002, some (.row 3 1 U.length (U.map fun x => D.flat (.int .i64 x)))), (6871947673600001, some (.box [.ref 225626701274425600001 0])), (6871947673600002, some (.box [.clo (.func 97) [] [.ref 6871947673600001 0, .ref 6871947673600002 0]]))] [(225626701274425600001, some (.box [.own 225626701274425600002 U.length])), (225626701274425600002, some (.row 3 1 U.length (U.map fun x => D.flat (.int .i64 x)))), (6871947673600001, some (.box [.ref 225626701274425600001 0])), (6871947673600002, some (.box [.clo (.func 97) [] [.ref 6871947673600001 0, .ref 6871947673600002 0]]))] (.flat (.int .i64 ((a : Nat) : Int))) := by
  have hp := pers_i U
  have ho := oneL_ints U
  have hq := part_i h
  have ha := (List.getElem?_eq_some_iff.1 h).1
  have hl : (U.map fun x => D.flat (.int .i64 x)).length = U.length := by simp
  generalize (U.map fun x => D.flat (.int .i64 x)) = LU at *
  refine DLend.enterA Try.func97 Try.ntmps97 ?_
  refine DW.walk ?_
  exact ⟨.inr rfl, ResL.oneA⟩
end Go.Proofs.Ytichhfbkhnimmaa

set_option linter.unusedSimpArgs false
set_option linter.unusedVariables false
set_option maxHeartbeats 4000000
set_option maxRecDepth 8000
namespace Go.Proofs.Ytichhfbkhnimmaa
open Go Go.RowKit Go.PP Go.Dm Go.Rt Go.Mn
theorem headx0_d (U : List Int) (hf : Flat U) (hU : U.length ≤ 1000000) (a m : Nat) (h : U[a]? = some (m : Int)) : DLend Try.prog 97 [.flat (.int .i64 ((a : Nat) : Int)), .ref 6871947673600001 0, .ref 6871947673600002 0] [(225626701274425600001, some (.box [.own 225626701274425600002 U.length])), (225626701274425600002, some (.row 3 1 U.length (U.map fun x => D.flat (.int .i64 x)))), (6871947673600001, some (.box [.ref 225626701274425600001 0])), (6871947673600002, some (.box [.clo (.func 97) [] [.ref 6871947673600001 0, .ref 6871947673600002 0]]))] [(225626701274425600001, some (.box [.own 225626701274425600002 U.length])), (225626701274425600002, some (.row 3 1 U.length (U.map fun x => D.flat (.int .i64 x)))), (6871947673600001, some (.box [.ref 225626701274425600001 0])), (6871947673600002, some (.box [.clo (.func 97) [] [.ref 6871947673600001 0, .ref 6871947673600002 0]]))] (.flat (.int .i64 ((m : Nat) : Int))) := by
  obtain ⟨m2, hm, hma, hmm⟩ := hf.at_ a _ h
  have hm : m2 = m := by omega
  subst hm
  by_cases e : m2 = a
  · subst e
    exact headr0_d U hU m2 h
  · have hr := fun _ : Unit => headr0_d U hU m2 hmm
    have hp := pers_i U
    have ho := oneL_ints U
    have hq := part_i h
    have ha := (List.getElem?_eq_some_iff.1 h).1
    have hl : (U.map fun x => D.flat (.int .i64 x)).length = U.length := by simp
    have hset : List.take (a * 1) (U.map fun x => D.flat (.int .i64 x)) ++ [.flat (.int .i64 ((m2 : Nat) : Int))] ++ List.drop (a * 1 + 1) (U.map fun x => D.flat (.int .i64 x)) = U.map fun x => D.flat (.int .i64 x) := by
      have h1 := splice_set (x := .flat (.int .i64 ((m2 : Nat) : Int))) (show a < (U.map fun x => D.flat (.int .i64 x)).length by omega)
      unfold spliceD at h1
      rw [Nat.mul_one]
      refine h1.trans (List.ext_getElem? fun j => ?_)
      rw [List.getElem?_set]
      split
      · rename_i e1
        subst e1
        rw [if_pos (by omega), List.getElem?_map, h]; rfl
      · rfl
    clear h hmm hf
    generalize (U.map fun x => D.flat (.int .i64 x)) = LU at *
    refine DLend.enterA Try.func97 Try.ntmps97 ?_
    have hq2 : partD false 1 (a * 1) (List.take (a * 1) LU ++ [.flat (.int .i64 ((m2 : Nat) : Int))] ++ List.drop (a * 1 + 1) LU) = some (.flat (.int .i64 ((m2 : Nat) : Int))) := by rw [hset]; exact hq
    refine DW.walk ?_
    refine DC.t (tri_quiet (T.lendCA (ar := [_]) (ds := [_]) EntC.h (hr ()) rfl VlL.auto rfl (by first | rfl | decide +kernel) EsL.auto)) ⟨rfl, rfl, trivial⟩ (by repeat (first | exact trivial | refine ⟨rfl, ?_⟩)) ?_
    refine DC.walk ?_
    rw [hset]
    exact ⟨.inr rfl, ResL.oneA⟩
theorem head0_d (U : List Int) (hf : Flat U) (hU : U.length ≤ 1000000) (a m : Nat) (h : U[a]? = some (m : Int)) : DLend Try.prog 53 [.ref 225626701274425600001 0, .flat (.int .i64 ((a : Nat) : Int))] [(225626701274425600001, some (.box [.own 225626701274425600002 U.length])), (225626701274425600002, some (.row 3 1 U.length (U.map fun x => D.flat (.int .i64 x))))] [(225626701274425600001, some (.box [.own 225626701274425600002 U.length])), (225626701274425600002, some (.row 3 1 U.length (U.map fun x => D.flat (.int .i64 x))))] (.flat (.int .i64 ((m : Nat) : Int))) := by
  have hx := headx0_d U hf hU a m h
  have hp := pers_i U
  have ho := oneL_ints U
  have h2 := IdAt.of 2 6871947673600001
  have h5 := IdAt.of 5 6871947673600002
  clear h hf
  generalize (U.map fun x => D.flat (.int .i64 x)) = LU at *
  refine DLend.enterA Try.func53 Try.ntmps53 ?_
  refine DW.walk ?_
  exact ⟨.inr rfl, ResL.oneA⟩
end Go.Proofs.Ytichhfbkhnimmaa

set_option linter.unusedSimpArgs false
set_option linter.unusedVariables false
set_option maxHeartbeats 4000000
set_option maxRecDepth 8000
namespace Go.Proofs.Ytichhfbkhnimmaa
open Go Go.RowKit Go.PP Go.Dm Go.Rt Go.Mn
theorem join0_d (U : List Int) (hf : Flat U) (hU : U.length ≤ 1000000) (a b ma mb : Nat) (h1 : U[a]? = some (ma : Int)) (h2 : U[b]? = some (mb : Int)) (hle : ma ≤ mb) :
    DLend Try.prog 120 [.ref 225626701274425600001 0, .flat (.int .i64 ((a : Nat) : Int)), .flat (.int .i64 ((b : Nat) : Int))] [(225626701274425600001, some (.box [.own 225626701274425600002 U.length])), (225626701274425600002, some (.row 3 1 U.length (U.map fun x => D.flat (.int .i64 x))))] [(225626701274425600001, some (.box [.own 225626701274425600002 U.length])), (225626701274425600002, some (.row 3 1 U.length ((U.set mb (ma : Int)).map fun x => D.flat (.int .i64 x))))] (.flat (.bool (decide ((ma : Int) ≠ (mb : Int))))) := by
  have x1 := head0_d U hf hU a ma h1
  have x2 := head0_d U hf hU b mb h2
  obtain ⟨m2, e2, hm2, hmm⟩ := hf.at_ b _ h2
  have hbl := (List.getElem?_eq_some_iff.1 h2).1
  have hal := (List.getElem?_eq_some_iff.1 h1).1
  have hml : mb < U.length := by omega
  have hp := pers_i U
  have ho := oneL_ints U
  have hl : (U.map fun x => D.flat (.int .i64 x)).length = U.length := by simp
  have hset : List.take (mb * 1) (U.map fun x => D.flat (.int .i64 x)) ++ [.flat (.int .i64 ((ma : Nat) : Int))] ++ List.drop (mb * 1 + 1) (U.map fun x => D.flat (.int .i64 x)) = ((U.set mb (ma : Int)).map fun x => D.flat (.int .i64 x)) := by
    have h1 := splice_set (x := .flat (.int .i64 ((ma : Nat) : Int))) (show mb < (U.map fun x => D.flat (.int .i64 x)).length by omega)
    unfold spliceD at h1
    rw [Nat.mul_one]
    rw [List.map_set]
    exact h1
  have hp2 := pers_i (U.set mb (ma : Int))
  generalize ((U.set mb (ma : Int)).map fun x => D.flat (.int .i64 x)) = LV at *
  generalize (U.map fun x => D.flat (.int .i64 x)) = LU at *
  have hmx : (if (mb : Int) > (ma : Int) then (mb : Int) else (ma : Int)) = (mb : Int) := by split <;> omega
  have hmn : (if (mb : Int) < (ma : Int) then (mb : Int) else (ma : Int)) = (ma : Int) := by split <;> omega
  clear h1 h2 hf e2 hm2 hmm
  refine DLend.enterA Try.func120 Try.ntmps120 ?_
  refine DW.walk ?_
  rw [hset]
  exact ⟨.inr rfl, ResL.oneA⟩
theorem union0_d (U : List Int) (hf : Flat U) (hU : U.length ≤ 1000000) (a b ma mb : Nat) (h1 : U[a]? = some (ma : Int)) (h2 : U[b]? = some (mb : Int)) (hle : ma ≤ mb) :
    DLend Try.prog 93 [.ref 225626701274425600001 0, .flat (.int .i64 ((a : Nat) : Int)), .flat (.int .i64 ((b : Nat) : Int))] [(225626701274425600001, some (.box [.own 225626701274425600002 U.length])), (225626701274425600002, some (.row 3 1 U.length (U.map fun x => D.flat (.int .i64 x))))] [(225626701274425600001, some (.box [.own 225626701274425600002 U.length])), (225626701274425600002, some (.row 3 1 U.length ((U.set mb (ma : Int)).map fun x => D.flat (.int .i64 x))))] (.tup [.flat (.bool (decide ((ma : Int) ≠ (mb : Int)))), .flat (.int .i64 0)]) := by
  have hj := join0_d U hf hU a b ma mb h1 h2 hle
  have t1 := there0_d U a
  have t2 := there0_d U b
  have hbl := (List.getElem?_eq_some_iff.1 h2).1
  have hal := (List.getElem?_eq_some_iff.1 h1).1
  rw [decide_eq_true (by omega)] at t1 t2
  have hp := pers_i U
  have hp2 := pers_i (U.set mb (ma : Int))
  generalize ((U.set mb (ma : Int)).map fun x => D.flat (.int .i64 x)) = LV at *
  generalize (U.map fun x => D.flat (.int .i64 x)) = LU at *
  clear h1 h2 hf
  refine DLend.enterA Try.func93 Try.ntmps93 ?_
  refine DW.walk ?_
  exact ⟨.inr rfl, ResL.twoA⟩
theorem find0_d (U : List Int) (hf : Flat U) (hU : U.length ≤ 1000000) (a ma : Nat) (h1 : U[a]? = some (ma : Int)) :
    DLend Try.prog 18 [.ref 225626701274425600001 0, .flat (.int .i64 ((a : Nat) : Int))] [(225626701274425600001, some (.box [.own 225626701274425600002 U.length])), (225626701274425600002, some (.row 3 1 U.length (U.map fun x => D.flat (.int .i64 x))))] [(225626701274425600001, some (.box [.own 225626701274425600002 U.length])), (225626701274425600002, some (.row 3 1 U.length (U.map fun x => D.flat (.int .i64 x))))] (.tup [.flat (.int .i64 ((ma : Nat) : Int)), .flat (.int .i64 0)]) := by
  have hh := head0_d U hf hU a ma h1
  have t1 := there0_d U a
  have hal := (List.getElem?_eq_some_iff.1 h1).1
  rw [decide_eq_true (by omega)] at t1
  have hp := pers_i U
  generalize (U.map fun x => D.flat (.int .i64 x)) = LU at *
  clear h1 hf
  refine DLend.enterA Try.func18 Try.ntmps18 ?_
  refine DW.walk ?_
  exact ⟨.inr rfl, ResL.twoA⟩
end Go.Proofs.Ytichhfbkhnimmaa

set_option linter.unusedSimpArgs false
set_option linter.unusedVariables false
set_option maxHeartbeats 4000000
set_option maxRecDepth 8000
namespace Go.Proofs.Ytichhfbkhnimmaa
open Go Go.RowKit Go.PP Go.Dm Go.Rt Go.Mn
def fillU (n j : Nat) : List Int := ((List.range j).map fun (i : Nat) => (i : Int)) ++ List.replicate (n - j) 0
theorem fillU_len {n j : Nat} (h : j ≤ n) : (fillU n j).length = n := by simp [fillU]; omega
def idU (n : Nat) : List Int := (List.range n).map fun (i : Nat) => (i : Int)
theorem fillU_all (n : Nat) : fillU n n = idU n := by simp [fillU, idU]
theorem fillU_zero (n : Nat) : fillU n 0 = List.replicate n 0 := by simp [fillU]
theorem fillU_next {n j : Nat} (h : j < n) : (fillU n j).set j (j : Int) = fillU n (j + 1) := by
  refine List.ext_getElem? fun i => ?_
  have hl := fillU_len (n := n) (j := j) (by omega)
  rw [List.getElem?_set, hl]
  by_cases e : j = i
  · subst e
    rw [if_pos rfl, if_pos h]
    unfold fillU
    rw [List.getElem?_append_left (by simp)]
    simp
  · rw [if_neg e]
    unfold fillU
    by_cases e2 : i < j
    · rw [List.getElem?_append_left (by simp; omega), List.getElem?_append_left (by simp; omega)]
      simp [e2, show i < j + 1 by omega]
    · rw [List.getElem?_append_right (by simp; omega), List.getElem?_append_right (by simp; omega)]
      simp only [List.length_map, List.length_range, List.getElem?_replicate]
      by_cases e3 : i < n
      · rw [if_pos (by omega), if_pos (by omega)]
      · rw [if_neg (by omega), if_neg (by omega)]
theorem fillU_set {n j : Nat} (h : j < n) : List.take (j * 1) ((fillU n j).map fun x => D.flat (.int .i64 x)) ++ [.flat (.int .i64 ((j : Nat) : Int))] ++ List.drop (j * 1 + 1) ((fillU n j).map fun x => D.flat (.int .i64 x)) = ((fillU n (j + 1)).map fun x => D.flat (.int .i64 x)) := by
  have hl := fillU_len (n := n) (j := j) (by omega)
  have h1 := splice_set (x := .flat (.int .i64 ((j : Nat) : Int))) (show j < (((fillU n j).map fun x => D.flat (.int .i64 x))).length by simp [hl, h])
  unfold spliceD at h1
  rw [Nat.mul_one, ← fillU_next h, List.map_set]
  exact h1
theorem new_d (n : Nat) (hn : n ≤ 4096) : DLend Try.prog 92 [.flat (.int .i64 ((n : Nat) : Int))] [(225626701274425600001, none), (225626701274425600002, none)] [(225626701274425600001, some (.box [.own 225626701274425600002 n])), (225626701274425600002, some (.row 3 1 n ((idU n).map fun x => D.flat (.int .i64 x))))] (.tup [.ref 225626701274425600001 0, .flat (.int .i64 0)]) := by
  have h1 := IdAt.of 13 225626701274425600002
  have h2 := IdAt.of 15 225626701274425600001
  have hz : List.replicate n (D.flat (.int .i64 0)) = ((fillU n 0).map fun x => D.flat (.int .i64 x)) := by rw [fillU_zero]; simp
  have hset := fun j (h : j < n) => fillU_set h
  have hlen := fun j (h : j ≤ n) => fillU_len h
  have hp := fun j => pers_i (fillU n j)
  refine DLend.enterA Try.func92 Try.ntmps92 ?_
  refine DW.walk ?_
  refine DW.loopA (fun j : Nat => ⟨[(4, .ref 225626701274425600001 0), (16, .flat (.int .i64 ((n : Nat) : Int))), (17, .flat (.int .i64 ((j : Nat) : Int)))], [(225626701274425600001, some (.box [.own 225626701274425600002 n])), (225626701274425600002, some (.row 3 1 n ((fillU n j).map fun x => D.flat (.int .i64 x))))]⟩) (fun j => j ≤ n) (fun j => n - j) 0 ?_ (Nat.zero_le _) (by have hp0 := hp 0; rw [← hz] at hp0 ⊢; generalize (List.replicate n (D.flat (.int .i64 0))) = RZ at *; exact Sub.auto)
  intro j hj
  rcases Nat.lt_or_ge j n with hlt | hge
  · have hs := hset j hlt
    have hl := hlen j hj
    have hl2 : (((fillU n j).map fun x => D.flat (.int .i64 x))).length = n := by simp [hl]
    have q0 := hp j
    have q1 := hp (j + 1)
    generalize hF1 : ((fillU n (j + 1)).map fun x => D.flat (.int .i64 x)) = F1 at *
    generalize hF0 : ((fillU n j).map fun x => D.flat (.int .i64 x)) = F0 at *
    clear hset hlen hp hz
    refine DW.walk ?_
    rw [hs]
    exact ⟨j + 1, by omega, by omega, by rw [hF1]; exact Sub.auto⟩
  · obtain rfl : n = j := by omega
    rw [fillU_all]
    have q0 := pers_i (idU n)
    generalize ((idU n).map fun x => D.flat (.int .i64 x)) = F0 at *
    clear hset hlen hp hz
    refine DW.walk ?_
    exact ⟨.inr rfl, ResL.twoA⟩
end Go.Proofs.Ytichhfbkhnimmaa

set_option linter.unusedSimpArgs false
set_option linter.unusedVariables false
set_option maxHeartbeats 4000000
set_option maxRecDepth 8000
namespace Go.Proofs.Ytichhfbkhnimmaa
open Go Go.RowKit Go.PP Go.Dm Go.Rt Go.Mn
def kvP (x y : Int) : Value := .agg [Value.int .i64 x, Value.int .i64 y].toArray
theorem isV_pair (x y : Int) : IsV (.agg [.flat (.int .i64 x), .flat (.int .i64 y)]) (kvP x y) := IsV.agg [Value.int .i64 x, Value.int .i64 y] rfl
theorem kvP_inj {x y x' y' : Int} (h : kvP x y = kvP x' y') : x = x' ∧ y = y' := by
  unfold kvP at h
  injection h with h
  have h1 := congrArg Array.toList h
  simp only [List.toList_toArray] at h1
  injection h1 with h2 h3
  injection h3 with h3
  injection h2 with _ h2
  injection h3 with _ h3
  exact ⟨h2, h3⟩
theorem types_size : ∃ n, Try.prog.types.size + 1 = n + 2 := by
  have h : 0 < Try.prog.types.size := by decide +kernel
  exact ⟨Try.prog.types.size - 1, by omega⟩
def fieldsOf : Option TypeDesc → Option (List (TypeId × Nat) × Bool)
  | some (.struct fs) => some (fs.toList.map fun f => (f.type, f.offset), fs.all (·.name != "_"))
  | _ => none
theorem i64_wf {x : Int} (h0 : -1000000000 ≤ x) (h1 : x ≤ 1000000000) : (Lit.int .i64 x).wf = true := by
  simp [Lit.wf, IntKind.min, IntKind.max, IntKind.signed, IntKind.bits]
  omega
theorem key_pair {x y : Int} (hx0 : -1000000000 ≤ x) (hx1 : x ≤ 1000000000) (hy0 : -1000000000 ≤ y) (hy1 : y ≤ 1000000000) : ∃ l, keyOf Try.prog 171 (kvP x y) = some l := by
  have hF : fieldsOf (Try.prog.underlying 171) = some ([(3, 0), (3, 1)], true) := by kernel_rfl
  have hc : Try.prog.cellsOf 171 = 2 := by kernel_rfl
  have hc2 : Try.prog.cellsOf 3 = 1 := by kernel_rfl
  have hu2 : Try.prog.underlying 3 = some (.int .i64) := by kernel_rfl
  have hk : Try.prog.keyType 171 = true := by kernel_rfl
  have hx := i64_wf hx0 hx1
  have hy := i64_wf hy0 hy1
  obtain ⟨n, hn⟩ := types_size
  have hu : ∃ fs, Try.prog.underlying 171 = some (.struct fs) ∧ fs.toList.map (fun f => (f.type, f.offset)) = [(3, 0), (3, 1)] ∧ fs.all (·.name != "_") = true := by
    generalize Try.prog.underlying 171 = u at hF
    unfold fieldsOf at hF
    split at hF
    · rename_i fs
      simp only [Option.some.injEq, Prod.mk.injEq] at hF
      exact ⟨fs, rfl, hF.1, hF.2⟩
    · cases hF
  obtain ⟨fs, hu, hf, hall⟩ := hu
  obtain ⟨f0, f1, hfs, e0, e1, e2, e3⟩ : ∃ f0 f1, fs.toList = [f0, f1] ∧ f0.type = 3 ∧ f0.offset = 0 ∧ f1.type = 3 ∧ f1.offset = 1 := by
    generalize fs.toList = q at hf
    cases q with
    | nil => simp at hf
    | cons f0 r =>
      cases r with
      | nil => simp at hf
      | cons f1 r2 =>
        cases r2 with
        | nil =>
          simp only [List.map_cons, List.map_nil, List.cons.injEq, Prod.mk.injEq, and_true] at hf
          exact ⟨f0, f1, rfl, hf.1.1, hf.1.2, hf.2.1, hf.2.2⟩
        | cons f2 r3 => simp at hf
  have hl : Try.prog.keyLits (n + 2) 171 [Value.int .i64 x, Value.int .i64 y] = some [.int .i64 x, .int .i64 y] := by
    have hi : ∀ z : Int, (Lit.int .i64 z).wf = true → Try.prog.keyLits (n + 1) 3 [Value.int .i64 z] = some [.int .i64 z] := fun z hz => by
      unfold Program.keyLits
      simp only [hu2, hz, and_self, if_true]
    rw [Program.keyLits.eq_def]
    simp only [hu, hc, List.length_cons, List.length_nil, hall, and_self, if_true, hfs]
    simp [e0, e1, e2, e3, hc2, hi x hx, hi y hy]
  refine ⟨.string (keyBytes [.int .i64 x, .int .i64 y]), ?_⟩
  unfold keyOf
  rw [hu]
  simp only [hk, hn, kvP, Value.formed, hu, hc, Value.cells, Bool.true_and, List.size_toArray, List.length_cons, List.length_nil, hl, decide_true, beq_self_eq_true, if_true, Option.map_some]
theorem keyed_pair : Maps.Keyed Try.prog 171 := Maps.Keyed.of_law (deep_law_laid (by kernel_rfl) (m := 2) (by decide) (by decide +kernel) (by kernel_rfl) (by kernel_rfl))
end Go.Proofs.Ytichhfbkhnimmaa

set_option linter.unusedSimpArgs false
set_option linter.unusedVariables false
set_option maxHeartbeats 4000000
set_option maxRecDepth 8000
namespace Go.Proofs.Ytichhfbkhnimmaa
open Go Go.RowKit Go.PP Go.Dm Go.Rt Go.Mn
theorem first_in {n p : Nat} {f : Nat → Bool} (hp : p < n) (h : f p = true) : ∃ q, (List.range n).find? f = some q ∧ q ≤ p ∧ f q = true ∧ ∀ r, r < q → f r = false := find_first hp h
def firstK (k : Nat → Int × Int) (a : Nat) : Nat := ((List.range (a + 1)).find? fun b => decide (k b = k a)).getD 0
theorem firstK_spec (k : Nat → Int × Int) (a : Nat) : firstK k a ≤ a ∧ k (firstK k a) = k a ∧ ∀ b, b < firstK k a → k b ≠ k a := by
  obtain ⟨q, h1, h2, h3, h4⟩ := first_in (n := a + 1) (p := a) (f := fun b => decide (k b = k a)) (by omega) (by simp)
  have hq : firstK k a = q := by unfold firstK; rw [h1]; rfl
  rw [hq]
  exact ⟨h2, by simpa using h3, fun b hb => by simpa using h4 b hb⟩
def fstK (k : Nat → Int × Int) (j : Nat) : List Nat := (List.range j).filter fun a => decide (firstK k a = a)
theorem fstK_succ (k : Nat → Int × Int) (j : Nat) : fstK k (j + 1) = fstK k j ++ (if firstK k j = j then [j] else []) := by
  unfold fstK
  rw [List.range_succ, List.filter_append]
  congr 1
  by_cases h : firstK k j = j <;> simp [h]
theorem mem_fstK {k : Nat → Int × Int} {j a : Nat} : a ∈ fstK k j ↔ a < j ∧ firstK k a = a := by simp [fstK]
theorem firstK_first (k : Nat → Int × Int) (a : Nat) : firstK k (firstK k a) = firstK k a := by
  obtain ⟨h1, h2, h3⟩ := firstK_spec k a
  obtain ⟨g1, g2, g3⟩ := firstK_spec k (firstK k a)
  rcases Nat.lt_or_ge (firstK k (firstK k a)) (firstK k a) with h | h
  · exact absurd (g2.trans h2) (h3 _ h)
  · omega
theorem fstK_inj {k : Nat → Int × Int} {a b : Nat} (ha : firstK k a = a) (hb : firstK k b = b) (h : k a = k b) : a = b := by
  obtain ⟨h1, h2, h3⟩ := firstK_spec k a
  obtain ⟨g1, g2, g3⟩ := firstK_spec k b
  rcases Nat.lt_trichotomy a b with q | q | q
  · exact absurd h (g3 a (by omega))
  · exact q
  · exact absurd h.symm (h3 b (by omega))
def kvK (k : Nat → Int × Int) (a : Nat) : Value := kvP (k a).1 (k a).2
def ksK (k : Nat → Int × Int) (j : Nat) : List Value := (fstK k j).map (kvK k)
def dsK (k : Nat → Int × Int) (j : Nat) : List D := (fstK k j).map fun a => D.flat (.int .i64 ((a : Nat) : Int))
theorem kvK_inj {k : Nat → Int × Int} {a b : Nat} (h : kvK k a = kvK k b) : k a = k b := by
  have := kvP_inj h
  exact Prod.ext this.1 this.2
structure KBd (k : Nat → Int × Int) (n : Nat) : Prop where
  x0 : ∀ a, a < n → -1000000000 ≤ (k a).1 ∧ (k a).1 ≤ 1000000000
  y0 : ∀ a, a < n → -1000000000 ≤ (k a).2 ∧ (k a).2 ≤ 1000000000
theorem ksK_ok {k : Nat → Int × Int} {n j : Nat} (hb : KBd k n) (hj : j ≤ n) : KeysOk Try.prog 171 (ksK k j) := by
  refine ⟨keyed_pair, fun v hv => ?_, ?_⟩
  · obtain ⟨a, ha, rfl⟩ := List.mem_map.1 hv
    have ha := (mem_fstK.1 ha).1
    exact key_pair (hb.x0 a (by omega)).1 (hb.x0 a (by omega)).2 (hb.y0 a (by omega)).1 (hb.y0 a (by omega)).2
  · unfold ksK
    have hnd : (fstK k j).Nodup := List.Nodup.sublist List.filter_sublist List.nodup_range
    refine List.Nodup.sublist (List.Sublist.refl _) ?_
    rw [List.nodup_iff_pairwise_ne, List.pairwise_map]
    refine (List.nodup_iff_pairwise_ne.1 hnd).imp_of_mem fun {a b} ha hb hne e => hne ?_
    exact fstK_inj (mem_fstK.1 ha).2 (mem_fstK.1 hb).2 (kvK_inj e)
theorem look_old {k : Nat → Int × Int} {n j : Nat} (hb : KBd k n) (hj : j < n) (hlt : firstK k j ≠ j) : ∃ i, LookT Try.prog 171 (ksK k j) (kvK k j) i ∧ (dsK k j)[i]? = some (D.flat (.int .i64 ((firstK k j : Nat) : Int))) := by
  obtain ⟨h1, h2, h3⟩ := firstK_spec k j
  have hm : firstK k j ∈ fstK k j := mem_fstK.2 ⟨by omega, firstK_first k j⟩
  obtain ⟨i, hi⟩ := List.getElem?_of_mem hm
  refine ⟨i, ⟨ksK_ok hb (by omega), ?_⟩, ?_⟩
  · unfold ksK
    rw [List.getElem?_map, hi]
    show some (kvK k (firstK k j)) = _
    unfold kvK
    rw [h2]
  · unfold dsK
    rw [List.getElem?_map, hi]; rfl
theorem look_new {k : Nat → Int × Int} {n j : Nat} (hb : KBd k n) (hj : j < n) (he : firstK k j = j) : LookN Try.prog 171 (ksK k j) (kvK k j) := by
  refine ⟨ksK_ok hb (by omega), key_pair (hb.x0 j hj).1 (hb.x0 j hj).2 (hb.y0 j hj).1 (hb.y0 j hj).2, fun hm => ?_⟩
  obtain ⟨a, ha, e⟩ := List.mem_map.1 hm
  have ha := (mem_fstK.1 ha)
  have := fstK_inj ha.2 he (kvK_inj e)
  omega
theorem ksK_new {k : Nat → Int × Int} {j : Nat} (he : firstK k j = j) : ksK k (j + 1) = ksK k j ++ [kvK k j] ∧ dsK k (j + 1) = dsK k j ++ [D.flat (.int .i64 ((j : Nat) : Int))] := by
  unfold ksK dsK
  rw [fstK_succ, if_pos he]
  simp
theorem ksK_old {k : Nat → Int × Int} {j : Nat} (he : firstK k j ≠ j) : ksK k (j + 1) = ksK k j ∧ dsK k (j + 1) = dsK k j := by
  unfold ksK dsK
  rw [fstK_succ, if_neg he]
  simp
theorem look_put {k : Nat → Int × Int} {n j : Nat} (hb : KBd k n) (hj : j < n) (he : firstK k j = j) : ∃ i, LookT Try.prog 171 (ksK k j ++ [kvK k j]) (kvK k j) i ∧ (dsK k j ++ [D.flat (.int .i64 ((j : Nat) : Int))])[i]? = some (D.flat (.int .i64 ((firstK k j : Nat) : Int))) := by
  refine ⟨(ksK k j).length, ⟨(look_new hb hj he).snoc, by simp⟩, ?_⟩
  rw [he, show (ksK k j).length = (dsK k j).length by simp [ksK, dsK]]
  simp
def fillF (f : Nat → Int) (n j : Nat) : List Int := ((List.range j).map f) ++ List.replicate (n - j) 0
theorem fillF_len {f : Nat → Int} {n j : Nat} (h : j ≤ n) : (fillF f n j).length = n := by simp [fillF]; omega
theorem fillF_zero (f : Nat → Int) (n : Nat) : fillF f n 0 = List.replicate n 0 := by simp [fillF]
theorem fillF_all (f : Nat → Int) (n : Nat) : fillF f n n = (List.range n).map f := by simp [fillF]
theorem fillF_next {f : Nat → Int} {n j : Nat} (h : j < n) : (fillF f n j).set j (f j) = fillF f n (j + 1) := by
  refine List.ext_getElem? fun i => ?_
  have hl := fillF_len (f := f) (n := n) (j := j) (by omega)
  rw [List.getElem?_set, hl]
  by_cases e : j = i
  · subst e
    rw [if_pos rfl, if_pos h]
    unfold fillF
    rw [List.getElem?_append_left (by simp)]
    simp
  · rw [if_neg e]
    unfold fillF
    by_cases e2 : i < j
    · rw [List.getElem?_append_left (by simp; omega), List.getElem?_append_left (by simp; omega)]
      simp [e2, show i < j + 1 by omega]
    · rw [List.getElem?_append_right (by simp; omega), List.getElem?_append_right (by simp; omega)]
      simp only [List.length_map, List.length_range, List.getElem?_replicate]
      by_cases e3 : i < n
      · rw [if_pos (by omega), if_pos (by omega)]
      · rw [if_neg (by omega), if_neg (by omega)]
theorem fillF_set {f : Nat → Int} {n j : Nat} (h : j < n) : List.take (j * 1) ((fillF f n j).map fun x => D.flat (.int .i64 x)) ++ [D.flat (.int .i64 (f j))] ++ List.drop (j * 1 + 1) ((fillF f n j).map fun x => D.flat (.int .i64 x)) = ((fillF f n (j + 1)).map fun x => D.flat (.int .i64 x)) := by
  have hl := fillF_len (f := f) (n := n) (j := j) (by omega)
  have h1 := splice_set (x := D.flat (.int .i64 (f j))) (show j < ((fillF f n j).map fun x => D.flat (.int .i64 x)).length by simp [hl, h])
  unfold spliceD at h1
  rw [Nat.mul_one, ← fillF_next h, List.map_set]
  exact h1
theorem mark_d (M : List Int) (hM : M.length ≤ 1000000) (a : Nat) (x : Int) (h : M[a]? = some x) : DFun Try.prog 122 [.flat (.int .i64 ((a : Nat) : Int)), .ptr [.sl false 1 M.length (M.map fun x => D.flat (.int .i64 x))] 0] (.flat (.int .i64 x)) := by
  have hq := part_i h
  have ha := (List.getElem?_eq_some_iff.1 h).1
  have hp := pers_i M
  generalize (M.map fun x => D.flat (.int .i64 x)) = LM at *
  clear h
  refine DFun.enterA Try.func122 Try.ntmps122 ?_
  refine DW.walk ?_
  exact ⟨.inr rfl, ResOk.one [] rfl rfl trivial (Vw.pers rfl)⟩
def keepU (U M : List Int) : List Int := (List.range U.length).map fun a => ((firstK (fun b => (U.getD b 0, M.getD b 0)) a : Nat) : Int)
end Go.Proofs.Ytichhfbkhnimmaa
