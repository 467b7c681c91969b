/- Following one automaton along another: the plain law. No condition. -/
import Derived.Test.YtichhfbkhnimmaaYBG
import Derived.Test.YtichhfbkhnimmaaYRP
import Derived.Test.YtichhfbkhnimmaaYD11
import Derived.Test.YtichhfbkhnimmaaXQu

set_option linter.unusedSimpArgs false
set_option linter.unusedVariables false
namespace Go.Mn
open Go Go.Rt
def kn (K : List Bool) (x : Nat) : Bool := K.getD x false
def fstep (A : Au) (i p : Nat) (x : List Bool × Bool) : List Bool × Bool :=
  if (opsN A.final.length (rankN A i) p).all (kn x.1) then (x.1.set (succN A i p) true, !(kn x.1 (succN A i p)) || x.2) else x
def fRow (A : Au) (i : Nat) (x : List Bool × Bool) : Nat → List Bool × Bool
  | 0 => x
  | j + 1 => fstep A i j (fRow A i x j)
def fSym (A : Au) (x : List Bool × Bool) : Nat → List Bool × Bool
  | 0 => x
  | i + 1 => fRow A i (fSym A x i) (rowN A i).length
def pass (A : Au) (K : List Bool) : List Bool × Bool := fSym A (K, false) A.ranks.length
structure FInv (K0 : List Bool) (x : List Bool × Bool) : Prop where
  len : x.1.length = K0.length
  no : x.2 = false → x.1 = K0
  yes : x.2 = true → x.1.count false < K0.count false
theorem set_same {K : List Bool} {s : Nat} (h : kn K s = true) : K.set s true = K := by
  unfold kn at h
  refine List.ext_getElem? fun a => ?_
  rw [List.getElem?_set]
  split
  · rename_i e
    subst e
    rw [List.getD_eq_getElem?_getD] at h
    cases hk : K[s]? with
    | none => rw [hk] at h; cases h
    | some b =>
      rw [hk] at h
      have h : b = true := h
      subst h
      rw [if_pos (List.getElem?_eq_some_iff.1 hk).1]
  · rfl
theorem count_set : ∀ {K : List Bool} {s : Nat}, K[s]? = some false → (K.set s true).count false < K.count false
  | [], s, h => by simp at h
  | b :: K, 0, h => by
    simp at h; subst h
    simp [List.count_cons]
  | b :: K, s + 1, h => by
    have := count_set (K := K) (s := s) (by simpa using h)
    simp only [List.set_cons_succ, List.count_cons]
    omega
theorem FInv.step {A : Au} {K0 : List Bool} {i p : Nat} {x : List Bool × Bool} (hs : succN A i p < K0.length) (h : FInv K0 x) : FInv K0 (fstep A i p x) := by
  unfold fstep
  split
  · by_cases hk : kn x.1 (succN A i p) = true
    · rw [hk, set_same hk]
      simpa using h
    · have hk : kn x.1 (succN A i p) = false := by simpa using hk
      rw [hk]
      refine ⟨by simpa using h.len, fun e => by simp at e, fun _ => ?_⟩
      have h1 : x.1[succN A i p]? = some false := by
        have hl : succN A i p < x.1.length := by rw [h.len]; exact hs
        unfold kn at hk
        rw [List.getD_eq_getElem?_getD, List.getElem?_eq_getElem hl] at hk
        rw [List.getElem?_eq_getElem hl]
        exact congrArg some hk
      have h2 := count_set h1
      show (x.1.set _ true).count false < _
      cases hx : x.2 with
      | false => rw [h.no hx] at h2 ⊢; exact h2
      | true => have := h.yes hx; omega
  · exact h
theorem FInv.row {A : Au} (hok : AuOk A) {K0 : List Bool} (hl : K0.length = A.final.length) {i : Nat} (hi : i < A.ranks.length) {x : List Bool × Bool} (h : FInv K0 x) : ∀ j, j ≤ (rowN A i).length → FInv K0 (fRow A i x j)
  | 0, _ => h
  | j + 1, hj => by
    have hr := (rowN_at hok hi).2.2 j ((rowN A i)[j]'(by omega)) (by simp)
    exact (FInv.row hok hl hi h j (by omega)).step (by rw [hl]; exact hr.2)
theorem FInv.sym {A : Au} (hok : AuOk A) {K0 : List Bool} (hl : K0.length = A.final.length) {x : List Bool × Bool} (h : FInv K0 x) : ∀ i, i ≤ A.ranks.length → FInv K0 (fSym A x i)
  | 0, _ => h
  | i + 1, hi => (FInv.sym hok hl h i (by omega)).row hok hl (by omega) _ (Nat.le_refl _)
theorem pass_inv {A : Au} (hok : AuOk A) {K : List Bool} (hl : K.length = A.final.length) : FInv K (pass A K) :=
  FInv.sym hok hl ⟨rfl, fun _ => rfl, fun h => by cases h⟩ _ (Nat.le_refl _)
theorem fstep_no {A : Au} {i p : Nat} {x : List Bool × Bool} (h : (fstep A i p x).2 = false) : x.2 = false ∧ ((opsN A.final.length (rankN A i) p).all (kn x.1) = true → kn x.1 (succN A i p) = true) := by
  unfold fstep at h
  split at h
  · rename_i e
    simp at h
    exact ⟨h.2, fun _ => h.1⟩
  · rename_i e
    exact ⟨h, fun e' => absurd e' e⟩
theorem fRow_no {A : Au} {i : Nat} {x : List Bool × Bool} : ∀ {j : Nat}, (fRow A i x j).2 = false → x.2 = false ∧ ∀ p, p < j → (fRow A i x p).2 = false
  | 0, h => ⟨h, fun p hp => by omega⟩
  | j + 1, h => by
    have h1 := (fstep_no h).1
    obtain ⟨h2, h3⟩ := fRow_no h1
    refine ⟨h2, fun p hp => ?_⟩
    rcases Nat.lt_or_ge p j with h4 | h4
    · exact h3 p h4
    · obtain rfl : p = j := by omega
      exact h1
theorem fSym_no {A : Au} {x : List Bool × Bool} : ∀ {j : Nat}, (fSym A x j).2 = false → ∀ i, i < j → (fSym A x (i + 1)).2 = false ∧ (fSym A x i).2 = false
  | 0, h => fun p hp => by omega
  | j + 1, h => by
    have h1 := (fRow_no (show (fRow A j (fSym A x j) _).2 = false from h)).1
    intro p hp
    rcases Nat.lt_or_ge p j with h4 | h4
    · exact fSym_no h1 p h4
    · obtain rfl : p = j := by omega
      exact ⟨h, h1⟩
theorem pass_closed {A : Au} (hok : AuOk A) {K : List Bool} (hl : K.length = A.final.length) (h : (pass A K).2 = false) : ClosedK A (fun x => kn K x = true) := by
  intro i p hi hp ho
  have hK : FInv K (K, false) := ⟨rfl, fun _ => rfl, fun h => by cases h⟩
  obtain ⟨h1, h2⟩ := fSym_no h i hi
  have e1 := (FInv.sym hok hl hK i (by omega)).no h2
  have h3 := (fRow_no (show (fRow A i (fSym A (K, false) i) _).2 = false from h1)).2
  have hx : ∀ j, j ≤ (rowN A i).length → FInv K (fRow A i (fSym A (K, false) i) j) := fun j hj => (FInv.sym hok hl hK i (by omega)).row hok hl hi j hj
  have h4 : (fRow A i (fSym A (K, false) i) (p + 1)).2 = false := by
    rcases Nat.lt_or_ge (p + 1) (rowN A i).length with h4 | h4
    · exact h3 _ h4
    · rw [show p + 1 = (rowN A i).length by omega]; exact h1
  have h5 := (fstep_no (show (fstep A i p (fRow A i (fSym A (K, false) i) p)).2 = false from h4)).2
  rw [(hx p (by omega)).no (h3 p hp)] at h5
  exact h5 (List.all_eq_true.2 ho)
def foU (φ : Nat → Nat) (n : Nat) (K : List Bool) : List Int := (List.range n).map fun x => if kn K x then (φ x : Int) else -1
theorem foU_len (φ : Nat → Nat) (n : Nat) (K : List Bool) : (foU φ n K).length = n := by simp [foU]
theorem foU_get {φ : Nat → Nat} {n : Nat} {K : List Bool} {x : Nat} (h : x < n) : (foU φ n K)[x]? = some (if kn K x then (φ x : Int) else -1) := by simp [foU, h]
theorem kn_set {K : List Bool} {s x : Nat} (h : s < K.length) : kn (K.set s true) x = if s = x then true else kn K x := by
  unfold kn
  rw [List.getD_eq_getElem?_getD, List.getElem?_set]
  by_cases e : s = x
  · subst e; rw [if_pos rfl, if_pos h, if_pos rfl]; rfl
  · rw [if_neg e, if_neg e, List.getD_eq_getElem?_getD]
theorem foU_set {φ : Nat → Nat} {n : Nat} {K : List Bool} {s : Nat} (hl : K.length = n) (h : s < n) : (foU φ n K).set s (φ s : Int) = foU φ n (K.set s true) := by
  refine List.ext_getElem? fun a => ?_
  rw [List.getElem?_set, foU_len]
  by_cases e : s = a
  · subst e
    rw [if_pos rfl, if_pos h, foU_get h, kn_set (by omega), if_pos rfl]; rfl
  · rw [if_neg e]
    by_cases ha : a < n
    · rw [foU_get ha, foU_get ha, kn_set (by omega), if_neg e]
    · rw [List.getElem?_eq_none (by rw [foU_len]; omega), List.getElem?_eq_none (by rw [foU_len]; omega)]
theorem foU_none (φ : Nat → Nat) (n : Nat) : foU φ n (List.replicate n false) = List.replicate n (-1) := by
  refine List.ext_getElem? fun a => ?_
  by_cases ha : a < n
  · rw [foU_get ha, List.getElem?_replicate, if_pos ha]
    unfold kn
    rw [List.getD_eq_getElem?_getD, List.getElem?_replicate, if_pos ha]; rfl
  · rw [List.getElem?_eq_none (by rw [foU_len]; omega), List.getElem?_eq_none (by simp; omega)]
structure Iso (A B : Au) (φ : Nat → Nat) : Prop where
  lt : ∀ x, x < A.final.length → φ x < A.final.length
  len : B.to.length = A.to.length
  at0 : ∀ i, i < A.ranks.length → rankN A i = 0 → ∃ row, B.to[i]? = some row ∧ row[0]? = some ((φ (succN A i 0) : Nat) : Int)
  at1 : ∀ i, i < A.ranks.length → rankN A i = 1 → ∃ row, B.to[i]? = some row ∧ ∀ p, p < A.final.length → row[φ p]? = some ((φ (succN A i p) : Nat) : Int)
  at2 : ∀ i, i < A.ranks.length → rankN A i = 2 → ∃ row, B.to[i]? = some row ∧ ∀ p, p < A.final.length * A.final.length → row[φ (p / A.final.length) * A.final.length + φ (p % A.final.length)]? = some ((φ (succN A i p) : Nat) : Int)
end Go.Mn

set_option linter.unusedSimpArgs false
set_option linter.unusedVariables false
set_option maxHeartbeats 4000000
set_option maxRecDepth 8000
namespace Go.Proofs.Ytichhfbkhnimmaa
open Go Go.RowKit Go.PP Go.Dm Go.Rt Go.Mn
theorem keys_ints (U : List Int) : keysOf (U.map fun x => D.flat (.int .i64 x)) = none := by cases U <;> rfl
theorem set_d (n : Nat) (hn : n ≤ 1000000) (U : List Int) (hU : U.length = n) (s : Nat) (x v : Int) (h : U[s]? = some x) : DLend Try.prog 123 [.flat (.int .i64 ((s : Nat) : Int)), .flat (.int .i64 v), .ref 13107200005 0] [(13107200005, some (.box [.bsl 13107200007 0 n n])), (13107200007, some (.box (U.map fun x => D.flat (.int .i64 x))))] [(13107200005, some (.box [.bsl 13107200007 0 n n])), (13107200007, some (.box ((U.set s v).map fun x => D.flat (.int .i64 x))))] (.flat (.bool (decide (x = -1)))) := by
  have hp := pers_i U
  have hp2 := pers_i (U.set s v)
  have hq := part_i h
  have hkU := keys_ints U
  have hkV := keys_ints (U.set s v)
  rw [Nat.mul_one, ← Nat.zero_add s] at hq
  have hs := (List.getElem?_eq_some_iff.1 h).1
  have hl : (U.map fun x => D.flat (.int .i64 x)).length = n := by simp [hU]
  have hset : List.take (0 + s) (U.map fun x => D.flat (.int .i64 x)) ++ [D.flat (.int .i64 v)] ++ List.drop (0 + s + 1) (U.map fun x => D.flat (.int .i64 x)) = ((U.set s v).map fun x => D.flat (.int .i64 x)) := by
    have h1 := splice_set (x := D.flat (.int .i64 v)) (show s < (U.map fun x => D.flat (.int .i64 x)).length by omega)
    unfold spliceD at h1
    rw [Nat.zero_add, List.map_set]
    exact h1
  generalize ((U.set s v).map fun x => D.flat (.int .i64 x)) = LV at *
  generalize (U.map fun x => D.flat (.int .i64 x)) = LU at *
  refine DLend.enterA Try.func123 Try.ntmps123 ?_
  refine DW.walk ?_
  rw [hset]
  exact ⟨.inr rfl, ResL.oneA⟩
end Go.Proofs.Ytichhfbkhnimmaa

set_option linter.unusedSimpArgs false
set_option linter.unusedVariables false
set_option maxHeartbeats 4000000
set_option maxRecDepth 8000
namespace Go.Proofs.Ytichhfbkhnimmaa
open Go Go.RowKit Go.PP Go.Dm Go.Rt Go.Mn
noncomputable abbrev code100 : Code := Try.f100.body.getD .skip
def Nm (N : Nat) (S2 : DS) : Exit → DS → Prop := fun e s => e = .normal ∧ Sub N s S2
theorem Nm.mk {N : Nat} {s S2 : DS} (h : Sub N s S2) : Nm N S2 .normal s := ⟨rfl, h⟩
theorem fo0t {cc : Code} (hsel : selC [1, 1, 1, 1, 0, 1, 2, 2, 1, 2, 1, 1, 2, 2, 1, 1, 0, 2, 1, 1, 2, 2] code100 = some cc) (LR LB LT MR MB MT RW FU : List D) (n nR mR nT rl i j s : Nat) (m : Bool) (hn : 0 < n ∧ n ≤ 512) (hnR : nR ≤ 4096 ∧ nT = nR ∧ mR ≤ 1000000) (hi : i < nR) (hj : j < rl) (hrl : rl ≤ 1000000) (pLR : persL LR = true) (pLB : persL LB = true) (pLT : persL LT = true) (pMR : persL MR = true) (pMB : persL MB = true) (pMT : persL MT = true) (pRW : persL RW = true) (pFU : persL FU = true) (kFU : keysOf FU = none) (hs : partD false 1 (j * 1) RW = some (.flat (.int .i64 ((s : Nat) : Int)))) (v ql : Nat) (FV QW : List D) (pFV : persL FV = true) (kFV : keysOf FV = none) (pQW : persL QW = true) (hql : ql ≤ 1000000) (hQ : partD false 1 (i * 1) MT = some (.sl false 1 ql QW)) (h0 : 0 < ql) (hv : partD false 1 (0 * 1) QW = some (.flat (.int .i64 ((v : Nat) : Int)))) (hset : DLend Try.prog 123 [.flat (.int .i64 ((s : Nat) : Int)), .flat (.int .i64 ((v : Nat) : Int)), .ref 13107200005 0] ([(13107200005, some (.box [.bsl 13107200007 0 n n])), (13107200007, some (.box FU))]) ([(13107200005, some (.box [.bsl 13107200007 0 n n])), (13107200007, some (.box FV))]) (.flat (.bool true))) :
    DW Try.prog 133 cc ⟨[(9, .flat (.int .i64 ((i : Nat) : Int))), (10, .flat (.int .i64 ((0 : Nat) : Int))), (37, .sl false 1 rl RW), (38, .flat (.int .i64 ((rl : Nat) : Int))), (39, .flat (.int .i64 ((j : Nat) : Int))), (26, .sl false 1 nR LR), (27, .flat (.int .i64 ((nR : Nat) : Int))), (28, .flat (.int .i64 ((i : Nat) : Int))), (2, .ptr [.sl false 1 nR LR, .sl false 1 n LB, .sl false 1 nT LT] 0), (3, .ptr [.sl false 1 mR MR, .sl false 1 n MB, .sl false 1 nT MT] 0), (5, .ref 13107200005 0), (6, .flat (.int .i64 ((n : Nat) : Int))), (7, .clo (.func 123) [] [.ref 13107200005 0]), (8, .flat (.bool m))], [(13107200005, some (.box [.bsl 13107200007 0 n n])), (13107200007, some (.box FU))]⟩ (Nm 133 ⟨[(9, .flat (.int .i64 ((i : Nat) : Int))), (10, .flat (.int .i64 ((0 : Nat) : Int))), (37, .sl false 1 rl RW), (38, .flat (.int .i64 ((rl : Nat) : Int))), (39, .flat (.int .i64 (((j + 1) : Nat) : Int))), (26, .sl false 1 nR LR), (27, .flat (.int .i64 ((nR : Nat) : Int))), (28, .flat (.int .i64 ((i : Nat) : Int))), (2, .ptr [.sl false 1 nR LR, .sl false 1 n LB, .sl false 1 nT LT] 0), (3, .ptr [.sl false 1 mR MR, .sl false 1 n MB, .sl false 1 nT MT] 0), (5, .ref 13107200005 0), (6, .flat (.int .i64 ((n : Nat) : Int))), (7, .clo (.func 123) [] [.ref 13107200005 0]), (8, .flat (.bool true))], [(13107200005, some (.box [.bsl 13107200007 0 n n])), (13107200007, some (.box FV))]⟩) := by
  refine DW.sel hsel (by rfl) ?_
  refine DW.walk ?_
  exact Nm.mk Sub.auto
theorem fo0f {cc : Code} (hsel : selC [1, 1, 1, 1, 0, 1, 2, 2, 1, 2, 1, 1, 2, 2, 1, 1, 0, 2, 1, 1, 2, 2] code100 = some cc) (LR LB LT MR MB MT RW FU : List D) (n nR mR nT rl i j s : Nat) (m : Bool) (hn : 0 < n ∧ n ≤ 512) (hnR : nR ≤ 4096 ∧ nT = nR ∧ mR ≤ 1000000) (hi : i < nR) (hj : j < rl) (hrl : rl ≤ 1000000) (pLR : persL LR = true) (pLB : persL LB = true) (pLT : persL LT = true) (pMR : persL MR = true) (pMB : persL MB = true) (pMT : persL MT = true) (pRW : persL RW = true) (pFU : persL FU = true) (kFU : keysOf FU = none) (hs : partD false 1 (j * 1) RW = some (.flat (.int .i64 ((s : Nat) : Int)))) (v ql : Nat) (FV QW : List D) (pFV : persL FV = true) (kFV : keysOf FV = none) (pQW : persL QW = true) (hql : ql ≤ 1000000) (hQ : partD false 1 (i * 1) MT = some (.sl false 1 ql QW)) (h0 : 0 < ql) (hv : partD false 1 (0 * 1) QW = some (.flat (.int .i64 ((v : Nat) : Int)))) (hset : DLend Try.prog 123 [.flat (.int .i64 ((s : Nat) : Int)), .flat (.int .i64 ((v : Nat) : Int)), .ref 13107200005 0] ([(13107200005, some (.box [.bsl 13107200007 0 n n])), (13107200007, some (.box FU))]) ([(13107200005, some (.box [.bsl 13107200007 0 n n])), (13107200007, some (.box FV))]) (.flat (.bool false))) :
    DW Try.prog 133 cc ⟨[(9, .flat (.int .i64 ((i : Nat) : Int))), (10, .flat (.int .i64 ((0 : Nat) : Int))), (37, .sl false 1 rl RW), (38, .flat (.int .i64 ((rl : Nat) : Int))), (39, .flat (.int .i64 ((j : Nat) : Int))), (26, .sl false 1 nR LR), (27, .flat (.int .i64 ((nR : Nat) : Int))), (28, .flat (.int .i64 ((i : Nat) : Int))), (2, .ptr [.sl false 1 nR LR, .sl false 1 n LB, .sl false 1 nT LT] 0), (3, .ptr [.sl false 1 mR MR, .sl false 1 n MB, .sl false 1 nT MT] 0), (5, .ref 13107200005 0), (6, .flat (.int .i64 ((n : Nat) : Int))), (7, .clo (.func 123) [] [.ref 13107200005 0]), (8, .flat (.bool m))], [(13107200005, some (.box [.bsl 13107200007 0 n n])), (13107200007, some (.box FU))]⟩ (Nm 133 ⟨[(9, .flat (.int .i64 ((i : Nat) : Int))), (10, .flat (.int .i64 ((0 : Nat) : Int))), (37, .sl false 1 rl RW), (38, .flat (.int .i64 ((rl : Nat) : Int))), (39, .flat (.int .i64 (((j + 1) : Nat) : Int))), (26, .sl false 1 nR LR), (27, .flat (.int .i64 ((nR : Nat) : Int))), (28, .flat (.int .i64 ((i : Nat) : Int))), (2, .ptr [.sl false 1 nR LR, .sl false 1 n LB, .sl false 1 nT LT] 0), (3, .ptr [.sl false 1 mR MR, .sl false 1 n MB, .sl false 1 nT MT] 0), (5, .ref 13107200005 0), (6, .flat (.int .i64 ((n : Nat) : Int))), (7, .clo (.func 123) [] [.ref 13107200005 0]), (8, .flat (.bool m))], [(13107200005, some (.box [.bsl 13107200007 0 n n])), (13107200007, some (.box FV))]⟩) := by
  refine DW.sel hsel (by rfl) ?_
  refine DW.walk ?_
  exact Nm.mk Sub.auto
end Go.Proofs.Ytichhfbkhnimmaa

set_option linter.unusedSimpArgs false
set_option linter.unusedVariables false
set_option maxHeartbeats 4000000
set_option maxRecDepth 8000
namespace Go.Proofs.Ytichhfbkhnimmaa
open Go Go.RowKit Go.PP Go.Dm Go.Rt Go.Mn
theorem fo1at {cc : Code} (hsel : selC [1, 1, 1, 1, 0, 1, 2, 2, 1, 2, 1, 1, 2, 2, 1, 1, 0, 2, 1, 1, 2, 2] code100 = some cc) (LR LB LT MR MB MT RW FU : List D) (n nR mR nT rl i j s : Nat) (m : Bool) (hn : 0 < n ∧ n ≤ 512) (hnR : nR ≤ 4096 ∧ nT = nR ∧ mR ≤ 1000000) (hi : i < nR) (hj : j < rl) (hrl : rl ≤ 1000000) (pLR : persL LR = true) (pLB : persL LB = true) (pLT : persL LT = true) (pMR : persL MR = true) (pMB : persL MB = true) (pMT : persL MT = true) (pRW : persL RW = true) (pFU : persL FU = true) (kFU : keysOf FU = none) (hs : partD false 1 (j * 1) RW = some (.flat (.int .i64 ((s : Nat) : Int)))) (v ql : Nat) (FV QW : List D) (pFV : persL FV = true) (kFV : keysOf FV = none) (pQW : persL QW = true) (hql : ql ≤ 1000000) (hQ : partD false 1 (i * 1) MT = some (.sl false 1 ql QW)) (hz : partD false 1 (0 + 0) FU = some (.flat (.int .i64 (-1)))) (x : Nat) (hjn : j < n) (hx : partD false 1 (0 + j) FU = some (.flat (.int .i64 ((x : Nat) : Int)))) (hxq : x < ql) (hv : partD false 1 (x * 1) QW = some (.flat (.int .i64 ((v : Nat) : Int)))) (hset : DLend Try.prog 123 [.flat (.int .i64 ((s : Nat) : Int)), .flat (.int .i64 ((v : Nat) : Int)), .ref 13107200005 0] ([(13107200005, some (.box [.bsl 13107200007 0 n n])), (13107200007, some (.box FU))]) ([(13107200005, some (.box [.bsl 13107200007 0 n n])), (13107200007, some (.box FV))]) (.flat (.bool true))) :
    DW Try.prog 133 cc ⟨[(9, .flat (.int .i64 ((i : Nat) : Int))), (10, .flat (.int .i64 ((1 : Nat) : Int))), (37, .sl false 1 rl RW), (38, .flat (.int .i64 ((rl : Nat) : Int))), (39, .flat (.int .i64 ((j : Nat) : Int))), (26, .sl false 1 nR LR), (27, .flat (.int .i64 ((nR : Nat) : Int))), (28, .flat (.int .i64 ((i : Nat) : Int))), (2, .ptr [.sl false 1 nR LR, .sl false 1 n LB, .sl false 1 nT LT] 0), (3, .ptr [.sl false 1 mR MR, .sl false 1 n MB, .sl false 1 nT MT] 0), (5, .ref 13107200005 0), (6, .flat (.int .i64 ((n : Nat) : Int))), (7, .clo (.func 123) [] [.ref 13107200005 0]), (8, .flat (.bool m))], [(13107200005, some (.box [.bsl 13107200007 0 n n])), (13107200007, some (.box FU))]⟩ (Nm 133 ⟨[(9, .flat (.int .i64 ((i : Nat) : Int))), (10, .flat (.int .i64 ((1 : Nat) : Int))), (37, .sl false 1 rl RW), (38, .flat (.int .i64 ((rl : Nat) : Int))), (39, .flat (.int .i64 (((j + 1) : Nat) : Int))), (26, .sl false 1 nR LR), (27, .flat (.int .i64 ((nR : Nat) : Int))), (28, .flat (.int .i64 ((i : Nat) : Int))), (2, .ptr [.sl false 1 nR LR, .sl false 1 n LB, .sl false 1 nT LT] 0), (3, .ptr [.sl false 1 mR MR, .sl false 1 n MB, .sl false 1 nT MT] 0), (5, .ref 13107200005 0), (6, .flat (.int .i64 ((n : Nat) : Int))), (7, .clo (.func 123) [] [.ref 13107200005 0]), (8, .flat (.bool true))], [(13107200005, some (.box [.bsl 13107200007 0 n n])), (13107200007, some (.box FV))]⟩) := by
  refine DW.sel hsel (by rfl) ?_
  refine DW.walk ?_
  exact Nm.mk Sub.auto
theorem fo1af {cc : Code} (hsel : selC [1, 1, 1, 1, 0, 1, 2, 2, 1, 2, 1, 1, 2, 2, 1, 1, 0, 2, 1, 1, 2, 2] code100 = some cc) (LR LB LT MR MB MT RW FU : List D) (n nR mR nT rl i j s : Nat) (m : Bool) (hn : 0 < n ∧ n ≤ 512) (hnR : nR ≤ 4096 ∧ nT = nR ∧ mR ≤ 1000000) (hi : i < nR) (hj : j < rl) (hrl : rl ≤ 1000000) (pLR : persL LR = true) (pLB : persL LB = true) (pLT : persL LT = true) (pMR : persL MR = true) (pMB : persL MB = true) (pMT : persL MT = true) (pRW : persL RW = true) (pFU : persL FU = true) (kFU : keysOf FU = none) (hs : partD false 1 (j * 1) RW = some (.flat (.int .i64 ((s : Nat) : Int)))) (v ql : Nat) (FV QW : List D) (pFV : persL FV = true) (kFV : keysOf FV = none) (pQW : persL QW = true) (hql : ql ≤ 1000000) (hQ : partD false 1 (i * 1) MT = some (.sl false 1 ql QW)) (hz : partD false 1 (0 + 0) FU = some (.flat (.int .i64 (-1)))) (x : Nat) (hjn : j < n) (hx : partD false 1 (0 + j) FU = some (.flat (.int .i64 ((x : Nat) : Int)))) (hxq : x < ql) (hv : partD false 1 (x * 1) QW = some (.flat (.int .i64 ((v : Nat) : Int)))) (hset : DLend Try.prog 123 [.flat (.int .i64 ((s : Nat) : Int)), .flat (.int .i64 ((v : Nat) : Int)), .ref 13107200005 0] ([(13107200005, some (.box [.bsl 13107200007 0 n n])), (13107200007, some (.box FU))]) ([(13107200005, some (.box [.bsl 13107200007 0 n n])), (13107200007, some (.box FV))]) (.flat (.bool false))) :
    DW Try.prog 133 cc ⟨[(9, .flat (.int .i64 ((i : Nat) : Int))), (10, .flat (.int .i64 ((1 : Nat) : Int))), (37, .sl false 1 rl RW), (38, .flat (.int .i64 ((rl : Nat) : Int))), (39, .flat (.int .i64 ((j : Nat) : Int))), (26, .sl false 1 nR LR), (27, .flat (.int .i64 ((nR : Nat) : Int))), (28, .flat (.int .i64 ((i : Nat) : Int))), (2, .ptr [.sl false 1 nR LR, .sl false 1 n LB, .sl false 1 nT LT] 0), (3, .ptr [.sl false 1 mR MR, .sl false 1 n MB, .sl false 1 nT MT] 0), (5, .ref 13107200005 0), (6, .flat (.int .i64 ((n : Nat) : Int))), (7, .clo (.func 123) [] [.ref 13107200005 0]), (8, .flat (.bool m))], [(13107200005, some (.box [.bsl 13107200007 0 n n])), (13107200007, some (.box FU))]⟩ (Nm 133 ⟨[(9, .flat (.int .i64 ((i : Nat) : Int))), (10, .flat (.int .i64 ((1 : Nat) : Int))), (37, .sl false 1 rl RW), (38, .flat (.int .i64 ((rl : Nat) : Int))), (39, .flat (.int .i64 (((j + 1) : Nat) : Int))), (26, .sl false 1 nR LR), (27, .flat (.int .i64 ((nR : Nat) : Int))), (28, .flat (.int .i64 ((i : Nat) : Int))), (2, .ptr [.sl false 1 nR LR, .sl false 1 n LB, .sl false 1 nT LT] 0), (3, .ptr [.sl false 1 mR MR, .sl false 1 n MB, .sl false 1 nT MT] 0), (5, .ref 13107200005 0), (6, .flat (.int .i64 ((n : Nat) : Int))), (7, .clo (.func 123) [] [.ref 13107200005 0]), (8, .flat (.bool m))], [(13107200005, some (.box [.bsl 13107200007 0 n n])), (13107200007, some (.box FV))]⟩) := by
  refine DW.sel hsel (by rfl) ?_
  refine DW.walk ?_
  exact Nm.mk Sub.auto
theorem fo1bt {cc : Code} (hsel : selC [1, 1, 1, 1, 0, 1, 2, 2, 1, 2, 1, 1, 2, 2, 1, 1, 0, 2, 1, 1, 2, 2] code100 = some cc) (LR LB LT MR MB MT RW FU : List D) (n nR mR nT rl i j s : Nat) (m : Bool) (hn : 0 < n ∧ n ≤ 512) (hnR : nR ≤ 4096 ∧ nT = nR ∧ mR ≤ 1000000) (hi : i < nR) (hj : j < rl) (hrl : rl ≤ 1000000) (pLR : persL LR = true) (pLB : persL LB = true) (pLT : persL LT = true) (pMR : persL MR = true) (pMB : persL MB = true) (pMT : persL MT = true) (pRW : persL RW = true) (pFU : persL FU = true) (kFU : keysOf FU = none) (hs : partD false 1 (j * 1) RW = some (.flat (.int .i64 ((s : Nat) : Int)))) (v ql : Nat) (FV QW : List D) (pFV : persL FV = true) (kFV : keysOf FV = none) (pQW : persL QW = true) (hql : ql ≤ 1000000) (hQ : partD false 1 (i * 1) MT = some (.sl false 1 ql QW)) (z : Nat) (hz : partD false 1 (0 + 0) FU = some (.flat (.int .i64 ((z : Nat) : Int)))) (x : Nat) (hjn : j < n) (hx : partD false 1 (0 + j) FU = some (.flat (.int .i64 ((x : Nat) : Int)))) (hxq : x < ql) (hv : partD false 1 (x * 1) QW = some (.flat (.int .i64 ((v : Nat) : Int)))) (hset : DLend Try.prog 123 [.flat (.int .i64 ((s : Nat) : Int)), .flat (.int .i64 ((v : Nat) : Int)), .ref 13107200005 0] ([(13107200005, some (.box [.bsl 13107200007 0 n n])), (13107200007, some (.box FU))]) ([(13107200005, some (.box [.bsl 13107200007 0 n n])), (13107200007, some (.box FV))]) (.flat (.bool true))) :
    DW Try.prog 133 cc ⟨[(9, .flat (.int .i64 ((i : Nat) : Int))), (10, .flat (.int .i64 ((1 : Nat) : Int))), (37, .sl false 1 rl RW), (38, .flat (.int .i64 ((rl : Nat) : Int))), (39, .flat (.int .i64 ((j : Nat) : Int))), (26, .sl false 1 nR LR), (27, .flat (.int .i64 ((nR : Nat) : Int))), (28, .flat (.int .i64 ((i : Nat) : Int))), (2, .ptr [.sl false 1 nR LR, .sl false 1 n LB, .sl false 1 nT LT] 0), (3, .ptr [.sl false 1 mR MR, .sl false 1 n MB, .sl false 1 nT MT] 0), (5, .ref 13107200005 0), (6, .flat (.int .i64 ((n : Nat) : Int))), (7, .clo (.func 123) [] [.ref 13107200005 0]), (8, .flat (.bool m))], [(13107200005, some (.box [.bsl 13107200007 0 n n])), (13107200007, some (.box FU))]⟩ (Nm 133 ⟨[(9, .flat (.int .i64 ((i : Nat) : Int))), (10, .flat (.int .i64 ((1 : Nat) : Int))), (37, .sl false 1 rl RW), (38, .flat (.int .i64 ((rl : Nat) : Int))), (39, .flat (.int .i64 (((j + 1) : Nat) : Int))), (26, .sl false 1 nR LR), (27, .flat (.int .i64 ((nR : Nat) : Int))), (28, .flat (.int .i64 ((i : Nat) : Int))), (2, .ptr [.sl false 1 nR LR, .sl false 1 n LB, .sl false 1 nT LT] 0), (3, .ptr [.sl false 1 mR MR, .sl false 1 n MB, .sl false 1 nT MT] 0), (5, .ref 13107200005 0), (6, .flat (.int .i64 ((n : Nat) : Int))), (7, .clo (.func 123) [] [.ref 13107200005 0]), (8, .flat (.bool true))], [(13107200005, some (.box [.bsl 13107200007 0 n n])), (13107200007, some (.box FV))]⟩) := by
  refine DW.sel hsel (by rfl) ?_
  refine DW.walk ?_
  exact Nm.mk Sub.auto
theorem fo1bf {cc : Code} (hsel : selC [1, 1, 1, 1, 0, 1, 2, 2, 1, 2, 1, 1, 2, 2, 1, 1, 0, 2, 1, 1, 2, 2] code100 = some cc) (LR LB LT MR MB MT RW FU : List D) (n nR mR nT rl i j s : Nat) (m : Bool) (hn : 0 < n ∧ n ≤ 512) (hnR : nR ≤ 4096 ∧ nT = nR ∧ mR ≤ 1000000) (hi : i < nR) (hj : j < rl) (hrl : rl ≤ 1000000) (pLR : persL LR = true) (pLB : persL LB = true) (pLT : persL LT = true) (pMR : persL MR = true) (pMB : persL MB = true) (pMT : persL MT = true) (pRW : persL RW = true) (pFU : persL FU = true) (kFU : keysOf FU = none) (hs : partD false 1 (j * 1) RW = some (.flat (.int .i64 ((s : Nat) : Int)))) (v ql : Nat) (FV QW : List D) (pFV : persL FV = true) (kFV : keysOf FV = none) (pQW : persL QW = true) (hql : ql ≤ 1000000) (hQ : partD false 1 (i * 1) MT = some (.sl false 1 ql QW)) (z : Nat) (hz : partD false 1 (0 + 0) FU = some (.flat (.int .i64 ((z : Nat) : Int)))) (x : Nat) (hjn : j < n) (hx : partD false 1 (0 + j) FU = some (.flat (.int .i64 ((x : Nat) : Int)))) (hxq : x < ql) (hv : partD false 1 (x * 1) QW = some (.flat (.int .i64 ((v : Nat) : Int)))) (hset : DLend Try.prog 123 [.flat (.int .i64 ((s : Nat) : Int)), .flat (.int .i64 ((v : Nat) : Int)), .ref 13107200005 0] ([(13107200005, some (.box [.bsl 13107200007 0 n n])), (13107200007, some (.box FU))]) ([(13107200005, some (.box [.bsl 13107200007 0 n n])), (13107200007, some (.box FV))]) (.flat (.bool false))) :
    DW Try.prog 133 cc ⟨[(9, .flat (.int .i64 ((i : Nat) : Int))), (10, .flat (.int .i64 ((1 : Nat) : Int))), (37, .sl false 1 rl RW), (38, .flat (.int .i64 ((rl : Nat) : Int))), (39, .flat (.int .i64 ((j : Nat) : Int))), (26, .sl false 1 nR LR), (27, .flat (.int .i64 ((nR : Nat) : Int))), (28, .flat (.int .i64 ((i : Nat) : Int))), (2, .ptr [.sl false 1 nR LR, .sl false 1 n LB, .sl false 1 nT LT] 0), (3, .ptr [.sl false 1 mR MR, .sl false 1 n MB, .sl false 1 nT MT] 0), (5, .ref 13107200005 0), (6, .flat (.int .i64 ((n : Nat) : Int))), (7, .clo (.func 123) [] [.ref 13107200005 0]), (8, .flat (.bool m))], [(13107200005, some (.box [.bsl 13107200007 0 n n])), (13107200007, some (.box FU))]⟩ (Nm 133 ⟨[(9, .flat (.int .i64 ((i : Nat) : Int))), (10, .flat (.int .i64 ((1 : Nat) : Int))), (37, .sl false 1 rl RW), (38, .flat (.int .i64 ((rl : Nat) : Int))), (39, .flat (.int .i64 (((j + 1) : Nat) : Int))), (26, .sl false 1 nR LR), (27, .flat (.int .i64 ((nR : Nat) : Int))), (28, .flat (.int .i64 ((i : Nat) : Int))), (2, .ptr [.sl false 1 nR LR, .sl false 1 n LB, .sl false 1 nT LT] 0), (3, .ptr [.sl false 1 mR MR, .sl false 1 n MB, .sl false 1 nT MT] 0), (5, .ref 13107200005 0), (6, .flat (.int .i64 ((n : Nat) : Int))), (7, .clo (.func 123) [] [.ref 13107200005 0]), (8, .flat (.bool m))], [(13107200005, some (.box [.bsl 13107200007 0 n n])), (13107200007, some (.box FV))]⟩) := by
  refine DW.sel hsel (by rfl) ?_
  refine DW.walk ?_
  exact Nm.mk Sub.auto
theorem fo1n {cc : Code} (hsel : selC [1, 1, 1, 1, 0, 1, 2, 2, 1, 2, 1, 1, 2, 2, 1, 1, 0, 2, 1, 1, 2, 2] code100 = some cc) (LR LB LT MR MB MT RW FU : List D) (n nR mR nT rl i j s : Nat) (m : Bool) (hn : 0 < n ∧ n ≤ 512) (hnR : nR ≤ 4096 ∧ nT = nR ∧ mR ≤ 1000000) (hi : i < nR) (hj : j < rl) (hrl : rl ≤ 1000000) (pLR : persL LR = true) (pLB : persL LB = true) (pLT : persL LT = true) (pMR : persL MR = true) (pMB : persL MB = true) (pMT : persL MT = true) (pRW : persL RW = true) (pFU : persL FU = true) (kFU : keysOf FU = none) (hs : partD false 1 (j * 1) RW = some (.flat (.int .i64 ((s : Nat) : Int)))) (hjn : j < n) (hx : partD false 1 (0 + j) FU = some (.flat (.int .i64 (-1)))) :
    DW Try.prog 133 cc ⟨[(9, .flat (.int .i64 ((i : Nat) : Int))), (10, .flat (.int .i64 ((1 : Nat) : Int))), (37, .sl false 1 rl RW), (38, .flat (.int .i64 ((rl : Nat) : Int))), (39, .flat (.int .i64 ((j : Nat) : Int))), (26, .sl false 1 nR LR), (27, .flat (.int .i64 ((nR : Nat) : Int))), (28, .flat (.int .i64 ((i : Nat) : Int))), (2, .ptr [.sl false 1 nR LR, .sl false 1 n LB, .sl false 1 nT LT] 0), (3, .ptr [.sl false 1 mR MR, .sl false 1 n MB, .sl false 1 nT MT] 0), (5, .ref 13107200005 0), (6, .flat (.int .i64 ((n : Nat) : Int))), (7, .clo (.func 123) [] [.ref 13107200005 0]), (8, .flat (.bool m))], [(13107200005, some (.box [.bsl 13107200007 0 n n])), (13107200007, some (.box FU))]⟩ (Nm 133 ⟨[(9, .flat (.int .i64 ((i : Nat) : Int))), (10, .flat (.int .i64 ((1 : Nat) : Int))), (37, .sl false 1 rl RW), (38, .flat (.int .i64 ((rl : Nat) : Int))), (39, .flat (.int .i64 (((j + 1) : Nat) : Int))), (26, .sl false 1 nR LR), (27, .flat (.int .i64 ((nR : Nat) : Int))), (28, .flat (.int .i64 ((i : Nat) : Int))), (2, .ptr [.sl false 1 nR LR, .sl false 1 n LB, .sl false 1 nT LT] 0), (3, .ptr [.sl false 1 mR MR, .sl false 1 n MB, .sl false 1 nT MT] 0), (5, .ref 13107200005 0), (6, .flat (.int .i64 ((n : Nat) : Int))), (7, .clo (.func 123) [] [.ref 13107200005 0]), (8, .flat (.bool m))], [(13107200005, some (.box [.bsl 13107200007 0 n n])), (13107200007, some (.box FU))]⟩) := by
  refine DW.sel hsel (by rfl) ?_
  refine DW.walk ?_
  exact Nm.mk Sub.auto
end Go.Proofs.Ytichhfbkhnimmaa
