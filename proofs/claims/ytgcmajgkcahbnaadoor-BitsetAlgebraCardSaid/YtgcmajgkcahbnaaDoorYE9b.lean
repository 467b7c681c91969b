/- The law of set algebra, over data: its first tests. No condition. -/
import Derived.Test.YtgcmajgkcahbnaaDoorXSl
import Derived.Test.YtgcmajgkcahbnaaDoorYE9

set_option linter.unusedSimpArgs false
set_option linter.unusedVariables false
set_option maxHeartbeats 16000000
set_option maxRecDepth 8000
namespace Go.Bs
theorem min_and (A B : Nat) : minS A B ||| (A &&& B) = A := by
  refine Nat.eq_of_testBit_eq fun i => ?_
  rw [Nat.testBit_or, tb_minS, Nat.testBit_and]
  cases A.testBit i <;> cases B.testBit i <;> rfl
theorem sub_and (A B : Nat) : (minS A B = 0) ↔ (A &&& B = A) := by
  constructor
  · intro h
    have := min_and A B
    rw [h, Nat.zero_or] at this
    exact this
  · intro h
    unfold minS
    rw [h, Nat.xor_self]
theorem elsN_count (A B : Nat) : ∀ n, (elsN (A ||| B) n).length + (elsN (A &&& B) n).length = (elsN A n).length + (elsN B n).length
  | 0 => rfl
  | n + 1 => by
    have ih := elsN_count A B n
    rw [elsN_succ, elsN_succ, elsN_succ, elsN_succ, Nat.testBit_or, Nat.testBit_and]
    cases A.testBit n <;> cases B.testBit n <;> simp [List.length_append] <;> omega
theorem els_count (A B : Nat) : (els (A ||| B)).length + (els (A &&& B)).length = (els A).length + (els B).length := by
  rw [els_N, els_N, els_N, els_N]; exact elsN_count A B 1024
end Go.Bs
namespace Go.Proofs.YtgcmajgkcahbnaaDoor
open Go Go.RowKit Go.PP Go.Dm Go.Bs
theorem mid9 {cc : Code} (hsel : selC [1, 1] code9 = some cc) (A B C I U M : Nat) (p : Bool) (lA lB lI lU : Nat) (hA : lA ≤ 1024) (hB : lB ≤ 1024) (hI : lI ≤ 1024) (hU : lU ≤ 1024) (hl : lU + lI = lA + lB)
    (a1 : DFun Tryd.prog 29 [setD A, setD B] (setD U)) (a2 : DFun Tryd.prog 27 [setD A, setD B] (setD I)) (a3 : DFun Tryd.prog 31 [setD A, setD B] (setD M))
    (b1 : DFun Tryd.prog 40 [setD A] (.flat (.int .i64 lA))) (b2 : DFun Tryd.prog 40 [setD B] (.flat (.int .i64 lB))) (b3 : DFun Tryd.prog 40 [setD I] (.flat (.int .i64 lI))) (b4 : DFun Tryd.prog 40 [setD U] (.flat (.int .i64 lU)))
    (c1 : DFun Tryd.prog 33 [setD A, setD B] (.flat (.bool p))) (c2 : DFun Tryd.prog 41 [setD M] (.flat (.bool p))) (e1 : EqlD Tryd.prog 24 (setC I) (setC A) p)
    (tl : ∀ cc : Code, selC [1, 1, 1] code9 = some cc → DW Tryd.prog 123 cc ⟨[(3, .ref 3 0), (4, .ref 4 0), (5, .ref 5 0)], [(3, some (.box (setC A))), (4, some (.box (setC B))), (5, some (.box (setC C)))]⟩ (QF Tryd.prog Tryd.f9 (.flat (.bool true)))) :
    DW Tryd.prog 123 cc ⟨[(3, .ref 3 0), (4, .ref 4 0), (5, .ref 5 0)], [(3, some (.box (setC A))), (4, some (.box (setC B))), (5, some (.box (setC C)))]⟩ (QF Tryd.prog Tryd.f9 (.flat (.bool true))) := by
  refine DW.sel hsel (by rfl) ?_
  cases p with
  | true =>
    refine DW.seq ?_
    refine DW.cut ⟨[(3, .ref 3 0), (4, .ref 4 0), (5, .ref 5 0)], [(3, some (.box (setC A))), (4, some (.box (setC B))), (5, some (.box (setC C)))]⟩ ?_ (tl _ (by rfl))
    refine DW.walk ?_
    exact Nm.mk Sub.auto
  | false =>
    refine DW.seq ?_
    refine DW.cut ⟨[(3, .ref 3 0), (4, .ref 4 0), (5, .ref 5 0)], [(3, some (.box (setC A))), (4, some (.box (setC B))), (5, some (.box (setC C)))]⟩ ?_ (tl _ (by rfl))
    refine DW.walk ?_
    exact Nm.mk Sub.auto
theorem law9_c (A B C U X M N Y I J : Nat)
    (a1 : DFun Tryd.prog 29 [setD B, setD C] (setD U)) (a2 : DFun Tryd.prog 31 [setD A, setD U] (setD X)) (a3 : DFun Tryd.prog 31 [setD A, setD B] (setD M)) (a4 : DFun Tryd.prog 31 [setD A, setD C] (setD N)) (a5 : DFun Tryd.prog 27 [setD M, setD N] (setD X))
    (b1 : DFun Tryd.prog 27 [setD A, setD U] (setD Y)) (b2 : DFun Tryd.prog 27 [setD A, setD B] (setD I)) (b3 : DFun Tryd.prog 27 [setD A, setD C] (setD J)) (b4 : DFun Tryd.prog 29 [setD I, setD J] (setD Y)) (b5 : DFun Tryd.prog 29 [setD M, setD I] (setD A))
    (e1 : EqlD Tryd.prog 24 (setC X) (setC X) true) (e2 : EqlD Tryd.prog 24 (setC Y) (setC Y) true) (e3 : EqlD Tryd.prog 24 (setC A) (setC A) true)
    (tl : ∀ cc : Code, selC [1, 1] code9 = some cc → DW Tryd.prog 123 cc ⟨[(3, .ref 3 0), (4, .ref 4 0), (5, .ref 5 0)], [(3, some (.box (setC A))), (4, some (.box (setC B))), (5, some (.box (setC C)))]⟩ (QF Tryd.prog Tryd.f9 (.flat (.bool true)))) :
    DFun Tryd.prog 9 [setD A, setD B, setD C] (.flat (.bool true)) := by
  refine DFun.enterA Tryd.func9 Tryd.ntmps9 ?_
  refine DW.seq ?_
  refine DW.cut ⟨[(3, .ref 3 0), (4, .ref 4 0), (5, .ref 5 0)], [(3, some (.box (setC A))), (4, some (.box (setC B))), (5, some (.box (setC C)))]⟩ ?_ ?_
  · refine DW.walk ?_
    exact Nm.mk Sub.auto
  · refine DW.seq ?_
    refine DW.cut ⟨[(3, .ref 3 0), (4, .ref 4 0), (5, .ref 5 0)], [(3, some (.box (setC A))), (4, some (.box (setC B))), (5, some (.box (setC C)))]⟩ ?_ (tl _ (by rfl))
    refine DW.walk ?_
    exact Nm.mk Sub.auto
theorem eqlT {S : Nat} (h : SetOk S) : EqlD Tryd.prog 24 (setC S) (setC S) true := by
  have := eqlS h h
  rwa [decide_eq_true rfl] at this
theorem law9_d (A B C : Nat) (hA : SetOk A) (hB : SetOk B) (hC : SetOk C) : DFun Tryd.prog 9 [setD A, setD B, setD C] (.flat (.bool true)) := by
  have a5 := inter_d (minS A B) (minS A C)
  rw [← min_or] at a5
  have b4 := union_d (A &&& B) (A &&& C)
  rw [← and_or] at b4
  have b5 := union_d (minS A B) (A &&& B)
  rw [min_and] at b5
  refine law9_c A B C _ _ _ _ _ _ _ (union_d B C) (minus_d A _) (minus_d A B) (minus_d A C) a5 (inter_d A _) (inter_d A B) (inter_d A C) b4 b5 (eqlT (ok_min hA)) (eqlT (ok_and hA)) (eqlT hA) ?_
  intro cc hcc
  have c1 := subset_d A B hA
  have c2 := isEmpty_d (minS A B) (ok_min hA)
  have e1 : EqlD Tryd.prog 24 (setC (A &&& B)) (setC A) (decide (minS A B = 0)) := by
    have h := eqlS (ok_and (T := B) hA) hA
    rwa [show decide (A &&& B = A) = decide (minS A B = 0) from decide_eq_decide.2 (sub_and A B).symm] at h
  refine mid9 hcc A B C _ _ _ _ _ _ _ _ (els_le A) (els_le B) (els_le _) (els_le _) (els_count A B) (union_d A B) (inter_d A B) (minus_d A B) (len_d A) (len_d B) (len_d _) (len_d _) c1 c2 e1 ?_
  intro cc hcc
  have a2 := inter_d B A
  rw [Nat.and_comm] at a2
  have a4 := union_d B A
  rw [Nat.or_comm] at a4
  have a5 := minus_d A A
  rw [min_self] at a5
  have a6 := isEmpty_d 0 ok_zero
  rw [decide_eq_true rfl] at a6
  have h0 : LookN Tryd.prog 24 [] (kvS A) := ⟨KeysOk.nil keyed_set, key_set A, fun h => by cases h⟩
  have h1 := h0.snoc
  rw [List.nil_append] at h1
  by_cases h : A = B
  · have e3 : EqlD Tryd.prog 24 (setC A) (setC B) true := by have := eqlS hA hB; rwa [decide_eq_true h] at this
    exact tail9t hcc A B C _ _ _ _ (isV_set A) (isV_set B) h0 ⟨h1, by rw [h]; rfl⟩ ⟨h1, rfl⟩ (inter_d A B) a2 (union_d A B) a4 a5 a6 (eqlT (ok_and hA)) (eqlT (ok_or hA hB)) e3
  · have e3 : EqlD Tryd.prog 24 (setC A) (setC B) false := by have := eqlS hA hB; rwa [decide_eq_false h] at this
    have h2 : LookN Tryd.prog 24 [kvS A] (kvS B) := ⟨h1, key_set B, fun hm => h (kvS_inj hA hB (List.mem_singleton.1 hm).symm)⟩
    exact tail9f hcc A B C _ _ _ _ (isV_set A) (isV_set B) h0 h2 ⟨h2.snoc, rfl⟩ (inter_d A B) a2 (union_d A B) a4 a5 a6 (eqlT (ok_and hA)) (eqlT (ok_or hA hB)) e3
end Go.Proofs.YtgcmajgkcahbnaaDoor
