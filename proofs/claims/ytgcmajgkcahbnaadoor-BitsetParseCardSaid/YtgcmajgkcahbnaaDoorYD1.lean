/- Contracts over data: the reference, To. No condition. -/
import Derived.Test.YtgcmajgkcahbnaaDoorXSl
import Derived.Test.YtgcmajgkcahbnaaDoorYB1
import Derived.Test.YtgcmajgkcahbnaaDoorYAT

set_option linter.unusedSimpArgs false
set_option linter.unusedVariables false
set_option maxHeartbeats 4000000
set_option maxRecDepth 8000
namespace Go.Proofs.YtgcmajgkcahbnaaDoor
open Go Go.RowKit Go.PP Go.Dm Go.Bs
theorem and_lit {a b : Nat} (ha : a < 18446744073709551616) (hb : b < 18446744073709551616) : IntKind.u64.wrap ((BitVec.ofInt IntKind.u64.bits (a : Int) &&& BitVec.ofInt IntKind.u64.bits (@OfNat.ofNat Int b (@instOfNat b))).toNat) = ((a &&& b : Nat) : Int) := n64_and ha hb
theorem to_d (S : Nat) : DFun Tryd.prog 15 [setD S] (intsD (els S)) := by
  have o5 : OwnAt 5 := .of _
  refine DFun.enterA Tryd.func15 Tryd.ntmps15 ?_
  refine DW.walk ?_
  refine DW.loopA (fun j : Nat => ⟨[(1, .ref 1 0), (3, .own 5 (elsN S j).length), (4, .flat (.int .i64 j))], [(1, some (.box (setC S))), (5, some (.row 3 1 (elsN S j).length ((elsN S j).map fun x => .flat (.int .i64 x))))]⟩) (fun j => j ≤ 1024) (fun j => 1024 - j) 0 ?_ (by omega)
  intro j hj
  have hl := elsN_len S j
  rcases Nat.lt_or_ge j 1024 with hlt | hge
  · have hY := elsN_succ S j
    have hb := shr_bit S j
    have h1 := setC_get S (i := j / 64) (by omega)
    have ha := wdS_lt S (j / 64)
    have hq := quo64n j hlt
    have hr := rem64n j
    generalize elsN S j = X at *
    generalize wdS S (j / 64) = a at *
    have h2 : a / 2 ^ (j % 64) < 18446744073709551616 := Nat.lt_of_le_of_lt (Nat.div_le_self _ _) ha
    have hl2 : IntKind.u64.wrap ((BitVec.ofInt IntKind.u64.bits ((a / 2 ^ (j % 64) : Nat) : Int) &&& BitVec.ofInt IntKind.u64.bits 1).toNat) = (((a / 2 ^ (j % 64)) &&& 1 : Nat) : Int) := and_lit h2 (b := 1) (by decide)
    cases hc : S.testBit j with
    | true =>
      rw [hc] at hb hY
      rw [if_pos rfl] at hY
      have hb2 : (((a / 2 ^ (j % 64)) &&& 1 : Nat) : Int) = 1 := by rw [hb]; rfl
      clear hb
      refine DW.walk ?_
      refine ⟨j + 1, by omega, by omega, ?_⟩
      rw [hY]
      exact Sub.auto
    | false =>
      rw [hc] at hb hY
      rw [if_neg (by decide)] at hY
      have hb2 : ¬ (((a / 2 ^ (j % 64)) &&& 1 : Nat) : Int) = 1 := by rw [hb]; decide
      clear hb
      refine DW.walk ?_
      refine ⟨j + 1, by omega, by omega, ?_⟩
      rw [hY]
      exact Sub.auto
  · have hje : j = 1024 := by omega
    subst hje
    rw [← els_N] at hl ⊢
    refine DW.walk ?_
    exact ⟨.inr rfl, ResOk.one [(5, some (.row 3 1 (els S).length ((els S).map fun x => .flat (.int .i64 x))))] rfl rfl ⟨rfl, trivial⟩ (Vw.own (.head _) (VwL.pers (persL_map (fun _ => rfl) _)))⟩
end Go.Proofs.YtgcmajgkcahbnaaDoor
