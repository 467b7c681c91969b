/- Contracts over data: how many elements. No condition. -/
import Derived.Test.YtgcmajgkcahbnaaDoorYA
import Derived.Test.YtgcmajgkcahbnaaDoorYAV
import Derived.Test.YtgcmajgkcahbnaaDoorYAT

set_option linter.unusedSimpArgs false
set_option linter.unusedVariables false
set_option maxHeartbeats 4000000
set_option maxRecDepth 8000
namespace Go.Proofs.YtgcmajgkcahbnaaDoor
open Go Go.RowKit Go.PP Go.Dm Go.Bs
theorem low127 {x : Nat} (hx : x < 9223372036854775808) : IntKind.i64.wrap ((BitVec.ofInt IntKind.i64.bits (x : Int) &&& BitVec.ofInt IntKind.i64.bits 127).toNat) = ((x % 128 : Nat) : Int) := by
  have h1 : (BitVec.ofInt IntKind.i64.bits (x : Int) &&& BitVec.ofInt IntKind.i64.bits 127).toNat = x % 128 := by
    rw [BitVec.toNat_and, ofInt_small (show x < 2 ^ IntKind.i64.bits from Nat.lt_trans hx (by decide))]
    exact Nat.and_two_pow_sub_one_eq_mod x 7
  rw [h1]
  exact w64 (by omega) (by omega)
theorem ones_d (x : Nat) (hx : x < 18446744073709551616) : DFun Tryd.prog 60 [.flat (.int .u64 (x : Nat))] (.flat (.int .i64 (popG x : Nat))) := by
  have b1 : x / 2 ^ 1 &&& 6148914691236517205 ≤ 6148914691236517205 := Nat.and_le_right
  have b2 : x &&& 6148914691236517205 ≤ 6148914691236517205 := Nat.and_le_right
  have f1 : x / 2 ^ 1 < 18446744073709551616 := by omega
  have e1 : ((x / 2 ^ 1 &&& 6148914691236517205 : Nat) : Int) + ((x &&& 6148914691236517205 : Nat) : Int) = ((s1 6148914691236517205 x : Nat) : Int) := by rw [← Int.natCast_add]; rfl
  have c1 : s1 6148914691236517205 x ≤ 12297829382473034410 := by
    have : s1 6148914691236517205 x = (x / 2 ^ 1 &&& 6148914691236517205) + (x &&& 6148914691236517205) := rfl
    omega
  have a1 : IntKind.u64.wrap ((BitVec.ofInt IntKind.u64.bits ((x / 2 ^ 1 : Nat) : Int) &&& BitVec.ofInt IntKind.u64.bits 6148914691236517205).toNat) = ((x / 2 ^ 1 &&& 6148914691236517205 : Nat) : Int) := n64_andL (b := 6148914691236517205) f1 (by decide)
  have a2 : IntKind.u64.wrap ((BitVec.ofInt IntKind.u64.bits ((x : Nat) : Int) &&& BitVec.ofInt IntKind.u64.bits 6148914691236517205).toNat) = ((x &&& 6148914691236517205 : Nat) : Int) := n64_andL (b := 6148914691236517205) (by assumption) (by decide)
  unfold popG
  refine DFun.enterA Tryd.func60 Tryd.ntmps60 ?_
  refine DW.walkTo 2 ?_
  rw [e1]
  generalize s1 6148914691236517205 x = y at *
  clear b1 b2 f1 e1 hx a1 a2
  have b1 : y / 2 ^ 2 &&& 3689348814741910323 ≤ 3689348814741910323 := Nat.and_le_right
  have b2 : y &&& 3689348814741910323 ≤ 3689348814741910323 := Nat.and_le_right
  have f1 : y / 2 ^ 2 < 18446744073709551616 := by omega
  have f2 : y < 18446744073709551616 := by omega
  have e1 : ((y / 2 ^ 2 &&& 3689348814741910323 : Nat) : Int) + ((y &&& 3689348814741910323 : Nat) : Int) = ((s2 3689348814741910323 y : Nat) : Int) := by rw [← Int.natCast_add]; rfl
  have c2 : s2 3689348814741910323 y ≤ 7378697629483820646 := by
    have : s2 3689348814741910323 y = (y / 2 ^ 2 &&& 3689348814741910323) + (y &&& 3689348814741910323) := rfl
    omega
  have a1 : IntKind.u64.wrap ((BitVec.ofInt IntKind.u64.bits ((y / 2 ^ 2 : Nat) : Int) &&& BitVec.ofInt IntKind.u64.bits 3689348814741910323).toNat) = ((y / 2 ^ 2 &&& 3689348814741910323 : Nat) : Int) := n64_andL (b := 3689348814741910323) f1 (by decide)
  have a2 : IntKind.u64.wrap ((BitVec.ofInt IntKind.u64.bits ((y : Nat) : Int) &&& BitVec.ofInt IntKind.u64.bits 3689348814741910323).toNat) = ((y &&& 3689348814741910323 : Nat) : Int) := n64_andL (b := 3689348814741910323) (by assumption) (by decide)
  refine DW.walkTo 3 ?_
  rw [e1]
  generalize s2 3689348814741910323 y = z at *
  clear b1 b2 f1 f2 e1 c1 a1 a2
  have e1 : IntKind.u64.wrap ((BitVec.ofInt IntKind.u64.bits (((z / 2 ^ 4 : Nat) : Int) + (z : Int)) &&& BitVec.ofInt IntKind.u64.bits 1085102592571150095).toNat) = ((s3 1085102592571150095 z : Nat) : Int) := by
    rw [← Int.natCast_add]
    exact n64_andL (b := 1085102592571150095) (show z / 2 ^ 4 + z < 18446744073709551616 by omega) (by decide)
  have c3 : s3 1085102592571150095 z ≤ 1085102592571150095 := Nat.and_le_right
  refine DW.walkTo 4 ?_
  generalize s3 1085102592571150095 z = u at *
  clear e1 c2
  have e1 : (u : Int) + ((u / 2 ^ 8 : Nat) : Int) = ((u + u / 256 : Nat) : Int) := by rw [← Int.natCast_add]
  have c4 : u + u / 256 ≤ 1200000000000000000 := by omega
  refine DW.walkTo 5 ?_
  rw [e1]
  simp only
  generalize u + u / 256 = v at *
  clear e1 c3
  have e1 : (v : Int) + ((v / 2 ^ 16 : Nat) : Int) = ((v + v / 65536 : Nat) : Int) := by rw [← Int.natCast_add]
  have c5 : v + v / 65536 ≤ 1300000000000000000 := by omega
  refine DW.walkTo 6 ?_
  rw [e1]
  generalize v + v / 65536 = p at *
  clear e1 c4
  have e1 : (p : Int) + ((p / 2 ^ 32 : Nat) : Int) = ((p + p / 4294967296 : Nat) : Int) := by rw [← Int.natCast_add]
  have c6 : p + p / 4294967296 ≤ 1400000000000000000 := by omega
  refine DW.walkTo 7 ?_
  rw [e1]
  generalize p + p / 4294967296 = q at *
  clear e1 c5
  have e1 := low127 (x := q) (by omega)
  refine DW.walk ?_
  exact ⟨.inr rfl, ResOk.one [] rfl rfl trivial (Vw.pers rfl)⟩
theorem len_d (S : Nat) : DFun Tryd.prog 40 [setD S] (.flat (.int .i64 (els S).length)) := by
  rw [← cnt_all]
  refine DFun.enterA Tryd.func40 Tryd.ntmps40 ?_
  refine DW.walk ?_
  refine DW.loopA (fun j : Nat => ⟨[(3, .flat (.int .i64 (cntW S j : Nat))), (6, setD S), (7, .flat (.int .i64 j))], []⟩) (fun j => j ≤ 16) (fun j => 16 - j) 0 ?_ (by omega)
  intro j hj
  rcases Nat.lt_or_ge j 16 with hlt | hge
  · have h1 := ones_d (wdS S j) (wdS_lt S j)
    have hY : cntW S (j + 1) = cntW S j + popG (wdS S j) := rfl
    have hl := cntW_le S (j + 1)
    rw [hY] at hl
    generalize popG (wdS S j) = p at *
    generalize cntW S j = X at *
    refine DW.walk ?_
    refine ⟨j + 1, by omega, by omega, ?_⟩
    rw [show ((cntW S (j + 1) : Nat) : Int) = (X : Int) + (p : Int) by rw [hY]; omega]
    exact Sub.auto
  · have hje : j = 16 := by omega
    subst hje
    generalize cntW S 16 = X
    refine DW.walk ?_
    exact ⟨.inr rfl, ResOk.one [] rfl rfl trivial (Vw.pers rfl)⟩
end Go.Proofs.YtgcmajgkcahbnaaDoor
