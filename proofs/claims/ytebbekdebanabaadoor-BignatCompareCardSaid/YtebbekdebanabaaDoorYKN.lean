/- Contracts over data: the examples. No condition. -/
import Derived.Test.YtebbekdebanabaaDoorYV3
import Derived.Test.YtebbekdebanabaaDoorYT2
import Derived.Test.YtebbekdebanabaaDoorYX1

set_option linter.unusedSimpArgs false
set_option linter.unusedVariables false
set_option maxHeartbeats 4000000
set_option maxRecDepth 8000
namespace Go.Proofs.YtebbekdebanabaaDoor
open Go Go.RowKit Go.PP Go.Dm Go.Bn
theorem small_len {n : Nat} (h : n < 18446744073709551616) : (dig BW n).length ≤ 100000 := Nat.le_trans (dig_len hBW (k := 2) (by show n < 4294967296 ^ 2; exact h)) (by decide)
theorem dec70 : Lib.decDigits 1180591620717411303424 = [49, 49, 56, 48, 53, 57, 49, 54, 50, 48, 55, 49, 55, 52, 49, 49, 51, 48, 51, 52, 50, 52] := by
  iterate 21 rw [dec_big (by decide)]
  rw [dec_small (by decide)]
  decide +kernel
/-- The examples of the document hold. -/
theorem known_d : DFun Tryd.prog 16 [] (.flat (.bool true)) := by
  obtain ⟨P, hP⟩ : ∃ P, P = 1180591620717411303424 := ⟨_, rfl⟩
  have hP2 : P = 2 ^ 70 := hP
  have c1 : DFun Tryd.prog 36 [.flat (.int .i64 70)] (.tup [natD P, .flat (.int .i64 0)]) := by rw [hP2]; exact pow2_d 70 (by decide)
  have c2 : DFun Tryd.prog 25 [natD P] (strD [49, 49, 56, 48, 53, 57, 49, 54, 50, 48, 55, 49, 55, 52, 49, 49, 51, 48, 51, 52, 50, 52]) := by
    have h := string_d P (Nat.le_trans (dig_len hBW (k := 3) (by rw [hP]; show _ < 4294967296 ^ 3; decide)) (by decide))
    rw [hP, dec70] at h
    rw [hP]; exact h
  clear hP hP2
  have f1000 : DFun Tryd.prog 12 [.flat (.int .u64 1000)] (natD 1000) := fromU_d 1000 (by decide)
  have f7 : DFun Tryd.prog 12 [.flat (.int .u64 7)] (natD 7) := fromU_d 7 (by decide)
  have f142 : DFun Tryd.prog 12 [.flat (.int .u64 142)] (natD 142) := fromU_d 142 (by decide)
  have f6 : DFun Tryd.prog 12 [.flat (.int .u64 6)] (natD 6) := fromU_d 6 (by decide)
  have f84 : DFun Tryd.prog 12 [.flat (.int .u64 84)] (natD 84) := fromU_d 84 (by decide)
  have f36 : DFun Tryd.prog 12 [.flat (.int .u64 36)] (natD 36) := fromU_d 36 (by decide)
  have f12 : DFun Tryd.prog 12 [.flat (.int .u64 12)] (natD 12) := fromU_d 12 (by decide)
  have f1 : DFun Tryd.prog 12 [.flat (.int .u64 1)] (natD 1) := fromU_d 1 (by decide)
  have f2 : DFun Tryd.prog 12 [.flat (.int .u64 2)] (natD 2) := fromU_d 2 (by decide)
  have dm : DFun Tryd.prog 17 [natD 1000, natD 7] (.tup [natD 142, natD 6, .flat (.int .i64 0)]) := divmod_d 1000 7 (small_len (by decide)) (small_len (by decide)) (by decide)
  have gc : DFun Tryd.prog 22 [natD 84, natD 36] (natD 12) := gcd_d 84 36 (small_len (by decide)) (small_len (by decide))
  have e1 : DFun Tryd.prog 23 [natD 142, natD 142] (.flat (.bool true)) := equal_d 142 142 (Nat.le_trans (small_len (by decide)) (by decide)) (Nat.le_trans (small_len (by decide)) (by decide))
  have e2 : DFun Tryd.prog 23 [natD 6, natD 6] (.flat (.bool true)) := equal_d 6 6 (Nat.le_trans (small_len (by decide)) (by decide)) (Nat.le_trans (small_len (by decide)) (by decide))
  have e3 : DFun Tryd.prog 23 [natD 12, natD 12] (.flat (.bool true)) := equal_d 12 12 (Nat.le_trans (small_len (by decide)) (by decide)) (Nat.le_trans (small_len (by decide)) (by decide))
  have e4 : DFun Tryd.prog 23 [natD 1, natD 2] (.flat (.bool false)) := equal_d 1 2 (Nat.le_trans (small_len (by decide)) (by decide)) (Nat.le_trans (small_len (by decide)) (by decide))
  refine DFun.enterA Tryd.func16 Tryd.ntmps16 ?_
  refine DW.walk ?_
  exact ⟨.inr rfl, ResOk.one [] rfl rfl trivial (Vw.pers rfl)⟩
end Go.Proofs.YtebbekdebanabaaDoor
