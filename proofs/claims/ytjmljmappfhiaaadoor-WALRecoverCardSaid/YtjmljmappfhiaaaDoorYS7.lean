/- The laws of recovery. No condition. -/
import Derived.Test.YtjmljmappfhiaaaDoorYRc

set_option linter.unusedSimpArgs false
set_option linter.unusedVariables false
set_option maxHeartbeats 8000000
set_option maxRecDepth 8000
namespace Go.Proofs.YtjmljmappfhiaaaDoor
open Go Go.RowKit Go.PP Go.Dm

theorem law7_d (b : Bs) (hbl : b.length ≤ 140737488351232) : DFun Tryd.prog 7 [bytesD b] (.flat (.bool true)) := by
  have hmin : (if (4000 : Int) < (b.length : Int) then 4000 else (b.length : Int)) = ((min b.length 4000 : Nat) : Int) := by split <;> omega
  have hml : min b.length 4000 ≤ b.length := Nat.min_le_left _ _
  have hbt := take_sl b (min b.length 4000) hml
  rw [show b.take (min b.length 4000) = b.take 4000 by rw [Nat.min_comm]; exact List.take_eq_take_min.symm] at hbt
  have hb2 : (b.take 4000).length ≤ 4000 := by simp; omega
  generalize b.take 4000 = b2 at hbt hb2
  obtain ⟨l, hl⟩ := rec_ex b2.length b2 (Nat.le_refl _)
  have h34 := recover_d b2 (by omega) l hl
  have h35 := open_d b2 (by omega) l hl
  have hpre := hl.pre
  have hle := hpre.length_le
  have hsm := hl.sm (by omega)
  have hll := hsm.1
  have h16 := known_d
  have h19 := entries_d l (by omega)
  have h18 := to_d l (by omega)
  have h17 := same_d l l (by omega) (by omega)
  rw [decide_eq_true rfl] at h17
  have h20 := bytesL_d l hsm
  have hcv := take_bD b2 (allW l).length
  rw [← List.prefix_iff_eq_take.1 hpre] at hcv
  generalize allW l = z at *
  have hzz : decide ((z.length : Int) ≠ z.length) = false := by simp
  have hzs : decide (z = z) = true := by simp
  refine DFun.enterA Tryd.func7 Tryd.ntmps7 ?_
  refine DW.walkTo 2 ?_
  refine DW.sub (s' := ⟨[(0, bytesD b2)], []⟩) Sub.auto ?_
  by_cases hlt : z.length < b2.length
  · rw [if_pos hlt] at h34
    refine DW.walk ?_
    exact ⟨.inr rfl, ResOk.one [] rfl rfl trivial (Vw.p rfl (Le.of_eq (show D.flat (Value.bool (decide (z = z))) = D.flat (.bool true) by rw [hzs])))⟩
  · rw [if_neg hlt] at h34
    refine DW.walk ?_
    exact ⟨.inr rfl, ResOk.one [] rfl rfl trivial (Vw.p rfl (Le.of_eq (show D.flat (Value.bool (decide (z = z))) = D.flat (.bool true) by rw [hzs])))⟩

end Go.Proofs.YtjmljmappfhiaaaDoor
