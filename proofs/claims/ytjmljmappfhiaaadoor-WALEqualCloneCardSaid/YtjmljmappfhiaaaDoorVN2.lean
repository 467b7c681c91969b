/- Contracts over data: the example; logs of valid entries. No condition. -/
import Derived.Test.YtjmljmappfhiaaaDoorVM
set_option linter.unusedSimpArgs false
set_option linter.unusedVariables false
set_option maxHeartbeats 1000000
set_option maxRecDepth 8000
namespace Go.Proofs.YtjmljmappfhiaaaDoor
open Go Go.RowKit Go.PP Go.Dm

theorem new_l : DLend Tryd.prog 12 [] [(429496729600001, none)] [(429496729600001, some (.box [.flat (.slice none 0 0)]))] (.ref 429496729600001 0) := by
  have hid : IdAt 2 429496729600001 := IdAt.of _ _
  refine DLend.enterA Tryd.func12 Tryd.ntmps12 ?_
  refine DW.walk ?_
  exact ⟨.inr rfl, ResL.oneA⟩
theorem encW_a : encW ([97], []) = [97, 32, 48, 32, 50, 53, 50, 52, 99, 54, 100, 50, 10, 10] := by decide +kernel
theorem known_d : DFun Tryd.prog 16 [] (.flat (.bool true)) := by
  have hn := new_l
  have ha := append_ok [] (by decide) ([97], []) (by decide +kernel)
  rw [encW_a] at ha
  have hlen := len_d [([97], [])] (by decide)
  have hc0 := (checksum_d [] (by decide)).le (args' := [.flat (.slice none 0 0)]) (LeL.cons (Le.nil _ _) LeL.nil) (Le.refl _)
  have hc1 := checksum_d [97] (by decide)
  rw [show (sumB []).toNat = 2166136261 by decide +kernel] at hc0
  rw [show (sumB [97]).toNat = 3826002220 by decide +kernel] at hc1
  refine DFun.enterA Tryd.func16 Tryd.ntmps16 ?_
  refine DW.walkTo 4 ?_
  refine DW.adoptBox 429496729600001 0 429496729600002 29 2 rfl rfl rfl ?_
  unfold logB at ha
  have hcv : ((bD [97, 32, 48, 32, 50, 53, 50, 52, 99, 54, 100, 50, 10, 10]).take (4 * 1)) = bD [97, 32, 48, 32] := rfl
  refine DW.walk ?_
  exact ⟨.inr rfl, ResOk.one [] rfl rfl trivial (Vw.pers rfl)⟩
end Go.Proofs.YtjmljmappfhiaaaDoor
