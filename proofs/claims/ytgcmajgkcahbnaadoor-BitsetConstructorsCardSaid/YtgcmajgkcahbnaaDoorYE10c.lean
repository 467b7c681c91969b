/- The law of the constructors, over data. No condition. -/
import Derived.Test.YtgcmajgkcahbnaaDoorXSl
import Derived.Test.YtgcmajgkcahbnaaDoorYAG
import Derived.Test.YtgcmajgkcahbnaaDoorYB2
import Derived.Test.YtgcmajgkcahbnaaDoorYB3
import Derived.Test.YtgcmajgkcahbnaaDoorYB4
import Derived.Test.YtgcmajgkcahbnaaDoorYB5
import Derived.Test.YtgcmajgkcahbnaaDoorYB6
import Derived.Test.YtgcmajgkcahbnaaDoorYC7
import Derived.Test.YtgcmajgkcahbnaaDoorYD1
import Derived.Test.YtgcmajgkcahbnaaDoorYD6
import Derived.Test.YtgcmajgkcahbnaaDoorYD11

set_option linter.unusedSimpArgs false
set_option linter.unusedVariables false
set_option maxHeartbeats 16000000
set_option maxRecDepth 8000
namespace Go.Proofs.YtgcmajgkcahbnaaDoor
open Go Go.RowKit Go.PP Go.Dm Go.Bs
noncomputable abbrev code10c : Code := Tryd.f10.body.getD .skip
theorem has_bel (z : Int) (i : Nat) (hi : i < 1024) : hasS (belS (clampN z)) (i : Int) = decide ((i : Int) < z) := by
  unfold hasS
  rw [if_neg (by omega), Int.toNat_natCast, tb_bel]
  exact decide_eq_decide.2 (by unfold clampN; omega)
theorem tail10 {cc : Code} (hsel : selC [1, 1, 1, 1, 1, 1, 1] code10c = some cc) (z : Int) :
    DW Tryd.prog 117 cc ⟨[(1, .flat (.int .i64 z))], []⟩ (QF Tryd.prog Tryd.f10 (.flat (.bool true))) := by
  have hB := below_d z
  have hK := known_d
  have hH : ∀ i : Nat, i < 1024 → DFun Tryd.prog 46 [setD (belS (clampN z)), .flat (.int .i64 i)] (.flat (.bool (decide ((i : Int) < z)))) := fun i hi => by
    have := has_d (belS (clampN z)) (i : Int)
    rwa [has_bel z i hi] at this
  generalize belS (clampN z) = B at *
  refine DW.sel hsel (by rfl) ?_
  refine DW.walk ?_
  refine DW.loopA (fun i : Nat => ⟨[(1, .flat (.int .i64 z)), (11, .ref 11 0), (12, .flat (.int .i64 i))], [(11, some (.box (setC B)))]⟩) (fun i => i ≤ 1024) (fun i => 1024 - i) 0 ?_ (by omega)
  intro i hi
  rcases Nat.lt_or_ge i 1024 with hlt | hge
  · have h1 := hH i hlt
    clear hH
    refine DW.walk ?_
    exact ⟨i + 1, by omega, by omega, Sub.auto⟩
  · have hie : i = 1024 := by omega
    subst hie
    clear hH
    refine DW.walk ?_
    exact ⟨.inr rfl, ResOk.one [] rfl rfl trivial (Vw.pers rfl)⟩
end Go.Proofs.YtgcmajgkcahbnaaDoor
