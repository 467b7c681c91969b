/- More functions of the seat, as instances. No condition. -/
import Derived.Test.YtgcmajgkcahbnaaDoorYA

set_option linter.unusedSimpArgs false
set_option linter.unusedVariables false
namespace Go.Proofs.YtgcmajgkcahbnaaDoor
open Go Go.RowKit Go.PP Go.Dm
theorem ent76 : Enters Tryd.prog 76 := fun args w => by go_simp
instance : EntC Tryd.prog 76 := ⟨ent76⟩
theorem ent77 : Enters Tryd.prog 77 := fun args w => by go_simp
instance : EntC Tryd.prog 77 := ⟨ent77⟩
theorem ent78 : Enters Tryd.prog 78 := fun args w => by go_simp
instance : EntC Tryd.prog 78 := ⟨ent78⟩
theorem ent82 : Enters Tryd.prog 82 := fun args w => by go_simp
instance : EntC Tryd.prog 82 := ⟨ent82⟩
end Go.Proofs.YtgcmajgkcahbnaaDoor
