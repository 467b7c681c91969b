/- The seat's tables, and strconv.AppendInt. No condition. -/
import Derived.Test.YtjmljmappfhiaaaDoorNAi
import Derived.Test.YtjmljmappfhiaaaDoorProg
import Derived.Shelf.Lay
import Derived.Ground.NamesProg
import Derived.KernelRfl
set_option linter.unusedSimpArgs false
set_option linter.unusedVariables false
namespace Go.Proofs
open Go.Shelf
shelf_lay LaysM.n176 Nm 176 at Tryd as Tryd.laysAI
end Go.Proofs
namespace Go.Proofs.YtjmljmappfhiaaaDoor
open Go Go.RowKit Go.PP Go.Dm
/-- The one table that is read: the powers of ten. -/
def tab10 : List Value := Lib.pow10Tab.map fun z => .int .u64 z
instance : GlobW := ⟨[(3, tab10.map some)]⟩
theorem gl_tab {w : World} (h : GlW w) : Lib.TabIs Tryd.prog w "internal/strconv.uint64pow10" .u64 Lib.pow10Tab := by
  obtain ⟨T, fz, h1⟩ := h.all (b := 3) (vs := tab10) (List.mem_singleton.2 rfl)
  have hg : Tryd.prog.globalNamed "internal/strconv.uint64pow10" = some 3 := by kernel_rfl
  simp only [Lib.TabIs, World.var?, hg, Option.bind_some, h1]
  rfl
instance : AIC Tryd.prog 50 5 where
  en := fun args w => by go_simp
  h := fun n u sv xs w hu hown hl hg => appendInt Tryd.laysAI n u hu sv xs w hown hl (gl_tab hg)
end Go.Proofs.YtjmljmappfhiaaaDoor
