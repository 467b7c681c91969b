/- What is known of variables: two tables. No condition. -/
import Derived.Test.YtgcmajgkcahbnaaDoorXW
import Derived.Lib.TrailingZeros
import Derived.Lib.ItoaNum
import Derived.Lib.ItoaMem
import Derived.Test.YtgcmajgkcahbnaaDoorProg
import Derived.KernelRfl

namespace Go.Proofs.YtgcmajgkcahbnaaDoor
open Go Go.Dm
def tab64 : List Value := Lib.deBruijn64tab.map fun n => .int .u8 (n : Nat)
def tab10 : List Value := Lib.pow10Tab.map fun z => .int .u64 z
instance : GlobW := ⟨[(0, tab64.map fun v u => u = v), (1, tab10.map fun v u => u = v)]⟩
theorem gl_tab {w : World} (h : GlW w) : Lib.TabIs Tryd.prog w "internal/strconv.uint64pow10" .u64 Lib.pow10Tab := by
  obtain ⟨T, fz, h1⟩ := h.all (b := 1) (vs := tab10) (.tail _ (.head _))
  have hg : Tryd.prog.globalNamed "internal/strconv.uint64pow10" = some 1 := by kernel_rfl
  simp only [Lib.TabIs, World.var?, hg, Option.bind_some, h1]
  rfl
theorem gl_64 {w : World} (h : GlW w) : ∀ j, j < Lib.deBruijn64tab.length → w.cell? ⟨0, j, none⟩ = some (.int .u8 (Lib.deBruijn64tab.getD j 0)) := by
  obtain ⟨T, fz, h1⟩ := h.all (b := 0) (vs := tab64) (.head _)
  intro j hj
  simp only [World.cell?, h1]
  rw [List.getElem?_toArray]
  unfold tab64
  rw [List.getElem?_map, List.getElem?_eq_getElem hj, List.getD_eq_getElem?_getD, List.getElem?_eq_getElem hj]; rfl
end Go.Proofs.YtgcmajgkcahbnaaDoor
