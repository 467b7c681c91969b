/- The arguments of the laws of texts opened as data; the tables that are laid. No condition. -/
import Derived.Test.YtgcmajgkcahbnaaDoorYEO

set_option linter.unusedSimpArgs false
set_option linter.unusedVariables false
set_option maxHeartbeats 1000000
set_option maxRecDepth 8000
namespace Go.Proofs.YtgcmajgkcahbnaaDoor
open Go Go.RowKit Go.PP Go.Dm Go.Bs
open Go.Proofs.YtgcmajgkcahbnaaDoor
theorem opStr : Opens Tryd.prog 9 1 (fun l : List UInt8 => [.flat (.string ⟨l.toArray⟩)]) (fun l => l.length ≤ 140737488351232) := Opens.str (by kernel_rfl) (by kernel_rfl)
set_option maxRecDepth 100000 in
/-- The tables' cells. -/
theorem glw7 {W : World} (h : laidMetH Tryd.prog (("math/bits.deBruijn32tab", Rows.laid_math_bits_deBruijn32tab) :: ("math/bits.deBruijn64tab", Rows.laid_math_bits_deBruijn64tab) :: ("internal/strconv.uint64pow10", Rows.laid_internal_strconv_uint64pow10) :: ("unicode/utf8.acceptRanges", Rows.laid_unicode_utf8_acceptRanges) :: ("strconv.ErrRange", Rows.laid_strconv_ErrRange) :: ("strconv.ErrSyntax", Rows.laid_strconv_ErrSyntax) :: ("unicode/utf8.first", Rows.laid_unicode_utf8_first) :: []) W) : GlW W := by
  rw [MakeChecks.laidMetH_plain _ _ _ (by kernel_rfl)] at h
  obtain ⟨ps, ⟨_, _, _, _, _, _, _, _, _, _, ⟨g1, t1, cs1, fuel1, p1, q1, hg1, ht1, hv1, hd1, ⟨g, t, cs, fuel, p, q, hg, ht, hv, hd, _, _⟩, _⟩, _⟩, _, _⟩ := h
  have h3 : Tryd.prog.globalNamed "internal/strconv.uint64pow10" = some 1 := by kernel_rfl
  obtain rfl := Option.some.inj (h3.symm.trans hg)
  obtain rfl := Option.some.inj ((show (Tryd.prog.globals[1]?).map (·.type) = some 142 by kernel_rfl).symm.trans ht)
  have h4 : Tryd.prog.globalNamed "math/bits.deBruijn64tab" = some 0 := by kernel_rfl
  obtain rfl := Option.some.inj (h4.symm.trans hg1)
  obtain rfl := Option.some.inj ((show (Tryd.prog.globals[0]?).map (·.type) = some 100 by kernel_rfl).symm.trans ht1)
  have hcs : cs.toList = Lib.pow10Tab.map fun z => .int .u64 z := cells_laid (len := 20) (e := 22) (by kernel_rfl) (by kernel_rfl) (by kernel_rfl) (by kernel_rfl) hd
  have hcs1 : cs1.toList = (Lib.deBruijn64tab.map fun n => ((n : Nat) : Int)).map fun z => .int .u8 z := cells_laid (len := 64) (e := 5) (by kernel_rfl) (by kernel_rfl) (by kernel_rfl) (by kernel_rfl) hd1
  intro p hp
  rcases List.mem_cons.1 hp with rfl | hp
  · obtain ⟨T, fz, h1⟩ := var_heap h4 hv1
    exact tab_cell h1 (hcs1.trans (by rw [List.map_map]; rfl))
  · obtain rfl := List.mem_singleton.1 hp
    obtain ⟨T, fz, h1⟩ := var_heap h3 hv
    exact tab_cell h1 hcs
end Go.Proofs.YtgcmajgkcahbnaaDoor
