/- What is known of variables: the powers of ten. No condition. -/
import Derived.Test.YtebbekdebanabaaDoorXW
import Derived.Lib.ItoaNum
import Derived.Lib.ItoaMem
import Derived.Test.YtebbekdebanabaaDoorProg
import Derived.KernelRfl
import Derived.Test.YtebbekdebanabaaDoorCheckedPd
import Derived.Test.YtebbekdebanabaaDoorCheckedPe

namespace Go.Proofs.YtebbekdebanabaaDoor
open Go Go.Dm
def tab10 : List Value := Lib.pow10Tab.map fun z => .int .u64 z
instance : GlobW := ⟨[(0, tab10.map fun v u => u = v)]⟩
theorem gl_tab {w : World} (h : GlW w) : Lib.TabIs Tryd.prog w "internal/strconv.uint64pow10" .u64 Lib.pow10Tab := by
  obtain ⟨T, fz, h1⟩ := h.all (b := 0) (vs := tab10) (.head _)
  have hg : Tryd.prog.globalNamed "internal/strconv.uint64pow10" = some 0 := by kernel_rfl
  simp only [Lib.TabIs, World.var?, hg, Option.bind_some, h1]
  rfl
end Go.Proofs.YtebbekdebanabaaDoor

set_option linter.unusedSimpArgs false
set_option linter.unusedVariables false
namespace Go.Proofs.YtebbekdebanabaaDoor
open Go Go.RowKit Go.PP Go.Dm
theorem sz0 : sizeOfT Tryd.prog 0 = some 1 := by kernel_rfl
theorem ag0 : aggOf Tryd.prog 0 = some false := by kernel_rfl
theorem ze0 : zeroT Tryd.prog 0 = some (.tuple #[]) := by kernel_rfl
theorem nf0 : (Tryd.prog.info? 0).map (fun i => (i.zero, i.size, i.bytes)) = some (some (.tuple #[]), 1, 0) := by kernel_rfl
theorem sz3 : sizeOfT Tryd.prog 3 = some 1 := by kernel_rfl
theorem ag3 : aggOf Tryd.prog 3 = some false := by kernel_rfl
theorem ze3 : zeroT Tryd.prog 3 = some (.int .i64 0) := by kernel_rfl
theorem nf3 : (Tryd.prog.info? 3).map (fun i => (i.zero, i.size, i.bytes)) = some (some (.int .i64 0), 1, 8) := by kernel_rfl
theorem sz4 : sizeOfT Tryd.prog 4 = some 1 := by kernel_rfl
theorem ag4 : aggOf Tryd.prog 4 = some false := by kernel_rfl
theorem ze4 : zeroT Tryd.prog 4 = some (.bool false) := by kernel_rfl
theorem nf4 : (Tryd.prog.info? 4).map (fun i => (i.zero, i.size, i.bytes)) = some (some (.bool false), 1, 1) := by kernel_rfl
theorem un4 : Tryd.prog.underlying 4 = some .bool := by kernel_rfl
theorem sz5 : sizeOfT Tryd.prog 5 = some 1 := by kernel_rfl
theorem ag5 : aggOf Tryd.prog 5 = some false := by kernel_rfl
theorem ze5 : zeroT Tryd.prog 5 = some (.int .u8 0) := by kernel_rfl
theorem nf5 : (Tryd.prog.info? 5).map (fun i => (i.zero, i.size, i.bytes)) = some (some (.int .u8 0), 1, 1) := by kernel_rfl
theorem sz9 : sizeOfT Tryd.prog 9 = some 1 := by kernel_rfl
theorem ag9 : aggOf Tryd.prog 9 = some false := by kernel_rfl
theorem ze9 : zeroT Tryd.prog 9 = some (.string ⟨#[]⟩) := by kernel_rfl
theorem nf9 : (Tryd.prog.info? 9).map (fun i => (i.zero, i.size, i.bytes)) = some (some (.string ⟨#[]⟩), 1, 16) := by kernel_rfl
theorem sz20 : sizeOfT Tryd.prog 20 = some 1 := by kernel_rfl
theorem ag20 : aggOf Tryd.prog 20 = some false := by kernel_rfl
theorem ze20 : zeroT Tryd.prog 20 = some (.nilIface) := by kernel_rfl
theorem nf20 : (Tryd.prog.info? 20).map (fun i => (i.zero, i.size, i.bytes)) = some (some (.nilIface), 1, 16) := by kernel_rfl
theorem sz21 : sizeOfT Tryd.prog 21 = some 1 := by kernel_rfl
theorem ag21 : aggOf Tryd.prog 21 = some false := by kernel_rfl
theorem ze21 : zeroT Tryd.prog 21 = some (.int .i32 0) := by kernel_rfl
theorem nf21 : (Tryd.prog.info? 21).map (fun i => (i.zero, i.size, i.bytes)) = some (some (.int .i32 0), 1, 4) := by kernel_rfl
theorem sz22 : sizeOfT Tryd.prog 22 = some 1 := by kernel_rfl
theorem ag22 : aggOf Tryd.prog 22 = some false := by kernel_rfl
theorem ze22 : zeroT Tryd.prog 22 = some (.int .u32 0) := by kernel_rfl
theorem nf22 : (Tryd.prog.info? 22).map (fun i => (i.zero, i.size, i.bytes)) = some (some (.int .u32 0), 1, 4) := by kernel_rfl
theorem sz23 : sizeOfT Tryd.prog 23 = some 1 := by kernel_rfl
theorem ag23 : aggOf Tryd.prog 23 = some false := by kernel_rfl
theorem ze23 : zeroT Tryd.prog 23 = some (.slice none 0 0) := by kernel_rfl
theorem nf23 : (Tryd.prog.info? 23).map (fun i => (i.zero, i.size, i.bytes)) = some (some (.slice none 0 0), 1, 24) := by kernel_rfl
theorem un23 : Tryd.prog.underlying 23 = some (.slice 22) := by kernel_rfl
theorem sz25 : sizeOfT Tryd.prog 25 = some 1 := by kernel_rfl
theorem ag25 : aggOf Tryd.prog 25 = some true := by kernel_rfl
theorem ze25 : zeroT Tryd.prog 25 = some (.agg #[.slice none 0 0]) := by kernel_rfl
theorem nf25 : (Tryd.prog.info? 25).map (fun i => (i.zero, i.size, i.bytes)) = some (some (.agg #[.slice none 0 0]), 1, 24) := by kernel_rfl
theorem pl25 {fs : List Field} (h : Tryd.prog.underlying 25 = some (.struct fs.toArray)) : placesD Tryd.prog fs = some [(0, 1)] := by
  rw [Tryd.underlying25] at h
  simp only [Option.some.injEq, TypeDesc.struct.injEq] at h
  have h2 := congrArg Array.toList h
  simp only [List.toList_toArray] at h2
  subst h2
  simp only [placesD, sz23]
theorem fd25_0 : FieldAt Tryd.prog 25 0 0 1 := ⟨_, _, Tryd.underlying25, rfl, rfl, by kernel_rfl, by kernel_rfl⟩
theorem sz27 : sizeOfT Tryd.prog 27 = some 1 := by kernel_rfl
theorem ag27 : aggOf Tryd.prog 27 = some false := by kernel_rfl
theorem ze27 : zeroT Tryd.prog 27 = some (.int .u64 0) := by kernel_rfl
theorem nf27 : (Tryd.prog.info? 27).map (fun i => (i.zero, i.size, i.bytes)) = some (some (.int .u64 0), 1, 8) := by kernel_rfl
theorem sz28 : sizeOfT Tryd.prog 28 = some 1 := by kernel_rfl
theorem ag28 : aggOf Tryd.prog 28 = some false := by kernel_rfl
theorem ze28 : zeroT Tryd.prog 28 = some (.tuple #[.int .u64 0, .bool false]) := by kernel_rfl
theorem nf28 : (Tryd.prog.info? 28).map (fun i => (i.zero, i.size, i.bytes)) = some (some (.tuple #[.int .u64 0, .bool false]), 1, 0) := by kernel_rfl
theorem sz32 : sizeOfT Tryd.prog 32 = some 1 := by kernel_rfl
theorem ag32 : aggOf Tryd.prog 32 = some false := by kernel_rfl
theorem ze32 : zeroT Tryd.prog 32 = some (.int .i64 0) := by kernel_rfl
theorem nf32 : (Tryd.prog.info? 32).map (fun i => (i.zero, i.size, i.bytes)) = some (some (.int .i64 0), 1, 8) := by kernel_rfl
theorem sz33 : sizeOfT Tryd.prog 33 = some 1 := by kernel_rfl
theorem ag33 : aggOf Tryd.prog 33 = some false := by kernel_rfl
theorem ze33 : zeroT Tryd.prog 33 = some (.tuple #[.agg #[.slice none 0 0], .agg #[.slice none 0 0], .int .i64 0]) := by kernel_rfl
theorem nf33 : (Tryd.prog.info? 33).map (fun i => (i.zero, i.size, i.bytes)) = some (some (.tuple #[.agg #[.slice none 0 0], .agg #[.slice none 0 0], .int .i64 0]), 1, 0) := by kernel_rfl
theorem sz36 : sizeOfT Tryd.prog 36 = some 1 := by kernel_rfl
theorem ag36 : aggOf Tryd.prog 36 = some false := by kernel_rfl
theorem ze36 : zeroT Tryd.prog 36 = some (.slice none 0 0) := by kernel_rfl
theorem nf36 : (Tryd.prog.info? 36).map (fun i => (i.zero, i.size, i.bytes)) = some (some (.slice none 0 0), 1, 24) := by kernel_rfl
theorem un36 : Tryd.prog.underlying 36 = some (.slice 5) := by kernel_rfl
theorem sz40 : sizeOfT Tryd.prog 40 = some 1 := by kernel_rfl
theorem ag40 : aggOf Tryd.prog 40 = some false := by kernel_rfl
theorem ze40 : zeroT Tryd.prog 40 = some (.slice none 0 0) := by kernel_rfl
theorem nf40 : (Tryd.prog.info? 40).map (fun i => (i.zero, i.size, i.bytes)) = some (some (.slice none 0 0), 1, 24) := by kernel_rfl
theorem un40 : Tryd.prog.underlying 40 = some (.slice 3) := by kernel_rfl
theorem sz43 : sizeOfT Tryd.prog 43 = some 1 := by kernel_rfl
theorem ag43 : aggOf Tryd.prog 43 = some false := by kernel_rfl
theorem ze43 : zeroT Tryd.prog 43 = some (.tuple #[.slice none 0 0, .slice none 0 0]) := by kernel_rfl
theorem nf43 : (Tryd.prog.info? 43).map (fun i => (i.zero, i.size, i.bytes)) = some (some (.tuple #[.slice none 0 0, .slice none 0 0]), 1, 0) := by kernel_rfl
theorem sz49 : sizeOfT Tryd.prog 49 = some 1 := by kernel_rfl
theorem ag49 : aggOf Tryd.prog 49 = some false := by kernel_rfl
theorem ze49 : zeroT Tryd.prog 49 = some (.tuple #[.int .i64 0, .bool false]) := by kernel_rfl
theorem nf49 : (Tryd.prog.info? 49).map (fun i => (i.zero, i.size, i.bytes)) = some (some (.tuple #[.int .i64 0, .bool false]), 1, 0) := by kernel_rfl
theorem sz57 : sizeOfT Tryd.prog 57 = some 1 := by kernel_rfl
theorem ag57 : aggOf Tryd.prog 57 = some false := by kernel_rfl
theorem ze57 : zeroT Tryd.prog 57 = some (.tuple #[.agg #[.slice none 0 0], .int .i64 0]) := by kernel_rfl
theorem nf57 : (Tryd.prog.info? 57).map (fun i => (i.zero, i.size, i.bytes)) = some (some (.tuple #[.agg #[.slice none 0 0], .int .i64 0]), 1, 0) := by kernel_rfl
theorem sz59 : sizeOfT Tryd.prog 59 = some 1 := by kernel_rfl
theorem ag59 : aggOf Tryd.prog 59 = some false := by kernel_rfl
theorem ze59 : zeroT Tryd.prog 59 = some (.tuple #[.slice none 0 0, .bool false]) := by kernel_rfl
theorem nf59 : (Tryd.prog.info? 59).map (fun i => (i.zero, i.size, i.bytes)) = some (some (.tuple #[.slice none 0 0, .bool false]), 1, 0) := by kernel_rfl
theorem sz71 : sizeOfT Tryd.prog 71 = some 1 := by kernel_rfl
theorem ag71 : aggOf Tryd.prog 71 = some false := by kernel_rfl
theorem ze71 : zeroT Tryd.prog 71 = some (.int .u64 0) := by kernel_rfl
theorem nf71 : (Tryd.prog.info? 71).map (fun i => (i.zero, i.size, i.bytes)) = some (some (.int .u64 0), 1, 8) := by kernel_rfl
theorem sz74 : sizeOfT Tryd.prog 74 = some 1 := by kernel_rfl
theorem ag74 : aggOf Tryd.prog 74 = some false := by kernel_rfl
theorem ze74 : zeroT Tryd.prog 74 = some (.nilFunc) := by kernel_rfl
theorem nf74 : (Tryd.prog.info? 74).map (fun i => (i.zero, i.size, i.bytes)) = some (some (.nilFunc), 1, 8) := by kernel_rfl
theorem sz75 : sizeOfT Tryd.prog 75 = some 1 := by kernel_rfl
theorem ag75 : aggOf Tryd.prog 75 = some false := by kernel_rfl
theorem ze75 : zeroT Tryd.prog 75 = some (.tuple #[.agg #[.slice none 0 0], .int .u64 0]) := by kernel_rfl
theorem nf75 : (Tryd.prog.info? 75).map (fun i => (i.zero, i.size, i.bytes)) = some (some (.tuple #[.agg #[.slice none 0 0], .int .u64 0]), 1, 0) := by kernel_rfl
theorem sz79 : sizeOfT Tryd.prog 79 = some 1 := by kernel_rfl
theorem ag79 : aggOf Tryd.prog 79 = some false := by kernel_rfl
theorem ze79 : zeroT Tryd.prog 79 = some (.nilFunc) := by kernel_rfl
theorem nf79 : (Tryd.prog.info? 79).map (fun i => (i.zero, i.size, i.bytes)) = some (some (.nilFunc), 1, 8) := by kernel_rfl
theorem sz80 : sizeOfT Tryd.prog 80 = some 1 := by kernel_rfl
theorem ag80 : aggOf Tryd.prog 80 = some false := by kernel_rfl
theorem ze80 : zeroT Tryd.prog 80 = some (.nilFunc) := by kernel_rfl
theorem nf80 : (Tryd.prog.info? 80).map (fun i => (i.zero, i.size, i.bytes)) = some (some (.nilFunc), 1, 8) := by kernel_rfl
theorem sz85 : sizeOfT Tryd.prog 85 = some 1 := by kernel_rfl
theorem ag85 : aggOf Tryd.prog 85 = some false := by kernel_rfl
theorem ze85 : zeroT Tryd.prog 85 = some (.slice none 0 0) := by kernel_rfl
theorem nf85 : (Tryd.prog.info? 85).map (fun i => (i.zero, i.size, i.bytes)) = some (some (.slice none 0 0), 1, 24) := by kernel_rfl
theorem un85 : Tryd.prog.underlying 85 = some (.slice 36) := by kernel_rfl
theorem sz88 : sizeOfT Tryd.prog 88 = some 1 := by kernel_rfl
theorem ag88 : aggOf Tryd.prog 88 = some false := by kernel_rfl
theorem ze88 : zeroT Tryd.prog 88 = some (.slice none 0 0) := by kernel_rfl
theorem nf88 : (Tryd.prog.info? 88).map (fun i => (i.zero, i.size, i.bytes)) = some (some (.slice none 0 0), 1, 24) := by kernel_rfl
theorem un88 : Tryd.prog.underlying 88 = some (.slice 9) := by kernel_rfl
theorem sz96 : sizeOfT Tryd.prog 96 = some 1 := by kernel_rfl
theorem ag96 : aggOf Tryd.prog 96 = some false := by kernel_rfl
theorem ze96 : zeroT Tryd.prog 96 = some (.slice none 0 0) := by kernel_rfl
theorem nf96 : (Tryd.prog.info? 96).map (fun i => (i.zero, i.size, i.bytes)) = some (some (.slice none 0 0), 1, 24) := by kernel_rfl
theorem un96 : Tryd.prog.underlying 96 = some (.slice 25) := by kernel_rfl
theorem sz97 : sizeOfT Tryd.prog 97 = some 1 := by kernel_rfl
theorem ag97 : aggOf Tryd.prog 97 = some false := by kernel_rfl
theorem ze97 : zeroT Tryd.prog 97 = some (.tuple #[.int .u32 0, .int .u64 0]) := by kernel_rfl
theorem nf97 : (Tryd.prog.info? 97).map (fun i => (i.zero, i.size, i.bytes)) = some (some (.tuple #[.int .u32 0, .int .u64 0]), 1, 0) := by kernel_rfl
theorem sz98 : sizeOfT Tryd.prog 98 = some 1 := by kernel_rfl
theorem ag98 : aggOf Tryd.prog 98 = some false := by kernel_rfl
theorem ze98 : zeroT Tryd.prog 98 = some (.nilFunc) := by kernel_rfl
theorem nf98 : (Tryd.prog.info? 98).map (fun i => (i.zero, i.size, i.bytes)) = some (some (.nilFunc), 1, 8) := by kernel_rfl
theorem sz99 : sizeOfT Tryd.prog 99 = some 1 := by kernel_rfl
theorem ag99 : aggOf Tryd.prog 99 = some false := by kernel_rfl
theorem ze99 : zeroT Tryd.prog 99 = some (.tuple #[.int .u64 0, .int .u64 0]) := by kernel_rfl
theorem nf99 : (Tryd.prog.info? 99).map (fun i => (i.zero, i.size, i.bytes)) = some (some (.tuple #[.int .u64 0, .int .u64 0]), 1, 0) := by kernel_rfl
theorem sz102 : sizeOfT Tryd.prog 102 = some 1 := by kernel_rfl
theorem ag102 : aggOf Tryd.prog 102 = some false := by kernel_rfl
theorem ze102 : zeroT Tryd.prog 102 = some (.pointer none) := by kernel_rfl
theorem nf102 : (Tryd.prog.info? 102).map (fun i => (i.zero, i.size, i.bytes)) = some (some (.pointer none), 1, 8) := by kernel_rfl
theorem sz104 : sizeOfT Tryd.prog 104 = some 2 := by kernel_rfl
theorem ag104 : aggOf Tryd.prog 104 = some true := by kernel_rfl
theorem ze104 : zeroT Tryd.prog 104 = some (.agg #[.pointer none, .slice none 0 0]) := by kernel_rfl
theorem nf104 : (Tryd.prog.info? 104).map (fun i => (i.zero, i.size, i.bytes)) = some (some (.agg #[.pointer none, .slice none 0 0]), 2, 32) := by kernel_rfl
theorem pl104 {fs : List Field} (h : Tryd.prog.underlying 104 = some (.struct fs.toArray)) : placesD Tryd.prog fs = some [(0, 1), (1, 1)] := by
  rw [Tryd.underlying104] at h
  simp only [Option.some.injEq, TypeDesc.struct.injEq] at h
  have h2 := congrArg Array.toList h
  simp only [List.toList_toArray] at h2
  subst h2
  simp only [placesD, sz102, sz36]
theorem fd104_0 : FieldAt Tryd.prog 104 0 0 1 := ⟨_, _, Tryd.underlying104, rfl, rfl, by kernel_rfl, by kernel_rfl⟩
theorem fd104_1 : FieldAt Tryd.prog 104 1 1 1 := ⟨_, _, Tryd.underlying104, rfl, rfl, by kernel_rfl, by kernel_rfl⟩
theorem sz107 : sizeOfT Tryd.prog 107 = some 1 := by kernel_rfl
theorem ag107 : aggOf Tryd.prog 107 = some false := by kernel_rfl
theorem ze107 : zeroT Tryd.prog 107 = some (.nilIface) := by kernel_rfl
theorem nf107 : (Tryd.prog.info? 107).map (fun i => (i.zero, i.size, i.bytes)) = some (some (.nilIface), 1, 16) := by kernel_rfl
theorem sz108 : sizeOfT Tryd.prog 108 = some 1 := by kernel_rfl
theorem ag108 : aggOf Tryd.prog 108 = some false := by kernel_rfl
theorem ze108 : zeroT Tryd.prog 108 = some (.tuple #[.int .i64 0, .nilIface]) := by kernel_rfl
theorem nf108 : (Tryd.prog.info? 108).map (fun i => (i.zero, i.size, i.bytes)) = some (some (.tuple #[.int .i64 0, .nilIface]), 1, 0) := by kernel_rfl
theorem sz112 : sizeOfT Tryd.prog 112 = some 256 := by kernel_rfl
theorem ag112 : aggOf Tryd.prog 112 = some true := by kernel_rfl
theorem un112 : Tryd.prog.underlying 112 = some (.array 256 4) := by kernel_rfl
theorem sz113 : sizeOfT Tryd.prog 113 = some 1 := by kernel_rfl
theorem ag113 : aggOf Tryd.prog 113 = some false := by kernel_rfl
theorem ze113 : zeroT Tryd.prog 113 = some (.tuple #[.agg #[.bool false, .bool false, .bool false, .bool false, .bool false, .bool false, .bool false, .bool false, .bool false, .bool false, .bool false, .bool false, .bool false, .bool false, .bool false, .bool false, .bool false, .bool false, .bool false, .bool false, .bool false, .bool false, .bool false, .bool false, .bool false, .bool false, .bool false, .bool false, .bool false, .bool false, .bool false, .bool false, .bool false, .bool false, .bool false, .bool false, .bool false, .bool false, .bool false, .bool false, .bool false, .bool false, .bool false, .bool false, .bool false, .bool false, .bool false, .bool false, .bool false, .bool false, .bool false, .bool false, .bool false, .bool false, .bool false, .bool false, .bool false, .bool false, .bool false, .bool false, .bool false, .bool false, .bool false, .bool false, .bool false, .bool false, .bool false, .bool false, .bool false, .bool false, .bool false, .bool false, .bool false, .bool false, .bool false, .bool false, .bool false, .bool false, .bool false, .bool false, .bool false, .bool false, .bool false, .bool false, .bool false, .bool false, .bool false, .bool false, .bool false, .bool false, .bool false, .bool false, .bool false, .bool false, .bool false, .bool false, .bool false, .bool false, .bool false, .bool false, .bool false, .bool false, .bool false, .bool false, .bool false, .bool false, .bool false, .bool false, .bool false, .bool false, .bool false, .bool false, .bool false, .bool false, .bool false, .bool false, .bool false, .bool false, .bool false, .bool false, .bool false, .bool false, .bool false, .bool false, .bool false, .bool false, .bool false, .bool false, .bool false, .bool false, .bool false, .bool false, .bool false, .bool false, .bool false, .bool false, .bool false, .bool false, .bool false, .bool false, .bool false, .bool false, .bool false, .bool false, .bool false, .bool false, .bool false, .bool false, .bool false, .bool false, .bool false, .bool false, .bool false, .bool false, .bool false, .bool false, .bool false, .bool false, .bool false, .bool false, .bool false, .bool false, .bool false, .bool false, .bool false, .bool false, .bool false, .bool false, .bool false, .bool false, .bool false, .bool false, .bool false, .bool false, .bool false, .bool false, .bool false, .bool false, .bool false, .bool false, .bool false, .bool false, .bool false, .bool false, .bool false, .bool false, .bool false, .bool false, .bool false, .bool false, .bool false, .bool false, .bool false, .bool false, .bool false, .bool false, .bool false, .bool false, .bool false, .bool false, .bool false, .bool false, .bool false, .bool false, .bool false, .bool false, .bool false, .bool false, .bool false, .bool false, .bool false, .bool false, .bool false, .bool false, .bool false, .bool false, .bool false, .bool false, .bool false, .bool false, .bool false, .bool false, .bool false, .bool false, .bool false, .bool false, .bool false, .bool false, .bool false, .bool false, .bool false, .bool false, .bool false, .bool false, .bool false, .bool false, .bool false, .bool false, .bool false, .bool false, .bool false, .bool false, .bool false, .bool false, .bool false, .bool false, .bool false, .bool false, .bool false, .bool false, .bool false, .bool false, .bool false, .bool false, .bool false, .bool false], .bool false]) := by kernel_rfl
theorem nf113 : (Tryd.prog.info? 113).map (fun i => (i.zero, i.size, i.bytes)) = some (some (.tuple #[.agg #[.bool false, .bool false, .bool false, .bool false, .bool false, .bool false, .bool false, .bool false, .bool false, .bool false, .bool false, .bool false, .bool false, .bool false, .bool false, .bool false, .bool false, .bool false, .bool false, .bool false, .bool false, .bool false, .bool false, .bool false, .bool false, .bool false, .bool false, .bool false, .bool false, .bool false, .bool false, .bool false, .bool false, .bool false, .bool false, .bool false, .bool false, .bool false, .bool false, .bool false, .bool false, .bool false, .bool false, .bool false, .bool false, .bool false, .bool false, .bool false, .bool false, .bool false, .bool false, .bool false, .bool false, .bool false, .bool false, .bool false, .bool false, .bool false, .bool false, .bool false, .bool false, .bool false, .bool false, .bool false, .bool false, .bool false, .bool false, .bool false, .bool false, .bool false, .bool false, .bool false, .bool false, .bool false, .bool false, .bool false, .bool false, .bool false, .bool false, .bool false, .bool false, .bool false, .bool false, .bool false, .bool false, .bool false, .bool false, .bool false, .bool false, .bool false, .bool false, .bool false, .bool false, .bool false, .bool false, .bool false, .bool false, .bool false, .bool false, .bool false, .bool false, .bool false, .bool false, .bool false, .bool false, .bool false, .bool false, .bool false, .bool false, .bool false, .bool false, .bool false, .bool false, .bool false, .bool false, .bool false, .bool false, .bool false, .bool false, .bool false, .bool false, .bool false, .bool false, .bool false, .bool false, .bool false, .bool false, .bool false, .bool false, .bool false, .bool false, .bool false, .bool false, .bool false, .bool false, .bool false, .bool false, .bool false, .bool false, .bool false, .bool false, .bool false, .bool false, .bool false, .bool false, .bool false, .bool false, .bool false, .bool false, .bool false, .bool false, .bool false, .bool false, .bool false, .bool false, .bool false, .bool false, .bool false, .bool false, .bool false, .bool false, .bool false, .bool false, .bool false, .bool false, .bool false, .bool false, .bool false, .bool false, .bool false, .bool false, .bool false, .bool false, .bool false, .bool false, .bool false, .bool false, .bool false, .bool false, .bool false, .bool false, .bool false, .bool false, .bool false, .bool false, .bool false, .bool false, .bool false, .bool false, .bool false, .bool false, .bool false, .bool false, .bool false, .bool false, .bool false, .bool false, .bool false, .bool false, .bool false, .bool false, .bool false, .bool false, .bool false, .bool false, .bool false, .bool false, .bool false, .bool false, .bool false, .bool false, .bool false, .bool false, .bool false, .bool false, .bool false, .bool false, .bool false, .bool false, .bool false, .bool false, .bool false, .bool false, .bool false, .bool false, .bool false, .bool false, .bool false, .bool false, .bool false, .bool false, .bool false, .bool false, .bool false, .bool false, .bool false, .bool false, .bool false, .bool false, .bool false, .bool false, .bool false, .bool false, .bool false, .bool false, .bool false, .bool false, .bool false, .bool false, .bool false, .bool false, .bool false, .bool false, .bool false, .bool false, .bool false], .bool false]), 1, 0) := by kernel_rfl
theorem sz116 : sizeOfT Tryd.prog 116 = some 1 := by kernel_rfl
theorem ag116 : aggOf Tryd.prog 116 = some false := by kernel_rfl
theorem ze116 : zeroT Tryd.prog 116 = some (.pointer none) := by kernel_rfl
theorem nf116 : (Tryd.prog.info? 116).map (fun i => (i.zero, i.size, i.bytes)) = some (some (.pointer none), 1, 8) := by kernel_rfl
theorem sz118 : sizeOfT Tryd.prog 118 = some 24 := by kernel_rfl
theorem ag118 : aggOf Tryd.prog 118 = some true := by kernel_rfl
theorem ze118 : zeroT Tryd.prog 118 = some (.agg #[.int .u8 0, .int .u8 0, .int .u8 0, .int .u8 0, .int .u8 0, .int .u8 0, .int .u8 0, .int .u8 0, .int .u8 0, .int .u8 0, .int .u8 0, .int .u8 0, .int .u8 0, .int .u8 0, .int .u8 0, .int .u8 0, .int .u8 0, .int .u8 0, .int .u8 0, .int .u8 0, .int .u8 0, .int .u8 0, .int .u8 0, .int .u8 0]) := by kernel_rfl
theorem nf118 : (Tryd.prog.info? 118).map (fun i => (i.zero, i.size, i.bytes)) = some (some (.agg #[.int .u8 0, .int .u8 0, .int .u8 0, .int .u8 0, .int .u8 0, .int .u8 0, .int .u8 0, .int .u8 0, .int .u8 0, .int .u8 0, .int .u8 0, .int .u8 0, .int .u8 0, .int .u8 0, .int .u8 0, .int .u8 0, .int .u8 0, .int .u8 0, .int .u8 0, .int .u8 0, .int .u8 0, .int .u8 0, .int .u8 0, .int .u8 0]), 24, 24) := by kernel_rfl
theorem un118 : Tryd.prog.underlying 118 = some (.array 24 5) := by kernel_rfl
theorem sz121 : sizeOfT Tryd.prog 121 = some 1 := by kernel_rfl
theorem ag121 : aggOf Tryd.prog 121 = some false := by kernel_rfl
theorem ze121 : zeroT Tryd.prog 121 = some (.tuple #[.slice none 0 0, .string ⟨#[]⟩]) := by kernel_rfl
theorem nf121 : (Tryd.prog.info? 121).map (fun i => (i.zero, i.size, i.bytes)) = some (some (.tuple #[.slice none 0 0, .string ⟨#[]⟩]), 1, 0) := by kernel_rfl
theorem sz123 : sizeOfT Tryd.prog 123 = some 1 := by kernel_rfl
theorem ag123 : aggOf Tryd.prog 123 = some false := by kernel_rfl
theorem ze123 : zeroT Tryd.prog 123 = some (.tuple #[.int .u32 0, .int .u32 0]) := by kernel_rfl
theorem nf123 : (Tryd.prog.info? 123).map (fun i => (i.zero, i.size, i.bytes)) = some (some (.tuple #[.int .u32 0, .int .u32 0]), 1, 0) := by kernel_rfl
theorem sz125 : sizeOfT Tryd.prog 125 = some 1 := by kernel_rfl
theorem ag125 : aggOf Tryd.prog 125 = some false := by kernel_rfl
theorem ze125 : zeroT Tryd.prog 125 = some (.tuple #[.int .u64 0, .int .u64 0]) := by kernel_rfl
theorem nf125 : (Tryd.prog.info? 125).map (fun i => (i.zero, i.size, i.bytes)) = some (some (.tuple #[.int .u64 0, .int .u64 0]), 1, 0) := by kernel_rfl
theorem sz127 : sizeOfT Tryd.prog 127 = some 1 := by kernel_rfl
theorem ag127 : aggOf Tryd.prog 127 = some false := by kernel_rfl
theorem ze127 : zeroT Tryd.prog 127 = some (.pointer none) := by kernel_rfl
theorem nf127 : (Tryd.prog.info? 127).map (fun i => (i.zero, i.size, i.bytes)) = some (some (.pointer none), 1, 8) := by kernel_rfl
theorem sz129 : sizeOfT Tryd.prog 129 = some 1 := by kernel_rfl
theorem ag129 : aggOf Tryd.prog 129 = some false := by kernel_rfl
theorem ze129 : zeroT Tryd.prog 129 = some (.tuple #[.int .i32 0, .int .i64 0]) := by kernel_rfl
theorem nf129 : (Tryd.prog.info? 129).map (fun i => (i.zero, i.size, i.bytes)) = some (some (.tuple #[.int .i32 0, .int .i64 0]), 1, 0) := by kernel_rfl
theorem sz134 : sizeOfT Tryd.prog 134 = some 20 := by kernel_rfl
theorem ag134 : aggOf Tryd.prog 134 = some true := by kernel_rfl
theorem ze134 : zeroT Tryd.prog 134 = some (.agg #[.int .u64 0, .int .u64 0, .int .u64 0, .int .u64 0, .int .u64 0, .int .u64 0, .int .u64 0, .int .u64 0, .int .u64 0, .int .u64 0, .int .u64 0, .int .u64 0, .int .u64 0, .int .u64 0, .int .u64 0, .int .u64 0, .int .u64 0, .int .u64 0, .int .u64 0, .int .u64 0]) := by kernel_rfl
theorem nf134 : (Tryd.prog.info? 134).map (fun i => (i.zero, i.size, i.bytes)) = some (some (.agg #[.int .u64 0, .int .u64 0, .int .u64 0, .int .u64 0, .int .u64 0, .int .u64 0, .int .u64 0, .int .u64 0, .int .u64 0, .int .u64 0, .int .u64 0, .int .u64 0, .int .u64 0, .int .u64 0, .int .u64 0, .int .u64 0, .int .u64 0, .int .u64 0, .int .u64 0, .int .u64 0]), 20, 160) := by kernel_rfl
theorem un134 : Tryd.prog.underlying 134 = some (.array 20 27) := by kernel_rfl
theorem sz135 : sizeOfT Tryd.prog 135 = some 65 := by kernel_rfl
theorem ag135 : aggOf Tryd.prog 135 = some true := by kernel_rfl
theorem un135 : Tryd.prog.underlying 135 = some (.array 65 5) := by kernel_rfl
theorem sz137 : sizeOfT Tryd.prog 137 = some 1 := by kernel_rfl
theorem ag137 : aggOf Tryd.prog 137 = some false := by kernel_rfl
theorem ze137 : zeroT Tryd.prog 137 = some (.pointer none) := by kernel_rfl
theorem nf137 : (Tryd.prog.info? 137).map (fun i => (i.zero, i.size, i.bytes)) = some (some (.pointer none), 1, 8) := by kernel_rfl
instance : TyI Tryd.prog 0 false 1 := ⟨ag0, sz0⟩
instance : TyZ Tryd.prog 0 (.tuple #[]) := ⟨ze0⟩
instance : TyIn Tryd.prog 0 (.tuple #[]) 1 0 := ⟨nf0⟩
instance : TyI Tryd.prog 3 false 1 := ⟨ag3, sz3⟩
instance : TyZ Tryd.prog 3 (.int .i64 0) := ⟨ze3⟩
instance : TyIn Tryd.prog 3 (.int .i64 0) 1 8 := ⟨nf3⟩
instance : TyInt Tryd.prog 3 .i64 := ⟨by kernel_rfl⟩
instance : TyI Tryd.prog 4 false 1 := ⟨ag4, sz4⟩
instance : TyZ Tryd.prog 4 (.bool false) := ⟨ze4⟩
instance : TyIn Tryd.prog 4 (.bool false) 1 1 := ⟨nf4⟩
instance : TyBo Tryd.prog 4 := ⟨un4⟩
instance : TyI Tryd.prog 5 false 1 := ⟨ag5, sz5⟩
instance : TyZ Tryd.prog 5 (.int .u8 0) := ⟨ze5⟩
instance : TyIn Tryd.prog 5 (.int .u8 0) 1 1 := ⟨nf5⟩
instance : TyInt Tryd.prog 5 .u8 := ⟨by kernel_rfl⟩
instance : TyI Tryd.prog 9 false 1 := ⟨ag9, sz9⟩
instance : TyZ Tryd.prog 9 (.string ⟨#[]⟩) := ⟨ze9⟩
instance : TyIn Tryd.prog 9 (.string ⟨#[]⟩) 1 16 := ⟨nf9⟩
instance : TyStr Tryd.prog 9 := ⟨by kernel_rfl⟩
instance : TyI Tryd.prog 20 false 1 := ⟨ag20, sz20⟩
instance : TyZ Tryd.prog 20 (.nilIface) := ⟨ze20⟩
instance : TyIn Tryd.prog 20 (.nilIface) 1 16 := ⟨nf20⟩
instance : TyI Tryd.prog 21 false 1 := ⟨ag21, sz21⟩
instance : TyZ Tryd.prog 21 (.int .i32 0) := ⟨ze21⟩
instance : TyIn Tryd.prog 21 (.int .i32 0) 1 4 := ⟨nf21⟩
instance : TyInt Tryd.prog 21 .i32 := ⟨by kernel_rfl⟩
instance : TyI Tryd.prog 22 false 1 := ⟨ag22, sz22⟩
instance : TyZ Tryd.prog 22 (.int .u32 0) := ⟨ze22⟩
instance : TyIn Tryd.prog 22 (.int .u32 0) 1 4 := ⟨nf22⟩
instance : TyInt Tryd.prog 22 .u32 := ⟨by kernel_rfl⟩
instance : TyI Tryd.prog 23 false 1 := ⟨ag23, sz23⟩
instance : TyZ Tryd.prog 23 (.slice none 0 0) := ⟨ze23⟩
instance : TyIn Tryd.prog 23 (.slice none 0 0) 1 24 := ⟨nf23⟩
instance : TySl Tryd.prog 23 22 := ⟨un23⟩
instance : TyI Tryd.prog 25 true 1 := ⟨ag25, sz25⟩
instance : TyZ Tryd.prog 25 (.agg #[.slice none 0 0]) := ⟨ze25⟩
instance : TyIn Tryd.prog 25 (.agg #[.slice none 0 0]) 1 24 := ⟨nf25⟩
instance : TyPl Tryd.prog 25 [(0, 1)] := ⟨_, Tryd.underlying25, pl25 Tryd.underlying25⟩
instance : TyFd Tryd.prog 25 0 0 1 := ⟨fd25_0⟩
instance : TyI Tryd.prog 27 false 1 := ⟨ag27, sz27⟩
instance : TyZ Tryd.prog 27 (.int .u64 0) := ⟨ze27⟩
instance : TyIn Tryd.prog 27 (.int .u64 0) 1 8 := ⟨nf27⟩
instance : TyInt Tryd.prog 27 .u64 := ⟨by kernel_rfl⟩
instance : TyI Tryd.prog 28 false 1 := ⟨ag28, sz28⟩
instance : TyZ Tryd.prog 28 (.tuple #[.int .u64 0, .bool false]) := ⟨ze28⟩
instance : TyIn Tryd.prog 28 (.tuple #[.int .u64 0, .bool false]) 1 0 := ⟨nf28⟩
instance : TyI Tryd.prog 32 false 1 := ⟨ag32, sz32⟩
instance : TyZ Tryd.prog 32 (.int .i64 0) := ⟨ze32⟩
instance : TyIn Tryd.prog 32 (.int .i64 0) 1 8 := ⟨nf32⟩
instance : TyInt Tryd.prog 32 .i64 := ⟨by kernel_rfl⟩
instance : TyI Tryd.prog 33 false 1 := ⟨ag33, sz33⟩
instance : TyZ Tryd.prog 33 (.tuple #[.agg #[.slice none 0 0], .agg #[.slice none 0 0], .int .i64 0]) := ⟨ze33⟩
instance : TyIn Tryd.prog 33 (.tuple #[.agg #[.slice none 0 0], .agg #[.slice none 0 0], .int .i64 0]) 1 0 := ⟨nf33⟩
instance : TyI Tryd.prog 36 false 1 := ⟨ag36, sz36⟩
instance : TyZ Tryd.prog 36 (.slice none 0 0) := ⟨ze36⟩
instance : TyIn Tryd.prog 36 (.slice none 0 0) 1 24 := ⟨nf36⟩
instance : TySl Tryd.prog 36 5 := ⟨un36⟩
instance : TyI Tryd.prog 40 false 1 := ⟨ag40, sz40⟩
instance : TyZ Tryd.prog 40 (.slice none 0 0) := ⟨ze40⟩
instance : TyIn Tryd.prog 40 (.slice none 0 0) 1 24 := ⟨nf40⟩
instance : TySl Tryd.prog 40 3 := ⟨un40⟩
instance : TyI Tryd.prog 43 false 1 := ⟨ag43, sz43⟩
instance : TyZ Tryd.prog 43 (.tuple #[.slice none 0 0, .slice none 0 0]) := ⟨ze43⟩
instance : TyIn Tryd.prog 43 (.tuple #[.slice none 0 0, .slice none 0 0]) 1 0 := ⟨nf43⟩
instance : TyI Tryd.prog 49 false 1 := ⟨ag49, sz49⟩
instance : TyZ Tryd.prog 49 (.tuple #[.int .i64 0, .bool false]) := ⟨ze49⟩
instance : TyIn Tryd.prog 49 (.tuple #[.int .i64 0, .bool false]) 1 0 := ⟨nf49⟩
instance : TyI Tryd.prog 57 false 1 := ⟨ag57, sz57⟩
instance : TyZ Tryd.prog 57 (.tuple #[.agg #[.slice none 0 0], .int .i64 0]) := ⟨ze57⟩
instance : TyIn Tryd.prog 57 (.tuple #[.agg #[.slice none 0 0], .int .i64 0]) 1 0 := ⟨nf57⟩
instance : TyI Tryd.prog 59 false 1 := ⟨ag59, sz59⟩
instance : TyZ Tryd.prog 59 (.tuple #[.slice none 0 0, .bool false]) := ⟨ze59⟩
instance : TyIn Tryd.prog 59 (.tuple #[.slice none 0 0, .bool false]) 1 0 := ⟨nf59⟩
instance : TyI Tryd.prog 71 false 1 := ⟨ag71, sz71⟩
instance : TyZ Tryd.prog 71 (.int .u64 0) := ⟨ze71⟩
instance : TyIn Tryd.prog 71 (.int .u64 0) 1 8 := ⟨nf71⟩
instance : TyInt Tryd.prog 71 .u64 := ⟨by kernel_rfl⟩
instance : TyI Tryd.prog 74 false 1 := ⟨ag74, sz74⟩
instance : TyZ Tryd.prog 74 (.nilFunc) := ⟨ze74⟩
instance : TyIn Tryd.prog 74 (.nilFunc) 1 8 := ⟨nf74⟩
instance : TyI Tryd.prog 75 false 1 := ⟨ag75, sz75⟩
instance : TyZ Tryd.prog 75 (.tuple #[.agg #[.slice none 0 0], .int .u64 0]) := ⟨ze75⟩
instance : TyIn Tryd.prog 75 (.tuple #[.agg #[.slice none 0 0], .int .u64 0]) 1 0 := ⟨nf75⟩
instance : TyI Tryd.prog 79 false 1 := ⟨ag79, sz79⟩
instance : TyZ Tryd.prog 79 (.nilFunc) := ⟨ze79⟩
instance : TyIn Tryd.prog 79 (.nilFunc) 1 8 := ⟨nf79⟩
instance : TyI Tryd.prog 80 false 1 := ⟨ag80, sz80⟩
instance : TyZ Tryd.prog 80 (.nilFunc) := ⟨ze80⟩
instance : TyIn Tryd.prog 80 (.nilFunc) 1 8 := ⟨nf80⟩
instance : TyI Tryd.prog 85 false 1 := ⟨ag85, sz85⟩
instance : TyZ Tryd.prog 85 (.slice none 0 0) := ⟨ze85⟩
instance : TyIn Tryd.prog 85 (.slice none 0 0) 1 24 := ⟨nf85⟩
instance : TySl Tryd.prog 85 36 := ⟨un85⟩
instance : TyI Tryd.prog 88 false 1 := ⟨ag88, sz88⟩
instance : TyZ Tryd.prog 88 (.slice none 0 0) := ⟨ze88⟩
instance : TyIn Tryd.prog 88 (.slice none 0 0) 1 24 := ⟨nf88⟩
instance : TySl Tryd.prog 88 9 := ⟨un88⟩
instance : TyI Tryd.prog 96 false 1 := ⟨ag96, sz96⟩
instance : TyZ Tryd.prog 96 (.slice none 0 0) := ⟨ze96⟩
instance : TyIn Tryd.prog 96 (.slice none 0 0) 1 24 := ⟨nf96⟩
instance : TySl Tryd.prog 96 25 := ⟨un96⟩
instance : TyI Tryd.prog 97 false 1 := ⟨ag97, sz97⟩
instance : TyZ Tryd.prog 97 (.tuple #[.int .u32 0, .int .u64 0]) := ⟨ze97⟩
instance : TyIn Tryd.prog 97 (.tuple #[.int .u32 0, .int .u64 0]) 1 0 := ⟨nf97⟩
instance : TyI Tryd.prog 98 false 1 := ⟨ag98, sz98⟩
instance : TyZ Tryd.prog 98 (.nilFunc) := ⟨ze98⟩
instance : TyIn Tryd.prog 98 (.nilFunc) 1 8 := ⟨nf98⟩
instance : TyI Tryd.prog 99 false 1 := ⟨ag99, sz99⟩
instance : TyZ Tryd.prog 99 (.tuple #[.int .u64 0, .int .u64 0]) := ⟨ze99⟩
instance : TyIn Tryd.prog 99 (.tuple #[.int .u64 0, .int .u64 0]) 1 0 := ⟨nf99⟩
instance : TyI Tryd.prog 102 false 1 := ⟨ag102, sz102⟩
instance : TyZ Tryd.prog 102 (.pointer none) := ⟨ze102⟩
instance : TyIn Tryd.prog 102 (.pointer none) 1 8 := ⟨nf102⟩
instance : TyI Tryd.prog 104 true 2 := ⟨ag104, sz104⟩
instance : TyZ Tryd.prog 104 (.agg #[.pointer none, .slice none 0 0]) := ⟨ze104⟩
instance : TyIn Tryd.prog 104 (.agg #[.pointer none, .slice none 0 0]) 2 32 := ⟨nf104⟩
instance : TyPl Tryd.prog 104 [(0, 1), (1, 1)] := ⟨_, Tryd.underlying104, pl104 Tryd.underlying104⟩
instance : TyFd Tryd.prog 104 0 0 1 := ⟨fd104_0⟩
instance : TyFd Tryd.prog 104 1 1 1 := ⟨fd104_1⟩
instance : TyI Tryd.prog 107 false 1 := ⟨ag107, sz107⟩
instance : TyZ Tryd.prog 107 (.nilIface) := ⟨ze107⟩
instance : TyIn Tryd.prog 107 (.nilIface) 1 16 := ⟨nf107⟩
instance : TyI Tryd.prog 108 false 1 := ⟨ag108, sz108⟩
instance : TyZ Tryd.prog 108 (.tuple #[.int .i64 0, .nilIface]) := ⟨ze108⟩
instance : TyIn Tryd.prog 108 (.tuple #[.int .i64 0, .nilIface]) 1 0 := ⟨nf108⟩
instance : TyI Tryd.prog 112 true 256 := ⟨ag112, sz112⟩
instance : TyAr Tryd.prog 112 256 4 := ⟨un112⟩
instance : TyI Tryd.prog 113 false 1 := ⟨ag113, sz113⟩
instance : TyZ Tryd.prog 113 (.tuple #[.agg #[.bool false, .bool false, .bool false, .bool false, .bool false, .bool false, .bool false, .bool false, .bool false, .bool false, .bool false, .bool false, .bool false, .bool false, .bool false, .bool false, .bool false, .bool false, .bool false, .bool false, .bool false, .bool false, .bool false, .bool false, .bool false, .bool false, .bool false, .bool false, .bool false, .bool false, .bool false, .bool false, .bool false, .bool false, .bool false, .bool false, .bool false, .bool false, .bool false, .bool false, .bool false, .bool false, .bool false, .bool false, .bool false, .bool false, .bool false, .bool false, .bool false, .bool false, .bool false, .bool false, .bool false, .bool false, .bool false, .bool false, .bool false, .bool false, .bool false, .bool false, .bool false, .bool false, .bool false, .bool false, .bool false, .bool false, .bool false, .bool false, .bool false, .bool false, .bool false, .bool false, .bool false, .bool false, .bool false, .bool false, .bool false, .bool false, .bool false, .bool false, .bool false, .bool false, .bool false, .bool false, .bool false, .bool false, .bool false, .bool false, .bool false, .bool false, .bool false, .bool false, .bool false, .bool false, .bool false, .bool false, .bool false, .bool false, .bool false, .bool false, .bool false, .bool false, .bool false, .bool false, .bool false, .bool false, .bool false, .bool false, .bool false, .bool false, .bool false, .bool false, .bool false, .bool false, .bool false, .bool false, .bool false, .bool false, .bool false, .bool false, .bool false, .bool false, .bool false, .bool false, .bool false, .bool false, .bool false, .bool false, .bool false, .bool false, .bool false, .bool false, .bool false, .bool false, .bool false, .bool false, .bool false, .bool false, .bool false, .bool false, .bool false, .bool false, .bool false, .bool false, .bool false, .bool false, .bool false, .bool false, .bool false, .bool false, .bool false, .bool false, .bool false, .bool false, .bool false, .bool false, .bool false, .bool false, .bool false, .bool false, .bool false, .bool false, .bool false, .bool false, .bool false, .bool false, .bool false, .bool false, .bool false, .bool false, .bool false, .bool false, .bool false, .bool false, .bool false, .bool false, .bool false, .bool false, .bool false, .bool false, .bool false, .bool false, .bool false, .bool false, .bool false, .bool false, .bool false, .bool false, .bool false, .bool false, .bool false, .bool false, .bool false, .bool false, .bool false, .bool false, .bool false, .bool false, .bool false, .bool false, .bool false, .bool false, .bool false, .bool false, .bool false, .bool false, .bool false, .bool false, .bool false, .bool false, .bool false, .bool false, .bool false, .bool false, .bool false, .bool false, .bool false, .bool false, .bool false, .bool false, .bool false, .bool false, .bool false, .bool false, .bool false, .bool false, .bool false, .bool false, .bool false, .bool false, .bool false, .bool false, .bool false, .bool false, .bool false, .bool false, .bool false, .bool false, .bool false, .bool false, .bool false, .bool false, .bool false, .bool false, .bool false, .bool false, .bool false, .bool false, .bool false, .bool false, .bool false, .bool false, .bool false, .bool false, .bool false, .bool false], .bool false]) := ⟨ze113⟩
instance : TyIn Tryd.prog 113 (.tuple #[.agg #[.bool false, .bool false, .bool false, .bool false, .bool false, .bool false, .bool false, .bool false, .bool false, .bool false, .bool false, .bool false, .bool false, .bool false, .bool false, .bool false, .bool false, .bool false, .bool false, .bool false, .bool false, .bool false, .bool false, .bool false, .bool false, .bool false, .bool false, .bool false, .bool false, .bool false, .bool false, .bool false, .bool false, .bool false, .bool false, .bool false, .bool false, .bool false, .bool false, .bool false, .bool false, .bool false, .bool false, .bool false, .bool false, .bool false, .bool false, .bool false, .bool false, .bool false, .bool false, .bool false, .bool false, .bool false, .bool false, .bool false, .bool false, .bool false, .bool false, .bool false, .bool false, .bool false, .bool false, .bool false, .bool false, .bool false, .bool false, .bool false, .bool false, .bool false, .bool false, .bool false, .bool false, .bool false, .bool false, .bool false, .bool false, .bool false, .bool false, .bool false, .bool false, .bool false, .bool false, .bool false, .bool false, .bool false, .bool false, .bool false, .bool false, .bool false, .bool false, .bool false, .bool false, .bool false, .bool false, .bool false, .bool false, .bool false, .bool false, .bool false, .bool false, .bool false, .bool false, .bool false, .bool false, .bool false, .bool false, .bool false, .bool false, .bool false, .bool false, .bool false, .bool false, .bool false, .bool false, .bool false, .bool false, .bool false, .bool false, .bool false, .bool false, .bool false, .bool false, .bool false, .bool false, .bool false, .bool false, .bool false, .bool false, .bool false, .bool false, .bool false, .bool false, .bool false, .bool false, .bool false, .bool false, .bool false, .bool false, .bool false, .bool false, .bool false, .bool false, .bool false, .bool false, .bool false, .bool false, .bool false, .bool false, .bool false, .bool false, .bool false, .bool false, .bool false, .bool false, .bool false, .bool false, .bool false, .bool false, .bool false, .bool false, .bool false, .bool false, .bool false, .bool false, .bool false, .bool false, .bool false, .bool false, .bool false, .bool false, .bool false, .bool false, .bool false, .bool false, .bool false, .bool false, .bool false, .bool false, .bool false, .bool false, .bool false, .bool false, .bool false, .bool false, .bool false, .bool false, .bool false, .bool false, .bool false, .bool false, .bool false, .bool false, .bool false, .bool false, .bool false, .bool false, .bool false, .bool false, .bool false, .bool false, .bool false, .bool false, .bool false, .bool false, .bool false, .bool false, .bool false, .bool false, .bool false, .bool false, .bool false, .bool false, .bool false, .bool false, .bool false, .bool false, .bool false, .bool false, .bool false, .bool false, .bool false, .bool false, .bool false, .bool false, .bool false, .bool false, .bool false, .bool false, .bool false, .bool false, .bool false, .bool false, .bool false, .bool false, .bool false, .bool false, .bool false, .bool false, .bool false, .bool false, .bool false, .bool false, .bool false, .bool false, .bool false, .bool false, .bool false, .bool false, .bool false, .bool false, .bool false, .bool false, .bool false, .bool false, .bool false], .bool false]) 1 0 := ⟨nf113⟩
instance : TyI Tryd.prog 116 false 1 := ⟨ag116, sz116⟩
instance : TyZ Tryd.prog 116 (.pointer none) := ⟨ze116⟩
instance : TyIn Tryd.prog 116 (.pointer none) 1 8 := ⟨nf116⟩
instance : TyI Tryd.prog 118 true 24 := ⟨ag118, sz118⟩
instance : TyZ Tryd.prog 118 (.agg #[.int .u8 0, .int .u8 0, .int .u8 0, .int .u8 0, .int .u8 0, .int .u8 0, .int .u8 0, .int .u8 0, .int .u8 0, .int .u8 0, .int .u8 0, .int .u8 0, .int .u8 0, .int .u8 0, .int .u8 0, .int .u8 0, .int .u8 0, .int .u8 0, .int .u8 0, .int .u8 0, .int .u8 0, .int .u8 0, .int .u8 0, .int .u8 0]) := ⟨ze118⟩
instance : TyIn Tryd.prog 118 (.agg #[.int .u8 0, .int .u8 0, .int .u8 0, .int .u8 0, .int .u8 0, .int .u8 0, .int .u8 0, .int .u8 0, .int .u8 0, .int .u8 0, .int .u8 0, .int .u8 0, .int .u8 0, .int .u8 0, .int .u8 0, .int .u8 0, .int .u8 0, .int .u8 0, .int .u8 0, .int .u8 0, .int .u8 0, .int .u8 0, .int .u8 0, .int .u8 0]) 24 24 := ⟨nf118⟩
instance : TyAr Tryd.prog 118 24 5 := ⟨un118⟩
instance : TyI Tryd.prog 121 false 1 := ⟨ag121, sz121⟩
instance : TyZ Tryd.prog 121 (.tuple #[.slice none 0 0, .string ⟨#[]⟩]) := ⟨ze121⟩
instance : TyIn Tryd.prog 121 (.tuple #[.slice none 0 0, .string ⟨#[]⟩]) 1 0 := ⟨nf121⟩
instance : TyI Tryd.prog 123 false 1 := ⟨ag123, sz123⟩
instance : TyZ Tryd.prog 123 (.tuple #[.int .u32 0, .int .u32 0]) := ⟨ze123⟩
instance : TyIn Tryd.prog 123 (.tuple #[.int .u32 0, .int .u32 0]) 1 0 := ⟨nf123⟩
instance : TyI Tryd.prog 125 false 1 := ⟨ag125, sz125⟩
instance : TyZ Tryd.prog 125 (.tuple #[.int .u64 0, .int .u64 0]) := ⟨ze125⟩
instance : TyIn Tryd.prog 125 (.tuple #[.int .u64 0, .int .u64 0]) 1 0 := ⟨nf125⟩
instance : TyI Tryd.prog 127 false 1 := ⟨ag127, sz127⟩
instance : TyZ Tryd.prog 127 (.pointer none) := ⟨ze127⟩
instance : TyIn Tryd.prog 127 (.pointer none) 1 8 := ⟨nf127⟩
instance : TyI Tryd.prog 129 false 1 := ⟨ag129, sz129⟩
instance : TyZ Tryd.prog 129 (.tuple #[.int .i32 0, .int .i64 0]) := ⟨ze129⟩
instance : TyIn Tryd.prog 129 (.tuple #[.int .i32 0, .int .i64 0]) 1 0 := ⟨nf129⟩
instance : TyI Tryd.prog 134 true 20 := ⟨ag134, sz134⟩
instance : TyZ Tryd.prog 134 (.agg #[.int .u64 0, .int .u64 0, .int .u64 0, .int .u64 0, .int .u64 0, .int .u64 0, .int .u64 0, .int .u64 0, .int .u64 0, .int .u64 0, .int .u64 0, .int .u64 0, .int .u64 0, .int .u64 0, .int .u64 0, .int .u64 0, .int .u64 0, .int .u64 0, .int .u64 0, .int .u64 0]) := ⟨ze134⟩
instance : TyIn Tryd.prog 134 (.agg #[.int .u64 0, .int .u64 0, .int .u64 0, .int .u64 0, .int .u64 0, .int .u64 0, .int .u64 0, .int .u64 0, .int .u64 0, .int .u64 0, .int .u64 0, .int .u64 0, .int .u64 0, .int .u64 0, .int .u64 0, .int .u64 0, .int .u64 0, .int .u64 0, .int .u64 0, .int .u64 0]) 20 160 := ⟨nf134⟩
instance : TyAr Tryd.prog 134 20 27 := ⟨un134⟩
instance : TyI Tryd.prog 135 true 65 := ⟨ag135, sz135⟩
instance : TyAr Tryd.prog 135 65 5 := ⟨un135⟩
instance : TyI Tryd.prog 137 false 1 := ⟨ag137, sz137⟩
instance : TyZ Tryd.prog 137 (.pointer none) := ⟨ze137⟩
instance : TyIn Tryd.prog 137 (.pointer none) 1 8 := ⟨nf137⟩
theorem ent3 : Enters Tryd.prog 3 := fun args w => by go_simp
instance : EntC Tryd.prog 3 := ⟨ent3⟩
theorem ent4 : Enters Tryd.prog 4 := fun args w => by go_simp
instance : EntC Tryd.prog 4 := ⟨ent4⟩
theorem ent5 : Enters Tryd.prog 5 := fun args w => by go_simp
instance : EntC Tryd.prog 5 := ⟨ent5⟩
theorem ent6 : Enters Tryd.prog 6 := fun args w => by go_simp
instance : EntC Tryd.prog 6 := ⟨ent6⟩
theorem ent7 : Enters Tryd.prog 7 := fun args w => by go_simp
instance : EntC Tryd.prog 7 := ⟨ent7⟩
theorem ent8 : Enters Tryd.prog 8 := fun args w => by go_simp
instance : EntC Tryd.prog 8 := ⟨ent8⟩
theorem ent9 : Enters Tryd.prog 9 := fun args w => by go_simp
instance : EntC Tryd.prog 9 := ⟨ent9⟩
theorem ent10 : Enters Tryd.prog 10 := fun args w => by go_simp
instance : EntC Tryd.prog 10 := ⟨ent10⟩
theorem ent11 : Enters Tryd.prog 11 := fun args w => by go_simp
instance : EntC Tryd.prog 11 := ⟨ent11⟩
theorem ent12 : Enters Tryd.prog 12 := fun args w => by go_simp
instance : EntC Tryd.prog 12 := ⟨ent12⟩
theorem ent13 : Enters Tryd.prog 13 := fun args w => by go_simp
instance : EntC Tryd.prog 13 := ⟨ent13⟩
theorem ent14 : Enters Tryd.prog 14 := fun args w => by go_simp
instance : EntC Tryd.prog 14 := ⟨ent14⟩
theorem ent15 : Enters Tryd.prog 15 := fun args w => by go_simp
instance : EntC Tryd.prog 15 := ⟨ent15⟩
theorem ent16 : Enters Tryd.prog 16 := fun args w => by go_simp
instance : EntC Tryd.prog 16 := ⟨ent16⟩
theorem ent17 : Enters Tryd.prog 17 := fun args w => by go_simp
instance : EntC Tryd.prog 17 := ⟨ent17⟩
theorem ent18 : Enters Tryd.prog 18 := fun args w => by go_simp
instance : EntC Tryd.prog 18 := ⟨ent18⟩
theorem ent19 : Enters Tryd.prog 19 := fun args w => by go_simp
instance : EntC Tryd.prog 19 := ⟨ent19⟩
theorem ent20 : Enters Tryd.prog 20 := fun args w => by go_simp
instance : EntC Tryd.prog 20 := ⟨ent20⟩
theorem ent21 : Enters Tryd.prog 21 := fun args w => by go_simp
instance : EntC Tryd.prog 21 := ⟨ent21⟩
theorem ent22 : Enters Tryd.prog 22 := fun args w => by go_simp
instance : EntC Tryd.prog 22 := ⟨ent22⟩
theorem ent23 : Enters Tryd.prog 23 := fun args w => by go_simp
instance : EntC Tryd.prog 23 := ⟨ent23⟩
theorem ent24 : Enters Tryd.prog 24 := fun args w => by go_simp
instance : EntC Tryd.prog 24 := ⟨ent24⟩
theorem ent25 : Enters Tryd.prog 25 := fun args w => by go_simp
instance : EntC Tryd.prog 25 := ⟨ent25⟩
theorem ent26 : Enters Tryd.prog 26 := fun args w => by go_simp
instance : EntC Tryd.prog 26 := ⟨ent26⟩
theorem ent27 : Enters Tryd.prog 27 := fun args w => by go_simp
instance : EntC Tryd.prog 27 := ⟨ent27⟩
theorem ent28 : Enters Tryd.prog 28 := fun args w => by go_simp
instance : EntC Tryd.prog 28 := ⟨ent28⟩
theorem ent29 : Enters Tryd.prog 29 := fun args w => by go_simp
instance : EntC Tryd.prog 29 := ⟨ent29⟩
theorem ent30 : Enters Tryd.prog 30 := fun args w => by go_simp
instance : EntC Tryd.prog 30 := ⟨ent30⟩
theorem ent31 : Enters Tryd.prog 31 := fun args w => by go_simp
instance : EntC Tryd.prog 31 := ⟨ent31⟩
theorem ent32 : Enters Tryd.prog 32 := fun args w => by go_simp
instance : EntC Tryd.prog 32 := ⟨ent32⟩
theorem ent33 : Enters Tryd.prog 33 := fun args w => by go_simp
instance : EntC Tryd.prog 33 := ⟨ent33⟩
theorem ent34 : Enters Tryd.prog 34 := fun args w => by go_simp
instance : EntC Tryd.prog 34 := ⟨ent34⟩
theorem ent35 : Enters Tryd.prog 35 := fun args w => by go_simp
instance : EntC Tryd.prog 35 := ⟨ent35⟩
theorem ent36 : Enters Tryd.prog 36 := fun args w => by go_simp
instance : EntC Tryd.prog 36 := ⟨ent36⟩
theorem ent37 : Enters Tryd.prog 37 := fun args w => by go_simp
instance : EntC Tryd.prog 37 := ⟨ent37⟩
theorem ent38 : Enters Tryd.prog 38 := fun args w => by go_simp
instance : EntC Tryd.prog 38 := ⟨ent38⟩
theorem ent39 : Enters Tryd.prog 39 := fun args w => by go_simp
instance : EntC Tryd.prog 39 := ⟨ent39⟩
theorem ent40 : Enters Tryd.prog 40 := fun args w => by go_simp
instance : EntC Tryd.prog 40 := ⟨ent40⟩
theorem ent41 : Enters Tryd.prog 41 := fun args w => by go_simp
instance : EntC Tryd.prog 41 := ⟨ent41⟩
theorem ent42 : Enters Tryd.prog 42 := fun args w => by go_simp
instance : EntC Tryd.prog 42 := ⟨ent42⟩
theorem ent43 : Enters Tryd.prog 43 := fun args w => by go_simp
instance : EntC Tryd.prog 43 := ⟨ent43⟩
theorem ent44 : Enters Tryd.prog 44 := fun args w => by go_simp
instance : EntC Tryd.prog 44 := ⟨ent44⟩
theorem ent45 : Enters Tryd.prog 45 := fun args w => by go_simp
instance : EntC Tryd.prog 45 := ⟨ent45⟩
theorem ent46 : Enters Tryd.prog 46 := fun args w => by go_simp
instance : EntC Tryd.prog 46 := ⟨ent46⟩
theorem ent47 : Enters Tryd.prog 47 := fun args w => by go_simp
instance : EntC Tryd.prog 47 := ⟨ent47⟩
theorem ent48 : Enters Tryd.prog 48 := fun args w => by go_simp
instance : EntC Tryd.prog 48 := ⟨ent48⟩
theorem ent49 : Enters Tryd.prog 49 := fun args w => by go_simp
instance : EntC Tryd.prog 49 := ⟨ent49⟩
theorem ent50 : Enters Tryd.prog 50 := fun args w => by go_simp
instance : EntC Tryd.prog 50 := ⟨ent50⟩
theorem ent51 : Enters Tryd.prog 51 := fun args w => by go_simp
instance : EntC Tryd.prog 51 := ⟨ent51⟩
theorem ent52 : Enters Tryd.prog 52 := fun args w => by go_simp
instance : EntC Tryd.prog 52 := ⟨ent52⟩
theorem ent53 : Enters Tryd.prog 53 := fun args w => by go_simp
instance : EntC Tryd.prog 53 := ⟨ent53⟩
theorem ent54 : Enters Tryd.prog 54 := fun args w => by go_simp
instance : EntC Tryd.prog 54 := ⟨ent54⟩
theorem ent55 : Enters Tryd.prog 55 := fun args w => by go_simp
instance : EntC Tryd.prog 55 := ⟨ent55⟩
theorem ent56 : Enters Tryd.prog 56 := fun args w => by go_simp
instance : EntC Tryd.prog 56 := ⟨ent56⟩
theorem ent57 : Enters Tryd.prog 57 := fun args w => by go_simp
instance : EntC Tryd.prog 57 := ⟨ent57⟩
theorem ent58 : Enters Tryd.prog 58 := fun args w => by go_simp
instance : EntC Tryd.prog 58 := ⟨ent58⟩
theorem ent59 : Enters Tryd.prog 59 := fun args w => by go_simp
instance : EntC Tryd.prog 59 := ⟨ent59⟩
theorem ent60 : Enters Tryd.prog 60 := fun args w => by go_simp
instance : EntC Tryd.prog 60 := ⟨ent60⟩
theorem ent61 : Enters Tryd.prog 61 := fun args w => by go_simp
instance : EntC Tryd.prog 61 := ⟨ent61⟩
theorem ent62 : Enters Tryd.prog 62 := fun args w => by go_simp
instance : EntC Tryd.prog 62 := ⟨ent62⟩
theorem ent63 : Enters Tryd.prog 63 := fun args w => by go_simp
instance : EntC Tryd.prog 63 := ⟨ent63⟩
theorem ent64 : Enters Tryd.prog 64 := fun args w => by go_simp
instance : EntC Tryd.prog 64 := ⟨ent64⟩
theorem ent65 : Enters Tryd.prog 65 := fun args w => by go_simp
instance : EntC Tryd.prog 65 := ⟨ent65⟩
theorem ent66 : Enters Tryd.prog 66 := fun args w => by go_simp
instance : EntC Tryd.prog 66 := ⟨ent66⟩
theorem ent67 : Enters Tryd.prog 67 := fun args w => by go_simp
instance : EntC Tryd.prog 67 := ⟨ent67⟩
theorem ent68 : Enters Tryd.prog 68 := fun args w => by go_simp
instance : EntC Tryd.prog 68 := ⟨ent68⟩
theorem ent69 : Enters Tryd.prog 69 := fun args w => by go_simp
instance : EntC Tryd.prog 69 := ⟨ent69⟩
theorem ent70 : Enters Tryd.prog 70 := fun args w => by go_simp
instance : EntC Tryd.prog 70 := ⟨ent70⟩
theorem ent71 : Enters Tryd.prog 71 := fun args w => by go_simp
instance : EntC Tryd.prog 71 := ⟨ent71⟩
theorem ent72 : Enters Tryd.prog 72 := fun args w => by go_simp
instance : EntC Tryd.prog 72 := ⟨ent72⟩
theorem ent73 : Enters Tryd.prog 73 := fun args w => by go_simp
instance : EntC Tryd.prog 73 := ⟨ent73⟩
theorem ent74 : Enters Tryd.prog 74 := fun args w => by go_simp
instance : EntC Tryd.prog 74 := ⟨ent74⟩
theorem ent75 : Enters Tryd.prog 75 := fun args w => by go_simp
instance : EntC Tryd.prog 75 := ⟨ent75⟩
theorem ent76 : Enters Tryd.prog 76 := fun args w => by go_simp
instance : EntC Tryd.prog 76 := ⟨ent76⟩
theorem ent77 : Enters Tryd.prog 77 := fun args w => by go_simp
instance : EntC Tryd.prog 77 := ⟨ent77⟩
theorem ent78 : Enters Tryd.prog 78 := fun args w => by go_simp
instance : EntC Tryd.prog 78 := ⟨ent78⟩
theorem ent79 : Enters Tryd.prog 79 := fun args w => by go_simp
instance : EntC Tryd.prog 79 := ⟨ent79⟩
theorem ent80 : Enters Tryd.prog 80 := fun args w => by go_simp
instance : EntC Tryd.prog 80 := ⟨ent80⟩
theorem ent81 : Enters Tryd.prog 81 := fun args w => by go_simp
instance : EntC Tryd.prog 81 := ⟨ent81⟩
theorem ent82 : Enters Tryd.prog 82 := fun args w => by go_simp
instance : EntC Tryd.prog 82 := ⟨ent82⟩
theorem ent83 : Enters Tryd.prog 83 := fun args w => by go_simp
instance : EntC Tryd.prog 83 := ⟨ent83⟩
theorem ent84 : Enters Tryd.prog 84 := fun args w => by go_simp
instance : EntC Tryd.prog 84 := ⟨ent84⟩
theorem ent85 : Enters Tryd.prog 85 := fun args w => by go_simp
instance : EntC Tryd.prog 85 := ⟨ent85⟩
theorem ent86 : Enters Tryd.prog 86 := fun args w => by go_simp
instance : EntC Tryd.prog 86 := ⟨ent86⟩
theorem ent87 : Enters Tryd.prog 87 := fun args w => by go_simp
instance : EntC Tryd.prog 87 := ⟨ent87⟩
theorem ent88 : Enters Tryd.prog 88 := fun args w => by go_simp
instance : EntC Tryd.prog 88 := ⟨ent88⟩
theorem ent89 : Enters Tryd.prog 89 := fun args w => by go_simp
instance : EntC Tryd.prog 89 := ⟨ent89⟩
theorem ent90 : Enters Tryd.prog 90 := fun args w => by go_simp
instance : EntC Tryd.prog 90 := ⟨ent90⟩
theorem ent91 : Enters Tryd.prog 91 := fun args w => by go_simp
instance : EntC Tryd.prog 91 := ⟨ent91⟩
theorem ent92 : Enters Tryd.prog 92 := fun args w => by go_simp
instance : EntC Tryd.prog 92 := ⟨ent92⟩
theorem ent93 : Enters Tryd.prog 93 := fun args w => by go_simp
instance : EntC Tryd.prog 93 := ⟨ent93⟩
theorem ent94 : Enters Tryd.prog 94 := fun args w => by go_simp
instance : EntC Tryd.prog 94 := ⟨ent94⟩
theorem ent95 : Enters Tryd.prog 95 := fun args w => by go_simp
instance : EntC Tryd.prog 95 := ⟨ent95⟩
theorem ent96 : Enters Tryd.prog 96 := fun args w => by go_simp
instance : EntC Tryd.prog 96 := ⟨ent96⟩
theorem ent97 : Enters Tryd.prog 97 := fun args w => by go_simp
instance : EntC Tryd.prog 97 := ⟨ent97⟩
theorem ent98 : Enters Tryd.prog 98 := fun args w => by go_simp
instance : EntC Tryd.prog 98 := ⟨ent98⟩
instance : TyPtr Tryd.prog 102 104 := ⟨by kernel_rfl⟩
instance : TyPtr Tryd.prog 116 112 := ⟨by kernel_rfl⟩
instance : TyPtr Tryd.prog 127 5 := ⟨by kernel_rfl⟩
end Go.Proofs.YtebbekdebanabaaDoor
