/- What is known of variables: the powers of ten. No condition. -/
import Derived.Test.YtohjapcafkhabaaDoorXW
import Derived.Lib.ItoaNum
import Derived.Lib.ItoaMem
import Derived.Test.YtohjapcafkhabaaDoorProg
import Derived.KernelRfl
import Derived.Test.YtohjapcafkhabaaDoorCheckedPd
import Derived.Test.YtohjapcafkhabaaDoorCheckedPe

namespace Go.Proofs.YtohjapcafkhabaaDoor
open Go Go.Dm
def tab10 : List Value := Lib.pow10Tab.map fun z => .int .u64 z
instance : GlobW := ⟨[(2, tab10.map fun v u => u = v)]⟩
theorem gl_tab {w : World} (h : GlW w) : Lib.TabIs Tryd.prog w "internal/strconv.uint64pow10" .u64 Lib.pow10Tab := by
  obtain ⟨T, fz, h1⟩ := h.all (b := 2) (vs := tab10) (.head _)
  have hg : Tryd.prog.globalNamed "internal/strconv.uint64pow10" = some 2 := by kernel_rfl
  simp only [Lib.TabIs, World.var?, hg, Option.bind_some, h1]
  rfl
end Go.Proofs.YtohjapcafkhabaaDoor

set_option linter.unusedSimpArgs false
set_option linter.unusedVariables false
namespace Go.Proofs.YtohjapcafkhabaaDoor
open Go Go.RowKit Go.PP Go.Dm
theorem sz0 : sizeOfT Tryd.prog 0 = some 1 := by kernel_rfl
theorem ag0 : aggOf Tryd.prog 0 = some false := by kernel_rfl
theorem ze0 : zeroT Tryd.prog 0 = some (.tuple #[]) := by kernel_rfl
theorem nf0 : (Tryd.prog.info? 0).map (fun i => (i.zero, i.size, i.bytes)) = some (some (.tuple #[]), 1, 0) := by kernel_rfl
theorem sz3 : sizeOfT Tryd.prog 3 = some 1 := by kernel_rfl
theorem ag3 : aggOf Tryd.prog 3 = some false := by kernel_rfl
theorem ze3 : zeroT Tryd.prog 3 = some (.int .i64 0) := by kernel_rfl
theorem nf3 : (Tryd.prog.info? 3).map (fun i => (i.zero, i.size, i.bytes)) = some (some (.int .i64 0), 1, 8) := by kernel_rfl
theorem sz4 : sizeOfT Tryd.prog 4 = some 1 := by kernel_rfl
theorem ag4 : aggOf Tryd.prog 4 = some false := by kernel_rfl
theorem ze4 : zeroT Tryd.prog 4 = some (.bool false) := by kernel_rfl
theorem nf4 : (Tryd.prog.info? 4).map (fun i => (i.zero, i.size, i.bytes)) = some (some (.bool false), 1, 1) := by kernel_rfl
theorem un4 : Tryd.prog.underlying 4 = some .bool := by kernel_rfl
theorem sz5 : sizeOfT Tryd.prog 5 = some 1 := by kernel_rfl
theorem ag5 : aggOf Tryd.prog 5 = some false := by kernel_rfl
theorem ze5 : zeroT Tryd.prog 5 = some (.int .u8 0) := by kernel_rfl
theorem nf5 : (Tryd.prog.info? 5).map (fun i => (i.zero, i.size, i.bytes)) = some (some (.int .u8 0), 1, 1) := by kernel_rfl
theorem sz9 : sizeOfT Tryd.prog 9 = some 1 := by kernel_rfl
theorem ag9 : aggOf Tryd.prog 9 = some false := by kernel_rfl
theorem ze9 : zeroT Tryd.prog 9 = some (.string ⟨#[]⟩) := by kernel_rfl
theorem nf9 : (Tryd.prog.info? 9).map (fun i => (i.zero, i.size, i.bytes)) = some (some (.string ⟨#[]⟩), 1, 16) := by kernel_rfl
theorem sz22 : sizeOfT Tryd.prog 22 = some 1 := by kernel_rfl
theorem ag22 : aggOf Tryd.prog 22 = some false := by kernel_rfl
theorem ze22 : zeroT Tryd.prog 22 = some (.slice none 0 0) := by kernel_rfl
theorem nf22 : (Tryd.prog.info? 22).map (fun i => (i.zero, i.size, i.bytes)) = some (some (.slice none 0 0), 1, 24) := by kernel_rfl
theorem un22 : Tryd.prog.underlying 22 = some (.slice 24) := by kernel_rfl
theorem sz24 : sizeOfT Tryd.prog 24 = some 2 := by kernel_rfl
theorem ag24 : aggOf Tryd.prog 24 = some true := by kernel_rfl
theorem ze24 : zeroT Tryd.prog 24 = some (.agg #[.int .i64 0, .slice none 0 0]) := by kernel_rfl
theorem nf24 : (Tryd.prog.info? 24).map (fun i => (i.zero, i.size, i.bytes)) = some (some (.agg #[.int .i64 0, .slice none 0 0]), 2, 32) := by kernel_rfl
theorem pl24 {fs : List Field} (h : Tryd.prog.underlying 24 = some (.struct fs.toArray)) : placesD Tryd.prog fs = some [(0, 1), (1, 1)] := by
  rw [Tryd.underlying24] at h
  simp only [Option.some.injEq, TypeDesc.struct.injEq] at h
  have h2 := congrArg Array.toList h
  simp only [List.toList_toArray] at h2
  subst h2
  simp only [placesD, sz22, sz3]
theorem fd24_0 : FieldAt Tryd.prog 24 0 0 1 := ⟨_, _, Tryd.underlying24, rfl, rfl, by kernel_rfl, by kernel_rfl⟩
theorem fd24_1 : FieldAt Tryd.prog 24 1 1 1 := ⟨_, _, Tryd.underlying24, rfl, rfl, by kernel_rfl, by kernel_rfl⟩
theorem sz27 : sizeOfT Tryd.prog 27 = some 1 := by kernel_rfl
theorem ag27 : aggOf Tryd.prog 27 = some false := by kernel_rfl
theorem ze27 : zeroT Tryd.prog 27 = some (.slice none 0 0) := by kernel_rfl
theorem nf27 : (Tryd.prog.info? 27).map (fun i => (i.zero, i.size, i.bytes)) = some (some (.slice none 0 0), 1, 24) := by kernel_rfl
theorem un27 : Tryd.prog.underlying 27 = some (.slice 29) := by kernel_rfl
theorem sz29 : sizeOfT Tryd.prog 29 = some 2 := by kernel_rfl
theorem ag29 : aggOf Tryd.prog 29 = some true := by kernel_rfl
theorem ze29 : zeroT Tryd.prog 29 = some (.agg #[.int .i64 0, .slice none 0 0]) := by kernel_rfl
theorem nf29 : (Tryd.prog.info? 29).map (fun i => (i.zero, i.size, i.bytes)) = some (some (.agg #[.int .i64 0, .slice none 0 0]), 2, 32) := by kernel_rfl
theorem pl29 {fs : List Field} (h : Tryd.prog.underlying 29 = some (.struct fs.toArray)) : placesD Tryd.prog fs = some [(0, 1), (1, 1)] := by
  rw [Tryd.underlying29] at h
  simp only [Option.some.injEq, TypeDesc.struct.injEq] at h
  have h2 := congrArg Array.toList h
  simp only [List.toList_toArray] at h2
  subst h2
  simp only [placesD, sz27, sz3]
theorem fd29_0 : FieldAt Tryd.prog 29 0 0 1 := ⟨_, _, Tryd.underlying29, rfl, rfl, by kernel_rfl, by kernel_rfl⟩
theorem fd29_1 : FieldAt Tryd.prog 29 1 1 1 := ⟨_, _, Tryd.underlying29, rfl, rfl, by kernel_rfl, by kernel_rfl⟩
theorem sz30 : sizeOfT Tryd.prog 30 = some 1 := by kernel_rfl
theorem ag30 : aggOf Tryd.prog 30 = some false := by kernel_rfl
theorem ze30 : zeroT Tryd.prog 30 = some (.int .i64 0) := by kernel_rfl
theorem nf30 : (Tryd.prog.info? 30).map (fun i => (i.zero, i.size, i.bytes)) = some (some (.int .i64 0), 1, 8) := by kernel_rfl
theorem sz31 : sizeOfT Tryd.prog 31 = some 1 := by kernel_rfl
theorem ag31 : aggOf Tryd.prog 31 = some false := by kernel_rfl
theorem ze31 : zeroT Tryd.prog 31 = some (.tuple #[.agg #[.int .i64 0, .slice none 0 0], .int .i64 0]) := by kernel_rfl
theorem nf31 : (Tryd.prog.info? 31).map (fun i => (i.zero, i.size, i.bytes)) = some (some (.tuple #[.agg #[.int .i64 0, .slice none 0 0], .int .i64 0]), 1, 0) := by kernel_rfl
theorem sz33 : sizeOfT Tryd.prog 33 = some 1 := by kernel_rfl
theorem ag33 : aggOf Tryd.prog 33 = some false := by kernel_rfl
theorem ze33 : zeroT Tryd.prog 33 = some (.tuple #[.agg #[.int .i64 0, .slice none 0 0], .int .i64 0]) := by kernel_rfl
theorem nf33 : (Tryd.prog.info? 33).map (fun i => (i.zero, i.size, i.bytes)) = some (some (.tuple #[.agg #[.int .i64 0, .slice none 0 0], .int .i64 0]), 1, 0) := by kernel_rfl
theorem sz41 : sizeOfT Tryd.prog 41 = some 1 := by kernel_rfl
theorem ag41 : aggOf Tryd.prog 41 = some false := by kernel_rfl
theorem ze41 : zeroT Tryd.prog 41 = some (.slice none 0 0) := by kernel_rfl
theorem nf41 : (Tryd.prog.info? 41).map (fun i => (i.zero, i.size, i.bytes)) = some (some (.slice none 0 0), 1, 24) := by kernel_rfl
theorem un41 : Tryd.prog.underlying 41 = some (.slice 3) := by kernel_rfl
theorem sz47 : sizeOfT Tryd.prog 47 = some 1 := by kernel_rfl
theorem ag47 : aggOf Tryd.prog 47 = some false := by kernel_rfl
theorem ze47 : zeroT Tryd.prog 47 = some (.pointer none) := by kernel_rfl
theorem nf47 : (Tryd.prog.info? 47).map (fun i => (i.zero, i.size, i.bytes)) = some (some (.pointer none), 1, 8) := by kernel_rfl
theorem sz49 : sizeOfT Tryd.prog 49 = some 1 := by kernel_rfl
theorem ag49 : aggOf Tryd.prog 49 = some false := by kernel_rfl
theorem ze49 : zeroT Tryd.prog 49 = some (.slice none 0 0) := by kernel_rfl
theorem nf49 : (Tryd.prog.info? 49).map (fun i => (i.zero, i.size, i.bytes)) = some (some (.slice none 0 0), 1, 24) := by kernel_rfl
theorem un49 : Tryd.prog.underlying 49 = some (.slice 3) := by kernel_rfl
theorem sz56 : sizeOfT Tryd.prog 56 = some 1 := by kernel_rfl
theorem ag56 : aggOf Tryd.prog 56 = some false := by kernel_rfl
theorem ze56 : zeroT Tryd.prog 56 = some (.tuple #[.agg #[.int .i64 0, .slice none 0 0], .bool false]) := by kernel_rfl
theorem nf56 : (Tryd.prog.info? 56).map (fun i => (i.zero, i.size, i.bytes)) = some (some (.tuple #[.agg #[.int .i64 0, .slice none 0 0], .bool false]), 1, 0) := by kernel_rfl
theorem sz58 : sizeOfT Tryd.prog 58 = some 1 := by kernel_rfl
theorem ag58 : aggOf Tryd.prog 58 = some false := by kernel_rfl
theorem ze58 : zeroT Tryd.prog 58 = some (.tuple #[.agg #[.int .i64 0, .slice none 0 0], .bool false]) := by kernel_rfl
theorem nf58 : (Tryd.prog.info? 58).map (fun i => (i.zero, i.size, i.bytes)) = some (some (.tuple #[.agg #[.int .i64 0, .slice none 0 0], .bool false]), 1, 0) := by kernel_rfl
theorem sz60 : sizeOfT Tryd.prog 60 = some 1 := by kernel_rfl
theorem ag60 : aggOf Tryd.prog 60 = some false := by kernel_rfl
theorem ze60 : zeroT Tryd.prog 60 = some (.nilFunc) := by kernel_rfl
theorem nf60 : (Tryd.prog.info? 60).map (fun i => (i.zero, i.size, i.bytes)) = some (some (.nilFunc), 1, 8) := by kernel_rfl
theorem sz62 : sizeOfT Tryd.prog 62 = some 1 := by kernel_rfl
theorem ag62 : aggOf Tryd.prog 62 = some false := by kernel_rfl
theorem ze62 : zeroT Tryd.prog 62 = some (.nilFunc) := by kernel_rfl
theorem nf62 : (Tryd.prog.info? 62).map (fun i => (i.zero, i.size, i.bytes)) = some (some (.nilFunc), 1, 8) := by kernel_rfl
theorem sz64 : sizeOfT Tryd.prog 64 = some 1 := by kernel_rfl
theorem ag64 : aggOf Tryd.prog 64 = some false := by kernel_rfl
theorem ze64 : zeroT Tryd.prog 64 = some (.nilFunc) := by kernel_rfl
theorem nf64 : (Tryd.prog.info? 64).map (fun i => (i.zero, i.size, i.bytes)) = some (some (.nilFunc), 1, 8) := by kernel_rfl
theorem sz65 : sizeOfT Tryd.prog 65 = some 1 := by kernel_rfl
theorem ag65 : aggOf Tryd.prog 65 = some false := by kernel_rfl
theorem ze65 : zeroT Tryd.prog 65 = some (.nilFunc) := by kernel_rfl
theorem nf65 : (Tryd.prog.info? 65).map (fun i => (i.zero, i.size, i.bytes)) = some (some (.nilFunc), 1, 8) := by kernel_rfl
theorem sz73 : sizeOfT Tryd.prog 73 = some 1 := by kernel_rfl
theorem ag73 : aggOf Tryd.prog 73 = some false := by kernel_rfl
theorem ze73 : zeroT Tryd.prog 73 = some (.slice none 0 0) := by kernel_rfl
theorem nf73 : (Tryd.prog.info? 73).map (fun i => (i.zero, i.size, i.bytes)) = some (some (.slice none 0 0), 1, 24) := by kernel_rfl
theorem un73 : Tryd.prog.underlying 73 = some (.slice 9) := by kernel_rfl
theorem sz74 : sizeOfT Tryd.prog 74 = some 1 := by kernel_rfl
theorem ag74 : aggOf Tryd.prog 74 = some false := by kernel_rfl
theorem ze74 : zeroT Tryd.prog 74 = some (.tuple #[.agg #[.int .i64 0, .slice none 0 0], .string ⟨#[]⟩, .bool false]) := by kernel_rfl
theorem nf74 : (Tryd.prog.info? 74).map (fun i => (i.zero, i.size, i.bytes)) = some (some (.tuple #[.agg #[.int .i64 0, .slice none 0 0], .string ⟨#[]⟩, .bool false]), 1, 0) := by kernel_rfl
theorem sz77 : sizeOfT Tryd.prog 77 = some 1 := by kernel_rfl
theorem ag77 : aggOf Tryd.prog 77 = some false := by kernel_rfl
theorem ze77 : zeroT Tryd.prog 77 = some (.tuple #[.agg #[.int .i64 0, .slice none 0 0], .int .i64 0, .bool false]) := by kernel_rfl
theorem nf77 : (Tryd.prog.info? 77).map (fun i => (i.zero, i.size, i.bytes)) = some (some (.tuple #[.agg #[.int .i64 0, .slice none 0 0], .int .i64 0, .bool false]), 1, 0) := by kernel_rfl
theorem sz79 : sizeOfT Tryd.prog 79 = some 1 := by kernel_rfl
theorem ag79 : aggOf Tryd.prog 79 = some false := by kernel_rfl
theorem ze79 : zeroT Tryd.prog 79 = some (.pointer none) := by kernel_rfl
theorem nf79 : (Tryd.prog.info? 79).map (fun i => (i.zero, i.size, i.bytes)) = some (some (.pointer none), 1, 8) := by kernel_rfl
theorem sz80 : sizeOfT Tryd.prog 80 = some 1 := by kernel_rfl
theorem ag80 : aggOf Tryd.prog 80 = some false := by kernel_rfl
theorem ze80 : zeroT Tryd.prog 80 = some (.slice none 0 0) := by kernel_rfl
theorem nf80 : (Tryd.prog.info? 80).map (fun i => (i.zero, i.size, i.bytes)) = some (some (.slice none 0 0), 1, 24) := by kernel_rfl
theorem un80 : Tryd.prog.underlying 80 = some (.slice 5) := by kernel_rfl
theorem sz82 : sizeOfT Tryd.prog 82 = some 2 := by kernel_rfl
theorem ag82 : aggOf Tryd.prog 82 = some true := by kernel_rfl
theorem ze82 : zeroT Tryd.prog 82 = some (.agg #[.pointer none, .slice none 0 0]) := by kernel_rfl
theorem nf82 : (Tryd.prog.info? 82).map (fun i => (i.zero, i.size, i.bytes)) = some (some (.agg #[.pointer none, .slice none 0 0]), 2, 32) := by kernel_rfl
theorem pl82 {fs : List Field} (h : Tryd.prog.underlying 82 = some (.struct fs.toArray)) : placesD Tryd.prog fs = some [(0, 1), (1, 1)] := by
  rw [Tryd.underlying82] at h
  simp only [Option.some.injEq, TypeDesc.struct.injEq] at h
  have h2 := congrArg Array.toList h
  simp only [List.toList_toArray] at h2
  subst h2
  simp only [placesD, sz79, sz80]
theorem fd82_0 : FieldAt Tryd.prog 82 0 0 1 := ⟨_, _, Tryd.underlying82, rfl, rfl, by kernel_rfl, by kernel_rfl⟩
theorem fd82_1 : FieldAt Tryd.prog 82 1 1 1 := ⟨_, _, Tryd.underlying82, rfl, rfl, by kernel_rfl, by kernel_rfl⟩
theorem sz89 : sizeOfT Tryd.prog 89 = some 1 := by kernel_rfl
theorem ag89 : aggOf Tryd.prog 89 = some false := by kernel_rfl
theorem ze89 : zeroT Tryd.prog 89 = some (.nilFunc) := by kernel_rfl
theorem nf89 : (Tryd.prog.info? 89).map (fun i => (i.zero, i.size, i.bytes)) = some (some (.nilFunc), 1, 8) := by kernel_rfl
theorem sz95 : sizeOfT Tryd.prog 95 = some 1 := by kernel_rfl
theorem ag95 : aggOf Tryd.prog 95 = some false := by kernel_rfl
theorem ze95 : zeroT Tryd.prog 95 = some (.nilFunc) := by kernel_rfl
theorem nf95 : (Tryd.prog.info? 95).map (fun i => (i.zero, i.size, i.bytes)) = some (some (.nilFunc), 1, 8) := by kernel_rfl
theorem sz96 : sizeOfT Tryd.prog 96 = some 1 := by kernel_rfl
theorem ag96 : aggOf Tryd.prog 96 = some false := by kernel_rfl
theorem ze96 : zeroT Tryd.prog 96 = some (.pointer none) := by kernel_rfl
theorem nf96 : (Tryd.prog.info? 96).map (fun i => (i.zero, i.size, i.bytes)) = some (some (.pointer none), 1, 8) := by kernel_rfl
theorem sz97 : sizeOfT Tryd.prog 97 = some 1 := by kernel_rfl
theorem ag97 : aggOf Tryd.prog 97 = some false := by kernel_rfl
theorem ze97 : zeroT Tryd.prog 97 = some (.map none) := by kernel_rfl
theorem nf97 : (Tryd.prog.info? 97).map (fun i => (i.zero, i.size, i.bytes)) = some (some (.map none), 1, 8) := by kernel_rfl
theorem sz99 : sizeOfT Tryd.prog 99 = some 2 := by kernel_rfl
theorem ag99 : aggOf Tryd.prog 99 = some true := by kernel_rfl
theorem ze99 : zeroT Tryd.prog 99 = some (.agg #[.slice none 0 0, .map none]) := by kernel_rfl
theorem nf99 : (Tryd.prog.info? 99).map (fun i => (i.zero, i.size, i.bytes)) = some (some (.agg #[.slice none 0 0, .map none]), 2, 32) := by kernel_rfl
theorem pl99 {fs : List Field} (h : Tryd.prog.underlying 99 = some (.struct fs.toArray)) : placesD Tryd.prog fs = some [(0, 1), (1, 1)] := by
  rw [Tryd.underlying99] at h
  simp only [Option.some.injEq, TypeDesc.struct.injEq] at h
  have h2 := congrArg Array.toList h
  simp only [List.toList_toArray] at h2
  subst h2
  simp only [placesD, sz49, sz97]
theorem fd99_0 : FieldAt Tryd.prog 99 0 0 1 := ⟨_, _, Tryd.underlying99, rfl, rfl, by kernel_rfl, by kernel_rfl⟩
theorem fd99_1 : FieldAt Tryd.prog 99 1 1 1 := ⟨_, _, Tryd.underlying99, rfl, rfl, by kernel_rfl, by kernel_rfl⟩
theorem sz101 : sizeOfT Tryd.prog 101 = some 1 := by kernel_rfl
theorem ag101 : aggOf Tryd.prog 101 = some false := by kernel_rfl
theorem ze101 : zeroT Tryd.prog 101 = some (.tuple #[.int .i64 0, .string ⟨#[]⟩, .bool false]) := by kernel_rfl
theorem nf101 : (Tryd.prog.info? 101).map (fun i => (i.zero, i.size, i.bytes)) = some (some (.tuple #[.int .i64 0, .string ⟨#[]⟩, .bool false]), 1, 0) := by kernel_rfl
theorem sz104 : sizeOfT Tryd.prog 104 = some 1 := by kernel_rfl
theorem ag104 : aggOf Tryd.prog 104 = some false := by kernel_rfl
theorem ze104 : zeroT Tryd.prog 104 = some (.tuple #[.string ⟨#[]⟩, .bool false]) := by kernel_rfl
theorem nf104 : (Tryd.prog.info? 104).map (fun i => (i.zero, i.size, i.bytes)) = some (some (.tuple #[.string ⟨#[]⟩, .bool false]), 1, 0) := by kernel_rfl
theorem sz107 : sizeOfT Tryd.prog 107 = some 1 := by kernel_rfl
theorem ag107 : aggOf Tryd.prog 107 = some false := by kernel_rfl
theorem ze107 : zeroT Tryd.prog 107 = some (.nilIface) := by kernel_rfl
theorem nf107 : (Tryd.prog.info? 107).map (fun i => (i.zero, i.size, i.bytes)) = some (some (.nilIface), 1, 16) := by kernel_rfl
theorem sz108 : sizeOfT Tryd.prog 108 = some 1 := by kernel_rfl
theorem ag108 : aggOf Tryd.prog 108 = some false := by kernel_rfl
theorem ze108 : zeroT Tryd.prog 108 = some (.tuple #[.int .i64 0, .nilIface]) := by kernel_rfl
theorem nf108 : (Tryd.prog.info? 108).map (fun i => (i.zero, i.size, i.bytes)) = some (some (.tuple #[.int .i64 0, .nilIface]), 1, 0) := by kernel_rfl
theorem sz111 : sizeOfT Tryd.prog 111 = some 1 := by kernel_rfl
theorem ag111 : aggOf Tryd.prog 111 = some false := by kernel_rfl
theorem ze111 : zeroT Tryd.prog 111 = some (.pointer none) := by kernel_rfl
theorem nf111 : (Tryd.prog.info? 111).map (fun i => (i.zero, i.size, i.bytes)) = some (some (.pointer none), 1, 8) := by kernel_rfl
theorem sz124 : sizeOfT Tryd.prog 124 = some 1 := by kernel_rfl
theorem ag124 : aggOf Tryd.prog 124 = some false := by kernel_rfl
theorem ze124 : zeroT Tryd.prog 124 = some (.pointer none) := by kernel_rfl
theorem nf124 : (Tryd.prog.info? 124).map (fun i => (i.zero, i.size, i.bytes)) = some (some (.pointer none), 1, 8) := by kernel_rfl
instance : TyI Tryd.prog 0 false 1 := ⟨ag0, sz0⟩
instance : TyZ Tryd.prog 0 (.tuple #[]) := ⟨ze0⟩
instance : TyIn Tryd.prog 0 (.tuple #[]) 1 0 := ⟨nf0⟩
instance : TyI Tryd.prog 3 false 1 := ⟨ag3, sz3⟩
instance : TyZ Tryd.prog 3 (.int .i64 0) := ⟨ze3⟩
instance : TyIn Tryd.prog 3 (.int .i64 0) 1 8 := ⟨nf3⟩
instance : TyInt Tryd.prog 3 .i64 := ⟨by kernel_rfl⟩
instance : TyI Tryd.prog 4 false 1 := ⟨ag4, sz4⟩
instance : TyZ Tryd.prog 4 (.bool false) := ⟨ze4⟩
instance : TyIn Tryd.prog 4 (.bool false) 1 1 := ⟨nf4⟩
instance : TyBo Tryd.prog 4 := ⟨un4⟩
instance : TyI Tryd.prog 5 false 1 := ⟨ag5, sz5⟩
instance : TyZ Tryd.prog 5 (.int .u8 0) := ⟨ze5⟩
instance : TyIn Tryd.prog 5 (.int .u8 0) 1 1 := ⟨nf5⟩
instance : TyInt Tryd.prog 5 .u8 := ⟨by kernel_rfl⟩
instance : TyI Tryd.prog 9 false 1 := ⟨ag9, sz9⟩
instance : TyZ Tryd.prog 9 (.string ⟨#[]⟩) := ⟨ze9⟩
instance : TyIn Tryd.prog 9 (.string ⟨#[]⟩) 1 16 := ⟨nf9⟩
instance : TyStr Tryd.prog 9 := ⟨by kernel_rfl⟩
instance : TyI Tryd.prog 22 false 1 := ⟨ag22, sz22⟩
instance : TyZ Tryd.prog 22 (.slice none 0 0) := ⟨ze22⟩
instance : TyIn Tryd.prog 22 (.slice none 0 0) 1 24 := ⟨nf22⟩
instance : TySl Tryd.prog 22 24 := ⟨un22⟩
instance : TyI Tryd.prog 24 true 2 := ⟨ag24, sz24⟩
instance : TyZ Tryd.prog 24 (.agg #[.int .i64 0, .slice none 0 0]) := ⟨ze24⟩
instance : TyIn Tryd.prog 24 (.agg #[.int .i64 0, .slice none 0 0]) 2 32 := ⟨nf24⟩
instance : TyPl Tryd.prog 24 [(0, 1), (1, 1)] := ⟨_, Tryd.underlying24, pl24 Tryd.underlying24⟩
instance : TyFd Tryd.prog 24 0 0 1 := ⟨fd24_0⟩
instance : TyFd Tryd.prog 24 1 1 1 := ⟨fd24_1⟩
instance : TyI Tryd.prog 27 false 1 := ⟨ag27, sz27⟩
instance : TyZ Tryd.prog 27 (.slice none 0 0) := ⟨ze27⟩
instance : TyIn Tryd.prog 27 (.slice none 0 0) 1 24 := ⟨nf27⟩
instance : TySl Tryd.prog 27 29 := ⟨un27⟩
instance : TyI Tryd.prog 29 true 2 := ⟨ag29, sz29⟩
instance : TyZ Tryd.prog 29 (.agg #[.int .i64 0, .slice none 0 0]) := ⟨ze29⟩
instance : TyIn Tryd.prog 29 (.agg #[.int .i64 0, .slice none 0 0]) 2 32 := ⟨nf29⟩
instance : TyPl Tryd.prog 29 [(0, 1), (1, 1)] := ⟨_, Tryd.underlying29, pl29 Tryd.underlying29⟩
instance : TyFd Tryd.prog 29 0 0 1 := ⟨fd29_0⟩
instance : TyFd Tryd.prog 29 1 1 1 := ⟨fd29_1⟩
instance : TyI Tryd.prog 30 false 1 := ⟨ag30, sz30⟩
instance : TyZ Tryd.prog 30 (.int .i64 0) := ⟨ze30⟩
instance : TyIn Tryd.prog 30 (.int .i64 0) 1 8 := ⟨nf30⟩
instance : TyInt Tryd.prog 30 .i64 := ⟨by kernel_rfl⟩
instance : TyI Tryd.prog 31 false 1 := ⟨ag31, sz31⟩
instance : TyZ Tryd.prog 31 (.tuple #[.agg #[.int .i64 0, .slice none 0 0], .int .i64 0]) := ⟨ze31⟩
instance : TyIn Tryd.prog 31 (.tuple #[.agg #[.int .i64 0, .slice none 0 0], .int .i64 0]) 1 0 := ⟨nf31⟩
instance : TyI Tryd.prog 33 false 1 := ⟨ag33, sz33⟩
instance : TyZ Tryd.prog 33 (.tuple #[.agg #[.int .i64 0, .slice none 0 0], .int .i64 0]) := ⟨ze33⟩
instance : TyIn Tryd.prog 33 (.tuple #[.agg #[.int .i64 0, .slice none 0 0], .int .i64 0]) 1 0 := ⟨nf33⟩
instance : TyI Tryd.prog 41 false 1 := ⟨ag41, sz41⟩
instance : TyZ Tryd.prog 41 (.slice none 0 0) := ⟨ze41⟩
instance : TyIn Tryd.prog 41 (.slice none 0 0) 1 24 := ⟨nf41⟩
instance : TySl Tryd.prog 41 3 := ⟨un41⟩
instance : TyI Tryd.prog 47 false 1 := ⟨ag47, sz47⟩
instance : TyZ Tryd.prog 47 (.pointer none) := ⟨ze47⟩
instance : TyIn Tryd.prog 47 (.pointer none) 1 8 := ⟨nf47⟩
instance : TyI Tryd.prog 49 false 1 := ⟨ag49, sz49⟩
instance : TyZ Tryd.prog 49 (.slice none 0 0) := ⟨ze49⟩
instance : TyIn Tryd.prog 49 (.slice none 0 0) 1 24 := ⟨nf49⟩
instance : TySl Tryd.prog 49 3 := ⟨un49⟩
instance : TyI Tryd.prog 56 false 1 := ⟨ag56, sz56⟩
instance : TyZ Tryd.prog 56 (.tuple #[.agg #[.int .i64 0, .slice none 0 0], .bool false]) := ⟨ze56⟩
instance : TyIn Tryd.prog 56 (.tuple #[.agg #[.int .i64 0, .slice none 0 0], .bool false]) 1 0 := ⟨nf56⟩
instance : TyI Tryd.prog 58 false 1 := ⟨ag58, sz58⟩
instance : TyZ Tryd.prog 58 (.tuple #[.agg #[.int .i64 0, .slice none 0 0], .bool false]) := ⟨ze58⟩
instance : TyIn Tryd.prog 58 (.tuple #[.agg #[.int .i64 0, .slice none 0 0], .bool false]) 1 0 := ⟨nf58⟩
instance : TyI Tryd.prog 60 false 1 := ⟨ag60, sz60⟩
instance : TyZ Tryd.prog 60 (.nilFunc) := ⟨ze60⟩
instance : TyIn Tryd.prog 60 (.nilFunc) 1 8 := ⟨nf60⟩
instance : TyI Tryd.prog 62 false 1 := ⟨ag62, sz62⟩
instance : TyZ Tryd.prog 62 (.nilFunc) := ⟨ze62⟩
instance : TyIn Tryd.prog 62 (.nilFunc) 1 8 := ⟨nf62⟩
instance : TyI Tryd.prog 64 false 1 := ⟨ag64, sz64⟩
instance : TyZ Tryd.prog 64 (.nilFunc) := ⟨ze64⟩
instance : TyIn Tryd.prog 64 (.nilFunc) 1 8 := ⟨nf64⟩
instance : TyI Tryd.prog 65 false 1 := ⟨ag65, sz65⟩
instance : TyZ Tryd.prog 65 (.nilFunc) := ⟨ze65⟩
instance : TyIn Tryd.prog 65 (.nilFunc) 1 8 := ⟨nf65⟩
instance : TyI Tryd.prog 73 false 1 := ⟨ag73, sz73⟩
instance : TyZ Tryd.prog 73 (.slice none 0 0) := ⟨ze73⟩
instance : TyIn Tryd.prog 73 (.slice none 0 0) 1 24 := ⟨nf73⟩
instance : TySl Tryd.prog 73 9 := ⟨un73⟩
instance : TyI Tryd.prog 74 false 1 := ⟨ag74, sz74⟩
instance : TyZ Tryd.prog 74 (.tuple #[.agg #[.int .i64 0, .slice none 0 0], .string ⟨#[]⟩, .bool false]) := ⟨ze74⟩
instance : TyIn Tryd.prog 74 (.tuple #[.agg #[.int .i64 0, .slice none 0 0], .string ⟨#[]⟩, .bool false]) 1 0 := ⟨nf74⟩
instance : TyI Tryd.prog 77 false 1 := ⟨ag77, sz77⟩
instance : TyZ Tryd.prog 77 (.tuple #[.agg #[.int .i64 0, .slice none 0 0], .int .i64 0, .bool false]) := ⟨ze77⟩
instance : TyIn Tryd.prog 77 (.tuple #[.agg #[.int .i64 0, .slice none 0 0], .int .i64 0, .bool false]) 1 0 := ⟨nf77⟩
instance : TyI Tryd.prog 79 false 1 := ⟨ag79, sz79⟩
instance : TyZ Tryd.prog 79 (.pointer none) := ⟨ze79⟩
instance : TyIn Tryd.prog 79 (.pointer none) 1 8 := ⟨nf79⟩
instance : TyI Tryd.prog 80 false 1 := ⟨ag80, sz80⟩
instance : TyZ Tryd.prog 80 (.slice none 0 0) := ⟨ze80⟩
instance : TyIn Tryd.prog 80 (.slice none 0 0) 1 24 := ⟨nf80⟩
instance : TySl Tryd.prog 80 5 := ⟨un80⟩
instance : TyI Tryd.prog 82 true 2 := ⟨ag82, sz82⟩
instance : TyZ Tryd.prog 82 (.agg #[.pointer none, .slice none 0 0]) := ⟨ze82⟩
instance : TyIn Tryd.prog 82 (.agg #[.pointer none, .slice none 0 0]) 2 32 := ⟨nf82⟩
instance : TyPl Tryd.prog 82 [(0, 1), (1, 1)] := ⟨_, Tryd.underlying82, pl82 Tryd.underlying82⟩
instance : TyFd Tryd.prog 82 0 0 1 := ⟨fd82_0⟩
instance : TyFd Tryd.prog 82 1 1 1 := ⟨fd82_1⟩
instance : TyI Tryd.prog 89 false 1 := ⟨ag89, sz89⟩
instance : TyZ Tryd.prog 89 (.nilFunc) := ⟨ze89⟩
instance : TyIn Tryd.prog 89 (.nilFunc) 1 8 := ⟨nf89⟩
instance : TyI Tryd.prog 95 false 1 := ⟨ag95, sz95⟩
instance : TyZ Tryd.prog 95 (.nilFunc) := ⟨ze95⟩
instance : TyIn Tryd.prog 95 (.nilFunc) 1 8 := ⟨nf95⟩
instance : TyI Tryd.prog 96 false 1 := ⟨ag96, sz96⟩
instance : TyZ Tryd.prog 96 (.pointer none) := ⟨ze96⟩
instance : TyIn Tryd.prog 96 (.pointer none) 1 8 := ⟨nf96⟩
instance : TyI Tryd.prog 97 false 1 := ⟨ag97, sz97⟩
instance : TyZ Tryd.prog 97 (.map none) := ⟨ze97⟩
instance : TyIn Tryd.prog 97 (.map none) 1 8 := ⟨nf97⟩
instance : TyMap Tryd.prog 97 3 27 := ⟨by kernel_rfl⟩
instance : TyI Tryd.prog 99 true 2 := ⟨ag99, sz99⟩
instance : TyZ Tryd.prog 99 (.agg #[.slice none 0 0, .map none]) := ⟨ze99⟩
instance : TyIn Tryd.prog 99 (.agg #[.slice none 0 0, .map none]) 2 32 := ⟨nf99⟩
instance : TyPl Tryd.prog 99 [(0, 1), (1, 1)] := ⟨_, Tryd.underlying99, pl99 Tryd.underlying99⟩
instance : TyFd Tryd.prog 99 0 0 1 := ⟨fd99_0⟩
instance : TyFd Tryd.prog 99 1 1 1 := ⟨fd99_1⟩
instance : TyI Tryd.prog 101 false 1 := ⟨ag101, sz101⟩
instance : TyZ Tryd.prog 101 (.tuple #[.int .i64 0, .string ⟨#[]⟩, .bool false]) := ⟨ze101⟩
instance : TyIn Tryd.prog 101 (.tuple #[.int .i64 0, .string ⟨#[]⟩, .bool false]) 1 0 := ⟨nf101⟩
instance : TyI Tryd.prog 104 false 1 := ⟨ag104, sz104⟩
instance : TyZ Tryd.prog 104 (.tuple #[.string ⟨#[]⟩, .bool false]) := ⟨ze104⟩
instance : TyIn Tryd.prog 104 (.tuple #[.string ⟨#[]⟩, .bool false]) 1 0 := ⟨nf104⟩
instance : TyI Tryd.prog 107 false 1 := ⟨ag107, sz107⟩
instance : TyZ Tryd.prog 107 (.nilIface) := ⟨ze107⟩
instance : TyIn Tryd.prog 107 (.nilIface) 1 16 := ⟨nf107⟩
instance : TyI Tryd.prog 108 false 1 := ⟨ag108, sz108⟩
instance : TyZ Tryd.prog 108 (.tuple #[.int .i64 0, .nilIface]) := ⟨ze108⟩
instance : TyIn Tryd.prog 108 (.tuple #[.int .i64 0, .nilIface]) 1 0 := ⟨nf108⟩
instance : TyI Tryd.prog 111 false 1 := ⟨ag111, sz111⟩
instance : TyZ Tryd.prog 111 (.pointer none) := ⟨ze111⟩
instance : TyIn Tryd.prog 111 (.pointer none) 1 8 := ⟨nf111⟩
instance : TyI Tryd.prog 124 false 1 := ⟨ag124, sz124⟩
instance : TyZ Tryd.prog 124 (.pointer none) := ⟨ze124⟩
instance : TyIn Tryd.prog 124 (.pointer none) 1 8 := ⟨nf124⟩
theorem ent3 : Enters Tryd.prog 3 := fun args w => by go_simp
instance : EntC Tryd.prog 3 := ⟨ent3⟩
theorem ent4 : Enters Tryd.prog 4 := fun args w => by go_simp
instance : EntC Tryd.prog 4 := ⟨ent4⟩
theorem ent5 : Enters Tryd.prog 5 := fun args w => by go_simp
instance : EntC Tryd.prog 5 := ⟨ent5⟩
theorem ent6 : Enters Tryd.prog 6 := fun args w => by go_simp
instance : EntC Tryd.prog 6 := ⟨ent6⟩
theorem ent7 : Enters Tryd.prog 7 := fun args w => by go_simp
instance : EntC Tryd.prog 7 := ⟨ent7⟩
theorem ent8 : Enters Tryd.prog 8 := fun args w => by go_simp
instance : EntC Tryd.prog 8 := ⟨ent8⟩
theorem ent9 : Enters Tryd.prog 9 := fun args w => by go_simp
instance : EntC Tryd.prog 9 := ⟨ent9⟩
theorem ent10 : Enters Tryd.prog 10 := fun args w => by go_simp
instance : EntC Tryd.prog 10 := ⟨ent10⟩
theorem ent11 : Enters Tryd.prog 11 := fun args w => by go_simp
instance : EntC Tryd.prog 11 := ⟨ent11⟩
theorem ent12 : Enters Tryd.prog 12 := fun args w => by go_simp
instance : EntC Tryd.prog 12 := ⟨ent12⟩
theorem ent13 : Enters Tryd.prog 13 := fun args w => by go_simp
instance : EntC Tryd.prog 13 := ⟨ent13⟩
theorem ent14 : Enters Tryd.prog 14 := fun args w => by go_simp
instance : EntC Tryd.prog 14 := ⟨ent14⟩
theorem ent15 : Enters Tryd.prog 15 := fun args w => by go_simp
instance : EntC Tryd.prog 15 := ⟨ent15⟩
theorem ent16 : Enters Tryd.prog 16 := fun args w => by go_simp
instance : EntC Tryd.prog 16 := ⟨ent16⟩
theorem ent17 : Enters Tryd.prog 17 := fun args w => by go_simp
instance : EntC Tryd.prog 17 := ⟨ent17⟩
theorem ent18 : Enters Tryd.prog 18 := fun args w => by go_simp
instance : EntC Tryd.prog 18 := ⟨ent18⟩
theorem ent19 : Enters Tryd.prog 19 := fun args w => by go_simp
instance : EntC Tryd.prog 19 := ⟨ent19⟩
theorem ent20 : Enters Tryd.prog 20 := fun args w => by go_simp
instance : EntC Tryd.prog 20 := ⟨ent20⟩
theorem ent21 : Enters Tryd.prog 21 := fun args w => by go_simp
instance : EntC Tryd.prog 21 := ⟨ent21⟩
theorem ent22 : Enters Tryd.prog 22 := fun args w => by go_simp
instance : EntC Tryd.prog 22 := ⟨ent22⟩
theorem ent23 : Enters Tryd.prog 23 := fun args w => by go_simp
instance : EntC Tryd.prog 23 := ⟨ent23⟩
theorem ent24 : Enters Tryd.prog 24 := fun args w => by go_simp
instance : EntC Tryd.prog 24 := ⟨ent24⟩
theorem ent25 : Enters Tryd.prog 25 := fun args w => by go_simp
instance : EntC Tryd.prog 25 := ⟨ent25⟩
theorem ent26 : Enters Tryd.prog 26 := fun args w => by go_simp
instance : EntC Tryd.prog 26 := ⟨ent26⟩
theorem ent27 : Enters Tryd.prog 27 := fun args w => by go_simp
instance : EntC Tryd.prog 27 := ⟨ent27⟩
theorem ent28 : Enters Tryd.prog 28 := fun args w => by go_simp
instance : EntC Tryd.prog 28 := ⟨ent28⟩
theorem ent29 : Enters Tryd.prog 29 := fun args w => by go_simp
instance : EntC Tryd.prog 29 := ⟨ent29⟩
theorem ent30 : Enters Tryd.prog 30 := fun args w => by go_simp
instance : EntC Tryd.prog 30 := ⟨ent30⟩
theorem ent31 : Enters Tryd.prog 31 := fun args w => by go_simp
instance : EntC Tryd.prog 31 := ⟨ent31⟩
theorem ent32 : Enters Tryd.prog 32 := fun args w => by go_simp
instance : EntC Tryd.prog 32 := ⟨ent32⟩
theorem ent33 : Enters Tryd.prog 33 := fun args w => by go_simp
instance : EntC Tryd.prog 33 := ⟨ent33⟩
theorem ent34 : Enters Tryd.prog 34 := fun args w => by go_simp
instance : EntC Tryd.prog 34 := ⟨ent34⟩
theorem ent35 : Enters Tryd.prog 35 := fun args w => by go_simp
instance : EntC Tryd.prog 35 := ⟨ent35⟩
theorem ent36 : Enters Tryd.prog 36 := fun args w => by go_simp
instance : EntC Tryd.prog 36 := ⟨ent36⟩
theorem ent37 : Enters Tryd.prog 37 := fun args w => by go_simp
instance : EntC Tryd.prog 37 := ⟨ent37⟩
theorem ent38 : Enters Tryd.prog 38 := fun args w => by go_simp
instance : EntC Tryd.prog 38 := ⟨ent38⟩
theorem ent39 : Enters Tryd.prog 39 := fun args w => by go_simp
instance : EntC Tryd.prog 39 := ⟨ent39⟩
theorem ent40 : Enters Tryd.prog 40 := fun args w => by go_simp
instance : EntC Tryd.prog 40 := ⟨ent40⟩
theorem ent41 : Enters Tryd.prog 41 := fun args w => by go_simp
instance : EntC Tryd.prog 41 := ⟨ent41⟩
theorem ent42 : Enters Tryd.prog 42 := fun args w => by go_simp
instance : EntC Tryd.prog 42 := ⟨ent42⟩
theorem ent43 : Enters Tryd.prog 43 := fun args w => by go_simp
instance : EntC Tryd.prog 43 := ⟨ent43⟩
theorem ent44 : Enters Tryd.prog 44 := fun args w => by go_simp
instance : EntC Tryd.prog 44 := ⟨ent44⟩
theorem ent45 : Enters Tryd.prog 45 := fun args w => by go_simp
instance : EntC Tryd.prog 45 := ⟨ent45⟩
theorem ent46 : Enters Tryd.prog 46 := fun args w => by go_simp
instance : EntC Tryd.prog 46 := ⟨ent46⟩
theorem ent47 : Enters Tryd.prog 47 := fun args w => by go_simp
instance : EntC Tryd.prog 47 := ⟨ent47⟩
theorem ent48 : Enters Tryd.prog 48 := fun args w => by go_simp
instance : EntC Tryd.prog 48 := ⟨ent48⟩
theorem ent49 : Enters Tryd.prog 49 := fun args w => by go_simp
instance : EntC Tryd.prog 49 := ⟨ent49⟩
theorem ent50 : Enters Tryd.prog 50 := fun args w => by go_simp
instance : EntC Tryd.prog 50 := ⟨ent50⟩
theorem ent51 : Enters Tryd.prog 51 := fun args w => by go_simp
instance : EntC Tryd.prog 51 := ⟨ent51⟩
theorem ent52 : Enters Tryd.prog 52 := fun args w => by go_simp
instance : EntC Tryd.prog 52 := ⟨ent52⟩
theorem ent53 : Enters Tryd.prog 53 := fun args w => by go_simp
instance : EntC Tryd.prog 53 := ⟨ent53⟩
theorem ent54 : Enters Tryd.prog 54 := fun args w => by go_simp
instance : EntC Tryd.prog 54 := ⟨ent54⟩
theorem ent55 : Enters Tryd.prog 55 := fun args w => by go_simp
instance : EntC Tryd.prog 55 := ⟨ent55⟩
theorem ent56 : Enters Tryd.prog 56 := fun args w => by go_simp
instance : EntC Tryd.prog 56 := ⟨ent56⟩
theorem ent57 : Enters Tryd.prog 57 := fun args w => by go_simp
instance : EntC Tryd.prog 57 := ⟨ent57⟩
theorem ent58 : Enters Tryd.prog 58 := fun args w => by go_simp
instance : EntC Tryd.prog 58 := ⟨ent58⟩
theorem ent59 : Enters Tryd.prog 59 := fun args w => by go_simp
instance : EntC Tryd.prog 59 := ⟨ent59⟩
theorem ent60 : Enters Tryd.prog 60 := fun args w => by go_simp
instance : EntC Tryd.prog 60 := ⟨ent60⟩
theorem ent61 : Enters Tryd.prog 61 := fun args w => by go_simp
instance : EntC Tryd.prog 61 := ⟨ent61⟩
theorem ent62 : Enters Tryd.prog 62 := fun args w => by go_simp
instance : EntC Tryd.prog 62 := ⟨ent62⟩
theorem ent63 : Enters Tryd.prog 63 := fun args w => by go_simp
instance : EntC Tryd.prog 63 := ⟨ent63⟩
theorem ent64 : Enters Tryd.prog 64 := fun args w => by go_simp
instance : EntC Tryd.prog 64 := ⟨ent64⟩
theorem ent65 : Enters Tryd.prog 65 := fun args w => by go_simp
instance : EntC Tryd.prog 65 := ⟨ent65⟩
theorem ent66 : Enters Tryd.prog 66 := fun args w => by go_simp
instance : EntC Tryd.prog 66 := ⟨ent66⟩
theorem ent67 : Enters Tryd.prog 67 := fun args w => by go_simp
instance : EntC Tryd.prog 67 := ⟨ent67⟩
theorem ent68 : Enters Tryd.prog 68 := fun args w => by go_simp
instance : EntC Tryd.prog 68 := ⟨ent68⟩
theorem ent69 : Enters Tryd.prog 69 := fun args w => by go_simp
instance : EntC Tryd.prog 69 := ⟨ent69⟩
theorem ent70 : Enters Tryd.prog 70 := fun args w => by go_simp
instance : EntC Tryd.prog 70 := ⟨ent70⟩
theorem ent71 : Enters Tryd.prog 71 := fun args w => by go_simp
instance : EntC Tryd.prog 71 := ⟨ent71⟩
theorem ent72 : Enters Tryd.prog 72 := fun args w => by go_simp
instance : EntC Tryd.prog 72 := ⟨ent72⟩
theorem ent73 : Enters Tryd.prog 73 := fun args w => by go_simp
instance : EntC Tryd.prog 73 := ⟨ent73⟩
theorem ent74 : Enters Tryd.prog 74 := fun args w => by go_simp
instance : EntC Tryd.prog 74 := ⟨ent74⟩
theorem ent75 : Enters Tryd.prog 75 := fun args w => by go_simp
instance : EntC Tryd.prog 75 := ⟨ent75⟩
theorem ent76 : Enters Tryd.prog 76 := fun args w => by go_simp
instance : EntC Tryd.prog 76 := ⟨ent76⟩
theorem ent77 : Enters Tryd.prog 77 := fun args w => by go_simp
instance : EntC Tryd.prog 77 := ⟨ent77⟩
instance : TyPtr Tryd.prog 47 29 := ⟨by kernel_rfl⟩
instance : TyPtr Tryd.prog 79 82 := ⟨by kernel_rfl⟩
instance : TyPtr Tryd.prog 96 99 := ⟨by kernel_rfl⟩
instance : TyPtr Tryd.prog 111 5 := ⟨by kernel_rfl⟩
end Go.Proofs.YtohjapcafkhabaaDoor
