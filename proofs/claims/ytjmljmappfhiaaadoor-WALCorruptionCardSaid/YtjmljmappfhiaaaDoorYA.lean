/- Facts on the types of the seat, as instances. No condition. -/
import Derived.Test.YtjmljmappfhiaaaDoorXW
import Derived.Test.YtjmljmappfhiaaaDoorYT
import Derived.Test.YtjmljmappfhiaaaDoorProg
import Derived.Test.YtjmljmappfhiaaaDoorCheckedPd
import Derived.Test.YtjmljmappfhiaaaDoorCheckedPe

set_option linter.unusedSimpArgs false
set_option linter.unusedVariables false
namespace Go.Proofs.YtjmljmappfhiaaaDoor
open Go Go.RowKit Go.PP Go.Dm
theorem sz0 : sizeOfT Tryd.prog 0 = some 1 := by kernel_rfl
theorem ag0 : aggOf Tryd.prog 0 = some false := by kernel_rfl
theorem ze0 : zeroT Tryd.prog 0 = some (.tuple #[]) := by kernel_rfl
theorem nf0 : (Tryd.prog.info? 0).map (fun i => (i.zero, i.size, i.bytes)) = some (some (.tuple #[]), 1, 0) := by kernel_rfl
theorem sz2 : sizeOfT Tryd.prog 2 = some 1 := by kernel_rfl
theorem ag2 : aggOf Tryd.prog 2 = some false := by kernel_rfl
theorem ze2 : zeroT Tryd.prog 2 = some (.int .i64 0) := by kernel_rfl
theorem nf2 : (Tryd.prog.info? 2).map (fun i => (i.zero, i.size, i.bytes)) = some (some (.int .i64 0), 1, 8) := by kernel_rfl
theorem sz3 : sizeOfT Tryd.prog 3 = some 1 := by kernel_rfl
theorem ag3 : aggOf Tryd.prog 3 = some false := by kernel_rfl
theorem ze3 : zeroT Tryd.prog 3 = some (.int .i64 0) := by kernel_rfl
theorem nf3 : (Tryd.prog.info? 3).map (fun i => (i.zero, i.size, i.bytes)) = some (some (.int .i64 0), 1, 8) := by kernel_rfl
theorem sz4 : sizeOfT Tryd.prog 4 = some 1 := by kernel_rfl
theorem ag4 : aggOf Tryd.prog 4 = some false := by kernel_rfl
theorem ze4 : zeroT Tryd.prog 4 = some (.bool false) := by kernel_rfl
theorem nf4 : (Tryd.prog.info? 4).map (fun i => (i.zero, i.size, i.bytes)) = some (some (.bool false), 1, 1) := by kernel_rfl
theorem un4 : Tryd.prog.underlying 4 = some .bool := by kernel_rfl
theorem sz5 : sizeOfT Tryd.prog 5 = some 1 := by kernel_rfl
theorem ag5 : aggOf Tryd.prog 5 = some false := by kernel_rfl
theorem ze5 : zeroT Tryd.prog 5 = some (.int .u8 0) := by kernel_rfl
theorem nf5 : (Tryd.prog.info? 5).map (fun i => (i.zero, i.size, i.bytes)) = some (some (.int .u8 0), 1, 1) := by kernel_rfl
theorem sz9 : sizeOfT Tryd.prog 9 = some 1 := by kernel_rfl
theorem ag9 : aggOf Tryd.prog 9 = some false := by kernel_rfl
theorem ze9 : zeroT Tryd.prog 9 = some (.string ⟨#[]⟩) := by kernel_rfl
theorem nf9 : (Tryd.prog.info? 9).map (fun i => (i.zero, i.size, i.bytes)) = some (some (.string ⟨#[]⟩), 1, 16) := by kernel_rfl
theorem sz22 : sizeOfT Tryd.prog 22 = some 1 := by kernel_rfl
theorem ag22 : aggOf Tryd.prog 22 = some false := by kernel_rfl
theorem ze22 : zeroT Tryd.prog 22 = some (.slice none 0 0) := by kernel_rfl
theorem nf22 : (Tryd.prog.info? 22).map (fun i => (i.zero, i.size, i.bytes)) = some (some (.slice none 0 0), 1, 24) := by kernel_rfl
theorem un22 : Tryd.prog.underlying 22 = some (.slice 29) := by kernel_rfl
theorem sz23 : sizeOfT Tryd.prog 23 = some 1 := by kernel_rfl
theorem ag23 : aggOf Tryd.prog 23 = some false := by kernel_rfl
theorem ze23 : zeroT Tryd.prog 23 = some (.slice none 0 0) := by kernel_rfl
theorem nf23 : (Tryd.prog.info? 23).map (fun i => (i.zero, i.size, i.bytes)) = some (some (.slice none 0 0), 1, 24) := by kernel_rfl
theorem un23 : Tryd.prog.underlying 23 = some (.slice 5) := by kernel_rfl
theorem sz25 : sizeOfT Tryd.prog 25 = some 1 := by kernel_rfl
theorem ag25 : aggOf Tryd.prog 25 = some false := by kernel_rfl
theorem ze25 : zeroT Tryd.prog 25 = some (.pointer none) := by kernel_rfl
theorem nf25 : (Tryd.prog.info? 25).map (fun i => (i.zero, i.size, i.bytes)) = some (some (.pointer none), 1, 8) := by kernel_rfl
theorem sz27 : sizeOfT Tryd.prog 27 = some 1 := by kernel_rfl
theorem ag27 : aggOf Tryd.prog 27 = some false := by kernel_rfl
theorem ze27 : zeroT Tryd.prog 27 = some (.slice none 0 0) := by kernel_rfl
theorem nf27 : (Tryd.prog.info? 27).map (fun i => (i.zero, i.size, i.bytes)) = some (some (.slice none 0 0), 1, 24) := by kernel_rfl
theorem un27 : Tryd.prog.underlying 27 = some (.slice 31) := by kernel_rfl
theorem sz29 : sizeOfT Tryd.prog 29 = some 2 := by kernel_rfl
theorem ag29 : aggOf Tryd.prog 29 = some true := by kernel_rfl
theorem ze29 : zeroT Tryd.prog 29 = some (.agg #[.string ⟨#[]⟩, .string ⟨#[]⟩]) := by kernel_rfl
theorem nf29 : (Tryd.prog.info? 29).map (fun i => (i.zero, i.size, i.bytes)) = some (some (.agg #[.string ⟨#[]⟩, .string ⟨#[]⟩]), 2, 32) := by kernel_rfl
theorem pl29 {fs : List Field} (h : Tryd.prog.underlying 29 = some (.struct fs.toArray)) : placesD Tryd.prog fs = some [(0, 1), (1, 1)] := by
  rw [Tryd.underlying29] at h
  simp only [Option.some.injEq, TypeDesc.struct.injEq] at h
  have h2 := congrArg Array.toList h
  simp only [List.toList_toArray] at h2
  subst h2
  simp only [placesD, sz9]
theorem fd29_0 : FieldAt Tryd.prog 29 0 0 1 := ⟨_, _, Tryd.underlying29, rfl, rfl, by kernel_rfl, by kernel_rfl⟩
theorem fd29_1 : FieldAt Tryd.prog 29 1 1 1 := ⟨_, _, Tryd.underlying29, rfl, rfl, by kernel_rfl, by kernel_rfl⟩
theorem sz31 : sizeOfT Tryd.prog 31 = some 2 := by kernel_rfl
theorem ag31 : aggOf Tryd.prog 31 = some true := by kernel_rfl
theorem ze31 : zeroT Tryd.prog 31 = some (.agg #[.string ⟨#[]⟩, .string ⟨#[]⟩]) := by kernel_rfl
theorem nf31 : (Tryd.prog.info? 31).map (fun i => (i.zero, i.size, i.bytes)) = some (some (.agg #[.string ⟨#[]⟩, .string ⟨#[]⟩]), 2, 32) := by kernel_rfl
theorem pl31 {fs : List Field} (h : Tryd.prog.underlying 31 = some (.struct fs.toArray)) : placesD Tryd.prog fs = some [(0, 1), (1, 1)] := by
  rw [Tryd.underlying31] at h
  simp only [Option.some.injEq, TypeDesc.struct.injEq] at h
  have h2 := congrArg Array.toList h
  simp only [List.toList_toArray] at h2
  subst h2
  simp only [placesD, sz9]
theorem fd31_0 : FieldAt Tryd.prog 31 0 0 1 := ⟨_, _, Tryd.underlying31, rfl, rfl, by kernel_rfl, by kernel_rfl⟩
theorem fd31_1 : FieldAt Tryd.prog 31 1 1 1 := ⟨_, _, Tryd.underlying31, rfl, rfl, by kernel_rfl, by kernel_rfl⟩
theorem sz32 : sizeOfT Tryd.prog 32 = some 1 := by kernel_rfl
theorem ag32 : aggOf Tryd.prog 32 = some false := by kernel_rfl
theorem ze32 : zeroT Tryd.prog 32 = some (.int .i64 0) := by kernel_rfl
theorem nf32 : (Tryd.prog.info? 32).map (fun i => (i.zero, i.size, i.bytes)) = some (some (.int .i64 0), 1, 8) := by kernel_rfl
theorem sz33 : sizeOfT Tryd.prog 33 = some 1 := by kernel_rfl
theorem ag33 : aggOf Tryd.prog 33 = some false := by kernel_rfl
theorem ze33 : zeroT Tryd.prog 33 = some (.tuple #[.slice none 0 0, .int .i64 0]) := by kernel_rfl
theorem nf33 : (Tryd.prog.info? 33).map (fun i => (i.zero, i.size, i.bytes)) = some (some (.tuple #[.slice none 0 0, .int .i64 0]), 1, 0) := by kernel_rfl
theorem sz44 : sizeOfT Tryd.prog 44 = some 1 := by kernel_rfl
theorem ag44 : aggOf Tryd.prog 44 = some false := by kernel_rfl
theorem ze44 : zeroT Tryd.prog 44 = some (.int .u32 0) := by kernel_rfl
theorem nf44 : (Tryd.prog.info? 44).map (fun i => (i.zero, i.size, i.bytes)) = some (some (.int .u32 0), 1, 4) := by kernel_rfl
theorem sz47 : sizeOfT Tryd.prog 47 = some 1 := by kernel_rfl
theorem ag47 : aggOf Tryd.prog 47 = some false := by kernel_rfl
theorem ze47 : zeroT Tryd.prog 47 = some (.slice none 0 0) := by kernel_rfl
theorem nf47 : (Tryd.prog.info? 47).map (fun i => (i.zero, i.size, i.bytes)) = some (some (.slice none 0 0), 1, 24) := by kernel_rfl
theorem un47 : Tryd.prog.underlying 47 = some (.slice 9) := by kernel_rfl
theorem sz48 : sizeOfT Tryd.prog 48 = some 1 := by kernel_rfl
theorem ag48 : aggOf Tryd.prog 48 = some false := by kernel_rfl
theorem ze48 : zeroT Tryd.prog 48 = some (.tuple #[.pointer none, .slice none 0 0]) := by kernel_rfl
theorem nf48 : (Tryd.prog.info? 48).map (fun i => (i.zero, i.size, i.bytes)) = some (some (.tuple #[.pointer none, .slice none 0 0]), 1, 0) := by kernel_rfl
theorem sz60 : sizeOfT Tryd.prog 60 = some 1 := by kernel_rfl
theorem ag60 : aggOf Tryd.prog 60 = some false := by kernel_rfl
theorem ze60 : zeroT Tryd.prog 60 = some (.tuple #[.pointer none, .int .i64 0, .int .i64 0]) := by kernel_rfl
theorem nf60 : (Tryd.prog.info? 60).map (fun i => (i.zero, i.size, i.bytes)) = some (some (.tuple #[.pointer none, .int .i64 0, .int .i64 0]), 1, 0) := by kernel_rfl
theorem sz62 : sizeOfT Tryd.prog 62 = some 1 := by kernel_rfl
theorem ag62 : aggOf Tryd.prog 62 = some false := by kernel_rfl
theorem ze62 : zeroT Tryd.prog 62 = some (.tuple #[.slice none 0 0, .int .i64 0]) := by kernel_rfl
theorem nf62 : (Tryd.prog.info? 62).map (fun i => (i.zero, i.size, i.bytes)) = some (some (.tuple #[.slice none 0 0, .int .i64 0]), 1, 0) := by kernel_rfl
theorem sz65 : sizeOfT Tryd.prog 65 = some 1 := by kernel_rfl
theorem ag65 : aggOf Tryd.prog 65 = some false := by kernel_rfl
theorem ze65 : zeroT Tryd.prog 65 = some (.int .u16 0) := by kernel_rfl
theorem nf65 : (Tryd.prog.info? 65).map (fun i => (i.zero, i.size, i.bytes)) = some (some (.int .u16 0), 1, 2) := by kernel_rfl
theorem sz70 : sizeOfT Tryd.prog 70 = some 1 := by kernel_rfl
theorem ag70 : aggOf Tryd.prog 70 = some true := by kernel_rfl
theorem ze70 : zeroT Tryd.prog 70 = some (.agg #[.slice none 0 0]) := by kernel_rfl
theorem nf70 : (Tryd.prog.info? 70).map (fun i => (i.zero, i.size, i.bytes)) = some (some (.agg #[.slice none 0 0]), 1, 24) := by kernel_rfl
theorem pl70 {fs : List Field} (h : Tryd.prog.underlying 70 = some (.struct fs.toArray)) : placesD Tryd.prog fs = some [(0, 1)] := by
  rw [Tryd.underlying70] at h
  simp only [Option.some.injEq, TypeDesc.struct.injEq] at h
  have h2 := congrArg Array.toList h
  simp only [List.toList_toArray] at h2
  subst h2
  simp only [placesD, sz22]
theorem fd70_0 : FieldAt Tryd.prog 70 0 0 1 := ⟨_, _, Tryd.underlying70, rfl, rfl, by kernel_rfl, by kernel_rfl⟩
theorem sz74 : sizeOfT Tryd.prog 74 = some 1 := by kernel_rfl
theorem ag74 : aggOf Tryd.prog 74 = some false := by kernel_rfl
theorem ze74 : zeroT Tryd.prog 74 = some (.int .u64 0) := by kernel_rfl
theorem nf74 : (Tryd.prog.info? 74).map (fun i => (i.zero, i.size, i.bytes)) = some (some (.int .u64 0), 1, 8) := by kernel_rfl
theorem sz76 : sizeOfT Tryd.prog 76 = some 1 := by kernel_rfl
theorem ag76 : aggOf Tryd.prog 76 = some false := by kernel_rfl
theorem ze76 : zeroT Tryd.prog 76 = some (.nilFunc) := by kernel_rfl
theorem nf76 : (Tryd.prog.info? 76).map (fun i => (i.zero, i.size, i.bytes)) = some (some (.nilFunc), 1, 8) := by kernel_rfl
theorem sz77 : sizeOfT Tryd.prog 77 = some 1 := by kernel_rfl
theorem ag77 : aggOf Tryd.prog 77 = some false := by kernel_rfl
theorem ze77 : zeroT Tryd.prog 77 = some (.map none) := by kernel_rfl
theorem nf77 : (Tryd.prog.info? 77).map (fun i => (i.zero, i.size, i.bytes)) = some (some (.map none), 1, 8) := by kernel_rfl
theorem sz79 : sizeOfT Tryd.prog 79 = some 1 := by kernel_rfl
theorem ag79 : aggOf Tryd.prog 79 = some false := by kernel_rfl
theorem ze79 : zeroT Tryd.prog 79 = some (.tuple #[.agg #[.string ⟨#[]⟩, .string ⟨#[]⟩], .int .i64 0, .bool false]) := by kernel_rfl
theorem nf79 : (Tryd.prog.info? 79).map (fun i => (i.zero, i.size, i.bytes)) = some (some (.tuple #[.agg #[.string ⟨#[]⟩, .string ⟨#[]⟩], .int .i64 0, .bool false]), 1, 0) := by kernel_rfl
theorem sz81 : sizeOfT Tryd.prog 81 = some 1 := by kernel_rfl
theorem ag81 : aggOf Tryd.prog 81 = some false := by kernel_rfl
theorem ze81 : zeroT Tryd.prog 81 = some (.tuple #[.agg #[.string ⟨#[]⟩, .string ⟨#[]⟩], .int .i64 0]) := by kernel_rfl
theorem nf81 : (Tryd.prog.info? 81).map (fun i => (i.zero, i.size, i.bytes)) = some (some (.tuple #[.agg #[.string ⟨#[]⟩, .string ⟨#[]⟩], .int .i64 0]), 1, 0) := by kernel_rfl
theorem sz85 : sizeOfT Tryd.prog 85 = some 1 := by kernel_rfl
theorem ag85 : aggOf Tryd.prog 85 = some false := by kernel_rfl
theorem ze85 : zeroT Tryd.prog 85 = some (.tuple #[.slice none 0 0, .slice none 0 0, .bool false]) := by kernel_rfl
theorem nf85 : (Tryd.prog.info? 85).map (fun i => (i.zero, i.size, i.bytes)) = some (some (.tuple #[.slice none 0 0, .slice none 0 0, .bool false]), 1, 0) := by kernel_rfl
theorem sz88 : sizeOfT Tryd.prog 88 = some 1 := by kernel_rfl
theorem ag88 : aggOf Tryd.prog 88 = some false := by kernel_rfl
theorem ze88 : zeroT Tryd.prog 88 = some (.nilIface) := by kernel_rfl
theorem nf88 : (Tryd.prog.info? 88).map (fun i => (i.zero, i.size, i.bytes)) = some (some (.nilIface), 1, 16) := by kernel_rfl
theorem sz89 : sizeOfT Tryd.prog 89 = some 1 := by kernel_rfl
theorem ag89 : aggOf Tryd.prog 89 = some false := by kernel_rfl
theorem ze89 : zeroT Tryd.prog 89 = some (.tuple #[.int .u64 0, .nilIface]) := by kernel_rfl
theorem nf89 : (Tryd.prog.info? 89).map (fun i => (i.zero, i.size, i.bytes)) = some (some (.tuple #[.int .u64 0, .nilIface]), 1, 0) := by kernel_rfl
theorem sz97 : sizeOfT Tryd.prog 97 = some 1 := by kernel_rfl
theorem ag97 : aggOf Tryd.prog 97 = some false := by kernel_rfl
theorem ze97 : zeroT Tryd.prog 97 = some (.int .u64 0) := by kernel_rfl
theorem nf97 : (Tryd.prog.info? 97).map (fun i => (i.zero, i.size, i.bytes)) = some (some (.int .u64 0), 1, 8) := by kernel_rfl
theorem sz100 : sizeOfT Tryd.prog 100 = some 1 := by kernel_rfl
theorem ag100 : aggOf Tryd.prog 100 = some false := by kernel_rfl
theorem ze100 : zeroT Tryd.prog 100 = some (.pointer none) := by kernel_rfl
theorem nf100 : (Tryd.prog.info? 100).map (fun i => (i.zero, i.size, i.bytes)) = some (some (.pointer none), 1, 8) := by kernel_rfl
theorem sz104 : sizeOfT Tryd.prog 104 = some 24 := by kernel_rfl
theorem ag104 : aggOf Tryd.prog 104 = some true := by kernel_rfl
theorem ze104 : zeroT Tryd.prog 104 = some (.agg #[.int .u8 0, .int .u8 0, .int .u8 0, .int .u8 0, .int .u8 0, .int .u8 0, .int .u8 0, .int .u8 0, .int .u8 0, .int .u8 0, .int .u8 0, .int .u8 0, .int .u8 0, .int .u8 0, .int .u8 0, .int .u8 0, .int .u8 0, .int .u8 0, .int .u8 0, .int .u8 0, .int .u8 0, .int .u8 0, .int .u8 0, .int .u8 0]) := by kernel_rfl
theorem nf104 : (Tryd.prog.info? 104).map (fun i => (i.zero, i.size, i.bytes)) = some (some (.agg #[.int .u8 0, .int .u8 0, .int .u8 0, .int .u8 0, .int .u8 0, .int .u8 0, .int .u8 0, .int .u8 0, .int .u8 0, .int .u8 0, .int .u8 0, .int .u8 0, .int .u8 0, .int .u8 0, .int .u8 0, .int .u8 0, .int .u8 0, .int .u8 0, .int .u8 0, .int .u8 0, .int .u8 0, .int .u8 0, .int .u8 0, .int .u8 0]), 24, 24) := by kernel_rfl
theorem un104 : Tryd.prog.underlying 104 = some (.array 24 5) := by kernel_rfl
theorem sz107 : sizeOfT Tryd.prog 107 = some 1 := by kernel_rfl
theorem ag107 : aggOf Tryd.prog 107 = some false := by kernel_rfl
theorem ze107 : zeroT Tryd.prog 107 = some (.tuple #[.slice none 0 0, .string ⟨#[]⟩]) := by kernel_rfl
theorem nf107 : (Tryd.prog.info? 107).map (fun i => (i.zero, i.size, i.bytes)) = some (some (.tuple #[.slice none 0 0, .string ⟨#[]⟩]), 1, 0) := by kernel_rfl
theorem sz113 : sizeOfT Tryd.prog 113 = some 3 := by kernel_rfl
theorem ag113 : aggOf Tryd.prog 113 = some true := by kernel_rfl
theorem ze113 : zeroT Tryd.prog 113 = some (.agg #[.string ⟨#[]⟩, .string ⟨#[]⟩, .nilIface]) := by kernel_rfl
theorem nf113 : (Tryd.prog.info? 113).map (fun i => (i.zero, i.size, i.bytes)) = some (some (.agg #[.string ⟨#[]⟩, .string ⟨#[]⟩, .nilIface]), 3, 48) := by kernel_rfl
theorem pl113 {fs : List Field} (h : Tryd.prog.underlying 113 = some (.struct fs.toArray)) : placesD Tryd.prog fs = some [(0, 1), (1, 1), (2, 1)] := by
  rw [Tryd.underlying113] at h
  simp only [Option.some.injEq, TypeDesc.struct.injEq] at h
  have h2 := congrArg Array.toList h
  simp only [List.toList_toArray] at h2
  subst h2
  simp only [placesD, sz88, sz9]
theorem fd113_0 : FieldAt Tryd.prog 113 0 0 1 := ⟨_, _, Tryd.underlying113, rfl, rfl, by kernel_rfl, by kernel_rfl⟩
theorem fd113_1 : FieldAt Tryd.prog 113 1 1 1 := ⟨_, _, Tryd.underlying113, rfl, rfl, by kernel_rfl, by kernel_rfl⟩
theorem fd113_2 : FieldAt Tryd.prog 113 2 2 1 := ⟨_, _, Tryd.underlying113, rfl, rfl, by kernel_rfl, by kernel_rfl⟩
instance : TyI Tryd.prog 0 false 1 := ⟨ag0, sz0⟩
instance : TyZ Tryd.prog 0 (.tuple #[]) := ⟨ze0⟩
instance : TyIn Tryd.prog 0 (.tuple #[]) 1 0 := ⟨nf0⟩
instance : TyI Tryd.prog 2 false 1 := ⟨ag2, sz2⟩
instance : TyZ Tryd.prog 2 (.int .i64 0) := ⟨ze2⟩
instance : TyIn Tryd.prog 2 (.int .i64 0) 1 8 := ⟨nf2⟩
instance : TyInt Tryd.prog 2 .i64 := ⟨by kernel_rfl⟩
instance : TyI Tryd.prog 3 false 1 := ⟨ag3, sz3⟩
instance : TyZ Tryd.prog 3 (.int .i64 0) := ⟨ze3⟩
instance : TyIn Tryd.prog 3 (.int .i64 0) 1 8 := ⟨nf3⟩
instance : TyInt Tryd.prog 3 .i64 := ⟨by kernel_rfl⟩
instance : TyI Tryd.prog 4 false 1 := ⟨ag4, sz4⟩
instance : TyZ Tryd.prog 4 (.bool false) := ⟨ze4⟩
instance : TyIn Tryd.prog 4 (.bool false) 1 1 := ⟨nf4⟩
instance : TyBo Tryd.prog 4 := ⟨un4⟩
instance : TyI Tryd.prog 5 false 1 := ⟨ag5, sz5⟩
instance : TyZ Tryd.prog 5 (.int .u8 0) := ⟨ze5⟩
instance : TyIn Tryd.prog 5 (.int .u8 0) 1 1 := ⟨nf5⟩
instance : TyInt Tryd.prog 5 .u8 := ⟨by kernel_rfl⟩
instance : TyI Tryd.prog 9 false 1 := ⟨ag9, sz9⟩
instance : TyZ Tryd.prog 9 (.string ⟨#[]⟩) := ⟨ze9⟩
instance : TyIn Tryd.prog 9 (.string ⟨#[]⟩) 1 16 := ⟨nf9⟩
instance : TyStr Tryd.prog 9 := ⟨by kernel_rfl⟩
instance : TyI Tryd.prog 22 false 1 := ⟨ag22, sz22⟩
instance : TyZ Tryd.prog 22 (.slice none 0 0) := ⟨ze22⟩
instance : TyIn Tryd.prog 22 (.slice none 0 0) 1 24 := ⟨nf22⟩
instance : TySl Tryd.prog 22 29 := ⟨un22⟩
instance : TyI Tryd.prog 23 false 1 := ⟨ag23, sz23⟩
instance : TyZ Tryd.prog 23 (.slice none 0 0) := ⟨ze23⟩
instance : TyIn Tryd.prog 23 (.slice none 0 0) 1 24 := ⟨nf23⟩
instance : TySl Tryd.prog 23 5 := ⟨un23⟩
instance : TyI Tryd.prog 25 false 1 := ⟨ag25, sz25⟩
instance : TyZ Tryd.prog 25 (.pointer none) := ⟨ze25⟩
instance : TyIn Tryd.prog 25 (.pointer none) 1 8 := ⟨nf25⟩
instance : TyI Tryd.prog 27 false 1 := ⟨ag27, sz27⟩
instance : TyZ Tryd.prog 27 (.slice none 0 0) := ⟨ze27⟩
instance : TyIn Tryd.prog 27 (.slice none 0 0) 1 24 := ⟨nf27⟩
instance : TySl Tryd.prog 27 31 := ⟨un27⟩
instance : TyI Tryd.prog 29 true 2 := ⟨ag29, sz29⟩
instance : TyZ Tryd.prog 29 (.agg #[.string ⟨#[]⟩, .string ⟨#[]⟩]) := ⟨ze29⟩
instance : TyIn Tryd.prog 29 (.agg #[.string ⟨#[]⟩, .string ⟨#[]⟩]) 2 32 := ⟨nf29⟩
instance : TyPl Tryd.prog 29 [(0, 1), (1, 1)] := ⟨_, Tryd.underlying29, pl29 Tryd.underlying29⟩
instance : TyFd Tryd.prog 29 0 0 1 := ⟨fd29_0⟩
instance : TyFd Tryd.prog 29 1 1 1 := ⟨fd29_1⟩
instance : TyI Tryd.prog 31 true 2 := ⟨ag31, sz31⟩
instance : TyZ Tryd.prog 31 (.agg #[.string ⟨#[]⟩, .string ⟨#[]⟩]) := ⟨ze31⟩
instance : TyIn Tryd.prog 31 (.agg #[.string ⟨#[]⟩, .string ⟨#[]⟩]) 2 32 := ⟨nf31⟩
instance : TyPl Tryd.prog 31 [(0, 1), (1, 1)] := ⟨_, Tryd.underlying31, pl31 Tryd.underlying31⟩
instance : TyFd Tryd.prog 31 0 0 1 := ⟨fd31_0⟩
instance : TyFd Tryd.prog 31 1 1 1 := ⟨fd31_1⟩
instance : TyI Tryd.prog 32 false 1 := ⟨ag32, sz32⟩
instance : TyZ Tryd.prog 32 (.int .i64 0) := ⟨ze32⟩
instance : TyIn Tryd.prog 32 (.int .i64 0) 1 8 := ⟨nf32⟩
instance : TyInt Tryd.prog 32 .i64 := ⟨by kernel_rfl⟩
instance : TyI Tryd.prog 33 false 1 := ⟨ag33, sz33⟩
instance : TyZ Tryd.prog 33 (.tuple #[.slice none 0 0, .int .i64 0]) := ⟨ze33⟩
instance : TyIn Tryd.prog 33 (.tuple #[.slice none 0 0, .int .i64 0]) 1 0 := ⟨nf33⟩
instance : TyI Tryd.prog 44 false 1 := ⟨ag44, sz44⟩
instance : TyZ Tryd.prog 44 (.int .u32 0) := ⟨ze44⟩
instance : TyIn Tryd.prog 44 (.int .u32 0) 1 4 := ⟨nf44⟩
instance : TyInt Tryd.prog 44 .u32 := ⟨by kernel_rfl⟩
instance : TyI Tryd.prog 47 false 1 := ⟨ag47, sz47⟩
instance : TyZ Tryd.prog 47 (.slice none 0 0) := ⟨ze47⟩
instance : TyIn Tryd.prog 47 (.slice none 0 0) 1 24 := ⟨nf47⟩
instance : TySl Tryd.prog 47 9 := ⟨un47⟩
instance : TyI Tryd.prog 48 false 1 := ⟨ag48, sz48⟩
instance : TyZ Tryd.prog 48 (.tuple #[.pointer none, .slice none 0 0]) := ⟨ze48⟩
instance : TyIn Tryd.prog 48 (.tuple #[.pointer none, .slice none 0 0]) 1 0 := ⟨nf48⟩
instance : TyI Tryd.prog 60 false 1 := ⟨ag60, sz60⟩
instance : TyZ Tryd.prog 60 (.tuple #[.pointer none, .int .i64 0, .int .i64 0]) := ⟨ze60⟩
instance : TyIn Tryd.prog 60 (.tuple #[.pointer none, .int .i64 0, .int .i64 0]) 1 0 := ⟨nf60⟩
instance : TyI Tryd.prog 62 false 1 := ⟨ag62, sz62⟩
instance : TyZ Tryd.prog 62 (.tuple #[.slice none 0 0, .int .i64 0]) := ⟨ze62⟩
instance : TyIn Tryd.prog 62 (.tuple #[.slice none 0 0, .int .i64 0]) 1 0 := ⟨nf62⟩
instance : TyI Tryd.prog 65 false 1 := ⟨ag65, sz65⟩
instance : TyZ Tryd.prog 65 (.int .u16 0) := ⟨ze65⟩
instance : TyIn Tryd.prog 65 (.int .u16 0) 1 2 := ⟨nf65⟩
instance : TyInt Tryd.prog 65 .u16 := ⟨by kernel_rfl⟩
instance : TyI Tryd.prog 70 true 1 := ⟨ag70, sz70⟩
instance : TyZ Tryd.prog 70 (.agg #[.slice none 0 0]) := ⟨ze70⟩
instance : TyIn Tryd.prog 70 (.agg #[.slice none 0 0]) 1 24 := ⟨nf70⟩
instance : TyPl Tryd.prog 70 [(0, 1)] := ⟨_, Tryd.underlying70, pl70 Tryd.underlying70⟩
instance : TyFd Tryd.prog 70 0 0 1 := ⟨fd70_0⟩
instance : TyI Tryd.prog 74 false 1 := ⟨ag74, sz74⟩
instance : TyZ Tryd.prog 74 (.int .u64 0) := ⟨ze74⟩
instance : TyIn Tryd.prog 74 (.int .u64 0) 1 8 := ⟨nf74⟩
instance : TyInt Tryd.prog 74 .u64 := ⟨by kernel_rfl⟩
instance : TyI Tryd.prog 76 false 1 := ⟨ag76, sz76⟩
instance : TyZ Tryd.prog 76 (.nilFunc) := ⟨ze76⟩
instance : TyIn Tryd.prog 76 (.nilFunc) 1 8 := ⟨nf76⟩
instance : TyI Tryd.prog 77 false 1 := ⟨ag77, sz77⟩
instance : TyZ Tryd.prog 77 (.map none) := ⟨ze77⟩
instance : TyIn Tryd.prog 77 (.map none) 1 8 := ⟨nf77⟩
instance : TyMap Tryd.prog 77 9 4 := ⟨by kernel_rfl⟩
instance : TyI Tryd.prog 79 false 1 := ⟨ag79, sz79⟩
instance : TyZ Tryd.prog 79 (.tuple #[.agg #[.string ⟨#[]⟩, .string ⟨#[]⟩], .int .i64 0, .bool false]) := ⟨ze79⟩
instance : TyIn Tryd.prog 79 (.tuple #[.agg #[.string ⟨#[]⟩, .string ⟨#[]⟩], .int .i64 0, .bool false]) 1 0 := ⟨nf79⟩
instance : TyI Tryd.prog 81 false 1 := ⟨ag81, sz81⟩
instance : TyZ Tryd.prog 81 (.tuple #[.agg #[.string ⟨#[]⟩, .string ⟨#[]⟩], .int .i64 0]) := ⟨ze81⟩
instance : TyIn Tryd.prog 81 (.tuple #[.agg #[.string ⟨#[]⟩, .string ⟨#[]⟩], .int .i64 0]) 1 0 := ⟨nf81⟩
instance : TyI Tryd.prog 85 false 1 := ⟨ag85, sz85⟩
instance : TyZ Tryd.prog 85 (.tuple #[.slice none 0 0, .slice none 0 0, .bool false]) := ⟨ze85⟩
instance : TyIn Tryd.prog 85 (.tuple #[.slice none 0 0, .slice none 0 0, .bool false]) 1 0 := ⟨nf85⟩
instance : TyI Tryd.prog 88 false 1 := ⟨ag88, sz88⟩
instance : TyZ Tryd.prog 88 (.nilIface) := ⟨ze88⟩
instance : TyIn Tryd.prog 88 (.nilIface) 1 16 := ⟨nf88⟩
instance : TyI Tryd.prog 89 false 1 := ⟨ag89, sz89⟩
instance : TyZ Tryd.prog 89 (.tuple #[.int .u64 0, .nilIface]) := ⟨ze89⟩
instance : TyIn Tryd.prog 89 (.tuple #[.int .u64 0, .nilIface]) 1 0 := ⟨nf89⟩
instance : TyI Tryd.prog 97 false 1 := ⟨ag97, sz97⟩
instance : TyZ Tryd.prog 97 (.int .u64 0) := ⟨ze97⟩
instance : TyIn Tryd.prog 97 (.int .u64 0) 1 8 := ⟨nf97⟩
instance : TyInt Tryd.prog 97 .u64 := ⟨by kernel_rfl⟩
instance : TyI Tryd.prog 100 false 1 := ⟨ag100, sz100⟩
instance : TyZ Tryd.prog 100 (.pointer none) := ⟨ze100⟩
instance : TyIn Tryd.prog 100 (.pointer none) 1 8 := ⟨nf100⟩
instance : TyI Tryd.prog 104 true 24 := ⟨ag104, sz104⟩
instance : TyZ Tryd.prog 104 (.agg #[.int .u8 0, .int .u8 0, .int .u8 0, .int .u8 0, .int .u8 0, .int .u8 0, .int .u8 0, .int .u8 0, .int .u8 0, .int .u8 0, .int .u8 0, .int .u8 0, .int .u8 0, .int .u8 0, .int .u8 0, .int .u8 0, .int .u8 0, .int .u8 0, .int .u8 0, .int .u8 0, .int .u8 0, .int .u8 0, .int .u8 0, .int .u8 0]) := ⟨ze104⟩
instance : TyIn Tryd.prog 104 (.agg #[.int .u8 0, .int .u8 0, .int .u8 0, .int .u8 0, .int .u8 0, .int .u8 0, .int .u8 0, .int .u8 0, .int .u8 0, .int .u8 0, .int .u8 0, .int .u8 0, .int .u8 0, .int .u8 0, .int .u8 0, .int .u8 0, .int .u8 0, .int .u8 0, .int .u8 0, .int .u8 0, .int .u8 0, .int .u8 0, .int .u8 0, .int .u8 0]) 24 24 := ⟨nf104⟩
instance : TyAr Tryd.prog 104 24 5 := ⟨un104⟩
instance : TyI Tryd.prog 107 false 1 := ⟨ag107, sz107⟩
instance : TyZ Tryd.prog 107 (.tuple #[.slice none 0 0, .string ⟨#[]⟩]) := ⟨ze107⟩
instance : TyIn Tryd.prog 107 (.tuple #[.slice none 0 0, .string ⟨#[]⟩]) 1 0 := ⟨nf107⟩
instance : TyI Tryd.prog 113 true 3 := ⟨ag113, sz113⟩
instance : TyZ Tryd.prog 113 (.agg #[.string ⟨#[]⟩, .string ⟨#[]⟩, .nilIface]) := ⟨ze113⟩
instance : TyIn Tryd.prog 113 (.agg #[.string ⟨#[]⟩, .string ⟨#[]⟩, .nilIface]) 3 48 := ⟨nf113⟩
instance : TyPl Tryd.prog 113 [(0, 1), (1, 1), (2, 1)] := ⟨_, Tryd.underlying113, pl113 Tryd.underlying113⟩
instance : TyFd Tryd.prog 113 0 0 1 := ⟨fd113_0⟩
instance : TyFd Tryd.prog 113 1 1 1 := ⟨fd113_1⟩
instance : TyFd Tryd.prog 113 2 2 1 := ⟨fd113_2⟩
theorem ent3 : Enters Tryd.prog 3 := fun args w => by go_simp
instance : EntC Tryd.prog 3 := ⟨ent3⟩
theorem ent4 : Enters Tryd.prog 4 := fun args w => by go_simp
instance : EntC Tryd.prog 4 := ⟨ent4⟩
theorem ent5 : Enters Tryd.prog 5 := fun args w => by go_simp
instance : EntC Tryd.prog 5 := ⟨ent5⟩
theorem ent6 : Enters Tryd.prog 6 := fun args w => by go_simp
instance : EntC Tryd.prog 6 := ⟨ent6⟩
theorem ent7 : Enters Tryd.prog 7 := fun args w => by go_simp
instance : EntC Tryd.prog 7 := ⟨ent7⟩
theorem ent8 : Enters Tryd.prog 8 := fun args w => by go_simp
instance : EntC Tryd.prog 8 := ⟨ent8⟩
theorem ent9 : Enters Tryd.prog 9 := fun args w => by go_simp
instance : EntC Tryd.prog 9 := ⟨ent9⟩
theorem ent10 : Enters Tryd.prog 10 := fun args w => by go_simp
instance : EntC Tryd.prog 10 := ⟨ent10⟩
theorem ent11 : Enters Tryd.prog 11 := fun args w => by go_simp
instance : EntC Tryd.prog 11 := ⟨ent11⟩
theorem ent12 : Enters Tryd.prog 12 := fun args w => by go_simp
instance : EntC Tryd.prog 12 := ⟨ent12⟩
theorem ent13 : Enters Tryd.prog 13 := fun args w => by go_simp
instance : EntC Tryd.prog 13 := ⟨ent13⟩
theorem ent14 : Enters Tryd.prog 14 := fun args w => by go_simp
instance : EntC Tryd.prog 14 := ⟨ent14⟩
theorem ent15 : Enters Tryd.prog 15 := fun args w => by go_simp
instance : EntC Tryd.prog 15 := ⟨ent15⟩
theorem ent16 : Enters Tryd.prog 16 := fun args w => by go_simp
instance : EntC Tryd.prog 16 := ⟨ent16⟩
theorem ent17 : Enters Tryd.prog 17 := fun args w => by go_simp
instance : EntC Tryd.prog 17 := ⟨ent17⟩
theorem ent18 : Enters Tryd.prog 18 := fun args w => by go_simp
instance : EntC Tryd.prog 18 := ⟨ent18⟩
theorem ent19 : Enters Tryd.prog 19 := fun args w => by go_simp
instance : EntC Tryd.prog 19 := ⟨ent19⟩
theorem ent20 : Enters Tryd.prog 20 := fun args w => by go_simp
instance : EntC Tryd.prog 20 := ⟨ent20⟩
theorem ent21 : Enters Tryd.prog 21 := fun args w => by go_simp
instance : EntC Tryd.prog 21 := ⟨ent21⟩
theorem ent22 : Enters Tryd.prog 22 := fun args w => by go_simp
instance : EntC Tryd.prog 22 := ⟨ent22⟩
theorem ent23 : Enters Tryd.prog 23 := fun args w => by go_simp
instance : EntC Tryd.prog 23 := ⟨ent23⟩
theorem ent24 : Enters Tryd.prog 24 := fun args w => by go_simp
instance : EntC Tryd.prog 24 := ⟨ent24⟩
theorem ent25 : Enters Tryd.prog 25 := fun args w => by go_simp
instance : EntC Tryd.prog 25 := ⟨ent25⟩
theorem ent26 : Enters Tryd.prog 26 := fun args w => by go_simp
instance : EntC Tryd.prog 26 := ⟨ent26⟩
theorem ent27 : Enters Tryd.prog 27 := fun args w => by go_simp
instance : EntC Tryd.prog 27 := ⟨ent27⟩
theorem ent28 : Enters Tryd.prog 28 := fun args w => by go_simp
instance : EntC Tryd.prog 28 := ⟨ent28⟩
theorem ent29 : Enters Tryd.prog 29 := fun args w => by go_simp
instance : EntC Tryd.prog 29 := ⟨ent29⟩
theorem ent30 : Enters Tryd.prog 30 := fun args w => by go_simp
instance : EntC Tryd.prog 30 := ⟨ent30⟩
theorem ent31 : Enters Tryd.prog 31 := fun args w => by go_simp
instance : EntC Tryd.prog 31 := ⟨ent31⟩
theorem ent32 : Enters Tryd.prog 32 := fun args w => by go_simp
instance : EntC Tryd.prog 32 := ⟨ent32⟩
theorem ent33 : Enters Tryd.prog 33 := fun args w => by go_simp
instance : EntC Tryd.prog 33 := ⟨ent33⟩
theorem ent34 : Enters Tryd.prog 34 := fun args w => by go_simp
instance : EntC Tryd.prog 34 := ⟨ent34⟩
theorem ent35 : Enters Tryd.prog 35 := fun args w => by go_simp
instance : EntC Tryd.prog 35 := ⟨ent35⟩
theorem ent36 : Enters Tryd.prog 36 := fun args w => by go_simp
instance : EntC Tryd.prog 36 := ⟨ent36⟩
theorem ent37 : Enters Tryd.prog 37 := fun args w => by go_simp
instance : EntC Tryd.prog 37 := ⟨ent37⟩
theorem ent38 : Enters Tryd.prog 38 := fun args w => by go_simp
instance : EntC Tryd.prog 38 := ⟨ent38⟩
theorem ent39 : Enters Tryd.prog 39 := fun args w => by go_simp
instance : EntC Tryd.prog 39 := ⟨ent39⟩
theorem ent40 : Enters Tryd.prog 40 := fun args w => by go_simp
instance : EntC Tryd.prog 40 := ⟨ent40⟩
theorem ent41 : Enters Tryd.prog 41 := fun args w => by go_simp
instance : EntC Tryd.prog 41 := ⟨ent41⟩
theorem ent42 : Enters Tryd.prog 42 := fun args w => by go_simp
instance : EntC Tryd.prog 42 := ⟨ent42⟩
theorem ent43 : Enters Tryd.prog 43 := fun args w => by go_simp
instance : EntC Tryd.prog 43 := ⟨ent43⟩
theorem ent44 : Enters Tryd.prog 44 := fun args w => by go_simp
instance : EntC Tryd.prog 44 := ⟨ent44⟩
theorem ent45 : Enters Tryd.prog 45 := fun args w => by go_simp
instance : EntC Tryd.prog 45 := ⟨ent45⟩
theorem ent46 : Enters Tryd.prog 46 := fun args w => by go_simp
instance : EntC Tryd.prog 46 := ⟨ent46⟩
theorem ent47 : Enters Tryd.prog 47 := fun args w => by go_simp
instance : EntC Tryd.prog 47 := ⟨ent47⟩
theorem ent48 : Enters Tryd.prog 48 := fun args w => by go_simp
instance : EntC Tryd.prog 48 := ⟨ent48⟩
theorem ent49 : Enters Tryd.prog 49 := fun args w => by go_simp
instance : EntC Tryd.prog 49 := ⟨ent49⟩
theorem ent50 : Enters Tryd.prog 50 := fun args w => by go_simp
instance : EntC Tryd.prog 50 := ⟨ent50⟩
theorem ent51 : Enters Tryd.prog 51 := fun args w => by go_simp
instance : EntC Tryd.prog 51 := ⟨ent51⟩
theorem ent52 : Enters Tryd.prog 52 := fun args w => by go_simp
instance : EntC Tryd.prog 52 := ⟨ent52⟩
theorem ent53 : Enters Tryd.prog 53 := fun args w => by go_simp
instance : EntC Tryd.prog 53 := ⟨ent53⟩
theorem ent54 : Enters Tryd.prog 54 := fun args w => by go_simp
instance : EntC Tryd.prog 54 := ⟨ent54⟩
theorem ent55 : Enters Tryd.prog 55 := fun args w => by go_simp
instance : EntC Tryd.prog 55 := ⟨ent55⟩
theorem ent56 : Enters Tryd.prog 56 := fun args w => by go_simp
instance : EntC Tryd.prog 56 := ⟨ent56⟩
theorem ent57 : Enters Tryd.prog 57 := fun args w => by go_simp
instance : EntC Tryd.prog 57 := ⟨ent57⟩
theorem ent58 : Enters Tryd.prog 58 := fun args w => by go_simp
instance : EntC Tryd.prog 58 := ⟨ent58⟩
theorem ent59 : Enters Tryd.prog 59 := fun args w => by go_simp
instance : EntC Tryd.prog 59 := ⟨ent59⟩
theorem ent60 : Enters Tryd.prog 60 := fun args w => by go_simp
instance : EntC Tryd.prog 60 := ⟨ent60⟩
theorem ent61 : Enters Tryd.prog 61 := fun args w => by go_simp
instance : EntC Tryd.prog 61 := ⟨ent61⟩
instance : TySS Tryd.prog 29 := ⟨by kernel_rfl, by kernel_rfl, by kernel_rfl, _, _, (by unfold Program.fieldsOf; rw [Tryd.underlying29]), by decide, by decide, rfl, rfl, by kernel_rfl, by kernel_rfl⟩
instance : TySS Tryd.prog 31 := ⟨by kernel_rfl, by kernel_rfl, by kernel_rfl, _, _, (by unfold Program.fieldsOf; rw [Tryd.underlying31]), by decide, by decide, rfl, rfl, by kernel_rfl, by kernel_rfl⟩
instance : TyPtr Tryd.prog 25 70 := ⟨by kernel_rfl⟩
instance : TyPtr Tryd.prog 100 113 := ⟨by kernel_rfl⟩
instance : TyIf Tryd.prog 88 := ⟨by kernel_rfl⟩
instance : TyCo Tryd.prog 98 := ⟨by kernel_rfl⟩
end Go.Proofs.YtjmljmappfhiaaaDoor
