/- Facts on the types of the seat, as instances. No condition. -/
import Derived.Test.YtgcmajgkcahbnaaDoorXW
import Derived.Test.YtgcmajgkcahbnaaDoorYBG
import Derived.Test.YtgcmajgkcahbnaaDoorYAW
import Derived.Test.YtgcmajgkcahbnaaDoorProg
import Derived.Test.YtgcmajgkcahbnaaDoorCheckedPd
import Derived.Test.YtgcmajgkcahbnaaDoorCheckedPe

set_option linter.unusedSimpArgs false
set_option linter.unusedVariables false
namespace Go.Proofs.YtgcmajgkcahbnaaDoor
open Go Go.RowKit Go.PP Go.Dm
theorem sz0 : sizeOfT Tryd.prog 0 = some 1 := by kernel_rfl
theorem ag0 : aggOf Tryd.prog 0 = some false := by kernel_rfl
theorem ze0 : zeroT Tryd.prog 0 = some (.tuple #[]) := by kernel_rfl
theorem nf0 : (Tryd.prog.info? 0).map (fun i => (i.zero, i.size, i.bytes)) = some (some (.tuple #[]), 1, 0) := by kernel_rfl
theorem sz3 : sizeOfT Tryd.prog 3 = some 1 := by kernel_rfl
theorem ag3 : aggOf Tryd.prog 3 = some false := by kernel_rfl
theorem ze3 : zeroT Tryd.prog 3 = some (.int .i64 0) := by kernel_rfl
theorem nf3 : (Tryd.prog.info? 3).map (fun i => (i.zero, i.size, i.bytes)) = some (some (.int .i64 0), 1, 8) := by kernel_rfl
theorem sz4 : sizeOfT Tryd.prog 4 = some 1 := by kernel_rfl
theorem ag4 : aggOf Tryd.prog 4 = some false := by kernel_rfl
theorem ze4 : zeroT Tryd.prog 4 = some (.bool false) := by kernel_rfl
theorem nf4 : (Tryd.prog.info? 4).map (fun i => (i.zero, i.size, i.bytes)) = some (some (.bool false), 1, 1) := by kernel_rfl
theorem un4 : Tryd.prog.underlying 4 = some .bool := by kernel_rfl
theorem sz5 : sizeOfT Tryd.prog 5 = some 1 := by kernel_rfl
theorem ag5 : aggOf Tryd.prog 5 = some false := by kernel_rfl
theorem ze5 : zeroT Tryd.prog 5 = some (.int .u8 0) := by kernel_rfl
theorem nf5 : (Tryd.prog.info? 5).map (fun i => (i.zero, i.size, i.bytes)) = some (some (.int .u8 0), 1, 1) := by kernel_rfl
theorem sz9 : sizeOfT Tryd.prog 9 = some 1 := by kernel_rfl
theorem ag9 : aggOf Tryd.prog 9 = some false := by kernel_rfl
theorem ze9 : zeroT Tryd.prog 9 = some (.string ⟨#[]⟩) := by kernel_rfl
theorem nf9 : (Tryd.prog.info? 9).map (fun i => (i.zero, i.size, i.bytes)) = some (some (.string ⟨#[]⟩), 1, 16) := by kernel_rfl
theorem sz20 : sizeOfT Tryd.prog 20 = some 1 := by kernel_rfl
theorem ag20 : aggOf Tryd.prog 20 = some false := by kernel_rfl
theorem ze20 : zeroT Tryd.prog 20 = some (.nilIface) := by kernel_rfl
theorem nf20 : (Tryd.prog.info? 20).map (fun i => (i.zero, i.size, i.bytes)) = some (some (.nilIface), 1, 16) := by kernel_rfl
theorem sz22 : sizeOfT Tryd.prog 22 = some 1 := by kernel_rfl
theorem ag22 : aggOf Tryd.prog 22 = some false := by kernel_rfl
theorem ze22 : zeroT Tryd.prog 22 = some (.int .u64 0) := by kernel_rfl
theorem nf22 : (Tryd.prog.info? 22).map (fun i => (i.zero, i.size, i.bytes)) = some (some (.int .u64 0), 1, 8) := by kernel_rfl
theorem sz24 : sizeOfT Tryd.prog 24 = some 16 := by kernel_rfl
theorem ag24 : aggOf Tryd.prog 24 = some true := by kernel_rfl
theorem ze24 : zeroT Tryd.prog 24 = some (.agg #[.int .u64 0, .int .u64 0, .int .u64 0, .int .u64 0, .int .u64 0, .int .u64 0, .int .u64 0, .int .u64 0, .int .u64 0, .int .u64 0, .int .u64 0, .int .u64 0, .int .u64 0, .int .u64 0, .int .u64 0, .int .u64 0]) := by kernel_rfl
theorem nf24 : (Tryd.prog.info? 24).map (fun i => (i.zero, i.size, i.bytes)) = some (some (.agg #[.int .u64 0, .int .u64 0, .int .u64 0, .int .u64 0, .int .u64 0, .int .u64 0, .int .u64 0, .int .u64 0, .int .u64 0, .int .u64 0, .int .u64 0, .int .u64 0, .int .u64 0, .int .u64 0, .int .u64 0, .int .u64 0]), 16, 128) := by kernel_rfl
theorem un24 : Tryd.prog.underlying 24 = some (.array 16 22) := by kernel_rfl
theorem sz25 : sizeOfT Tryd.prog 25 = some 1 := by kernel_rfl
theorem ag25 : aggOf Tryd.prog 25 = some false := by kernel_rfl
theorem ze25 : zeroT Tryd.prog 25 = some (.tuple #[.agg #[.int .u64 0, .int .u64 0, .int .u64 0, .int .u64 0, .int .u64 0, .int .u64 0, .int .u64 0, .int .u64 0, .int .u64 0, .int .u64 0, .int .u64 0, .int .u64 0, .int .u64 0, .int .u64 0, .int .u64 0, .int .u64 0], .bool false]) := by kernel_rfl
theorem nf25 : (Tryd.prog.info? 25).map (fun i => (i.zero, i.size, i.bytes)) = some (some (.tuple #[.agg #[.int .u64 0, .int .u64 0, .int .u64 0, .int .u64 0, .int .u64 0, .int .u64 0, .int .u64 0, .int .u64 0, .int .u64 0, .int .u64 0, .int .u64 0, .int .u64 0, .int .u64 0, .int .u64 0, .int .u64 0, .int .u64 0], .bool false]), 1, 0) := by kernel_rfl
theorem sz27 : sizeOfT Tryd.prog 27 = some 1 := by kernel_rfl
theorem ag27 : aggOf Tryd.prog 27 = some false := by kernel_rfl
theorem ze27 : zeroT Tryd.prog 27 = some (.slice none 0 0) := by kernel_rfl
theorem nf27 : (Tryd.prog.info? 27).map (fun i => (i.zero, i.size, i.bytes)) = some (some (.slice none 0 0), 1, 24) := by kernel_rfl
theorem un27 : Tryd.prog.underlying 27 = some (.slice 3) := by kernel_rfl
theorem sz28 : sizeOfT Tryd.prog 28 = some 1 := by kernel_rfl
theorem ag28 : aggOf Tryd.prog 28 = some false := by kernel_rfl
theorem ze28 : zeroT Tryd.prog 28 = some (.slice none 0 0) := by kernel_rfl
theorem nf28 : (Tryd.prog.info? 28).map (fun i => (i.zero, i.size, i.bytes)) = some (some (.slice none 0 0), 1, 24) := by kernel_rfl
theorem un28 : Tryd.prog.underlying 28 = some (.slice 3) := by kernel_rfl
theorem sz29 : sizeOfT Tryd.prog 29 = some 1 := by kernel_rfl
theorem ag29 : aggOf Tryd.prog 29 = some false := by kernel_rfl
theorem ze29 : zeroT Tryd.prog 29 = some (.tuple #[.slice none 0 0, .bool false]) := by kernel_rfl
theorem nf29 : (Tryd.prog.info? 29).map (fun i => (i.zero, i.size, i.bytes)) = some (some (.tuple #[.slice none 0 0, .bool false]), 1, 0) := by kernel_rfl
theorem sz37 : sizeOfT Tryd.prog 37 = some 1 := by kernel_rfl
theorem ag37 : aggOf Tryd.prog 37 = some false := by kernel_rfl
theorem ze37 : zeroT Tryd.prog 37 = some (.nilFunc) := by kernel_rfl
theorem nf37 : (Tryd.prog.info? 37).map (fun i => (i.zero, i.size, i.bytes)) = some (some (.nilFunc), 1, 8) := by kernel_rfl
theorem sz38 : sizeOfT Tryd.prog 38 = some 1 := by kernel_rfl
theorem ag38 : aggOf Tryd.prog 38 = some false := by kernel_rfl
theorem ze38 : zeroT Tryd.prog 38 = some (.nilFunc) := by kernel_rfl
theorem nf38 : (Tryd.prog.info? 38).map (fun i => (i.zero, i.size, i.bytes)) = some (some (.nilFunc), 1, 8) := by kernel_rfl
theorem sz41 : sizeOfT Tryd.prog 41 = some 1 := by kernel_rfl
theorem ag41 : aggOf Tryd.prog 41 = some false := by kernel_rfl
theorem ze41 : zeroT Tryd.prog 41 = some (.slice none 0 0) := by kernel_rfl
theorem nf41 : (Tryd.prog.info? 41).map (fun i => (i.zero, i.size, i.bytes)) = some (some (.slice none 0 0), 1, 24) := by kernel_rfl
theorem un41 : Tryd.prog.underlying 41 = some (.slice 42) := by kernel_rfl
theorem sz42 : sizeOfT Tryd.prog 42 = some 1 := by kernel_rfl
theorem ag42 : aggOf Tryd.prog 42 = some false := by kernel_rfl
theorem ze42 : zeroT Tryd.prog 42 = some (.int .u16 0) := by kernel_rfl
theorem nf42 : (Tryd.prog.info? 42).map (fun i => (i.zero, i.size, i.bytes)) = some (some (.int .u16 0), 1, 2) := by kernel_rfl
theorem sz44 : sizeOfT Tryd.prog 44 = some 1 := by kernel_rfl
theorem ag44 : aggOf Tryd.prog 44 = some false := by kernel_rfl
theorem ze44 : zeroT Tryd.prog 44 = some (.slice none 0 0) := by kernel_rfl
theorem nf44 : (Tryd.prog.info? 44).map (fun i => (i.zero, i.size, i.bytes)) = some (some (.slice none 0 0), 1, 24) := by kernel_rfl
theorem un44 : Tryd.prog.underlying 44 = some (.slice 28) := by kernel_rfl
theorem sz46 : sizeOfT Tryd.prog 46 = some 1 := by kernel_rfl
theorem ag46 : aggOf Tryd.prog 46 = some false := by kernel_rfl
theorem ze46 : zeroT Tryd.prog 46 = some (.nilFunc) := by kernel_rfl
theorem nf46 : (Tryd.prog.info? 46).map (fun i => (i.zero, i.size, i.bytes)) = some (some (.nilFunc), 1, 8) := by kernel_rfl
theorem sz47 : sizeOfT Tryd.prog 47 = some 1 := by kernel_rfl
theorem ag47 : aggOf Tryd.prog 47 = some false := by kernel_rfl
theorem ze47 : zeroT Tryd.prog 47 = some (.nilFunc) := by kernel_rfl
theorem nf47 : (Tryd.prog.info? 47).map (fun i => (i.zero, i.size, i.bytes)) = some (some (.nilFunc), 1, 8) := by kernel_rfl
theorem sz53 : sizeOfT Tryd.prog 53 = some 1 := by kernel_rfl
theorem ag53 : aggOf Tryd.prog 53 = some false := by kernel_rfl
theorem ze53 : zeroT Tryd.prog 53 = some (.nilFunc) := by kernel_rfl
theorem nf53 : (Tryd.prog.info? 53).map (fun i => (i.zero, i.size, i.bytes)) = some (some (.nilFunc), 1, 8) := by kernel_rfl
theorem sz57 : sizeOfT Tryd.prog 57 = some 1 := by kernel_rfl
theorem ag57 : aggOf Tryd.prog 57 = some false := by kernel_rfl
theorem ze57 : zeroT Tryd.prog 57 = some (.slice none 0 0) := by kernel_rfl
theorem nf57 : (Tryd.prog.info? 57).map (fun i => (i.zero, i.size, i.bytes)) = some (some (.slice none 0 0), 1, 24) := by kernel_rfl
theorem un57 : Tryd.prog.underlying 57 = some (.slice 24) := by kernel_rfl
theorem sz64 : sizeOfT Tryd.prog 64 = some 1 := by kernel_rfl
theorem ag64 : aggOf Tryd.prog 64 = some false := by kernel_rfl
theorem ze64 : zeroT Tryd.prog 64 = some (.map none) := by kernel_rfl
theorem nf64 : (Tryd.prog.info? 64).map (fun i => (i.zero, i.size, i.bytes)) = some (some (.map none), 1, 8) := by kernel_rfl
theorem sz67 : sizeOfT Tryd.prog 67 = some 1 := by kernel_rfl
theorem ag67 : aggOf Tryd.prog 67 = some false := by kernel_rfl
theorem ze67 : zeroT Tryd.prog 67 = some (.tuple #[.int .i64 0, .bool false]) := by kernel_rfl
theorem nf67 : (Tryd.prog.info? 67).map (fun i => (i.zero, i.size, i.bytes)) = some (some (.tuple #[.int .i64 0, .bool false]), 1, 0) := by kernel_rfl
theorem sz69 : sizeOfT Tryd.prog 69 = some 1 := by kernel_rfl
theorem ag69 : aggOf Tryd.prog 69 = some false := by kernel_rfl
theorem ze69 : zeroT Tryd.prog 69 = some (.nilFunc) := by kernel_rfl
theorem nf69 : (Tryd.prog.info? 69).map (fun i => (i.zero, i.size, i.bytes)) = some (some (.nilFunc), 1, 8) := by kernel_rfl
theorem sz73 : sizeOfT Tryd.prog 73 = some 1 := by kernel_rfl
theorem ag73 : aggOf Tryd.prog 73 = some false := by kernel_rfl
theorem ze73 : zeroT Tryd.prog 73 = some (.int .i64 0) := by kernel_rfl
theorem nf73 : (Tryd.prog.info? 73).map (fun i => (i.zero, i.size, i.bytes)) = some (some (.int .i64 0), 1, 8) := by kernel_rfl
theorem sz74 : sizeOfT Tryd.prog 74 = some 1 := by kernel_rfl
theorem ag74 : aggOf Tryd.prog 74 = some false := by kernel_rfl
theorem ze74 : zeroT Tryd.prog 74 = some (.tuple #[.agg #[.int .u64 0, .int .u64 0, .int .u64 0, .int .u64 0, .int .u64 0, .int .u64 0, .int .u64 0, .int .u64 0, .int .u64 0, .int .u64 0, .int .u64 0, .int .u64 0, .int .u64 0, .int .u64 0, .int .u64 0, .int .u64 0], .int .i64 0]) := by kernel_rfl
theorem nf74 : (Tryd.prog.info? 74).map (fun i => (i.zero, i.size, i.bytes)) = some (some (.tuple #[.agg #[.int .u64 0, .int .u64 0, .int .u64 0, .int .u64 0, .int .u64 0, .int .u64 0, .int .u64 0, .int .u64 0, .int .u64 0, .int .u64 0, .int .u64 0, .int .u64 0, .int .u64 0, .int .u64 0, .int .u64 0, .int .u64 0], .int .i64 0]), 1, 0) := by kernel_rfl
theorem sz77 : sizeOfT Tryd.prog 77 = some 1 := by kernel_rfl
theorem ag77 : aggOf Tryd.prog 77 = some false := by kernel_rfl
theorem ze77 : zeroT Tryd.prog 77 = some (.tuple #[.slice none 0 0, .int .i64 0]) := by kernel_rfl
theorem nf77 : (Tryd.prog.info? 77).map (fun i => (i.zero, i.size, i.bytes)) = some (some (.tuple #[.slice none 0 0, .int .i64 0]), 1, 0) := by kernel_rfl
theorem sz84 : sizeOfT Tryd.prog 84 = some 1 := by kernel_rfl
theorem ag84 : aggOf Tryd.prog 84 = some false := by kernel_rfl
theorem ze84 : zeroT Tryd.prog 84 = some (.nilFunc) := by kernel_rfl
theorem nf84 : (Tryd.prog.info? 84).map (fun i => (i.zero, i.size, i.bytes)) = some (some (.nilFunc), 1, 8) := by kernel_rfl
theorem sz86 : sizeOfT Tryd.prog 86 = some 1 := by kernel_rfl
theorem ag86 : aggOf Tryd.prog 86 = some false := by kernel_rfl
theorem ze86 : zeroT Tryd.prog 86 = some (.nilFunc) := by kernel_rfl
theorem nf86 : (Tryd.prog.info? 86).map (fun i => (i.zero, i.size, i.bytes)) = some (some (.nilFunc), 1, 8) := by kernel_rfl
theorem sz87 : sizeOfT Tryd.prog 87 = some 1 := by kernel_rfl
theorem ag87 : aggOf Tryd.prog 87 = some false := by kernel_rfl
theorem ze87 : zeroT Tryd.prog 87 = some (.nilFunc) := by kernel_rfl
theorem nf87 : (Tryd.prog.info? 87).map (fun i => (i.zero, i.size, i.bytes)) = some (some (.nilFunc), 1, 8) := by kernel_rfl
theorem sz89 : sizeOfT Tryd.prog 89 = some 1 := by kernel_rfl
theorem ag89 : aggOf Tryd.prog 89 = some false := by kernel_rfl
theorem ze89 : zeroT Tryd.prog 89 = some (.slice none 0 0) := by kernel_rfl
theorem nf89 : (Tryd.prog.info? 89).map (fun i => (i.zero, i.size, i.bytes)) = some (some (.slice none 0 0), 1, 24) := by kernel_rfl
theorem un89 : Tryd.prog.underlying 89 = some (.slice 22) := by kernel_rfl
theorem sz90 : sizeOfT Tryd.prog 90 = some 1 := by kernel_rfl
theorem ag90 : aggOf Tryd.prog 90 = some false := by kernel_rfl
theorem ze90 : zeroT Tryd.prog 90 = some (.slice none 0 0) := by kernel_rfl
theorem nf90 : (Tryd.prog.info? 90).map (fun i => (i.zero, i.size, i.bytes)) = some (some (.slice none 0 0), 1, 24) := by kernel_rfl
theorem un90 : Tryd.prog.underlying 90 = some (.slice 9) := by kernel_rfl
theorem sz93 : sizeOfT Tryd.prog 93 = some 1 := by kernel_rfl
theorem ag93 : aggOf Tryd.prog 93 = some false := by kernel_rfl
theorem ze93 : zeroT Tryd.prog 93 = some (.tuple #[.string ⟨#[]⟩, .bool false]) := by kernel_rfl
theorem nf93 : (Tryd.prog.info? 93).map (fun i => (i.zero, i.size, i.bytes)) = some (some (.tuple #[.string ⟨#[]⟩, .bool false]), 1, 0) := by kernel_rfl
theorem sz95 : sizeOfT Tryd.prog 95 = some 1 := by kernel_rfl
theorem ag95 : aggOf Tryd.prog 95 = some false := by kernel_rfl
theorem ze95 : zeroT Tryd.prog 95 = some (.tuple #[.int .i64 0, .string ⟨#[]⟩, .int .i64 0]) := by kernel_rfl
theorem nf95 : (Tryd.prog.info? 95).map (fun i => (i.zero, i.size, i.bytes)) = some (some (.tuple #[.int .i64 0, .string ⟨#[]⟩, .int .i64 0]), 1, 0) := by kernel_rfl
theorem sz100 : sizeOfT Tryd.prog 100 = some 64 := by kernel_rfl
theorem ag100 : aggOf Tryd.prog 100 = some true := by kernel_rfl
theorem ze100 : zeroT Tryd.prog 100 = some (.agg #[.int .u8 0, .int .u8 0, .int .u8 0, .int .u8 0, .int .u8 0, .int .u8 0, .int .u8 0, .int .u8 0, .int .u8 0, .int .u8 0, .int .u8 0, .int .u8 0, .int .u8 0, .int .u8 0, .int .u8 0, .int .u8 0, .int .u8 0, .int .u8 0, .int .u8 0, .int .u8 0, .int .u8 0, .int .u8 0, .int .u8 0, .int .u8 0, .int .u8 0, .int .u8 0, .int .u8 0, .int .u8 0, .int .u8 0, .int .u8 0, .int .u8 0, .int .u8 0, .int .u8 0, .int .u8 0, .int .u8 0, .int .u8 0, .int .u8 0, .int .u8 0, .int .u8 0, .int .u8 0, .int .u8 0, .int .u8 0, .int .u8 0, .int .u8 0, .int .u8 0, .int .u8 0, .int .u8 0, .int .u8 0, .int .u8 0, .int .u8 0, .int .u8 0, .int .u8 0, .int .u8 0, .int .u8 0, .int .u8 0, .int .u8 0, .int .u8 0, .int .u8 0, .int .u8 0, .int .u8 0, .int .u8 0, .int .u8 0, .int .u8 0, .int .u8 0]) := by kernel_rfl
theorem nf100 : (Tryd.prog.info? 100).map (fun i => (i.zero, i.size, i.bytes)) = some (some (.agg #[.int .u8 0, .int .u8 0, .int .u8 0, .int .u8 0, .int .u8 0, .int .u8 0, .int .u8 0, .int .u8 0, .int .u8 0, .int .u8 0, .int .u8 0, .int .u8 0, .int .u8 0, .int .u8 0, .int .u8 0, .int .u8 0, .int .u8 0, .int .u8 0, .int .u8 0, .int .u8 0, .int .u8 0, .int .u8 0, .int .u8 0, .int .u8 0, .int .u8 0, .int .u8 0, .int .u8 0, .int .u8 0, .int .u8 0, .int .u8 0, .int .u8 0, .int .u8 0, .int .u8 0, .int .u8 0, .int .u8 0, .int .u8 0, .int .u8 0, .int .u8 0, .int .u8 0, .int .u8 0, .int .u8 0, .int .u8 0, .int .u8 0, .int .u8 0, .int .u8 0, .int .u8 0, .int .u8 0, .int .u8 0, .int .u8 0, .int .u8 0, .int .u8 0, .int .u8 0, .int .u8 0, .int .u8 0, .int .u8 0, .int .u8 0, .int .u8 0, .int .u8 0, .int .u8 0, .int .u8 0, .int .u8 0, .int .u8 0, .int .u8 0, .int .u8 0]), 64, 64) := by kernel_rfl
theorem un100 : Tryd.prog.underlying 100 = some (.array 64 5) := by kernel_rfl
theorem sz101 : sizeOfT Tryd.prog 101 = some 1 := by kernel_rfl
theorem ag101 : aggOf Tryd.prog 101 = some false := by kernel_rfl
theorem ze101 : zeroT Tryd.prog 101 = some (.nilFunc) := by kernel_rfl
theorem nf101 : (Tryd.prog.info? 101).map (fun i => (i.zero, i.size, i.bytes)) = some (some (.nilFunc), 1, 8) := by kernel_rfl
theorem sz102 : sizeOfT Tryd.prog 102 = some 1 := by kernel_rfl
theorem ag102 : aggOf Tryd.prog 102 = some false := by kernel_rfl
theorem ze102 : zeroT Tryd.prog 102 = some (.pointer none) := by kernel_rfl
theorem nf102 : (Tryd.prog.info? 102).map (fun i => (i.zero, i.size, i.bytes)) = some (some (.pointer none), 1, 8) := by kernel_rfl
theorem sz103 : sizeOfT Tryd.prog 103 = some 1 := by kernel_rfl
theorem ag103 : aggOf Tryd.prog 103 = some false := by kernel_rfl
theorem ze103 : zeroT Tryd.prog 103 = some (.slice none 0 0) := by kernel_rfl
theorem nf103 : (Tryd.prog.info? 103).map (fun i => (i.zero, i.size, i.bytes)) = some (some (.slice none 0 0), 1, 24) := by kernel_rfl
theorem un103 : Tryd.prog.underlying 103 = some (.slice 5) := by kernel_rfl
theorem sz105 : sizeOfT Tryd.prog 105 = some 2 := by kernel_rfl
theorem ag105 : aggOf Tryd.prog 105 = some true := by kernel_rfl
theorem ze105 : zeroT Tryd.prog 105 = some (.agg #[.pointer none, .slice none 0 0]) := by kernel_rfl
theorem nf105 : (Tryd.prog.info? 105).map (fun i => (i.zero, i.size, i.bytes)) = some (some (.agg #[.pointer none, .slice none 0 0]), 2, 32) := by kernel_rfl
theorem pl105 {fs : List Field} (h : Tryd.prog.underlying 105 = some (.struct fs.toArray)) : placesD Tryd.prog fs = some [(0, 1), (1, 1)] := by
  rw [Tryd.underlying105] at h
  simp only [Option.some.injEq, TypeDesc.struct.injEq] at h
  have h2 := congrArg Array.toList h
  simp only [List.toList_toArray] at h2
  subst h2
  simp only [placesD, sz102, sz103]
theorem fd105_0 : FieldAt Tryd.prog 105 0 0 1 := ⟨_, _, Tryd.underlying105, rfl, rfl, by kernel_rfl, by kernel_rfl⟩
theorem fd105_1 : FieldAt Tryd.prog 105 1 1 1 := ⟨_, _, Tryd.underlying105, rfl, rfl, by kernel_rfl, by kernel_rfl⟩
theorem sz108 : sizeOfT Tryd.prog 108 = some 1 := by kernel_rfl
theorem ag108 : aggOf Tryd.prog 108 = some false := by kernel_rfl
theorem ze108 : zeroT Tryd.prog 108 = some (.nilIface) := by kernel_rfl
theorem nf108 : (Tryd.prog.info? 108).map (fun i => (i.zero, i.size, i.bytes)) = some (some (.nilIface), 1, 16) := by kernel_rfl
theorem sz109 : sizeOfT Tryd.prog 109 = some 1 := by kernel_rfl
theorem ag109 : aggOf Tryd.prog 109 = some false := by kernel_rfl
theorem ze109 : zeroT Tryd.prog 109 = some (.tuple #[.int .i64 0, .nilIface]) := by kernel_rfl
theorem nf109 : (Tryd.prog.info? 109).map (fun i => (i.zero, i.size, i.bytes)) = some (some (.tuple #[.int .i64 0, .nilIface]), 1, 0) := by kernel_rfl
instance : TyI Tryd.prog 0 false 1 := ⟨ag0, sz0⟩
instance : TyZ Tryd.prog 0 (.tuple #[]) := ⟨ze0⟩
instance : TyIn Tryd.prog 0 (.tuple #[]) 1 0 := ⟨nf0⟩
instance : TyI Tryd.prog 3 false 1 := ⟨ag3, sz3⟩
instance : TyZ Tryd.prog 3 (.int .i64 0) := ⟨ze3⟩
instance : TyIn Tryd.prog 3 (.int .i64 0) 1 8 := ⟨nf3⟩
instance : TyInt Tryd.prog 3 .i64 := ⟨by kernel_rfl⟩
instance : TyI Tryd.prog 4 false 1 := ⟨ag4, sz4⟩
instance : TyZ Tryd.prog 4 (.bool false) := ⟨ze4⟩
instance : TyIn Tryd.prog 4 (.bool false) 1 1 := ⟨nf4⟩
instance : TyBo Tryd.prog 4 := ⟨un4⟩
instance : TyI Tryd.prog 5 false 1 := ⟨ag5, sz5⟩
instance : TyZ Tryd.prog 5 (.int .u8 0) := ⟨ze5⟩
instance : TyIn Tryd.prog 5 (.int .u8 0) 1 1 := ⟨nf5⟩
instance : TyInt Tryd.prog 5 .u8 := ⟨by kernel_rfl⟩
instance : TyI Tryd.prog 9 false 1 := ⟨ag9, sz9⟩
instance : TyZ Tryd.prog 9 (.string ⟨#[]⟩) := ⟨ze9⟩
instance : TyIn Tryd.prog 9 (.string ⟨#[]⟩) 1 16 := ⟨nf9⟩
instance : TyStr Tryd.prog 9 := ⟨by kernel_rfl⟩
instance : TyI Tryd.prog 20 false 1 := ⟨ag20, sz20⟩
instance : TyZ Tryd.prog 20 (.nilIface) := ⟨ze20⟩
instance : TyIn Tryd.prog 20 (.nilIface) 1 16 := ⟨nf20⟩
instance : TyI Tryd.prog 22 false 1 := ⟨ag22, sz22⟩
instance : TyZ Tryd.prog 22 (.int .u64 0) := ⟨ze22⟩
instance : TyIn Tryd.prog 22 (.int .u64 0) 1 8 := ⟨nf22⟩
instance : TyInt Tryd.prog 22 .u64 := ⟨by kernel_rfl⟩
instance : TyI Tryd.prog 24 true 16 := ⟨ag24, sz24⟩
instance : TyZ Tryd.prog 24 (.agg #[.int .u64 0, .int .u64 0, .int .u64 0, .int .u64 0, .int .u64 0, .int .u64 0, .int .u64 0, .int .u64 0, .int .u64 0, .int .u64 0, .int .u64 0, .int .u64 0, .int .u64 0, .int .u64 0, .int .u64 0, .int .u64 0]) := ⟨ze24⟩
instance : TyIn Tryd.prog 24 (.agg #[.int .u64 0, .int .u64 0, .int .u64 0, .int .u64 0, .int .u64 0, .int .u64 0, .int .u64 0, .int .u64 0, .int .u64 0, .int .u64 0, .int .u64 0, .int .u64 0, .int .u64 0, .int .u64 0, .int .u64 0, .int .u64 0]) 16 128 := ⟨nf24⟩
instance : TyAr Tryd.prog 24 16 22 := ⟨un24⟩
instance : TyI Tryd.prog 25 false 1 := ⟨ag25, sz25⟩
instance : TyZ Tryd.prog 25 (.tuple #[.agg #[.int .u64 0, .int .u64 0, .int .u64 0, .int .u64 0, .int .u64 0, .int .u64 0, .int .u64 0, .int .u64 0, .int .u64 0, .int .u64 0, .int .u64 0, .int .u64 0, .int .u64 0, .int .u64 0, .int .u64 0, .int .u64 0], .bool false]) := ⟨ze25⟩
instance : TyIn Tryd.prog 25 (.tuple #[.agg #[.int .u64 0, .int .u64 0, .int .u64 0, .int .u64 0, .int .u64 0, .int .u64 0, .int .u64 0, .int .u64 0, .int .u64 0, .int .u64 0, .int .u64 0, .int .u64 0, .int .u64 0, .int .u64 0, .int .u64 0, .int .u64 0], .bool false]) 1 0 := ⟨nf25⟩
instance : TyI Tryd.prog 27 false 1 := ⟨ag27, sz27⟩
instance : TyZ Tryd.prog 27 (.slice none 0 0) := ⟨ze27⟩
instance : TyIn Tryd.prog 27 (.slice none 0 0) 1 24 := ⟨nf27⟩
instance : TySl Tryd.prog 27 3 := ⟨un27⟩
instance : TyI Tryd.prog 28 false 1 := ⟨ag28, sz28⟩
instance : TyZ Tryd.prog 28 (.slice none 0 0) := ⟨ze28⟩
instance : TyIn Tryd.prog 28 (.slice none 0 0) 1 24 := ⟨nf28⟩
instance : TySl Tryd.prog 28 3 := ⟨un28⟩
instance : TyI Tryd.prog 29 false 1 := ⟨ag29, sz29⟩
instance : TyZ Tryd.prog 29 (.tuple #[.slice none 0 0, .bool false]) := ⟨ze29⟩
instance : TyIn Tryd.prog 29 (.tuple #[.slice none 0 0, .bool false]) 1 0 := ⟨nf29⟩
instance : TyI Tryd.prog 37 false 1 := ⟨ag37, sz37⟩
instance : TyZ Tryd.prog 37 (.nilFunc) := ⟨ze37⟩
instance : TyIn Tryd.prog 37 (.nilFunc) 1 8 := ⟨nf37⟩
instance : TyI Tryd.prog 38 false 1 := ⟨ag38, sz38⟩
instance : TyZ Tryd.prog 38 (.nilFunc) := ⟨ze38⟩
instance : TyIn Tryd.prog 38 (.nilFunc) 1 8 := ⟨nf38⟩
instance : TyI Tryd.prog 41 false 1 := ⟨ag41, sz41⟩
instance : TyZ Tryd.prog 41 (.slice none 0 0) := ⟨ze41⟩
instance : TyIn Tryd.prog 41 (.slice none 0 0) 1 24 := ⟨nf41⟩
instance : TySl Tryd.prog 41 42 := ⟨un41⟩
instance : TyI Tryd.prog 42 false 1 := ⟨ag42, sz42⟩
instance : TyZ Tryd.prog 42 (.int .u16 0) := ⟨ze42⟩
instance : TyIn Tryd.prog 42 (.int .u16 0) 1 2 := ⟨nf42⟩
instance : TyInt Tryd.prog 42 .u16 := ⟨by kernel_rfl⟩
instance : TyI Tryd.prog 44 false 1 := ⟨ag44, sz44⟩
instance : TyZ Tryd.prog 44 (.slice none 0 0) := ⟨ze44⟩
instance : TyIn Tryd.prog 44 (.slice none 0 0) 1 24 := ⟨nf44⟩
instance : TySl Tryd.prog 44 28 := ⟨un44⟩
instance : TyI Tryd.prog 46 false 1 := ⟨ag46, sz46⟩
instance : TyZ Tryd.prog 46 (.nilFunc) := ⟨ze46⟩
instance : TyIn Tryd.prog 46 (.nilFunc) 1 8 := ⟨nf46⟩
instance : TyI Tryd.prog 47 false 1 := ⟨ag47, sz47⟩
instance : TyZ Tryd.prog 47 (.nilFunc) := ⟨ze47⟩
instance : TyIn Tryd.prog 47 (.nilFunc) 1 8 := ⟨nf47⟩
instance : TyI Tryd.prog 53 false 1 := ⟨ag53, sz53⟩
instance : TyZ Tryd.prog 53 (.nilFunc) := ⟨ze53⟩
instance : TyIn Tryd.prog 53 (.nilFunc) 1 8 := ⟨nf53⟩
instance : TyI Tryd.prog 57 false 1 := ⟨ag57, sz57⟩
instance : TyZ Tryd.prog 57 (.slice none 0 0) := ⟨ze57⟩
instance : TyIn Tryd.prog 57 (.slice none 0 0) 1 24 := ⟨nf57⟩
instance : TySl Tryd.prog 57 24 := ⟨un57⟩
instance : TyI Tryd.prog 64 false 1 := ⟨ag64, sz64⟩
instance : TyZ Tryd.prog 64 (.map none) := ⟨ze64⟩
instance : TyIn Tryd.prog 64 (.map none) 1 8 := ⟨nf64⟩
instance : TyMap Tryd.prog 64 24 3 := ⟨by kernel_rfl⟩
instance : TyI Tryd.prog 67 false 1 := ⟨ag67, sz67⟩
instance : TyZ Tryd.prog 67 (.tuple #[.int .i64 0, .bool false]) := ⟨ze67⟩
instance : TyIn Tryd.prog 67 (.tuple #[.int .i64 0, .bool false]) 1 0 := ⟨nf67⟩
instance : TyI Tryd.prog 69 false 1 := ⟨ag69, sz69⟩
instance : TyZ Tryd.prog 69 (.nilFunc) := ⟨ze69⟩
instance : TyIn Tryd.prog 69 (.nilFunc) 1 8 := ⟨nf69⟩
instance : TyI Tryd.prog 73 false 1 := ⟨ag73, sz73⟩
instance : TyZ Tryd.prog 73 (.int .i64 0) := ⟨ze73⟩
instance : TyIn Tryd.prog 73 (.int .i64 0) 1 8 := ⟨nf73⟩
instance : TyInt Tryd.prog 73 .i64 := ⟨by kernel_rfl⟩
instance : TyI Tryd.prog 74 false 1 := ⟨ag74, sz74⟩
instance : TyZ Tryd.prog 74 (.tuple #[.agg #[.int .u64 0, .int .u64 0, .int .u64 0, .int .u64 0, .int .u64 0, .int .u64 0, .int .u64 0, .int .u64 0, .int .u64 0, .int .u64 0, .int .u64 0, .int .u64 0, .int .u64 0, .int .u64 0, .int .u64 0, .int .u64 0], .int .i64 0]) := ⟨ze74⟩
instance : TyIn Tryd.prog 74 (.tuple #[.agg #[.int .u64 0, .int .u64 0, .int .u64 0, .int .u64 0, .int .u64 0, .int .u64 0, .int .u64 0, .int .u64 0, .int .u64 0, .int .u64 0, .int .u64 0, .int .u64 0, .int .u64 0, .int .u64 0, .int .u64 0, .int .u64 0], .int .i64 0]) 1 0 := ⟨nf74⟩
instance : TyI Tryd.prog 77 false 1 := ⟨ag77, sz77⟩
instance : TyZ Tryd.prog 77 (.tuple #[.slice none 0 0, .int .i64 0]) := ⟨ze77⟩
instance : TyIn Tryd.prog 77 (.tuple #[.slice none 0 0, .int .i64 0]) 1 0 := ⟨nf77⟩
instance : TyI Tryd.prog 84 false 1 := ⟨ag84, sz84⟩
instance : TyZ Tryd.prog 84 (.nilFunc) := ⟨ze84⟩
instance : TyIn Tryd.prog 84 (.nilFunc) 1 8 := ⟨nf84⟩
instance : TyI Tryd.prog 86 false 1 := ⟨ag86, sz86⟩
instance : TyZ Tryd.prog 86 (.nilFunc) := ⟨ze86⟩
instance : TyIn Tryd.prog 86 (.nilFunc) 1 8 := ⟨nf86⟩
instance : TyI Tryd.prog 87 false 1 := ⟨ag87, sz87⟩
instance : TyZ Tryd.prog 87 (.nilFunc) := ⟨ze87⟩
instance : TyIn Tryd.prog 87 (.nilFunc) 1 8 := ⟨nf87⟩
instance : TyI Tryd.prog 89 false 1 := ⟨ag89, sz89⟩
instance : TyZ Tryd.prog 89 (.slice none 0 0) := ⟨ze89⟩
instance : TyIn Tryd.prog 89 (.slice none 0 0) 1 24 := ⟨nf89⟩
instance : TySl Tryd.prog 89 22 := ⟨un89⟩
instance : TyI Tryd.prog 90 false 1 := ⟨ag90, sz90⟩
instance : TyZ Tryd.prog 90 (.slice none 0 0) := ⟨ze90⟩
instance : TyIn Tryd.prog 90 (.slice none 0 0) 1 24 := ⟨nf90⟩
instance : TySl Tryd.prog 90 9 := ⟨un90⟩
instance : TyI Tryd.prog 93 false 1 := ⟨ag93, sz93⟩
instance : TyZ Tryd.prog 93 (.tuple #[.string ⟨#[]⟩, .bool false]) := ⟨ze93⟩
instance : TyIn Tryd.prog 93 (.tuple #[.string ⟨#[]⟩, .bool false]) 1 0 := ⟨nf93⟩
instance : TyI Tryd.prog 95 false 1 := ⟨ag95, sz95⟩
instance : TyZ Tryd.prog 95 (.tuple #[.int .i64 0, .string ⟨#[]⟩, .int .i64 0]) := ⟨ze95⟩
instance : TyIn Tryd.prog 95 (.tuple #[.int .i64 0, .string ⟨#[]⟩, .int .i64 0]) 1 0 := ⟨nf95⟩
instance : TyI Tryd.prog 100 true 64 := ⟨ag100, sz100⟩
instance : TyZ Tryd.prog 100 (.agg #[.int .u8 0, .int .u8 0, .int .u8 0, .int .u8 0, .int .u8 0, .int .u8 0, .int .u8 0, .int .u8 0, .int .u8 0, .int .u8 0, .int .u8 0, .int .u8 0, .int .u8 0, .int .u8 0, .int .u8 0, .int .u8 0, .int .u8 0, .int .u8 0, .int .u8 0, .int .u8 0, .int .u8 0, .int .u8 0, .int .u8 0, .int .u8 0, .int .u8 0, .int .u8 0, .int .u8 0, .int .u8 0, .int .u8 0, .int .u8 0, .int .u8 0, .int .u8 0, .int .u8 0, .int .u8 0, .int .u8 0, .int .u8 0, .int .u8 0, .int .u8 0, .int .u8 0, .int .u8 0, .int .u8 0, .int .u8 0, .int .u8 0, .int .u8 0, .int .u8 0, .int .u8 0, .int .u8 0, .int .u8 0, .int .u8 0, .int .u8 0, .int .u8 0, .int .u8 0, .int .u8 0, .int .u8 0, .int .u8 0, .int .u8 0, .int .u8 0, .int .u8 0, .int .u8 0, .int .u8 0, .int .u8 0, .int .u8 0, .int .u8 0, .int .u8 0]) := ⟨ze100⟩
instance : TyIn Tryd.prog 100 (.agg #[.int .u8 0, .int .u8 0, .int .u8 0, .int .u8 0, .int .u8 0, .int .u8 0, .int .u8 0, .int .u8 0, .int .u8 0, .int .u8 0, .int .u8 0, .int .u8 0, .int .u8 0, .int .u8 0, .int .u8 0, .int .u8 0, .int .u8 0, .int .u8 0, .int .u8 0, .int .u8 0, .int .u8 0, .int .u8 0, .int .u8 0, .int .u8 0, .int .u8 0, .int .u8 0, .int .u8 0, .int .u8 0, .int .u8 0, .int .u8 0, .int .u8 0, .int .u8 0, .int .u8 0, .int .u8 0, .int .u8 0, .int .u8 0, .int .u8 0, .int .u8 0, .int .u8 0, .int .u8 0, .int .u8 0, .int .u8 0, .int .u8 0, .int .u8 0, .int .u8 0, .int .u8 0, .int .u8 0, .int .u8 0, .int .u8 0, .int .u8 0, .int .u8 0, .int .u8 0, .int .u8 0, .int .u8 0, .int .u8 0, .int .u8 0, .int .u8 0, .int .u8 0, .int .u8 0, .int .u8 0, .int .u8 0, .int .u8 0, .int .u8 0, .int .u8 0]) 64 64 := ⟨nf100⟩
instance : TyAr Tryd.prog 100 64 5 := ⟨un100⟩
instance : TyI Tryd.prog 101 false 1 := ⟨ag101, sz101⟩
instance : TyZ Tryd.prog 101 (.nilFunc) := ⟨ze101⟩
instance : TyIn Tryd.prog 101 (.nilFunc) 1 8 := ⟨nf101⟩
instance : TyI Tryd.prog 102 false 1 := ⟨ag102, sz102⟩
instance : TyZ Tryd.prog 102 (.pointer none) := ⟨ze102⟩
instance : TyIn Tryd.prog 102 (.pointer none) 1 8 := ⟨nf102⟩
instance : TyI Tryd.prog 103 false 1 := ⟨ag103, sz103⟩
instance : TyZ Tryd.prog 103 (.slice none 0 0) := ⟨ze103⟩
instance : TyIn Tryd.prog 103 (.slice none 0 0) 1 24 := ⟨nf103⟩
instance : TySl Tryd.prog 103 5 := ⟨un103⟩
instance : TyI Tryd.prog 105 true 2 := ⟨ag105, sz105⟩
instance : TyZ Tryd.prog 105 (.agg #[.pointer none, .slice none 0 0]) := ⟨ze105⟩
instance : TyIn Tryd.prog 105 (.agg #[.pointer none, .slice none 0 0]) 2 32 := ⟨nf105⟩
instance : TyPl Tryd.prog 105 [(0, 1), (1, 1)] := ⟨_, Tryd.underlying105, pl105 Tryd.underlying105⟩
instance : TyFd Tryd.prog 105 0 0 1 := ⟨fd105_0⟩
instance : TyFd Tryd.prog 105 1 1 1 := ⟨fd105_1⟩
instance : TyI Tryd.prog 108 false 1 := ⟨ag108, sz108⟩
instance : TyZ Tryd.prog 108 (.nilIface) := ⟨ze108⟩
instance : TyIn Tryd.prog 108 (.nilIface) 1 16 := ⟨nf108⟩
instance : TyI Tryd.prog 109 false 1 := ⟨ag109, sz109⟩
instance : TyZ Tryd.prog 109 (.tuple #[.int .i64 0, .nilIface]) := ⟨ze109⟩
instance : TyIn Tryd.prog 109 (.tuple #[.int .i64 0, .nilIface]) 1 0 := ⟨nf109⟩
theorem ent3 : Enters Tryd.prog 3 := fun args w => by go_simp
instance : EntC Tryd.prog 3 := ⟨ent3⟩
theorem ent4 : Enters Tryd.prog 4 := fun args w => by go_simp
instance : EntC Tryd.prog 4 := ⟨ent4⟩
theorem ent5 : Enters Tryd.prog 5 := fun args w => by go_simp
instance : EntC Tryd.prog 5 := ⟨ent5⟩
theorem ent6 : Enters Tryd.prog 6 := fun args w => by go_simp
instance : EntC Tryd.prog 6 := ⟨ent6⟩
theorem ent7 : Enters Tryd.prog 7 := fun args w => by go_simp
instance : EntC Tryd.prog 7 := ⟨ent7⟩
theorem ent8 : Enters Tryd.prog 8 := fun args w => by go_simp
instance : EntC Tryd.prog 8 := ⟨ent8⟩
theorem ent9 : Enters Tryd.prog 9 := fun args w => by go_simp
instance : EntC Tryd.prog 9 := ⟨ent9⟩
theorem ent10 : Enters Tryd.prog 10 := fun args w => by go_simp
instance : EntC Tryd.prog 10 := ⟨ent10⟩
theorem ent11 : Enters Tryd.prog 11 := fun args w => by go_simp
instance : EntC Tryd.prog 11 := ⟨ent11⟩
theorem ent12 : Enters Tryd.prog 12 := fun args w => by go_simp
instance : EntC Tryd.prog 12 := ⟨ent12⟩
theorem ent13 : Enters Tryd.prog 13 := fun args w => by go_simp
instance : EntC Tryd.prog 13 := ⟨ent13⟩
theorem ent14 : Enters Tryd.prog 14 := fun args w => by go_simp
instance : EntC Tryd.prog 14 := ⟨ent14⟩
theorem ent15 : Enters Tryd.prog 15 := fun args w => by go_simp
instance : EntC Tryd.prog 15 := ⟨ent15⟩
theorem ent16 : Enters Tryd.prog 16 := fun args w => by go_simp
instance : EntC Tryd.prog 16 := ⟨ent16⟩
theorem ent17 : Enters Tryd.prog 17 := fun args w => by go_simp
instance : EntC Tryd.prog 17 := ⟨ent17⟩
theorem ent18 : Enters Tryd.prog 18 := fun args w => by go_simp
instance : EntC Tryd.prog 18 := ⟨ent18⟩
theorem ent19 : Enters Tryd.prog 19 := fun args w => by go_simp
instance : EntC Tryd.prog 19 := ⟨ent19⟩
theorem ent20 : Enters Tryd.prog 20 := fun args w => by go_simp
instance : EntC Tryd.prog 20 := ⟨ent20⟩
theorem ent21 : Enters Tryd.prog 21 := fun args w => by go_simp
instance : EntC Tryd.prog 21 := ⟨ent21⟩
theorem ent22 : Enters Tryd.prog 22 := fun args w => by go_simp
instance : EntC Tryd.prog 22 := ⟨ent22⟩
theorem ent23 : Enters Tryd.prog 23 := fun args w => by go_simp
instance : EntC Tryd.prog 23 := ⟨ent23⟩
theorem ent24 : Enters Tryd.prog 24 := fun args w => by go_simp
instance : EntC Tryd.prog 24 := ⟨ent24⟩
theorem ent25 : Enters Tryd.prog 25 := fun args w => by go_simp
instance : EntC Tryd.prog 25 := ⟨ent25⟩
theorem ent26 : Enters Tryd.prog 26 := fun args w => by go_simp
instance : EntC Tryd.prog 26 := ⟨ent26⟩
theorem ent27 : Enters Tryd.prog 27 := fun args w => by go_simp
instance : EntC Tryd.prog 27 := ⟨ent27⟩
theorem ent28 : Enters Tryd.prog 28 := fun args w => by go_simp
instance : EntC Tryd.prog 28 := ⟨ent28⟩
theorem ent29 : Enters Tryd.prog 29 := fun args w => by go_simp
instance : EntC Tryd.prog 29 := ⟨ent29⟩
theorem ent30 : Enters Tryd.prog 30 := fun args w => by go_simp
instance : EntC Tryd.prog 30 := ⟨ent30⟩
theorem ent31 : Enters Tryd.prog 31 := fun args w => by go_simp
instance : EntC Tryd.prog 31 := ⟨ent31⟩
theorem ent32 : Enters Tryd.prog 32 := fun args w => by go_simp
instance : EntC Tryd.prog 32 := ⟨ent32⟩
theorem ent33 : Enters Tryd.prog 33 := fun args w => by go_simp
instance : EntC Tryd.prog 33 := ⟨ent33⟩
theorem ent34 : Enters Tryd.prog 34 := fun args w => by go_simp
instance : EntC Tryd.prog 34 := ⟨ent34⟩
theorem ent35 : Enters Tryd.prog 35 := fun args w => by go_simp
instance : EntC Tryd.prog 35 := ⟨ent35⟩
theorem ent36 : Enters Tryd.prog 36 := fun args w => by go_simp
instance : EntC Tryd.prog 36 := ⟨ent36⟩
theorem ent37 : Enters Tryd.prog 37 := fun args w => by go_simp
instance : EntC Tryd.prog 37 := ⟨ent37⟩
theorem ent38 : Enters Tryd.prog 38 := fun args w => by go_simp
instance : EntC Tryd.prog 38 := ⟨ent38⟩
theorem ent39 : Enters Tryd.prog 39 := fun args w => by go_simp
instance : EntC Tryd.prog 39 := ⟨ent39⟩
theorem ent40 : Enters Tryd.prog 40 := fun args w => by go_simp
instance : EntC Tryd.prog 40 := ⟨ent40⟩
theorem ent41 : Enters Tryd.prog 41 := fun args w => by go_simp
instance : EntC Tryd.prog 41 := ⟨ent41⟩
theorem ent42 : Enters Tryd.prog 42 := fun args w => by go_simp
instance : EntC Tryd.prog 42 := ⟨ent42⟩
theorem ent43 : Enters Tryd.prog 43 := fun args w => by go_simp
instance : EntC Tryd.prog 43 := ⟨ent43⟩
theorem ent44 : Enters Tryd.prog 44 := fun args w => by go_simp
instance : EntC Tryd.prog 44 := ⟨ent44⟩
theorem ent45 : Enters Tryd.prog 45 := fun args w => by go_simp
instance : EntC Tryd.prog 45 := ⟨ent45⟩
theorem ent46 : Enters Tryd.prog 46 := fun args w => by go_simp
instance : EntC Tryd.prog 46 := ⟨ent46⟩
theorem ent47 : Enters Tryd.prog 47 := fun args w => by go_simp
instance : EntC Tryd.prog 47 := ⟨ent47⟩
theorem ent48 : Enters Tryd.prog 48 := fun args w => by go_simp
instance : EntC Tryd.prog 48 := ⟨ent48⟩
theorem ent49 : Enters Tryd.prog 49 := fun args w => by go_simp
instance : EntC Tryd.prog 49 := ⟨ent49⟩
theorem ent50 : Enters Tryd.prog 50 := fun args w => by go_simp
instance : EntC Tryd.prog 50 := ⟨ent50⟩
theorem ent51 : Enters Tryd.prog 51 := fun args w => by go_simp
instance : EntC Tryd.prog 51 := ⟨ent51⟩
theorem ent52 : Enters Tryd.prog 52 := fun args w => by go_simp
instance : EntC Tryd.prog 52 := ⟨ent52⟩
theorem ent53 : Enters Tryd.prog 53 := fun args w => by go_simp
instance : EntC Tryd.prog 53 := ⟨ent53⟩
theorem ent54 : Enters Tryd.prog 54 := fun args w => by go_simp
instance : EntC Tryd.prog 54 := ⟨ent54⟩
theorem ent55 : Enters Tryd.prog 55 := fun args w => by go_simp
instance : EntC Tryd.prog 55 := ⟨ent55⟩
theorem ent56 : Enters Tryd.prog 56 := fun args w => by go_simp
instance : EntC Tryd.prog 56 := ⟨ent56⟩
theorem ent57 : Enters Tryd.prog 57 := fun args w => by go_simp
instance : EntC Tryd.prog 57 := ⟨ent57⟩
theorem ent58 : Enters Tryd.prog 58 := fun args w => by go_simp
instance : EntC Tryd.prog 58 := ⟨ent58⟩
theorem ent59 : Enters Tryd.prog 59 := fun args w => by go_simp
instance : EntC Tryd.prog 59 := ⟨ent59⟩
theorem ent60 : Enters Tryd.prog 60 := fun args w => by go_simp
instance : EntC Tryd.prog 60 := ⟨ent60⟩
theorem ent61 : Enters Tryd.prog 61 := fun args w => by go_simp
instance : EntC Tryd.prog 61 := ⟨ent61⟩
theorem ent62 : Enters Tryd.prog 62 := fun args w => by go_simp
instance : EntC Tryd.prog 62 := ⟨ent62⟩
theorem ent63 : Enters Tryd.prog 63 := fun args w => by go_simp
instance : EntC Tryd.prog 63 := ⟨ent63⟩
theorem ent64 : Enters Tryd.prog 64 := fun args w => by go_simp
instance : EntC Tryd.prog 64 := ⟨ent64⟩
theorem ent65 : Enters Tryd.prog 65 := fun args w => by go_simp
instance : EntC Tryd.prog 65 := ⟨ent65⟩
theorem ent66 : Enters Tryd.prog 66 := fun args w => by go_simp
instance : EntC Tryd.prog 66 := ⟨ent66⟩
theorem ent67 : Enters Tryd.prog 67 := fun args w => by go_simp
instance : EntC Tryd.prog 67 := ⟨ent67⟩
theorem ent68 : Enters Tryd.prog 68 := fun args w => by go_simp
instance : EntC Tryd.prog 68 := ⟨ent68⟩
theorem ent69 : Enters Tryd.prog 69 := fun args w => by go_simp
instance : EntC Tryd.prog 69 := ⟨ent69⟩
theorem ent70 : Enters Tryd.prog 70 := fun args w => by go_simp
instance : EntC Tryd.prog 70 := ⟨ent70⟩
theorem ent71 : Enters Tryd.prog 71 := fun args w => by go_simp
instance : EntC Tryd.prog 71 := ⟨ent71⟩
instance : TyPtr Tryd.prog 102 105 := ⟨by kernel_rfl⟩
instance : TyAn Tryd.prog 24 16 .u64 := ⟨⟨22, by kernel_rfl, by kernel_rfl, by kernel_rfl, by kernel_rfl, by kernel_rfl⟩, by kernel_rfl⟩
instance : ZeD Tryd.prog 24 (Go.Bs.setC 0) := ⟨_, ze24, Go.Bs.z16⟩
theorem eqlS {S U : Nat} (hS : Go.Bs.SetOk S) (hU : Go.Bs.SetOk U) : EqlD Tryd.prog 24 (Go.Bs.setC S) (Go.Bs.setC U) (decide (S = U)) := ⟨16, .u64, _, _, TyAn.i, Go.Bs.setC_aD S, Go.Bs.setC_aD U, Go.Bs.arr_set hS hU⟩
end Go.Proofs.YtgcmajgkcahbnaaDoor
