/- Facts on the types of the seat, as instances. No condition. -/
import Derived.Test.YtichhfbkhnimmaaXW
import Derived.Test.YtichhfbkhnimmaaProg
import Derived.Test.YtichhfbkhnimmaaCheckedPd
import Derived.Test.YtichhfbkhnimmaaCheckedPe

set_option linter.unusedSimpArgs false
set_option linter.unusedVariables false
namespace Go.Proofs.Ytichhfbkhnimmaa
open Go Go.RowKit Go.PP Go.Dm
theorem sz0 : sizeOfT Try.prog 0 = some 1 := by kernel_rfl
theorem ag0 : aggOf Try.prog 0 = some false := by kernel_rfl
theorem ze0 : zeroT Try.prog 0 = some (.tuple #[]) := by kernel_rfl
theorem nf0 : (Try.prog.info? 0).map (fun i => (i.zero, i.size, i.bytes)) = some (some (.tuple #[]), 1, 0) := by kernel_rfl
theorem sz3 : sizeOfT Try.prog 3 = some 1 := by kernel_rfl
theorem ag3 : aggOf Try.prog 3 = some false := by kernel_rfl
theorem ze3 : zeroT Try.prog 3 = some (.int .i64 0) := by kernel_rfl
theorem nf3 : (Try.prog.info? 3).map (fun i => (i.zero, i.size, i.bytes)) = some (some (.int .i64 0), 1, 8) := by kernel_rfl
theorem sz4 : sizeOfT Try.prog 4 = some 1 := by kernel_rfl
theorem ag4 : aggOf Try.prog 4 = some false := by kernel_rfl
theorem ze4 : zeroT Try.prog 4 = some (.bool false) := by kernel_rfl
theorem nf4 : (Try.prog.info? 4).map (fun i => (i.zero, i.size, i.bytes)) = some (some (.bool false), 1, 1) := by kernel_rfl
theorem un4 : Try.prog.underlying 4 = some .bool := by kernel_rfl
theorem sz5 : sizeOfT Try.prog 5 = some 1 := by kernel_rfl
theorem ag5 : aggOf Try.prog 5 = some false := by kernel_rfl
theorem ze5 : zeroT Try.prog 5 = some (.int .u8 0) := by kernel_rfl
theorem nf5 : (Try.prog.info? 5).map (fun i => (i.zero, i.size, i.bytes)) = some (some (.int .u8 0), 1, 1) := by kernel_rfl
theorem sz20 : sizeOfT Try.prog 20 = some 1 := by kernel_rfl
theorem ag20 : aggOf Try.prog 20 = some false := by kernel_rfl
theorem ze20 : zeroT Try.prog 20 = some (.nilIface) := by kernel_rfl
theorem nf20 : (Try.prog.info? 20).map (fun i => (i.zero, i.size, i.bytes)) = some (some (.nilIface), 1, 16) := by kernel_rfl
theorem sz22 : sizeOfT Try.prog 22 = some 1 := by kernel_rfl
theorem ag22 : aggOf Try.prog 22 = some false := by kernel_rfl
theorem ze22 : zeroT Try.prog 22 = some (.slice none 0 0) := by kernel_rfl
theorem nf22 : (Try.prog.info? 22).map (fun i => (i.zero, i.size, i.bytes)) = some (some (.slice none 0 0), 1, 24) := by kernel_rfl
theorem un22 : Try.prog.underlying 22 = some (.slice 3) := by kernel_rfl
theorem sz23 : sizeOfT Try.prog 23 = some 1 := by kernel_rfl
theorem ag23 : aggOf Try.prog 23 = some false := by kernel_rfl
theorem ze23 : zeroT Try.prog 23 = some (.slice none 0 0) := by kernel_rfl
theorem nf23 : (Try.prog.info? 23).map (fun i => (i.zero, i.size, i.bytes)) = some (some (.slice none 0 0), 1, 24) := by kernel_rfl
theorem un23 : Try.prog.underlying 23 = some (.slice 4) := by kernel_rfl
theorem sz24 : sizeOfT Try.prog 24 = some 1 := by kernel_rfl
theorem ag24 : aggOf Try.prog 24 = some false := by kernel_rfl
theorem ze24 : zeroT Try.prog 24 = some (.slice none 0 0) := by kernel_rfl
theorem nf24 : (Try.prog.info? 24).map (fun i => (i.zero, i.size, i.bytes)) = some (some (.slice none 0 0), 1, 24) := by kernel_rfl
theorem un24 : Try.prog.underlying 24 = some (.slice 22) := by kernel_rfl
theorem sz26 : sizeOfT Try.prog 26 = some 3 := by kernel_rfl
theorem ag26 : aggOf Try.prog 26 = some true := by kernel_rfl
theorem ze26 : zeroT Try.prog 26 = some (.agg #[.slice none 0 0, .slice none 0 0, .slice none 0 0]) := by kernel_rfl
theorem nf26 : (Try.prog.info? 26).map (fun i => (i.zero, i.size, i.bytes)) = some (some (.agg #[.slice none 0 0, .slice none 0 0, .slice none 0 0]), 3, 72) := by kernel_rfl
theorem pl26 {fs : List Field} (h : Try.prog.underlying 26 = some (.struct fs.toArray)) : placesD Try.prog fs = some [(0, 1), (1, 1), (2, 1)] := by
  rw [Try.underlying26] at h
  simp only [Option.some.injEq, TypeDesc.struct.injEq] at h
  have h2 := congrArg Array.toList h
  simp only [List.toList_toArray] at h2
  subst h2
  simp only [placesD, sz22, sz23, sz24]
theorem fd26_0 : FieldAt Try.prog 26 0 0 1 := ⟨_, _, Try.underlying26, rfl, rfl, by kernel_rfl, by kernel_rfl⟩
theorem fd26_1 : FieldAt Try.prog 26 1 1 1 := ⟨_, _, Try.underlying26, rfl, rfl, by kernel_rfl, by kernel_rfl⟩
theorem fd26_2 : FieldAt Try.prog 26 2 2 1 := ⟨_, _, Try.underlying26, rfl, rfl, by kernel_rfl, by kernel_rfl⟩
theorem sz29 : sizeOfT Try.prog 29 = some 1 := by kernel_rfl
theorem ag29 : aggOf Try.prog 29 = some false := by kernel_rfl
theorem ze29 : zeroT Try.prog 29 = some (.pointer none) := by kernel_rfl
theorem nf29 : (Try.prog.info? 29).map (fun i => (i.zero, i.size, i.bytes)) = some (some (.pointer none), 1, 8) := by kernel_rfl
theorem sz30 : sizeOfT Try.prog 30 = some 1 := by kernel_rfl
theorem ag30 : aggOf Try.prog 30 = some false := by kernel_rfl
theorem ze30 : zeroT Try.prog 30 = some (.int .i64 0) := by kernel_rfl
theorem nf30 : (Try.prog.info? 30).map (fun i => (i.zero, i.size, i.bytes)) = some (some (.int .i64 0), 1, 8) := by kernel_rfl
theorem sz31 : sizeOfT Try.prog 31 = some 1 := by kernel_rfl
theorem ag31 : aggOf Try.prog 31 = some false := by kernel_rfl
theorem ze31 : zeroT Try.prog 31 = some (.tuple #[.pointer none, .int .i64 0]) := by kernel_rfl
theorem nf31 : (Try.prog.info? 31).map (fun i => (i.zero, i.size, i.bytes)) = some (some (.tuple #[.pointer none, .int .i64 0]), 1, 0) := by kernel_rfl
theorem sz33 : sizeOfT Try.prog 33 = some 1 := by kernel_rfl
theorem ag33 : aggOf Try.prog 33 = some false := by kernel_rfl
theorem ze33 : zeroT Try.prog 33 = some (.slice none 0 0) := by kernel_rfl
theorem nf33 : (Try.prog.info? 33).map (fun i => (i.zero, i.size, i.bytes)) = some (some (.slice none 0 0), 1, 24) := by kernel_rfl
theorem un33 : Try.prog.underlying 33 = some (.slice 3) := by kernel_rfl
theorem sz35 : sizeOfT Try.prog 35 = some 3 := by kernel_rfl
theorem ag35 : aggOf Try.prog 35 = some true := by kernel_rfl
theorem ze35 : zeroT Try.prog 35 = some (.agg #[.slice none 0 0, .slice none 0 0, .slice none 0 0]) := by kernel_rfl
theorem nf35 : (Try.prog.info? 35).map (fun i => (i.zero, i.size, i.bytes)) = some (some (.agg #[.slice none 0 0, .slice none 0 0, .slice none 0 0]), 3, 72) := by kernel_rfl
theorem pl35 {fs : List Field} (h : Try.prog.underlying 35 = some (.struct fs.toArray)) : placesD Try.prog fs = some [(0, 1), (1, 1), (2, 1)] := by
  rw [Try.underlying35] at h
  simp only [Option.some.injEq, TypeDesc.struct.injEq] at h
  have h2 := congrArg Array.toList h
  simp only [List.toList_toArray] at h2
  subst h2
  simp only [placesD, sz23, sz24, sz33]
theorem fd35_0 : FieldAt Try.prog 35 0 0 1 := ⟨_, _, Try.underlying35, rfl, rfl, by kernel_rfl, by kernel_rfl⟩
theorem fd35_1 : FieldAt Try.prog 35 1 1 1 := ⟨_, _, Try.underlying35, rfl, rfl, by kernel_rfl, by kernel_rfl⟩
theorem fd35_2 : FieldAt Try.prog 35 2 2 1 := ⟨_, _, Try.underlying35, rfl, rfl, by kernel_rfl, by kernel_rfl⟩
theorem sz40 : sizeOfT Try.prog 40 = some 1 := by kernel_rfl
theorem ag40 : aggOf Try.prog 40 = some false := by kernel_rfl
theorem ze40 : zeroT Try.prog 40 = some (.tuple #[.int .i64 0, .int .i64 0]) := by kernel_rfl
theorem nf40 : (Try.prog.info? 40).map (fun i => (i.zero, i.size, i.bytes)) = some (some (.tuple #[.int .i64 0, .int .i64 0]), 1, 0) := by kernel_rfl
theorem sz42 : sizeOfT Try.prog 42 = some 1 := by kernel_rfl
theorem ag42 : aggOf Try.prog 42 = some false := by kernel_rfl
theorem ze42 : zeroT Try.prog 42 = some (.slice none 0 0) := by kernel_rfl
theorem nf42 : (Try.prog.info? 42).map (fun i => (i.zero, i.size, i.bytes)) = some (some (.slice none 0 0), 1, 24) := by kernel_rfl
theorem un42 : Try.prog.underlying 42 = some (.slice 50) := by kernel_rfl
theorem sz43 : sizeOfT Try.prog 43 = some 1 := by kernel_rfl
theorem ag43 : aggOf Try.prog 43 = some false := by kernel_rfl
theorem ze43 : zeroT Try.prog 43 = some (.tuple #[.slice none 0 0, .bool false, .int .i64 0]) := by kernel_rfl
theorem nf43 : (Try.prog.info? 43).map (fun i => (i.zero, i.size, i.bytes)) = some (some (.tuple #[.slice none 0 0, .bool false, .int .i64 0]), 1, 0) := by kernel_rfl
theorem sz45 : sizeOfT Try.prog 45 = some 1 := by kernel_rfl
theorem ag45 : aggOf Try.prog 45 = some false := by kernel_rfl
theorem ze45 : zeroT Try.prog 45 = some (.slice none 0 0) := by kernel_rfl
theorem nf45 : (Try.prog.info? 45).map (fun i => (i.zero, i.size, i.bytes)) = some (some (.slice none 0 0), 1, 24) := by kernel_rfl
theorem un45 : Try.prog.underlying 45 = some (.slice 52) := by kernel_rfl
theorem sz46 : sizeOfT Try.prog 46 = some 1 := by kernel_rfl
theorem ag46 : aggOf Try.prog 46 = some false := by kernel_rfl
theorem ze46 : zeroT Try.prog 46 = some (.tuple #[.slice none 0 0, .bool false]) := by kernel_rfl
theorem nf46 : (Try.prog.info? 46).map (fun i => (i.zero, i.size, i.bytes)) = some (some (.tuple #[.slice none 0 0, .bool false]), 1, 0) := by kernel_rfl
theorem sz48 : sizeOfT Try.prog 48 = some 1 := by kernel_rfl
theorem ag48 : aggOf Try.prog 48 = some false := by kernel_rfl
theorem ze48 : zeroT Try.prog 48 = some (.nilFunc) := by kernel_rfl
theorem nf48 : (Try.prog.info? 48).map (fun i => (i.zero, i.size, i.bytes)) = some (some (.nilFunc), 1, 8) := by kernel_rfl
theorem sz50 : sizeOfT Try.prog 50 = some 3 := by kernel_rfl
theorem ag50 : aggOf Try.prog 50 = some true := by kernel_rfl
theorem ze50 : zeroT Try.prog 50 = some (.agg #[.int .i64 0, .int .i64 0, .int .i64 0]) := by kernel_rfl
theorem nf50 : (Try.prog.info? 50).map (fun i => (i.zero, i.size, i.bytes)) = some (some (.agg #[.int .i64 0, .int .i64 0, .int .i64 0]), 3, 24) := by kernel_rfl
theorem pl50 {fs : List Field} (h : Try.prog.underlying 50 = some (.struct fs.toArray)) : placesD Try.prog fs = some [(0, 1), (1, 1), (2, 1)] := by
  rw [Try.underlying50] at h
  simp only [Option.some.injEq, TypeDesc.struct.injEq] at h
  have h2 := congrArg Array.toList h
  simp only [List.toList_toArray] at h2
  subst h2
  simp only [placesD, sz3]
theorem fd50_0 : FieldAt Try.prog 50 0 0 1 := ⟨_, _, Try.underlying50, rfl, rfl, by kernel_rfl, by kernel_rfl⟩
theorem fd50_1 : FieldAt Try.prog 50 1 1 1 := ⟨_, _, Try.underlying50, rfl, rfl, by kernel_rfl, by kernel_rfl⟩
theorem fd50_2 : FieldAt Try.prog 50 2 2 1 := ⟨_, _, Try.underlying50, rfl, rfl, by kernel_rfl, by kernel_rfl⟩
theorem sz52 : sizeOfT Try.prog 52 = some 3 := by kernel_rfl
theorem ag52 : aggOf Try.prog 52 = some true := by kernel_rfl
theorem ze52 : zeroT Try.prog 52 = some (.agg #[.int .i64 0, .int .i64 0, .int .i64 0]) := by kernel_rfl
theorem nf52 : (Try.prog.info? 52).map (fun i => (i.zero, i.size, i.bytes)) = some (some (.agg #[.int .i64 0, .int .i64 0, .int .i64 0]), 3, 24) := by kernel_rfl
theorem pl52 {fs : List Field} (h : Try.prog.underlying 52 = some (.struct fs.toArray)) : placesD Try.prog fs = some [(0, 1), (1, 1), (2, 1)] := by
  rw [Try.underlying52] at h
  simp only [Option.some.injEq, TypeDesc.struct.injEq] at h
  have h2 := congrArg Array.toList h
  simp only [List.toList_toArray] at h2
  subst h2
  simp only [placesD, sz3]
theorem fd52_0 : FieldAt Try.prog 52 0 0 1 := ⟨_, _, Try.underlying52, rfl, rfl, by kernel_rfl, by kernel_rfl⟩
theorem fd52_1 : FieldAt Try.prog 52 1 1 1 := ⟨_, _, Try.underlying52, rfl, rfl, by kernel_rfl, by kernel_rfl⟩
theorem fd52_2 : FieldAt Try.prog 52 2 2 1 := ⟨_, _, Try.underlying52, rfl, rfl, by kernel_rfl, by kernel_rfl⟩
theorem sz55 : sizeOfT Try.prog 55 = some 1 := by kernel_rfl
theorem ag55 : aggOf Try.prog 55 = some false := by kernel_rfl
theorem ze55 : zeroT Try.prog 55 = some (.tuple #[.agg #[.slice none 0 0, .slice none 0 0, .slice none 0 0], .slice none 0 0, .int .i64 0]) := by kernel_rfl
theorem nf55 : (Try.prog.info? 55).map (fun i => (i.zero, i.size, i.bytes)) = some (some (.tuple #[.agg #[.slice none 0 0, .slice none 0 0, .slice none 0 0], .slice none 0 0, .int .i64 0]), 1, 0) := by kernel_rfl
theorem sz58 : sizeOfT Try.prog 58 = some 1 := by kernel_rfl
theorem ag58 : aggOf Try.prog 58 = some false := by kernel_rfl
theorem ze58 : zeroT Try.prog 58 = some (.tuple #[.agg #[.slice none 0 0, .slice none 0 0, .slice none 0 0], .slice none 0 0]) := by kernel_rfl
theorem nf58 : (Try.prog.info? 58).map (fun i => (i.zero, i.size, i.bytes)) = some (some (.tuple #[.agg #[.slice none 0 0, .slice none 0 0, .slice none 0 0], .slice none 0 0]), 1, 0) := by kernel_rfl
theorem sz62 : sizeOfT Try.prog 62 = some 1 := by kernel_rfl
theorem ag62 : aggOf Try.prog 62 = some false := by kernel_rfl
theorem ze62 : zeroT Try.prog 62 = some (.nilFunc) := by kernel_rfl
theorem nf62 : (Try.prog.info? 62).map (fun i => (i.zero, i.size, i.bytes)) = some (some (.nilFunc), 1, 8) := by kernel_rfl
theorem sz63 : sizeOfT Try.prog 63 = some 1 := by kernel_rfl
theorem ag63 : aggOf Try.prog 63 = some false := by kernel_rfl
theorem ze63 : zeroT Try.prog 63 = some (.tuple #[.bool false, .int .i64 0]) := by kernel_rfl
theorem nf63 : (Try.prog.info? 63).map (fun i => (i.zero, i.size, i.bytes)) = some (some (.tuple #[.bool false, .int .i64 0]), 1, 0) := by kernel_rfl
theorem sz65 : sizeOfT Try.prog 65 = some 1 := by kernel_rfl
theorem ag65 : aggOf Try.prog 65 = some false := by kernel_rfl
theorem ze65 : zeroT Try.prog 65 = some (.tuple #[.bool false, .int .i64 0]) := by kernel_rfl
theorem nf65 : (Try.prog.info? 65).map (fun i => (i.zero, i.size, i.bytes)) = some (some (.tuple #[.bool false, .int .i64 0]), 1, 0) := by kernel_rfl
theorem sz68 : sizeOfT Try.prog 68 = some 1 := by kernel_rfl
theorem ag68 : aggOf Try.prog 68 = some false := by kernel_rfl
theorem ze68 : zeroT Try.prog 68 = some (.tuple #[.agg #[.slice none 0 0, .slice none 0 0, .slice none 0 0], .int .i64 0]) := by kernel_rfl
theorem nf68 : (Try.prog.info? 68).map (fun i => (i.zero, i.size, i.bytes)) = some (some (.tuple #[.agg #[.slice none 0 0, .slice none 0 0, .slice none 0 0], .int .i64 0]), 1, 0) := by kernel_rfl
theorem sz72 : sizeOfT Try.prog 72 = some 1 := by kernel_rfl
theorem ag72 : aggOf Try.prog 72 = some false := by kernel_rfl
theorem ze72 : zeroT Try.prog 72 = some (.slice none 0 0) := by kernel_rfl
theorem nf72 : (Try.prog.info? 72).map (fun i => (i.zero, i.size, i.bytes)) = some (some (.slice none 0 0), 1, 24) := by kernel_rfl
theorem un72 : Try.prog.underlying 72 = some (.slice 74) := by kernel_rfl
theorem sz74 : sizeOfT Try.prog 74 = some 2 := by kernel_rfl
theorem ag74 : aggOf Try.prog 74 = some true := by kernel_rfl
theorem ze74 : zeroT Try.prog 74 = some (.agg #[.int .i64 0, .slice none 0 0]) := by kernel_rfl
theorem nf74 : (Try.prog.info? 74).map (fun i => (i.zero, i.size, i.bytes)) = some (some (.agg #[.int .i64 0, .slice none 0 0]), 2, 32) := by kernel_rfl
theorem pl74 {fs : List Field} (h : Try.prog.underlying 74 = some (.struct fs.toArray)) : placesD Try.prog fs = some [(0, 1), (1, 1)] := by
  rw [Try.underlying74] at h
  simp only [Option.some.injEq, TypeDesc.struct.injEq] at h
  have h2 := congrArg Array.toList h
  simp only [List.toList_toArray] at h2
  subst h2
  simp only [placesD, sz3, sz72]
theorem fd74_0 : FieldAt Try.prog 74 0 0 1 := ⟨_, _, Try.underlying74, rfl, rfl, by kernel_rfl, by kernel_rfl⟩
theorem fd74_1 : FieldAt Try.prog 74 1 1 1 := ⟨_, _, Try.underlying74, rfl, rfl, by kernel_rfl, by kernel_rfl⟩
theorem sz76 : sizeOfT Try.prog 76 = some 1 := by kernel_rfl
theorem ag76 : aggOf Try.prog 76 = some false := by kernel_rfl
theorem ze76 : zeroT Try.prog 76 = some (.slice none 0 0) := by kernel_rfl
theorem nf76 : (Try.prog.info? 76).map (fun i => (i.zero, i.size, i.bytes)) = some (some (.slice none 0 0), 1, 24) := by kernel_rfl
theorem un76 : Try.prog.underlying 76 = some (.slice 78) := by kernel_rfl
theorem sz78 : sizeOfT Try.prog 78 = some 2 := by kernel_rfl
theorem ag78 : aggOf Try.prog 78 = some true := by kernel_rfl
theorem ze78 : zeroT Try.prog 78 = some (.agg #[.int .i64 0, .slice none 0 0]) := by kernel_rfl
theorem nf78 : (Try.prog.info? 78).map (fun i => (i.zero, i.size, i.bytes)) = some (some (.agg #[.int .i64 0, .slice none 0 0]), 2, 32) := by kernel_rfl
theorem pl78 {fs : List Field} (h : Try.prog.underlying 78 = some (.struct fs.toArray)) : placesD Try.prog fs = some [(0, 1), (1, 1)] := by
  rw [Try.underlying78] at h
  simp only [Option.some.injEq, TypeDesc.struct.injEq] at h
  have h2 := congrArg Array.toList h
  simp only [List.toList_toArray] at h2
  subst h2
  simp only [placesD, sz3, sz76]
theorem fd78_0 : FieldAt Try.prog 78 0 0 1 := ⟨_, _, Try.underlying78, rfl, rfl, by kernel_rfl, by kernel_rfl⟩
theorem fd78_1 : FieldAt Try.prog 78 1 1 1 := ⟨_, _, Try.underlying78, rfl, rfl, by kernel_rfl, by kernel_rfl⟩
theorem sz84 : sizeOfT Try.prog 84 = some 1 := by kernel_rfl
theorem ag84 : aggOf Try.prog 84 = some false := by kernel_rfl
theorem ze84 : zeroT Try.prog 84 = some (.tuple #[.slice none 0 0, .slice none 0 0, .int .i64 0]) := by kernel_rfl
theorem nf84 : (Try.prog.info? 84).map (fun i => (i.zero, i.size, i.bytes)) = some (some (.tuple #[.slice none 0 0, .slice none 0 0, .int .i64 0]), 1, 0) := by kernel_rfl
theorem sz86 : sizeOfT Try.prog 86 = some 1 := by kernel_rfl
theorem ag86 : aggOf Try.prog 86 = some false := by kernel_rfl
theorem ze86 : zeroT Try.prog 86 = some (.tuple #[.slice none 0 0, .slice none 0 0]) := by kernel_rfl
theorem nf86 : (Try.prog.info? 86).map (fun i => (i.zero, i.size, i.bytes)) = some (some (.tuple #[.slice none 0 0, .slice none 0 0]), 1, 0) := by kernel_rfl
theorem sz96 : sizeOfT Try.prog 96 = some 1 := by kernel_rfl
theorem ag96 : aggOf Try.prog 96 = some true := by kernel_rfl
theorem ze96 : zeroT Try.prog 96 = some (.agg #[.slice none 0 0]) := by kernel_rfl
theorem nf96 : (Try.prog.info? 96).map (fun i => (i.zero, i.size, i.bytes)) = some (some (.agg #[.slice none 0 0]), 1, 24) := by kernel_rfl
theorem pl96 {fs : List Field} (h : Try.prog.underlying 96 = some (.struct fs.toArray)) : placesD Try.prog fs = some [(0, 1)] := by
  rw [Try.underlying96] at h
  simp only [Option.some.injEq, TypeDesc.struct.injEq] at h
  have h2 := congrArg Array.toList h
  simp only [List.toList_toArray] at h2
  subst h2
  simp only [placesD, sz22]
theorem fd96_0 : FieldAt Try.prog 96 0 0 1 := ⟨_, _, Try.underlying96, rfl, rfl, by kernel_rfl, by kernel_rfl⟩
theorem sz97 : sizeOfT Try.prog 97 = some 1 := by kernel_rfl
theorem ag97 : aggOf Try.prog 97 = some false := by kernel_rfl
theorem ze97 : zeroT Try.prog 97 = some (.nilFunc) := by kernel_rfl
theorem nf97 : (Try.prog.info? 97).map (fun i => (i.zero, i.size, i.bytes)) = some (some (.nilFunc), 1, 8) := by kernel_rfl
theorem sz98 : sizeOfT Try.prog 98 = some 1 := by kernel_rfl
theorem ag98 : aggOf Try.prog 98 = some false := by kernel_rfl
theorem ze98 : zeroT Try.prog 98 = some (.nilFunc) := by kernel_rfl
theorem nf98 : (Try.prog.info? 98).map (fun i => (i.zero, i.size, i.bytes)) = some (some (.nilFunc), 1, 8) := by kernel_rfl
theorem sz101 : sizeOfT Try.prog 101 = some 2 := by kernel_rfl
theorem ag101 : aggOf Try.prog 101 = some true := by kernel_rfl
theorem ze101 : zeroT Try.prog 101 = some (.agg #[.int .i64 0, .int .i64 0]) := by kernel_rfl
theorem nf101 : (Try.prog.info? 101).map (fun i => (i.zero, i.size, i.bytes)) = some (some (.agg #[.int .i64 0, .int .i64 0]), 2, 16) := by kernel_rfl
theorem pl101 {fs : List Field} (h : Try.prog.underlying 101 = some (.struct fs.toArray)) : placesD Try.prog fs = some [(0, 1), (1, 1)] := by
  rw [Try.underlying101] at h
  simp only [Option.some.injEq, TypeDesc.struct.injEq] at h
  have h2 := congrArg Array.toList h
  simp only [List.toList_toArray] at h2
  subst h2
  simp only [placesD, sz3]
theorem fd101_0 : FieldAt Try.prog 101 0 0 1 := ⟨_, _, Try.underlying101, rfl, rfl, by kernel_rfl, by kernel_rfl⟩
theorem fd101_1 : FieldAt Try.prog 101 1 1 1 := ⟨_, _, Try.underlying101, rfl, rfl, by kernel_rfl, by kernel_rfl⟩
theorem sz102 : sizeOfT Try.prog 102 = some 1 := by kernel_rfl
theorem ag102 : aggOf Try.prog 102 = some false := by kernel_rfl
theorem ze102 : zeroT Try.prog 102 = some (.map none) := by kernel_rfl
theorem nf102 : (Try.prog.info? 102).map (fun i => (i.zero, i.size, i.bytes)) = some (some (.map none), 1, 8) := by kernel_rfl
theorem sz104 : sizeOfT Try.prog 104 = some 3 := by kernel_rfl
theorem ag104 : aggOf Try.prog 104 = some true := by kernel_rfl
theorem ze104 : zeroT Try.prog 104 = some (.agg #[.int .i64 0, .int .i64 0, .slice none 0 0]) := by kernel_rfl
theorem nf104 : (Try.prog.info? 104).map (fun i => (i.zero, i.size, i.bytes)) = some (some (.agg #[.int .i64 0, .int .i64 0, .slice none 0 0]), 3, 40) := by kernel_rfl
theorem pl104 {fs : List Field} (h : Try.prog.underlying 104 = some (.struct fs.toArray)) : placesD Try.prog fs = some [(0, 2), (2, 1)] := by
  rw [Try.underlying104] at h
  simp only [Option.some.injEq, TypeDesc.struct.injEq] at h
  have h2 := congrArg Array.toList h
  simp only [List.toList_toArray] at h2
  subst h2
  simp only [placesD, sz101, sz42]
theorem fd104_0 : FieldAt Try.prog 104 0 0 2 := ⟨_, _, Try.underlying104, rfl, rfl, by kernel_rfl, by kernel_rfl⟩
theorem fd104_1 : FieldAt Try.prog 104 1 2 1 := ⟨_, _, Try.underlying104, rfl, rfl, by kernel_rfl, by kernel_rfl⟩
theorem sz105 : sizeOfT Try.prog 105 = some 1 := by kernel_rfl
theorem ag105 : aggOf Try.prog 105 = some false := by kernel_rfl
theorem ze105 : zeroT Try.prog 105 = some (.slice none 0 0) := by kernel_rfl
theorem nf105 : (Try.prog.info? 105).map (fun i => (i.zero, i.size, i.bytes)) = some (some (.slice none 0 0), 1, 24) := by kernel_rfl
theorem un105 : Try.prog.underlying 105 = some (.slice 104) := by kernel_rfl
theorem sz109 : sizeOfT Try.prog 109 = some 1 := by kernel_rfl
theorem ag109 : aggOf Try.prog 109 = some false := by kernel_rfl
theorem ze109 : zeroT Try.prog 109 = some (.tuple #[.int .i64 0, .int .i64 0]) := by kernel_rfl
theorem nf109 : (Try.prog.info? 109).map (fun i => (i.zero, i.size, i.bytes)) = some (some (.tuple #[.int .i64 0, .int .i64 0]), 1, 0) := by kernel_rfl
theorem sz111 : sizeOfT Try.prog 111 = some 1 := by kernel_rfl
theorem ag111 : aggOf Try.prog 111 = some false := by kernel_rfl
theorem ze111 : zeroT Try.prog 111 = some (.tuple #[.agg #[.slice none 0 0, .slice none 0 0, .slice none 0 0], .slice none 0 0]) := by kernel_rfl
theorem nf111 : (Try.prog.info? 111).map (fun i => (i.zero, i.size, i.bytes)) = some (some (.tuple #[.agg #[.slice none 0 0, .slice none 0 0, .slice none 0 0], .slice none 0 0]), 1, 0) := by kernel_rfl
theorem sz113 : sizeOfT Try.prog 113 = some 1 := by kernel_rfl
theorem ag113 : aggOf Try.prog 113 = some false := by kernel_rfl
theorem ze113 : zeroT Try.prog 113 = some (.tuple #[.agg #[.slice none 0 0, .slice none 0 0, .slice none 0 0], .int .i64 0]) := by kernel_rfl
theorem nf113 : (Try.prog.info? 113).map (fun i => (i.zero, i.size, i.bytes)) = some (some (.tuple #[.agg #[.slice none 0 0, .slice none 0 0, .slice none 0 0], .int .i64 0]), 1, 0) := by kernel_rfl
theorem sz115 : sizeOfT Try.prog 115 = some 1 := by kernel_rfl
theorem ag115 : aggOf Try.prog 115 = some false := by kernel_rfl
theorem ze115 : zeroT Try.prog 115 = some (.slice none 0 0) := by kernel_rfl
theorem nf115 : (Try.prog.info? 115).map (fun i => (i.zero, i.size, i.bytes)) = some (some (.slice none 0 0), 1, 24) := by kernel_rfl
theorem un115 : Try.prog.underlying 115 = some (.slice 35) := by kernel_rfl
theorem sz124 : sizeOfT Try.prog 124 = some 1 := by kernel_rfl
theorem ag124 : aggOf Try.prog 124 = some false := by kernel_rfl
theorem ze124 : zeroT Try.prog 124 = some (.nilFunc) := by kernel_rfl
theorem nf124 : (Try.prog.info? 124).map (fun i => (i.zero, i.size, i.bytes)) = some (some (.nilFunc), 1, 8) := by kernel_rfl
theorem sz132 : sizeOfT Try.prog 132 = some 1 := by kernel_rfl
theorem ag132 : aggOf Try.prog 132 = some false := by kernel_rfl
theorem ze132 : zeroT Try.prog 132 = some (.nilFunc) := by kernel_rfl
theorem nf132 : (Try.prog.info? 132).map (fun i => (i.zero, i.size, i.bytes)) = some (some (.nilFunc), 1, 8) := by kernel_rfl
theorem sz134 : sizeOfT Try.prog 134 = some 1 := by kernel_rfl
theorem ag134 : aggOf Try.prog 134 = some false := by kernel_rfl
theorem ze134 : zeroT Try.prog 134 = some (.nilFunc) := by kernel_rfl
theorem nf134 : (Try.prog.info? 134).map (fun i => (i.zero, i.size, i.bytes)) = some (some (.nilFunc), 1, 8) := by kernel_rfl
theorem sz143 : sizeOfT Try.prog 143 = some 1 := by kernel_rfl
theorem ag143 : aggOf Try.prog 143 = some false := by kernel_rfl
theorem ze143 : zeroT Try.prog 143 = some (.tuple #[.slice none 0 0, .int .i64 0]) := by kernel_rfl
theorem nf143 : (Try.prog.info? 143).map (fun i => (i.zero, i.size, i.bytes)) = some (some (.tuple #[.slice none 0 0, .int .i64 0]), 1, 0) := by kernel_rfl
theorem sz150 : sizeOfT Try.prog 150 = some 1 := by kernel_rfl
theorem ag150 : aggOf Try.prog 150 = some false := by kernel_rfl
theorem ze150 : zeroT Try.prog 150 = some (.nilFunc) := by kernel_rfl
theorem nf150 : (Try.prog.info? 150).map (fun i => (i.zero, i.size, i.bytes)) = some (some (.nilFunc), 1, 8) := by kernel_rfl
theorem sz156 : sizeOfT Try.prog 156 = some 1 := by kernel_rfl
theorem ag156 : aggOf Try.prog 156 = some false := by kernel_rfl
theorem ze156 : zeroT Try.prog 156 = some (.map none) := by kernel_rfl
theorem nf156 : (Try.prog.info? 156).map (fun i => (i.zero, i.size, i.bytes)) = some (some (.map none), 1, 8) := by kernel_rfl
theorem sz161 : sizeOfT Try.prog 161 = some 1 := by kernel_rfl
theorem ag161 : aggOf Try.prog 161 = some false := by kernel_rfl
theorem ze161 : zeroT Try.prog 161 = some (.tuple #[.int .i64 0, .bool false]) := by kernel_rfl
theorem nf161 : (Try.prog.info? 161).map (fun i => (i.zero, i.size, i.bytes)) = some (some (.tuple #[.int .i64 0, .bool false]), 1, 0) := by kernel_rfl
theorem sz162 : sizeOfT Try.prog 162 = some 1 := by kernel_rfl
theorem ag162 : aggOf Try.prog 162 = some false := by kernel_rfl
theorem ze162 : zeroT Try.prog 162 = some (.int .u64 0) := by kernel_rfl
theorem nf162 : (Try.prog.info? 162).map (fun i => (i.zero, i.size, i.bytes)) = some (some (.int .u64 0), 1, 8) := by kernel_rfl
theorem sz163 : sizeOfT Try.prog 163 = some 1 := by kernel_rfl
theorem ag163 : aggOf Try.prog 163 = some false := by kernel_rfl
theorem ze163 : zeroT Try.prog 163 = some (.tuple #[.int .u64 0, .int .u64 0]) := by kernel_rfl
theorem nf163 : (Try.prog.info? 163).map (fun i => (i.zero, i.size, i.bytes)) = some (some (.tuple #[.int .u64 0, .int .u64 0]), 1, 0) := by kernel_rfl
theorem sz169 : sizeOfT Try.prog 169 = some 1 := by kernel_rfl
theorem ag169 : aggOf Try.prog 169 = some false := by kernel_rfl
theorem ze169 : zeroT Try.prog 169 = some (.map none) := by kernel_rfl
theorem nf169 : (Try.prog.info? 169).map (fun i => (i.zero, i.size, i.bytes)) = some (some (.map none), 1, 8) := by kernel_rfl
theorem sz171 : sizeOfT Try.prog 171 = some 2 := by kernel_rfl
theorem ag171 : aggOf Try.prog 171 = some true := by kernel_rfl
theorem ze171 : zeroT Try.prog 171 = some (.agg #[.int .i64 0, .int .i64 0]) := by kernel_rfl
theorem nf171 : (Try.prog.info? 171).map (fun i => (i.zero, i.size, i.bytes)) = some (some (.agg #[.int .i64 0, .int .i64 0]), 2, 16) := by kernel_rfl
theorem pl171 {fs : List Field} (h : Try.prog.underlying 171 = some (.struct fs.toArray)) : placesD Try.prog fs = some [(0, 1), (1, 1)] := by
  rw [Try.underlying171] at h
  simp only [Option.some.injEq, TypeDesc.struct.injEq] at h
  have h2 := congrArg Array.toList h
  simp only [List.toList_toArray] at h2
  subst h2
  simp only [placesD, sz3]
theorem fd171_0 : FieldAt Try.prog 171 0 0 1 := ⟨_, _, Try.underlying171, rfl, rfl, by kernel_rfl, by kernel_rfl⟩
theorem fd171_1 : FieldAt Try.prog 171 1 1 1 := ⟨_, _, Try.underlying171, rfl, rfl, by kernel_rfl, by kernel_rfl⟩
theorem sz172 : sizeOfT Try.prog 172 = some 1 := by kernel_rfl
theorem ag172 : aggOf Try.prog 172 = some false := by kernel_rfl
theorem ze172 : zeroT Try.prog 172 = some (.int .u32 0) := by kernel_rfl
theorem nf172 : (Try.prog.info? 172).map (fun i => (i.zero, i.size, i.bytes)) = some (some (.int .u32 0), 1, 4) := by kernel_rfl
theorem sz173 : sizeOfT Try.prog 173 = some 1 := by kernel_rfl
theorem ag173 : aggOf Try.prog 173 = some false := by kernel_rfl
theorem ze173 : zeroT Try.prog 173 = some (.tuple #[.int .u32 0, .int .u32 0]) := by kernel_rfl
theorem nf173 : (Try.prog.info? 173).map (fun i => (i.zero, i.size, i.bytes)) = some (some (.tuple #[.int .u32 0, .int .u32 0]), 1, 0) := by kernel_rfl
theorem sz175 : sizeOfT Try.prog 175 = some 1 := by kernel_rfl
theorem ag175 : aggOf Try.prog 175 = some false := by kernel_rfl
theorem ze175 : zeroT Try.prog 175 = some (.int .u64 0) := by kernel_rfl
theorem nf175 : (Try.prog.info? 175).map (fun i => (i.zero, i.size, i.bytes)) = some (some (.int .u64 0), 1, 8) := by kernel_rfl
theorem sz176 : sizeOfT Try.prog 176 = some 1 := by kernel_rfl
theorem ag176 : aggOf Try.prog 176 = some false := by kernel_rfl
theorem ze176 : zeroT Try.prog 176 = some (.tuple #[.int .u64 0, .int .u64 0]) := by kernel_rfl
theorem nf176 : (Try.prog.info? 176).map (fun i => (i.zero, i.size, i.bytes)) = some (some (.tuple #[.int .u64 0, .int .u64 0]), 1, 0) := by kernel_rfl
instance : TyI Try.prog 0 false 1 := ⟨ag0, sz0⟩
instance : TyZ Try.prog 0 (.tuple #[]) := ⟨ze0⟩
instance : TyIn Try.prog 0 (.tuple #[]) 1 0 := ⟨nf0⟩
instance : TyI Try.prog 3 false 1 := ⟨ag3, sz3⟩
instance : TyZ Try.prog 3 (.int .i64 0) := ⟨ze3⟩
instance : TyIn Try.prog 3 (.int .i64 0) 1 8 := ⟨nf3⟩
instance : TyInt Try.prog 3 .i64 := ⟨by kernel_rfl⟩
instance : TyI Try.prog 4 false 1 := ⟨ag4, sz4⟩
instance : TyZ Try.prog 4 (.bool false) := ⟨ze4⟩
instance : TyIn Try.prog 4 (.bool false) 1 1 := ⟨nf4⟩
instance : TyBo Try.prog 4 := ⟨un4⟩
instance : TyI Try.prog 5 false 1 := ⟨ag5, sz5⟩
instance : TyZ Try.prog 5 (.int .u8 0) := ⟨ze5⟩
instance : TyIn Try.prog 5 (.int .u8 0) 1 1 := ⟨nf5⟩
instance : TyInt Try.prog 5 .u8 := ⟨by kernel_rfl⟩
instance : TyI Try.prog 20 false 1 := ⟨ag20, sz20⟩
instance : TyZ Try.prog 20 (.nilIface) := ⟨ze20⟩
instance : TyIn Try.prog 20 (.nilIface) 1 16 := ⟨nf20⟩
instance : TyI Try.prog 22 false 1 := ⟨ag22, sz22⟩
instance : TyZ Try.prog 22 (.slice none 0 0) := ⟨ze22⟩
instance : TyIn Try.prog 22 (.slice none 0 0) 1 24 := ⟨nf22⟩
instance : TySl Try.prog 22 3 := ⟨un22⟩
instance : TyI Try.prog 23 false 1 := ⟨ag23, sz23⟩
instance : TyZ Try.prog 23 (.slice none 0 0) := ⟨ze23⟩
instance : TyIn Try.prog 23 (.slice none 0 0) 1 24 := ⟨nf23⟩
instance : TySl Try.prog 23 4 := ⟨un23⟩
instance : TyI Try.prog 24 false 1 := ⟨ag24, sz24⟩
instance : TyZ Try.prog 24 (.slice none 0 0) := ⟨ze24⟩
instance : TyIn Try.prog 24 (.slice none 0 0) 1 24 := ⟨nf24⟩
instance : TySl Try.prog 24 22 := ⟨un24⟩
instance : TyI Try.prog 26 true 3 := ⟨ag26, sz26⟩
instance : TyZ Try.prog 26 (.agg #[.slice none 0 0, .slice none 0 0, .slice none 0 0]) := ⟨ze26⟩
instance : TyIn Try.prog 26 (.agg #[.slice none 0 0, .slice none 0 0, .slice none 0 0]) 3 72 := ⟨nf26⟩
instance : TyPl Try.prog 26 [(0, 1), (1, 1), (2, 1)] := ⟨_, Try.underlying26, pl26 Try.underlying26⟩
instance : TyFd Try.prog 26 0 0 1 := ⟨fd26_0⟩
instance : TyFd Try.prog 26 1 1 1 := ⟨fd26_1⟩
instance : TyFd Try.prog 26 2 2 1 := ⟨fd26_2⟩
instance : TyI Try.prog 29 false 1 := ⟨ag29, sz29⟩
instance : TyZ Try.prog 29 (.pointer none) := ⟨ze29⟩
instance : TyIn Try.prog 29 (.pointer none) 1 8 := ⟨nf29⟩
instance : TyI Try.prog 30 false 1 := ⟨ag30, sz30⟩
instance : TyZ Try.prog 30 (.int .i64 0) := ⟨ze30⟩
instance : TyIn Try.prog 30 (.int .i64 0) 1 8 := ⟨nf30⟩
instance : TyInt Try.prog 30 .i64 := ⟨by kernel_rfl⟩
instance : TyI Try.prog 31 false 1 := ⟨ag31, sz31⟩
instance : TyZ Try.prog 31 (.tuple #[.pointer none, .int .i64 0]) := ⟨ze31⟩
instance : TyIn Try.prog 31 (.tuple #[.pointer none, .int .i64 0]) 1 0 := ⟨nf31⟩
instance : TyI Try.prog 33 false 1 := ⟨ag33, sz33⟩
instance : TyZ Try.prog 33 (.slice none 0 0) := ⟨ze33⟩
instance : TyIn Try.prog 33 (.slice none 0 0) 1 24 := ⟨nf33⟩
instance : TySl Try.prog 33 3 := ⟨un33⟩
instance : TyI Try.prog 35 true 3 := ⟨ag35, sz35⟩
instance : TyZ Try.prog 35 (.agg #[.slice none 0 0, .slice none 0 0, .slice none 0 0]) := ⟨ze35⟩
instance : TyIn Try.prog 35 (.agg #[.slice none 0 0, .slice none 0 0, .slice none 0 0]) 3 72 := ⟨nf35⟩
instance : TyPl Try.prog 35 [(0, 1), (1, 1), (2, 1)] := ⟨_, Try.underlying35, pl35 Try.underlying35⟩
instance : TyFd Try.prog 35 0 0 1 := ⟨fd35_0⟩
instance : TyFd Try.prog 35 1 1 1 := ⟨fd35_1⟩
instance : TyFd Try.prog 35 2 2 1 := ⟨fd35_2⟩
instance : TyI Try.prog 40 false 1 := ⟨ag40, sz40⟩
instance : TyZ Try.prog 40 (.tuple #[.int .i64 0, .int .i64 0]) := ⟨ze40⟩
instance : TyIn Try.prog 40 (.tuple #[.int .i64 0, .int .i64 0]) 1 0 := ⟨nf40⟩
instance : TyI Try.prog 42 false 1 := ⟨ag42, sz42⟩
instance : TyZ Try.prog 42 (.slice none 0 0) := ⟨ze42⟩
instance : TyIn Try.prog 42 (.slice none 0 0) 1 24 := ⟨nf42⟩
instance : TySl Try.prog 42 50 := ⟨un42⟩
instance : TyI Try.prog 43 false 1 := ⟨ag43, sz43⟩
instance : TyZ Try.prog 43 (.tuple #[.slice none 0 0, .bool false, .int .i64 0]) := ⟨ze43⟩
instance : TyIn Try.prog 43 (.tuple #[.slice none 0 0, .bool false, .int .i64 0]) 1 0 := ⟨nf43⟩
instance : TyI Try.prog 45 false 1 := ⟨ag45, sz45⟩
instance : TyZ Try.prog 45 (.slice none 0 0) := ⟨ze45⟩
instance : TyIn Try.prog 45 (.slice none 0 0) 1 24 := ⟨nf45⟩
instance : TySl Try.prog 45 52 := ⟨un45⟩
instance : TyI Try.prog 46 false 1 := ⟨ag46, sz46⟩
instance : TyZ Try.prog 46 (.tuple #[.slice none 0 0, .bool false]) := ⟨ze46⟩
instance : TyIn Try.prog 46 (.tuple #[.slice none 0 0, .bool false]) 1 0 := ⟨nf46⟩
instance : TyI Try.prog 48 false 1 := ⟨ag48, sz48⟩
instance : TyZ Try.prog 48 (.nilFunc) := ⟨ze48⟩
instance : TyIn Try.prog 48 (.nilFunc) 1 8 := ⟨nf48⟩
instance : TyI Try.prog 50 true 3 := ⟨ag50, sz50⟩
instance : TyZ Try.prog 50 (.agg #[.int .i64 0, .int .i64 0, .int .i64 0]) := ⟨ze50⟩
instance : TyIn Try.prog 50 (.agg #[.int .i64 0, .int .i64 0, .int .i64 0]) 3 24 := ⟨nf50⟩
instance : TyPl Try.prog 50 [(0, 1), (1, 1), (2, 1)] := ⟨_, Try.underlying50, pl50 Try.underlying50⟩
instance : TyFd Try.prog 50 0 0 1 := ⟨fd50_0⟩
instance : TyFd Try.prog 50 1 1 1 := ⟨fd50_1⟩
instance : TyFd Try.prog 50 2 2 1 := ⟨fd50_2⟩
instance : TyI Try.prog 52 true 3 := ⟨ag52, sz52⟩
instance : TyZ Try.prog 52 (.agg #[.int .i64 0, .int .i64 0, .int .i64 0]) := ⟨ze52⟩
instance : TyIn Try.prog 52 (.agg #[.int .i64 0, .int .i64 0, .int .i64 0]) 3 24 := ⟨nf52⟩
instance : TyPl Try.prog 52 [(0, 1), (1, 1), (2, 1)] := ⟨_, Try.underlying52, pl52 Try.underlying52⟩
instance : TyFd Try.prog 52 0 0 1 := ⟨fd52_0⟩
instance : TyFd Try.prog 52 1 1 1 := ⟨fd52_1⟩
instance : TyFd Try.prog 52 2 2 1 := ⟨fd52_2⟩
instance : TyI Try.prog 55 false 1 := ⟨ag55, sz55⟩
instance : TyZ Try.prog 55 (.tuple #[.agg #[.slice none 0 0, .slice none 0 0, .slice none 0 0], .slice none 0 0, .int .i64 0]) := ⟨ze55⟩
instance : TyIn Try.prog 55 (.tuple #[.agg #[.slice none 0 0, .slice none 0 0, .slice none 0 0], .slice none 0 0, .int .i64 0]) 1 0 := ⟨nf55⟩
instance : TyI Try.prog 58 false 1 := ⟨ag58, sz58⟩
instance : TyZ Try.prog 58 (.tuple #[.agg #[.slice none 0 0, .slice none 0 0, .slice none 0 0], .slice none 0 0]) := ⟨ze58⟩
instance : TyIn Try.prog 58 (.tuple #[.agg #[.slice none 0 0, .slice none 0 0, .slice none 0 0], .slice none 0 0]) 1 0 := ⟨nf58⟩
instance : TyI Try.prog 62 false 1 := ⟨ag62, sz62⟩
instance : TyZ Try.prog 62 (.nilFunc) := ⟨ze62⟩
instance : TyIn Try.prog 62 (.nilFunc) 1 8 := ⟨nf62⟩
instance : TyI Try.prog 63 false 1 := ⟨ag63, sz63⟩
instance : TyZ Try.prog 63 (.tuple #[.bool false, .int .i64 0]) := ⟨ze63⟩
instance : TyIn Try.prog 63 (.tuple #[.bool false, .int .i64 0]) 1 0 := ⟨nf63⟩
instance : TyI Try.prog 65 false 1 := ⟨ag65, sz65⟩
instance : TyZ Try.prog 65 (.tuple #[.bool false, .int .i64 0]) := ⟨ze65⟩
instance : TyIn Try.prog 65 (.tuple #[.bool false, .int .i64 0]) 1 0 := ⟨nf65⟩
instance : TyI Try.prog 68 false 1 := ⟨ag68, sz68⟩
instance : TyZ Try.prog 68 (.tuple #[.agg #[.slice none 0 0, .slice none 0 0, .slice none 0 0], .int .i64 0]) := ⟨ze68⟩
instance : TyIn Try.prog 68 (.tuple #[.agg #[.slice none 0 0, .slice none 0 0, .slice none 0 0], .int .i64 0]) 1 0 := ⟨nf68⟩
instance : TyI Try.prog 72 false 1 := ⟨ag72, sz72⟩
instance : TyZ Try.prog 72 (.slice none 0 0) := ⟨ze72⟩
instance : TyIn Try.prog 72 (.slice none 0 0) 1 24 := ⟨nf72⟩
instance : TySl Try.prog 72 74 := ⟨un72⟩
instance : TyI Try.prog 74 true 2 := ⟨ag74, sz74⟩
instance : TyZ Try.prog 74 (.agg #[.int .i64 0, .slice none 0 0]) := ⟨ze74⟩
instance : TyIn Try.prog 74 (.agg #[.int .i64 0, .slice none 0 0]) 2 32 := ⟨nf74⟩
instance : TyPl Try.prog 74 [(0, 1), (1, 1)] := ⟨_, Try.underlying74, pl74 Try.underlying74⟩
instance : TyFd Try.prog 74 0 0 1 := ⟨fd74_0⟩
instance : TyFd Try.prog 74 1 1 1 := ⟨fd74_1⟩
instance : TyI Try.prog 76 false 1 := ⟨ag76, sz76⟩
instance : TyZ Try.prog 76 (.slice none 0 0) := ⟨ze76⟩
instance : TyIn Try.prog 76 (.slice none 0 0) 1 24 := ⟨nf76⟩
instance : TySl Try.prog 76 78 := ⟨un76⟩
instance : TyI Try.prog 78 true 2 := ⟨ag78, sz78⟩
instance : TyZ Try.prog 78 (.agg #[.int .i64 0, .slice none 0 0]) := ⟨ze78⟩
instance : TyIn Try.prog 78 (.agg #[.int .i64 0, .slice none 0 0]) 2 32 := ⟨nf78⟩
instance : TyPl Try.prog 78 [(0, 1), (1, 1)] := ⟨_, Try.underlying78, pl78 Try.underlying78⟩
instance : TyFd Try.prog 78 0 0 1 := ⟨fd78_0⟩
instance : TyFd Try.prog 78 1 1 1 := ⟨fd78_1⟩
instance : TyI Try.prog 84 false 1 := ⟨ag84, sz84⟩
instance : TyZ Try.prog 84 (.tuple #[.slice none 0 0, .slice none 0 0, .int .i64 0]) := ⟨ze84⟩
instance : TyIn Try.prog 84 (.tuple #[.slice none 0 0, .slice none 0 0, .int .i64 0]) 1 0 := ⟨nf84⟩
instance : TyI Try.prog 86 false 1 := ⟨ag86, sz86⟩
instance : TyZ Try.prog 86 (.tuple #[.slice none 0 0, .slice none 0 0]) := ⟨ze86⟩
instance : TyIn Try.prog 86 (.tuple #[.slice none 0 0, .slice none 0 0]) 1 0 := ⟨nf86⟩
instance : TyI Try.prog 96 true 1 := ⟨ag96, sz96⟩
instance : TyZ Try.prog 96 (.agg #[.slice none 0 0]) := ⟨ze96⟩
instance : TyIn Try.prog 96 (.agg #[.slice none 0 0]) 1 24 := ⟨nf96⟩
instance : TyPl Try.prog 96 [(0, 1)] := ⟨_, Try.underlying96, pl96 Try.underlying96⟩
instance : TyFd Try.prog 96 0 0 1 := ⟨fd96_0⟩
instance : TyI Try.prog 97 false 1 := ⟨ag97, sz97⟩
instance : TyZ Try.prog 97 (.nilFunc) := ⟨ze97⟩
instance : TyIn Try.prog 97 (.nilFunc) 1 8 := ⟨nf97⟩
instance : TyI Try.prog 98 false 1 := ⟨ag98, sz98⟩
instance : TyZ Try.prog 98 (.nilFunc) := ⟨ze98⟩
instance : TyIn Try.prog 98 (.nilFunc) 1 8 := ⟨nf98⟩
instance : TyI Try.prog 101 true 2 := ⟨ag101, sz101⟩
instance : TyZ Try.prog 101 (.agg #[.int .i64 0, .int .i64 0]) := ⟨ze101⟩
instance : TyIn Try.prog 101 (.agg #[.int .i64 0, .int .i64 0]) 2 16 := ⟨nf101⟩
instance : TyPl Try.prog 101 [(0, 1), (1, 1)] := ⟨_, Try.underlying101, pl101 Try.underlying101⟩
instance : TyFd Try.prog 101 0 0 1 := ⟨fd101_0⟩
instance : TyFd Try.prog 101 1 1 1 := ⟨fd101_1⟩
instance : TyI Try.prog 102 false 1 := ⟨ag102, sz102⟩
instance : TyZ Try.prog 102 (.map none) := ⟨ze102⟩
instance : TyIn Try.prog 102 (.map none) 1 8 := ⟨nf102⟩
instance : TyMap Try.prog 102 101 4 := ⟨by kernel_rfl⟩
instance : TyI Try.prog 104 true 3 := ⟨ag104, sz104⟩
instance : TyZ Try.prog 104 (.agg #[.int .i64 0, .int .i64 0, .slice none 0 0]) := ⟨ze104⟩
instance : TyIn Try.prog 104 (.agg #[.int .i64 0, .int .i64 0, .slice none 0 0]) 3 40 := ⟨nf104⟩
instance : TyPl Try.prog 104 [(0, 2), (2, 1)] := ⟨_, Try.underlying104, pl104 Try.underlying104⟩
instance : TyFd Try.prog 104 0 0 2 := ⟨fd104_0⟩
instance : TyFd Try.prog 104 1 2 1 := ⟨fd104_1⟩
instance : TyI Try.prog 105 false 1 := ⟨ag105, sz105⟩
instance : TyZ Try.prog 105 (.slice none 0 0) := ⟨ze105⟩
instance : TyIn Try.prog 105 (.slice none 0 0) 1 24 := ⟨nf105⟩
instance : TySl Try.prog 105 104 := ⟨un105⟩
instance : TyI Try.prog 109 false 1 := ⟨ag109, sz109⟩
instance : TyZ Try.prog 109 (.tuple #[.int .i64 0, .int .i64 0]) := ⟨ze109⟩
instance : TyIn Try.prog 109 (.tuple #[.int .i64 0, .int .i64 0]) 1 0 := ⟨nf109⟩
instance : TyI Try.prog 111 false 1 := ⟨ag111, sz111⟩
instance : TyZ Try.prog 111 (.tuple #[.agg #[.slice none 0 0, .slice none 0 0, .slice none 0 0], .slice none 0 0]) := ⟨ze111⟩
instance : TyIn Try.prog 111 (.tuple #[.agg #[.slice none 0 0, .slice none 0 0, .slice none 0 0], .slice none 0 0]) 1 0 := ⟨nf111⟩
instance : TyI Try.prog 113 false 1 := ⟨ag113, sz113⟩
instance : TyZ Try.prog 113 (.tuple #[.agg #[.slice none 0 0, .slice none 0 0, .slice none 0 0], .int .i64 0]) := ⟨ze113⟩
instance : TyIn Try.prog 113 (.tuple #[.agg #[.slice none 0 0, .slice none 0 0, .slice none 0 0], .int .i64 0]) 1 0 := ⟨nf113⟩
instance : TyI Try.prog 115 false 1 := ⟨ag115, sz115⟩
instance : TyZ Try.prog 115 (.slice none 0 0) := ⟨ze115⟩
instance : TyIn Try.prog 115 (.slice none 0 0) 1 24 := ⟨nf115⟩
instance : TySl Try.prog 115 35 := ⟨un115⟩
instance : TyI Try.prog 124 false 1 := ⟨ag124, sz124⟩
instance : TyZ Try.prog 124 (.nilFunc) := ⟨ze124⟩
instance : TyIn Try.prog 124 (.nilFunc) 1 8 := ⟨nf124⟩
instance : TyI Try.prog 132 false 1 := ⟨ag132, sz132⟩
instance : TyZ Try.prog 132 (.nilFunc) := ⟨ze132⟩
instance : TyIn Try.prog 132 (.nilFunc) 1 8 := ⟨nf132⟩
instance : TyI Try.prog 134 false 1 := ⟨ag134, sz134⟩
instance : TyZ Try.prog 134 (.nilFunc) := ⟨ze134⟩
instance : TyIn Try.prog 134 (.nilFunc) 1 8 := ⟨nf134⟩
instance : TyI Try.prog 143 false 1 := ⟨ag143, sz143⟩
instance : TyZ Try.prog 143 (.tuple #[.slice none 0 0, .int .i64 0]) := ⟨ze143⟩
instance : TyIn Try.prog 143 (.tuple #[.slice none 0 0, .int .i64 0]) 1 0 := ⟨nf143⟩
instance : TyI Try.prog 150 false 1 := ⟨ag150, sz150⟩
instance : TyZ Try.prog 150 (.nilFunc) := ⟨ze150⟩
instance : TyIn Try.prog 150 (.nilFunc) 1 8 := ⟨nf150⟩
instance : TyI Try.prog 156 false 1 := ⟨ag156, sz156⟩
instance : TyZ Try.prog 156 (.map none) := ⟨ze156⟩
instance : TyIn Try.prog 156 (.map none) 1 8 := ⟨nf156⟩
instance : TyMap Try.prog 156 3 3 := ⟨by kernel_rfl⟩
instance : TyI Try.prog 161 false 1 := ⟨ag161, sz161⟩
instance : TyZ Try.prog 161 (.tuple #[.int .i64 0, .bool false]) := ⟨ze161⟩
instance : TyIn Try.prog 161 (.tuple #[.int .i64 0, .bool false]) 1 0 := ⟨nf161⟩
instance : TyI Try.prog 162 false 1 := ⟨ag162, sz162⟩
instance : TyZ Try.prog 162 (.int .u64 0) := ⟨ze162⟩
instance : TyIn Try.prog 162 (.int .u64 0) 1 8 := ⟨nf162⟩
instance : TyInt Try.prog 162 .u64 := ⟨by kernel_rfl⟩
instance : TyI Try.prog 163 false 1 := ⟨ag163, sz163⟩
instance : TyZ Try.prog 163 (.tuple #[.int .u64 0, .int .u64 0]) := ⟨ze163⟩
instance : TyIn Try.prog 163 (.tuple #[.int .u64 0, .int .u64 0]) 1 0 := ⟨nf163⟩
instance : TyI Try.prog 169 false 1 := ⟨ag169, sz169⟩
instance : TyZ Try.prog 169 (.map none) := ⟨ze169⟩
instance : TyIn Try.prog 169 (.map none) 1 8 := ⟨nf169⟩
instance : TyMap Try.prog 169 171 3 := ⟨by kernel_rfl⟩
instance : TyI Try.prog 171 true 2 := ⟨ag171, sz171⟩
instance : TyZ Try.prog 171 (.agg #[.int .i64 0, .int .i64 0]) := ⟨ze171⟩
instance : TyIn Try.prog 171 (.agg #[.int .i64 0, .int .i64 0]) 2 16 := ⟨nf171⟩
instance : TyPl Try.prog 171 [(0, 1), (1, 1)] := ⟨_, Try.underlying171, pl171 Try.underlying171⟩
instance : TyFd Try.prog 171 0 0 1 := ⟨fd171_0⟩
instance : TyFd Try.prog 171 1 1 1 := ⟨fd171_1⟩
instance : TyI Try.prog 172 false 1 := ⟨ag172, sz172⟩
instance : TyZ Try.prog 172 (.int .u32 0) := ⟨ze172⟩
instance : TyIn Try.prog 172 (.int .u32 0) 1 4 := ⟨nf172⟩
instance : TyInt Try.prog 172 .u32 := ⟨by kernel_rfl⟩
instance : TyI Try.prog 173 false 1 := ⟨ag173, sz173⟩
instance : TyZ Try.prog 173 (.tuple #[.int .u32 0, .int .u32 0]) := ⟨ze173⟩
instance : TyIn Try.prog 173 (.tuple #[.int .u32 0, .int .u32 0]) 1 0 := ⟨nf173⟩
instance : TyI Try.prog 175 false 1 := ⟨ag175, sz175⟩
instance : TyZ Try.prog 175 (.int .u64 0) := ⟨ze175⟩
instance : TyIn Try.prog 175 (.int .u64 0) 1 8 := ⟨nf175⟩
instance : TyInt Try.prog 175 .u64 := ⟨by kernel_rfl⟩
instance : TyI Try.prog 176 false 1 := ⟨ag176, sz176⟩
instance : TyZ Try.prog 176 (.tuple #[.int .u64 0, .int .u64 0]) := ⟨ze176⟩
instance : TyIn Try.prog 176 (.tuple #[.int .u64 0, .int .u64 0]) 1 0 := ⟨nf176⟩
theorem ent3 : Enters Try.prog 3 := fun args w => by go_simp
instance : EntC Try.prog 3 := ⟨ent3⟩
theorem ent4 : Enters Try.prog 4 := fun args w => by go_simp
instance : EntC Try.prog 4 := ⟨ent4⟩
theorem ent5 : Enters Try.prog 5 := fun args w => by go_simp
instance : EntC Try.prog 5 := ⟨ent5⟩
theorem ent6 : Enters Try.prog 6 := fun args w => by go_simp
instance : EntC Try.prog 6 := ⟨ent6⟩
theorem ent7 : Enters Try.prog 7 := fun args w => by go_simp
instance : EntC Try.prog 7 := ⟨ent7⟩
theorem ent8 : Enters Try.prog 8 := fun args w => by go_simp
instance : EntC Try.prog 8 := ⟨ent8⟩
theorem ent9 : Enters Try.prog 9 := fun args w => by go_simp
instance : EntC Try.prog 9 := ⟨ent9⟩
theorem ent10 : Enters Try.prog 10 := fun args w => by go_simp
instance : EntC Try.prog 10 := ⟨ent10⟩
theorem ent11 : Enters Try.prog 11 := fun args w => by go_simp
instance : EntC Try.prog 11 := ⟨ent11⟩
theorem ent12 : Enters Try.prog 12 := fun args w => by go_simp
instance : EntC Try.prog 12 := ⟨ent12⟩
theorem ent13 : Enters Try.prog 13 := fun args w => by go_simp
instance : EntC Try.prog 13 := ⟨ent13⟩
theorem ent14 : Enters Try.prog 14 := fun args w => by go_simp
instance : EntC Try.prog 14 := ⟨ent14⟩
theorem ent15 : Enters Try.prog 15 := fun args w => by go_simp
instance : EntC Try.prog 15 := ⟨ent15⟩
theorem ent16 : Enters Try.prog 16 := fun args w => by go_simp
instance : EntC Try.prog 16 := ⟨ent16⟩
theorem ent17 : Enters Try.prog 17 := fun args w => by go_simp
instance : EntC Try.prog 17 := ⟨ent17⟩
theorem ent18 : Enters Try.prog 18 := fun args w => by go_simp
instance : EntC Try.prog 18 := ⟨ent18⟩
theorem ent19 : Enters Try.prog 19 := fun args w => by go_simp
instance : EntC Try.prog 19 := ⟨ent19⟩
theorem ent20 : Enters Try.prog 20 := fun args w => by go_simp
instance : EntC Try.prog 20 := ⟨ent20⟩
theorem ent21 : Enters Try.prog 21 := fun args w => by go_simp
instance : EntC Try.prog 21 := ⟨ent21⟩
theorem ent22 : Enters Try.prog 22 := fun args w => by go_simp
instance : EntC Try.prog 22 := ⟨ent22⟩
theorem ent23 : Enters Try.prog 23 := fun args w => by go_simp
instance : EntC Try.prog 23 := ⟨ent23⟩
theorem ent24 : Enters Try.prog 24 := fun args w => by go_simp
instance : EntC Try.prog 24 := ⟨ent24⟩
theorem ent25 : Enters Try.prog 25 := fun args w => by go_simp
instance : EntC Try.prog 25 := ⟨ent25⟩
theorem ent26 : Enters Try.prog 26 := fun args w => by go_simp
instance : EntC Try.prog 26 := ⟨ent26⟩
theorem ent27 : Enters Try.prog 27 := fun args w => by go_simp
instance : EntC Try.prog 27 := ⟨ent27⟩
theorem ent28 : Enters Try.prog 28 := fun args w => by go_simp
instance : EntC Try.prog 28 := ⟨ent28⟩
theorem ent29 : Enters Try.prog 29 := fun args w => by go_simp
instance : EntC Try.prog 29 := ⟨ent29⟩
theorem ent30 : Enters Try.prog 30 := fun args w => by go_simp
instance : EntC Try.prog 30 := ⟨ent30⟩
theorem ent31 : Enters Try.prog 31 := fun args w => by go_simp
instance : EntC Try.prog 31 := ⟨ent31⟩
theorem ent32 : Enters Try.prog 32 := fun args w => by go_simp
instance : EntC Try.prog 32 := ⟨ent32⟩
theorem ent33 : Enters Try.prog 33 := fun args w => by go_simp
instance : EntC Try.prog 33 := ⟨ent33⟩
theorem ent34 : Enters Try.prog 34 := fun args w => by go_simp
instance : EntC Try.prog 34 := ⟨ent34⟩
theorem ent35 : Enters Try.prog 35 := fun args w => by go_simp
instance : EntC Try.prog 35 := ⟨ent35⟩
theorem ent36 : Enters Try.prog 36 := fun args w => by go_simp
instance : EntC Try.prog 36 := ⟨ent36⟩
theorem ent37 : Enters Try.prog 37 := fun args w => by go_simp
instance : EntC Try.prog 37 := ⟨ent37⟩
theorem ent38 : Enters Try.prog 38 := fun args w => by go_simp
instance : EntC Try.prog 38 := ⟨ent38⟩
theorem ent39 : Enters Try.prog 39 := fun args w => by go_simp
instance : EntC Try.prog 39 := ⟨ent39⟩
theorem ent40 : Enters Try.prog 40 := fun args w => by go_simp
instance : EntC Try.prog 40 := ⟨ent40⟩
theorem ent41 : Enters Try.prog 41 := fun args w => by go_simp
instance : EntC Try.prog 41 := ⟨ent41⟩
theorem ent42 : Enters Try.prog 42 := fun args w => by go_simp
instance : EntC Try.prog 42 := ⟨ent42⟩
theorem ent43 : Enters Try.prog 43 := fun args w => by go_simp
instance : EntC Try.prog 43 := ⟨ent43⟩
theorem ent44 : Enters Try.prog 44 := fun args w => by go_simp
instance : EntC Try.prog 44 := ⟨ent44⟩
theorem ent45 : Enters Try.prog 45 := fun args w => by go_simp
instance : EntC Try.prog 45 := ⟨ent45⟩
theorem ent46 : Enters Try.prog 46 := fun args w => by go_simp
instance : EntC Try.prog 46 := ⟨ent46⟩
theorem ent47 : Enters Try.prog 47 := fun args w => by go_simp
instance : EntC Try.prog 47 := ⟨ent47⟩
theorem ent48 : Enters Try.prog 48 := fun args w => by go_simp
instance : EntC Try.prog 48 := ⟨ent48⟩
theorem ent49 : Enters Try.prog 49 := fun args w => by go_simp
instance : EntC Try.prog 49 := ⟨ent49⟩
theorem ent50 : Enters Try.prog 50 := fun args w => by go_simp
instance : EntC Try.prog 50 := ⟨ent50⟩
theorem ent51 : Enters Try.prog 51 := fun args w => by go_simp
instance : EntC Try.prog 51 := ⟨ent51⟩
theorem ent52 : Enters Try.prog 52 := fun args w => by go_simp
instance : EntC Try.prog 52 := ⟨ent52⟩
theorem ent53 : Enters Try.prog 53 := fun args w => by go_simp
instance : EntC Try.prog 53 := ⟨ent53⟩
theorem ent54 : Enters Try.prog 54 := fun args w => by go_simp
instance : EntC Try.prog 54 := ⟨ent54⟩
theorem ent55 : Enters Try.prog 55 := fun args w => by go_simp
instance : EntC Try.prog 55 := ⟨ent55⟩
theorem ent56 : Enters Try.prog 56 := fun args w => by go_simp
instance : EntC Try.prog 56 := ⟨ent56⟩
theorem ent57 : Enters Try.prog 57 := fun args w => by go_simp
instance : EntC Try.prog 57 := ⟨ent57⟩
theorem ent58 : Enters Try.prog 58 := fun args w => by go_simp
instance : EntC Try.prog 58 := ⟨ent58⟩
theorem ent59 : Enters Try.prog 59 := fun args w => by go_simp
instance : EntC Try.prog 59 := ⟨ent59⟩
theorem ent60 : Enters Try.prog 60 := fun args w => by go_simp
instance : EntC Try.prog 60 := ⟨ent60⟩
theorem ent61 : Enters Try.prog 61 := fun args w => by go_simp
instance : EntC Try.prog 61 := ⟨ent61⟩
theorem ent62 : Enters Try.prog 62 := fun args w => by go_simp
instance : EntC Try.prog 62 := ⟨ent62⟩
theorem ent63 : Enters Try.prog 63 := fun args w => by go_simp
instance : EntC Try.prog 63 := ⟨ent63⟩
theorem ent64 : Enters Try.prog 64 := fun args w => by go_simp
instance : EntC Try.prog 64 := ⟨ent64⟩
theorem ent65 : Enters Try.prog 65 := fun args w => by go_simp
instance : EntC Try.prog 65 := ⟨ent65⟩
theorem ent66 : Enters Try.prog 66 := fun args w => by go_simp
instance : EntC Try.prog 66 := ⟨ent66⟩
theorem ent67 : Enters Try.prog 67 := fun args w => by go_simp
instance : EntC Try.prog 67 := ⟨ent67⟩
theorem ent68 : Enters Try.prog 68 := fun args w => by go_simp
instance : EntC Try.prog 68 := ⟨ent68⟩
theorem ent69 : Enters Try.prog 69 := fun args w => by go_simp
instance : EntC Try.prog 69 := ⟨ent69⟩
theorem ent70 : Enters Try.prog 70 := fun args w => by go_simp
instance : EntC Try.prog 70 := ⟨ent70⟩
theorem ent71 : Enters Try.prog 71 := fun args w => by go_simp
instance : EntC Try.prog 71 := ⟨ent71⟩
theorem ent72 : Enters Try.prog 72 := fun args w => by go_simp
instance : EntC Try.prog 72 := ⟨ent72⟩
theorem ent73 : Enters Try.prog 73 := fun args w => by go_simp
instance : EntC Try.prog 73 := ⟨ent73⟩
theorem ent74 : Enters Try.prog 74 := fun args w => by go_simp
instance : EntC Try.prog 74 := ⟨ent74⟩
theorem ent75 : Enters Try.prog 75 := fun args w => by go_simp
instance : EntC Try.prog 75 := ⟨ent75⟩
theorem ent76 : Enters Try.prog 76 := fun args w => by go_simp
instance : EntC Try.prog 76 := ⟨ent76⟩
theorem ent77 : Enters Try.prog 77 := fun args w => by go_simp
instance : EntC Try.prog 77 := ⟨ent77⟩
theorem ent78 : Enters Try.prog 78 := fun args w => by go_simp
instance : EntC Try.prog 78 := ⟨ent78⟩
theorem ent79 : Enters Try.prog 79 := fun args w => by go_simp
instance : EntC Try.prog 79 := ⟨ent79⟩
theorem ent80 : Enters Try.prog 80 := fun args w => by go_simp
instance : EntC Try.prog 80 := ⟨ent80⟩
theorem ent81 : Enters Try.prog 81 := fun args w => by go_simp
instance : EntC Try.prog 81 := ⟨ent81⟩
theorem ent82 : Enters Try.prog 82 := fun args w => by go_simp
instance : EntC Try.prog 82 := ⟨ent82⟩
theorem ent83 : Enters Try.prog 83 := fun args w => by go_simp
instance : EntC Try.prog 83 := ⟨ent83⟩
theorem ent84 : Enters Try.prog 84 := fun args w => by go_simp
instance : EntC Try.prog 84 := ⟨ent84⟩
theorem ent86 : Enters Try.prog 86 := fun args w => by go_simp
instance : EntC Try.prog 86 := ⟨ent86⟩
theorem ent87 : Enters Try.prog 87 := fun args w => by go_simp
instance : EntC Try.prog 87 := ⟨ent87⟩
theorem ent88 : Enters Try.prog 88 := fun args w => by go_simp
instance : EntC Try.prog 88 := ⟨ent88⟩
theorem ent89 : Enters Try.prog 89 := fun args w => by go_simp
instance : EntC Try.prog 89 := ⟨ent89⟩
theorem ent90 : Enters Try.prog 90 := fun args w => by go_simp
instance : EntC Try.prog 90 := ⟨ent90⟩
theorem ent91 : Enters Try.prog 91 := fun args w => by go_simp
instance : EntC Try.prog 91 := ⟨ent91⟩
theorem ent92 : Enters Try.prog 92 := fun args w => by go_simp
instance : EntC Try.prog 92 := ⟨ent92⟩
theorem ent93 : Enters Try.prog 93 := fun args w => by go_simp
instance : EntC Try.prog 93 := ⟨ent93⟩
theorem ent94 : Enters Try.prog 94 := fun args w => by go_simp
instance : EntC Try.prog 94 := ⟨ent94⟩
theorem ent95 : Enters Try.prog 95 := fun args w => by go_simp
instance : EntC Try.prog 95 := ⟨ent95⟩
theorem ent96 : Enters Try.prog 96 := fun args w => by go_simp
instance : EntC Try.prog 96 := ⟨ent96⟩
theorem ent97 : Enters Try.prog 97 := fun args w => by go_simp
instance : EntC Try.prog 97 := ⟨ent97⟩
theorem ent98 : Enters Try.prog 98 := fun args w => by go_simp
instance : EntC Try.prog 98 := ⟨ent98⟩
theorem ent99 : Enters Try.prog 99 := fun args w => by go_simp
instance : EntC Try.prog 99 := ⟨ent99⟩
theorem ent100 : Enters Try.prog 100 := fun args w => by go_simp
instance : EntC Try.prog 100 := ⟨ent100⟩
theorem ent101 : Enters Try.prog 101 := fun args w => by go_simp
instance : EntC Try.prog 101 := ⟨ent101⟩
theorem ent102 : Enters Try.prog 102 := fun args w => by go_simp
instance : EntC Try.prog 102 := ⟨ent102⟩
theorem ent103 : Enters Try.prog 103 := fun args w => by go_simp
instance : EntC Try.prog 103 := ⟨ent103⟩
theorem ent104 : Enters Try.prog 104 := fun args w => by go_simp
instance : EntC Try.prog 104 := ⟨ent104⟩
theorem ent105 : Enters Try.prog 105 := fun args w => by go_simp
instance : EntC Try.prog 105 := ⟨ent105⟩
theorem ent106 : Enters Try.prog 106 := fun args w => by go_simp
instance : EntC Try.prog 106 := ⟨ent106⟩
theorem ent107 : Enters Try.prog 107 := fun args w => by go_simp
instance : EntC Try.prog 107 := ⟨ent107⟩
theorem ent108 : Enters Try.prog 108 := fun args w => by go_simp
instance : EntC Try.prog 108 := ⟨ent108⟩
theorem ent109 : Enters Try.prog 109 := fun args w => by go_simp
instance : EntC Try.prog 109 := ⟨ent109⟩
theorem ent110 : Enters Try.prog 110 := fun args w => by go_simp
instance : EntC Try.prog 110 := ⟨ent110⟩
theorem ent111 : Enters Try.prog 111 := fun args w => by go_simp
instance : EntC Try.prog 111 := ⟨ent111⟩
theorem ent112 : Enters Try.prog 112 := fun args w => by go_simp
instance : EntC Try.prog 112 := ⟨ent112⟩
theorem ent113 : Enters Try.prog 113 := fun args w => by go_simp
instance : EntC Try.prog 113 := ⟨ent113⟩
theorem ent114 : Enters Try.prog 114 := fun args w => by go_simp
instance : EntC Try.prog 114 := ⟨ent114⟩
theorem ent115 : Enters Try.prog 115 := fun args w => by go_simp
instance : EntC Try.prog 115 := ⟨ent115⟩
theorem ent116 : Enters Try.prog 116 := fun args w => by go_simp
instance : EntC Try.prog 116 := ⟨ent116⟩
theorem ent117 : Enters Try.prog 117 := fun args w => by go_simp
instance : EntC Try.prog 117 := ⟨ent117⟩
theorem ent118 : Enters Try.prog 118 := fun args w => by go_simp
instance : EntC Try.prog 118 := ⟨ent118⟩
theorem ent119 : Enters Try.prog 119 := fun args w => by go_simp
instance : EntC Try.prog 119 := ⟨ent119⟩
theorem ent120 : Enters Try.prog 120 := fun args w => by go_simp
instance : EntC Try.prog 120 := ⟨ent120⟩
theorem ent121 : Enters Try.prog 121 := fun args w => by go_simp
instance : EntC Try.prog 121 := ⟨ent121⟩
theorem ent122 : Enters Try.prog 122 := fun args w => by go_simp
instance : EntC Try.prog 122 := ⟨ent122⟩
theorem ent123 : Enters Try.prog 123 := fun args w => by go_simp
instance : EntC Try.prog 123 := ⟨ent123⟩
theorem ent124 : Enters Try.prog 124 := fun args w => by go_simp
instance : EntC Try.prog 124 := ⟨ent124⟩
theorem ent125 : Enters Try.prog 125 := fun args w => by go_simp
instance : EntC Try.prog 125 := ⟨ent125⟩
theorem ent126 : Enters Try.prog 126 := fun args w => by go_simp
instance : EntC Try.prog 126 := ⟨ent126⟩
theorem ent127 : Enters Try.prog 127 := fun args w => by go_simp
instance : EntC Try.prog 127 := ⟨ent127⟩
theorem ent128 : Enters Try.prog 128 := fun args w => by go_simp
instance : EntC Try.prog 128 := ⟨ent128⟩
theorem ent129 : Enters Try.prog 129 := fun args w => by go_simp
instance : EntC Try.prog 129 := ⟨ent129⟩
theorem ent130 : Enters Try.prog 130 := fun args w => by go_simp
instance : EntC Try.prog 130 := ⟨ent130⟩
theorem ent131 : Enters Try.prog 131 := fun args w => by go_simp
instance : EntC Try.prog 131 := ⟨ent131⟩
theorem ent132 : Enters Try.prog 132 := fun args w => by go_simp
instance : EntC Try.prog 132 := ⟨ent132⟩
theorem ent133 : Enters Try.prog 133 := fun args w => by go_simp
instance : EntC Try.prog 133 := ⟨ent133⟩
theorem ent134 : Enters Try.prog 134 := fun args w => by go_simp
instance : EntC Try.prog 134 := ⟨ent134⟩
theorem ent135 : Enters Try.prog 135 := fun args w => by go_simp
instance : EntC Try.prog 135 := ⟨ent135⟩
instance : TyPtr Try.prog 29 96 := ⟨by kernel_rfl⟩
end Go.Proofs.Ytichhfbkhnimmaa
