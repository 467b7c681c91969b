/- Facts on the types of the seat. No condition. -/
import Derived.Test.YtdakoccbmeojhaaMj
import Derived.Test.YtdakoccbmeojhaaProg
import Derived.Test.YtdakoccbmeojhaaPe
import Derived.Test.YtdakoccbmeojhaaPc
set_option linter.unusedSimpArgs false
set_option linter.unusedVariables false
namespace Go.Proofs.Ytdakoccbmeojhaa
open Go Go.RowKit Go.PP Go.Dm
theorem sz3 : sizeOfT Try.prog 3 = some 1 := by kernel_rfl
theorem ag3 : aggOf Try.prog 3 = some false := by kernel_rfl
theorem ze3 : zeroT Try.prog 3 = some (.int .i64 0) := by kernel_rfl
theorem nf3 : (Try.prog.info? 3).map (fun i => (i.zero, i.size, i.bytes)) = some (some (.int .i64 0), 1, 8) := by kernel_rfl
theorem sz4 : sizeOfT Try.prog 4 = some 1 := by kernel_rfl
theorem ag4 : aggOf Try.prog 4 = some false := by kernel_rfl
theorem ze4 : zeroT Try.prog 4 = some (.bool false) := by kernel_rfl
theorem nf4 : (Try.prog.info? 4).map (fun i => (i.zero, i.size, i.bytes)) = some (some (.bool false), 1, 1) := by kernel_rfl
theorem sz5 : sizeOfT Try.prog 5 = some 1 := by kernel_rfl
theorem ag5 : aggOf Try.prog 5 = some false := by kernel_rfl
theorem ze5 : zeroT Try.prog 5 = some (.int .u8 0) := by kernel_rfl
theorem nf5 : (Try.prog.info? 5).map (fun i => (i.zero, i.size, i.bytes)) = some (some (.int .u8 0), 1, 1) := by kernel_rfl
theorem sz9 : sizeOfT Try.prog 9 = some 1 := by kernel_rfl
theorem ag9 : aggOf Try.prog 9 = some false := by kernel_rfl
theorem ze9 : zeroT Try.prog 9 = some (.string ByteArray.empty) := by kernel_rfl
theorem nf9 : (Try.prog.info? 9).map (fun i => (i.zero, i.size, i.bytes)) = some (some (.string ByteArray.empty), 1, 16) := by kernel_rfl
theorem sz22 : sizeOfT Try.prog 22 = some 1 := by kernel_rfl
theorem ag22 : aggOf Try.prog 22 = some false := by kernel_rfl
theorem ze22 : zeroT Try.prog 22 = some (.slice none 0 0) := by kernel_rfl
theorem nf22 : (Try.prog.info? 22).map (fun i => (i.zero, i.size, i.bytes)) = some (some (.slice none 0 0), 1, 24) := by kernel_rfl
theorem un22 : Try.prog.underlying 22 = some (.slice 3) := by kernel_rfl
theorem sz23 : sizeOfT Try.prog 23 = some 1 := by kernel_rfl
theorem ag23 : aggOf Try.prog 23 = some false := by kernel_rfl
theorem ze23 : zeroT Try.prog 23 = some (.slice none 0 0) := by kernel_rfl
theorem nf23 : (Try.prog.info? 23).map (fun i => (i.zero, i.size, i.bytes)) = some (some (.slice none 0 0), 1, 24) := by kernel_rfl
theorem un23 : Try.prog.underlying 23 = some (.slice 4) := by kernel_rfl
theorem sz24 : sizeOfT Try.prog 24 = some 1 := by kernel_rfl
theorem ag24 : aggOf Try.prog 24 = some false := by kernel_rfl
theorem ze24 : zeroT Try.prog 24 = some (.slice none 0 0) := by kernel_rfl
theorem nf24 : (Try.prog.info? 24).map (fun i => (i.zero, i.size, i.bytes)) = some (some (.slice none 0 0), 1, 24) := by kernel_rfl
theorem un24 : Try.prog.underlying 24 = some (.slice 22) := by kernel_rfl
theorem sz26 : sizeOfT Try.prog 26 = some 3 := by kernel_rfl
theorem ag26 : aggOf Try.prog 26 = some true := by kernel_rfl
theorem ze26 : zeroT Try.prog 26 = some (.agg #[.slice none 0 0, .slice none 0 0, .slice none 0 0]) := by kernel_rfl
theorem nf26 : (Try.prog.info? 26).map (fun i => (i.zero, i.size, i.bytes)) = some (some (.agg #[.slice none 0 0, .slice none 0 0, .slice none 0 0]), 3, 72) := by kernel_rfl
theorem pl26 {fs : List Field} (h : Try.prog.underlying 26 = some (.struct fs.toArray)) : placesD Try.prog fs = some [(0, 1), (1, 1), (2, 1)] := by
  rw [Try.underlying26] at h
  simp only [Option.some.injEq, TypeDesc.struct.injEq] at h
  have h2 := congrArg Array.toList h
  simp only [List.toList_toArray] at h2
  subst h2
  simp only [placesD, sz22, sz23, sz24]
theorem fd26_0 : FieldAt Try.prog 26 0 0 1 := ⟨_, _, Try.underlying26, rfl, rfl, by kernel_rfl, by kernel_rfl⟩
theorem fd26_1 : FieldAt Try.prog 26 1 1 1 := ⟨_, _, Try.underlying26, rfl, rfl, by kernel_rfl, by kernel_rfl⟩
theorem fd26_2 : FieldAt Try.prog 26 2 2 1 := ⟨_, _, Try.underlying26, rfl, rfl, by kernel_rfl, by kernel_rfl⟩
theorem sz27 : sizeOfT Try.prog 27 = some 1 := by kernel_rfl
theorem ag27 : aggOf Try.prog 27 = some false := by kernel_rfl
theorem ze27 : zeroT Try.prog 27 = some (.slice none 0 0) := by kernel_rfl
theorem nf27 : (Try.prog.info? 27).map (fun i => (i.zero, i.size, i.bytes)) = some (some (.slice none 0 0), 1, 24) := by kernel_rfl
theorem un27 : Try.prog.underlying 27 = some (.slice 29) := by kernel_rfl
theorem sz29 : sizeOfT Try.prog 29 = some 2 := by kernel_rfl
theorem ag29 : aggOf Try.prog 29 = some true := by kernel_rfl
theorem ze29 : zeroT Try.prog 29 = some (.agg #[.int .i64 0, .slice none 0 0]) := by kernel_rfl
theorem nf29 : (Try.prog.info? 29).map (fun i => (i.zero, i.size, i.bytes)) = some (some (.agg #[.int .i64 0, .slice none 0 0]), 2, 32) := by kernel_rfl
theorem pl29 {fs : List Field} (h : Try.prog.underlying 29 = some (.struct fs.toArray)) : placesD Try.prog fs = some [(0, 1), (1, 1)] := by
  rw [Try.underlying29] at h
  simp only [Option.some.injEq, TypeDesc.struct.injEq] at h
  have h2 := congrArg Array.toList h
  simp only [List.toList_toArray] at h2
  subst h2
  simp only [placesD, sz27, sz3]
theorem fd29_0 : FieldAt Try.prog 29 0 0 1 := ⟨_, _, Try.underlying29, rfl, rfl, by kernel_rfl, by kernel_rfl⟩
theorem fd29_1 : FieldAt Try.prog 29 1 1 1 := ⟨_, _, Try.underlying29, rfl, rfl, by kernel_rfl, by kernel_rfl⟩
theorem sz33 : sizeOfT Try.prog 33 = some 1 := by kernel_rfl
theorem ag33 : aggOf Try.prog 33 = some false := by kernel_rfl
theorem ze33 : zeroT Try.prog 33 = some (.slice none 0 0) := by kernel_rfl
theorem nf33 : (Try.prog.info? 33).map (fun i => (i.zero, i.size, i.bytes)) = some (some (.slice none 0 0), 1, 24) := by kernel_rfl
theorem un33 : Try.prog.underlying 33 = some (.slice 3) := by kernel_rfl
theorem sz35 : sizeOfT Try.prog 35 = some 3 := by kernel_rfl
theorem ag35 : aggOf Try.prog 35 = some true := by kernel_rfl
theorem ze35 : zeroT Try.prog 35 = some (.agg #[.slice none 0 0, .slice none 0 0, .slice none 0 0]) := by kernel_rfl
theorem nf35 : (Try.prog.info? 35).map (fun i => (i.zero, i.size, i.bytes)) = some (some (.agg #[.slice none 0 0, .slice none 0 0, .slice none 0 0]), 3, 72) := by kernel_rfl
theorem pl35 {fs : List Field} (h : Try.prog.underlying 35 = some (.struct fs.toArray)) : placesD Try.prog fs = some [(0, 1), (1, 1), (2, 1)] := by
  rw [Try.underlying35] at h
  simp only [Option.some.injEq, TypeDesc.struct.injEq] at h
  have h2 := congrArg Array.toList h
  simp only [List.toList_toArray] at h2
  subst h2
  simp only [placesD, sz23, sz24, sz33]
theorem fd35_0 : FieldAt Try.prog 35 0 0 1 := ⟨_, _, Try.underlying35, rfl, rfl, by kernel_rfl, by kernel_rfl⟩
theorem fd35_1 : FieldAt Try.prog 35 1 1 1 := ⟨_, _, Try.underlying35, rfl, rfl, by kernel_rfl, by kernel_rfl⟩
theorem fd35_2 : FieldAt Try.prog 35 2 2 1 := ⟨_, _, Try.underlying35, rfl, rfl, by kernel_rfl, by kernel_rfl⟩
theorem sz37 : sizeOfT Try.prog 37 = some 1 := by kernel_rfl
theorem ag37 : aggOf Try.prog 37 = some false := by kernel_rfl
theorem ze37 : zeroT Try.prog 37 = some (.slice none 0 0) := by kernel_rfl
theorem nf37 : (Try.prog.info? 37).map (fun i => (i.zero, i.size, i.bytes)) = some (some (.slice none 0 0), 1, 24) := by kernel_rfl
theorem un37 : Try.prog.underlying 37 = some (.slice 39) := by kernel_rfl
theorem sz39 : sizeOfT Try.prog 39 = some 2 := by kernel_rfl
theorem ag39 : aggOf Try.prog 39 = some true := by kernel_rfl
theorem ze39 : zeroT Try.prog 39 = some (.agg #[.int .i64 0, .slice none 0 0]) := by kernel_rfl
theorem nf39 : (Try.prog.info? 39).map (fun i => (i.zero, i.size, i.bytes)) = some (some (.agg #[.int .i64 0, .slice none 0 0]), 2, 32) := by kernel_rfl
theorem pl39 {fs : List Field} (h : Try.prog.underlying 39 = some (.struct fs.toArray)) : placesD Try.prog fs = some [(0, 1), (1, 1)] := by
  rw [Try.underlying39] at h
  simp only [Option.some.injEq, TypeDesc.struct.injEq] at h
  have h2 := congrArg Array.toList h
  simp only [List.toList_toArray] at h2
  subst h2
  simp only [placesD, sz3, sz37]
theorem fd39_0 : FieldAt Try.prog 39 0 0 1 := ⟨_, _, Try.underlying39, rfl, rfl, by kernel_rfl, by kernel_rfl⟩
theorem fd39_1 : FieldAt Try.prog 39 1 1 1 := ⟨_, _, Try.underlying39, rfl, rfl, by kernel_rfl, by kernel_rfl⟩
theorem sz41 : sizeOfT Try.prog 41 = some 1 := by kernel_rfl
theorem ag41 : aggOf Try.prog 41 = some false := by kernel_rfl
theorem ze41 : zeroT Try.prog 41 = some (.int .i64 0) := by kernel_rfl
theorem nf41 : (Try.prog.info? 41).map (fun i => (i.zero, i.size, i.bytes)) = some (some (.int .i64 0), 1, 8) := by kernel_rfl
theorem sz62 : sizeOfT Try.prog 62 = some 4 := by kernel_rfl
theorem ag62 : aggOf Try.prog 62 = some true := by kernel_rfl
theorem ze62 : zeroT Try.prog 62 = some (.agg #[.bool false, .bool false, .bool false, .bool false]) := by kernel_rfl
theorem nf62 : (Try.prog.info? 62).map (fun i => (i.zero, i.size, i.bytes)) = some (some (.agg #[.bool false, .bool false, .bool false, .bool false]), 4, 4) := by kernel_rfl
theorem un62 : Try.prog.underlying 62 = some (.array 4 4) := by kernel_rfl
end Go.Proofs.Ytdakoccbmeojhaa
