/- The eight trees of the example, plainly. No condition. -/
import Derived.Test.YtohjapcafkhabaaDoorYP6
import Derived.Test.YtohjapcafkhabaaDoorYB4

set_option linter.unusedSimpArgs false
set_option linter.unusedVariables false
set_option maxHeartbeats 4000000
set_option maxRecDepth 8000
namespace Go.Proofs.YtohjapcafkhabaaDoor
open Go Go.RowKit Go.PP Go.Dm Go.Rt
def trZ : List Tr := [(.node 0 []), (.node 1 [(.node 0 [])]), (.node 1 [(.node 1 [(.node 0 [])])]), (.node 2 [(.node 0 []), (.node 0 [])]), (.node 1 [(.node 1 [(.node 1 [(.node 0 [])])])]), (.node 1 [(.node 2 [(.node 0 []), (.node 0 [])])]), (.node 2 [(.node 0 []), (.node 1 [(.node 0 [])])]), (.node 2 [(.node 1 [(.node 0 [])]), (.node 0 [])])]
def goZ (l : List Tr) : Bool := decide (l.length ≠ 8)
theorem rowsU_pre (a : List Int) (n : Nat) : ∀ k, ∃ r, rowsU a (n + k) = rowsU a n ++ r
  | 0 => ⟨[], by simp⟩
  | k + 1 => by
    obtain ⟨r, hr⟩ := rowsU_pre a n k
    rw [show n + (k + 1) = (n + k) + 1 by omega, rowsU, hr]
    exact ⟨_, by rw [List.append_assoc]⟩
theorem shZ0 : shallow (.node 0 []) = true := by simp [shallow, deepW, deepL, w64i]; try decide +kernel
theorem shZ1 : shallow (.node 1 [(.node 0 [])]) = true := by simp [shallow, deepW, deepL, w64i]; try decide +kernel
theorem shZ2 : shallow (.node 1 [(.node 1 [(.node 0 [])])]) = true := by simp [shallow, deepW, deepL, w64i]; try decide +kernel
theorem shZ3 : shallow (.node 2 [(.node 0 []), (.node 0 [])]) = true := by simp [shallow, deepW, deepL, w64i]; try decide +kernel
theorem shZ4 : shallow (.node 1 [(.node 1 [(.node 1 [(.node 0 [])])])]) = true := by simp [shallow, deepW, deepL, w64i]; try decide +kernel
theorem shZ5 : shallow (.node 1 [(.node 2 [(.node 0 []), (.node 0 [])])]) = true := by simp [shallow, deepW, deepL, w64i]; try decide +kernel
theorem shZ6 : shallow (.node 2 [(.node 0 []), (.node 1 [(.node 0 [])])]) = true := by simp [shallow, deepW, deepL, w64i]; try decide +kernel
theorem shZ7 : shallow (.node 2 [(.node 1 [(.node 0 [])]), (.node 0 [])]) = true := by simp [shallow, deepW, deepL, w64i]; try decide +kernel
theorem rowsZ : (rowsU [0, 1, 2] 4).flatten = trZ := by
  simp [trZ, rowsU, candA, candS, rowN, pairsT, List.range_succ, shZ0, shZ1, shZ2, shZ3, shZ4, shZ5, shZ6, shZ7]
theorem feedZ0 : feed goZ [] trZ = (trZ, false) := by simp [trZ, feed_cons, feed_nil, goZ]
theorem feedZ {top : Nat} (h : top = 4096) : feed goZ [] (rowsU [0, 1, 2] top).flatten = (trZ, false) := by
  obtain ⟨k, rfl⟩ : ∃ k, top = 4 + k := ⟨top - 4, by omega⟩
  obtain ⟨r, hr⟩ := rowsU_pre [0, 1, 2] 4 k
  rw [hr, List.flatten_append, rowsZ, feed_append, feedZ0, if_neg (by simp)]
theorem tsmZ : ∀ t ∈ trZ, TSm t := by simp [trZ, TSm, TSmL]
theorem symZ : ∀ t ∈ trZ, SymR t := by simp [trZ, SymR, SymRL]
theorem txZ0 : textT Lib.itoa (.node 0 []) = [48] := by simp [textT, textL, Lib.itoa, Lib.decDigits]; try decide +kernel
theorem txZ1 : textT Lib.itoa (.node 1 [(.node 0 [])]) = [49, 40, 48, 41] := by simp [textT, textL, Lib.itoa, Lib.decDigits]; try decide +kernel
theorem txZ2 : textT Lib.itoa (.node 1 [(.node 1 [(.node 0 [])])]) = [49, 40, 49, 40, 48, 41, 41] := by simp [textT, textL, Lib.itoa, Lib.decDigits]; try decide +kernel
theorem txZ3 : textT Lib.itoa (.node 2 [(.node 0 []), (.node 0 [])]) = [50, 40, 48, 44, 48, 41] := by simp [textT, textL, Lib.itoa, Lib.decDigits]; try decide +kernel
theorem txZ4 : textT Lib.itoa (.node 1 [(.node 1 [(.node 1 [(.node 0 [])])])]) = [49, 40, 49, 40, 49, 40, 48, 41, 41, 41] := by simp [textT, textL, Lib.itoa, Lib.decDigits]; try decide +kernel
theorem txZ5 : textT Lib.itoa (.node 1 [(.node 2 [(.node 0 []), (.node 0 [])])]) = [49, 40, 50, 40, 48, 44, 48, 41, 41] := by simp [textT, textL, Lib.itoa, Lib.decDigits]; try decide +kernel
theorem txZ6 : textT Lib.itoa (.node 2 [(.node 0 []), (.node 1 [(.node 0 [])])]) = [50, 40, 48, 44, 49, 40, 48, 41, 41] := by simp [textT, textL, Lib.itoa, Lib.decDigits]; try decide +kernel
theorem txZ7 : textT Lib.itoa (.node 2 [(.node 1 [(.node 0 [])]), (.node 0 [])]) = [50, 40, 49, 40, 48, 41, 44, 48, 41] := by simp [textT, textL, Lib.itoa, Lib.decDigits]; try decide +kernel
theorem wantZ : ∀ (k : Nat) (t : Tr), trZ[k]? = some t → ∃ s, wantL[k]? = some s ∧ textT Lib.itoa t = s ∧ s.length ≤ 1000 := by
  intro k t h
  match k, h with
  | 0, h => cases (Option.some.inj h); exact ⟨_, rfl, txZ0, by decide⟩
  | 1, h => cases (Option.some.inj h); exact ⟨_, rfl, txZ1, by decide⟩
  | 2, h => cases (Option.some.inj h); exact ⟨_, rfl, txZ2, by decide⟩
  | 3, h => cases (Option.some.inj h); exact ⟨_, rfl, txZ3, by decide⟩
  | 4, h => cases (Option.some.inj h); exact ⟨_, rfl, txZ4, by decide⟩
  | 5, h => cases (Option.some.inj h); exact ⟨_, rfl, txZ5, by decide⟩
  | 6, h => cases (Option.some.inj h); exact ⟨_, rfl, txZ6, by decide⟩
  | 7, h => cases (Option.some.inj h); exact ⟨_, rfl, txZ7, by decide⟩
  | k + 8, h => rw [List.getElem?_eq_none (by show 8 ≤ k + 8; omega)] at h; cases h
end Go.Proofs.YtohjapcafkhabaaDoor
