/- Sets as keys of maps. No condition. -/
import Derived.Test.YtgcmajgkcahbnaaDoorXMk
import Derived.Test.YtgcmajgkcahbnaaDoorYA
import Derived.Test.YtgcmajgkcahbnaaDoorYAW
import Derived.DeepKeys4
import Derived.Maps.Keyed

set_option linter.unusedSimpArgs false
set_option linter.unusedVariables false
set_option maxHeartbeats 4000000
set_option maxRecDepth 8000
namespace Go.Proofs.YtgcmajgkcahbnaaDoor
open Go Go.RowKit Go.PP Go.Dm Go.Bs
theorem mapM_all {α β : Type} {f : α → Option β} : ∀ (l : List α), (∀ x ∈ l, ∃ y, f x = some y) → ∃ ys, l.mapM f = some ys
  | [], _ => ⟨[], rfl⟩
  | x :: l, h => by
    obtain ⟨y, hy⟩ := h x (List.mem_cons_self ..)
    obtain ⟨ys, hys⟩ := mapM_all l fun z hz => h z (List.mem_cons_of_mem _ hz)
    exact ⟨y :: ys, by rw [List.mapM_cons, hy, hys]; rfl⟩
def kvS (S : Nat) : Value := .agg ((List.range 16).map fun i => Value.int .u64 (wI S i)).toArray
theorem isV_set (S : Nat) : IsV (setD S) (kvS S) := IsV.aD (setC_aD S)
theorem types_size : ∃ n, Tryd.prog.types.size + 1 = n + 2 := by
  have h : 0 < Tryd.prog.types.size := by decide +kernel
  exact ⟨Tryd.prog.types.size - 1, by omega⟩
theorem key_set (S : Nat) : ∃ l, keyOf Tryd.prog 24 (kvS S) = some l := by
  have hu : Tryd.prog.underlying 24 = some (.array 16 22) := by kernel_rfl
  have hu2 : Tryd.prog.underlying 22 = some (.int .u64) := by kernel_rfl
  have hc : Tryd.prog.cellsOf 24 = 16 := by kernel_rfl
  have hc2 : Tryd.prog.cellsOf 22 = 1 := by kernel_rfl
  have hk : Tryd.prog.keyType 24 = true := by kernel_rfl
  obtain ⟨n, hn⟩ := types_size
  have hl : ∃ ls, Tryd.prog.keyLits (n + 2) 24 ((List.range 16).map fun i => Value.int .u64 (wI S i)) = some ls := by
    unfold Program.keyLits
    simp only [hu, hc, hc2, List.length_map, List.length_range, if_true]
    obtain ⟨ys, hys⟩ := mapM_all (f := fun i => Tryd.prog.keyLits (n + 1) 22 ((((List.range 16).map fun i => Value.int .u64 (wI S i)).drop (i * 1)).take 1)) (List.range 16) (fun i hi => by
      have hi := List.mem_range.1 hi
      have e : ((((List.range 16).map fun i => Value.int .u64 (wI S i)).drop (i * 1)).take 1) = [.int .u64 (wI S i)] := by
        rw [Nat.mul_one, List.drop_eq_getElem_cons (by rw [List.length_map, List.length_range]; exact hi), List.take_succ_cons, List.take_zero, List.getElem_map, List.getElem_range]
      rw [e]
      unfold Program.keyLits
      have hw : (Lit.int .u64 (wI S i)).wf = true := by
        have := wdS_lt S i
        simp [Lit.wf, IntKind.min, IntKind.max, IntKind.signed, IntKind.bits, wI]
        omega
      simp only [hu2, hw, and_self, if_true]
      exact ⟨_, rfl⟩)
    rw [hys]
    exact ⟨_, rfl⟩
  obtain ⟨ls, hls⟩ := hl
  refine ⟨.string (keyBytes ls), ?_⟩
  unfold keyOf
  rw [hu]
  simp only [hk, hn, kvS, Value.formed, hu, hc, Value.cells, Bool.true_and, List.size_toArray, List.length_map, List.length_range, hls, decide_true, beq_self_eq_true, if_true, Option.map_some]
theorem keyed_set : Maps.Keyed Tryd.prog 24 := Maps.Keyed.of_law (deep_law_laid (by kernel_rfl) (m := 2) (by decide) (by decide +kernel) (by kernel_rfl) (by kernel_rfl))
theorem kvS_inj {S U : Nat} (hS : SetOk S) (hU : SetOk U) (h : kvS S = kvS U) : S = U := by
  refine set_ext hS hU fun i hi => ?_
  unfold kvS at h
  injection h with h
  have h1 := congrArg Array.toList h
  simp only [List.toList_toArray] at h1
  have h2 := congrArg (fun l => l[i]?) h1
  simp only [List.getElem?_map, List.getElem?_range hi, Option.map_some] at h2
  injection h2 with h2
  injection h2 with _ h2
  unfold wI at h2
  omega
end Go.Proofs.YtgcmajgkcahbnaaDoor
