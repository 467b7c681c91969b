/- Contracts over data: the reference, all subsets. No condition. -/
import Derived.Test.YtgcmajgkcahbnaaDoorXSl
import Derived.Test.YtgcmajgkcahbnaaDoorYA
import Derived.Test.YtgcmajgkcahbnaaDoorYAS

set_option linter.unusedSimpArgs false
set_option linter.unusedVariables false
set_option maxHeartbeats 4000000
set_option maxRecDepth 8000
namespace Go.Proofs.YtgcmajgkcahbnaaDoor
open Go Go.RowKit Go.PP Go.Dm Go.Bs
theorem VsL.app {σ σ' : Sg} : ∀ {a a' b b' : List D}, VsL σ σ' a a' → VsL σ σ' b b' → VsL σ σ' (a ++ b) (a' ++ b')
  | [], [], _, _, _, h => h
  | _ :: _, _ :: _, _, _, h, k => ⟨h.1, VsL.app h.2 k⟩
  | [], _ :: _, _, _, h, _ => h.elim
  | _ :: _, [], _, _, h, _ => h.elim
/-- The lists when the first i numbers are done, and of the next the first k lists. -/
def subJ (l : List Int) (i : Nat) : List (List Int) := subsL (l.take i)
theorem subJ_succ {l : List Int} {i : Nat} {x : Int} (h : l[i]? = some x) : subJ l (i + 1) = subJ l i ++ (subJ l i).map (fun u => u ++ [x]) := by
  unfold subJ
  rw [List.take_add_one, h, Option.toList_some, subsL_snoc]
theorem subJ_len (l : List Int) (i : Nat) (hl : l.length ≤ 10) : (subJ l i).length ≤ 1024 := by
  unfold subJ
  rw [subsL_length]
  have : 2 ^ (l.take i).length ≤ 2 ^ 10 := Nat.pow_le_pow_right (by decide) (by rw [List.length_take]; omega)
  exact this
theorem subJ_in {l : List Int} (hl : l.length ≤ 10) {i : Nat} {u : List Int} (h : u ∈ subJ l i) : u.length ≤ 10 := by
  unfold subJ at h
  have key : ∀ r : List Int, ∀ u ∈ subsL r, u.length ≤ r.length := by
    refine snoc_ind ?_ ?_
    · intro u hu
      rw [subsL_nil, List.mem_singleton] at hu; subst hu; exact Nat.le_refl _
    · intro r x ih u hu
      rw [subsL_snoc, List.mem_append, List.mem_map] at hu
      rw [List.length_append, List.length_singleton]
      rcases hu with hu | ⟨v, hv, rfl⟩
      · have := ih u hu; omega
      · have := ih v hv; rw [List.length_append, List.length_singleton]; omega
  have := key _ u h
  rw [List.length_take] at this
  omega
theorem rsubs_d (l : List Int) (hl : l.length ≤ 10) : DFun Tryd.prog 22 [intsD l] (rowsD (subsL l)) := by
  have o9 : OwnAt 9 := .of _
  have o23 : OwnAt 23 := .of _
  have o37 : OwnAt 37 := .of _
  refine DFun.enterA Tryd.func22 Tryd.ntmps22 ?_
  refine DW.walk ?_
  refine DW.sub (s' := ⟨[(0, intsD l), (3, .own 9 (subJ l 0).length), (4, .flat (.int .i64 ((0 : Nat) : Int)))], [(9, some (.row 28 1 (subJ l 0).length ((subJ l 0).map intsD)))]⟩) (Sub.auto (h1 := EsOk.row' rfl rfl ⟨Vs.le (Vs.pers rfl) Le.full, trivial⟩ EsOk.nil')) ?_
  refine DW.loopA (fun i : Nat => ⟨[(0, intsD l), (3, .own 9 (subJ l i).length), (4, .flat (.int .i64 i))], [(9, some (.row 28 1 (subJ l i).length ((subJ l i).map intsD)))]⟩) (fun i => i ≤ l.length) (fun i => l.length - i) 0 ?_ (by omega)
  intro i hi
  rcases Nat.lt_or_ge i l.length with hlt | hge
  · obtain ⟨x, hx⟩ : ∃ x, l[i]? = some x := ⟨l[i], by simp⟩
    have hY := subJ_succ hx
    have hL := subJ_len l i hl
    have hu := fun u (h : u ∈ subJ l i) => subJ_in hl h
    generalize hX : subJ l i = X at *
    have h0 := part_map (f := fun x => D.flat (.int .i64 x)) hx
    refine DW.walk ?_
    refine DW.loopA (fun k : Nat => ⟨[(0, intsD l), (3, .own 9 (X.length + k)), (4, .flat (.int .i64 i)), (5, .flat (.int .i64 X.length)), (6, .flat (.int .i64 k))], [(9, some (.row 28 1 (X.length + k) (X.map intsD ++ (X.take k).map (fun u => intsD (u ++ [x])))))]⟩) (fun k => k ≤ X.length) (fun k => X.length - k) 0 ?_ (by omega)
    intro k hk
    rcases Nat.lt_or_ge k X.length with hlt2 | hge2
    · obtain ⟨u, hxu⟩ : ∃ u, X[k]? = some u := ⟨X[k], by simp⟩
      have hul := hu u (List.mem_of_getElem? hxu)
      have h1 : partD false 1 (k * 1) (X.map intsD ++ (X.take k).map (fun u => intsD (u ++ [x]))) = some (.sl false 1 u.length (u.map fun x => .flat (.int .i64 x))) := by
        unfold partD
        simp only [Bool.false_eq_true, if_false, Nat.mul_one]
        rw [List.getElem?_append_left (by rw [List.length_map]; exact hlt2), List.getElem?_map, hxu]; rfl
      have hZ : (X.map intsD ++ (X.take (k + 1)).map (fun u => intsD (u ++ [x]))) = (X.map intsD ++ (X.take k).map (fun u => intsD (u ++ [x]))) ++ [.sl false 1 (u.length + 1) (u.map (fun x => .flat (.int .i64 x)) ++ [.flat (.int .i64 x)])] := by
        rw [List.take_add_one, hxu, Option.toList_some, List.map_append, List.append_assoc]
        simp [intsD]
      have hp : persL (X.map intsD ++ (X.take k).map (fun u => intsD (u ++ [x]))) = true := persL_append (persL_map (fun _ => rfl) _) (persL_map (fun _ => rfl) _)
      have hp1 : persL ((u.map (fun x => D.flat (.int .i64 x))) ++ [.flat (.int .i64 x)]) = true := persL_append (persL_map (fun _ => rfl) _) rfl
      have hm : (u.map fun x => D.flat (.int .i64 x)).length = u.length := List.length_map ..
      have ho : oneL (u.map fun x => D.flat (.int .i64 x)) = true := oneL_map (fun _ => rfl) _
      generalize hA : (X.map intsD ++ (X.take k).map (fun u => intsD (u ++ [x]))) = A at *
      generalize (u.map fun x => D.flat (.int .i64 x)) = B at *
      refine DW.walk ?_
      refine ⟨k + 1, by omega, by omega, ?_⟩
      rw [hZ]
      exact Sub.auto (h1 := EsOk.row' rfl (by omega) (VsL.app (VsL.pers hp) ⟨Vs.shutOwn' rfl rfl rfl (by omega) (by simp) hp1, trivial⟩) EsOk.nil')
    · have hje : k = X.length := by omega
      subst hje
      have hZ : (X.map intsD ++ (X.take X.length).map (fun u => intsD (u ++ [x]))) = (X ++ X.map (fun u => u ++ [x])).map intsD := by
        rw [List.take_length, List.map_append, List.map_map]; rfl
      have hN : X.length + X.length = (X ++ X.map (fun u => u ++ [x])).length := by rw [List.length_append, List.length_map]
      rw [hZ, hN]
      refine DW.walk ?_
      exact ⟨i + 1, by omega, by omega, by rw [hY]; exact Sub.auto⟩
  · have hje : i = l.length := by omega
    subst hje
    unfold subJ
    rw [List.take_length]
    generalize subsL l = X
    refine DW.walk ?_
    exact ⟨.inr rfl, ResOk.one [(9, some (.row 28 1 X.length (X.map intsD)))] rfl rfl ⟨rfl, trivial⟩ (Vw.le (Vw.own (.head _) (VwL.pers (persL_map (fun _ => rfl) _))) (Le.of_eq (by simp [rowsD])))⟩
end Go.Proofs.YtgcmajgkcahbnaaDoor
