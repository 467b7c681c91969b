/- Contracts over data: copies. No condition. -/
import Derived.Test.YtohjapcafkhabaaDoorYC2

set_option linter.unusedSimpArgs false
set_option linter.unusedVariables false
set_option maxHeartbeats 4000000
set_option maxRecDepth 8000
namespace Go.Proofs.YtohjapcafkhabaaDoor
open Go Go.RowKit Go.PP Go.Dm Go.Rt
theorem own_d : ∀ (n : Nat) (t : Tr), depT t ≤ n → TSm t → DFun Tryd.prog 16 [treeD t] (treeD t)
  | 0, .node s l, h, _ => by rw [depT_node] at h; omega
  | n + 1, .node s l, h, hs => by
    rw [depT_node] at h
    rw [TSm_node] at hs
    have hs1 := hs.1
    have ih := own_d n
    rw [treeD_node]
    refine DFun.enterA Tryd.func16 Tryd.ntmps16 ?_
    refine DW.walkTo 2 ?_
    refine DW.adoptBox 3 1 103 29 2 rfl rfl rfl ?_
    refine DW.walk ?_
    refine DW.loopA (fun i : Nat => ⟨[(1, .ref 1 0), (2, .ref 2 0), (3, .ref 3 0), (4, .flat (.int .i64 (i : Nat)))], [(1, some (.box [.flat (.int .i64 s), .sl false 2 l.length (kidsC l)])), (2, some (.box [.flat (.int .i64 0), .flat (.slice none 0 0)])), (3, some (.box [.flat (.int .i64 s), .own 103 i])), (103, some (.row 29 2 i (kidsC (l.take i))))]⟩) (fun i => i ≤ l.length) (fun i => l.length - i) 0 ?_ (Nat.zero_le _) (by
      rw [List.take_zero, kidsC_nil]
      exact Sub.auto)
    intro i hi
    rcases Nat.lt_or_ge i l.length with hlt | hge
    · obtain ⟨k, hk⟩ : ∃ k, l[i]? = some k := ⟨_, List.getElem?_eq_getElem hlt⟩
      have hp := part_kids hk
      have hd := depL_at hk
      have hks := TSmL.at hs.2 hk
      have ihk := ih k (by omega) hks
      have hsn := (kidsC_snoc hk).symm
      clear ih hk hs hks hd h
      obtain ⟨s', l'⟩ := k
      rw [treeC_node] at hsn
      rw [treeD_node] at hp ihk
      refine DW.walk ?_
      exact ⟨i + 1, by omega, by omega, Sub.auto⟩
    · obtain rfl : i = l.length := by omega
      rw [List.take_length]
      clear ih h hs
      refine DW.walk ?_
      exact ⟨.inr rfl, ResOk.cellA [(103, some (.row 29 2 l.length (kidsC l)))] rfl rfl rfl TyI.ag TyI.sz ⟨rfl, trivial⟩ (.cons (Vw.pers rfl) (.cons (Vw.own (.head _) (VwL.pers (kidsC_pers _))) .nil)) (Le.refl _)⟩
theorem back_d : ∀ (n : Nat) (t : Tr), depT t ≤ n → TSm t → DFun Tryd.prog 19 [treeD t] (treeD t)
  | 0, .node s l, h, _ => by rw [depT_node] at h; omega
  | n + 1, .node s l, h, hs => by
    rw [depT_node] at h
    rw [TSm_node] at hs
    have hs1 := hs.1
    have ih := back_d n
    rw [treeD_node]
    refine DFun.enterA Tryd.func19 Tryd.ntmps19 ?_
    refine DW.walkTo 2 ?_
    refine DW.adoptBox 3 1 103 24 2 rfl rfl rfl ?_
    refine DW.walk ?_
    refine DW.loopA (fun i : Nat => ⟨[(1, .ref 1 0), (2, .ref 2 0), (3, .ref 3 0), (4, .flat (.int .i64 (i : Nat)))], [(1, some (.box [.flat (.int .i64 s), .sl false 2 l.length (kidsC l)])), (2, some (.box [.flat (.int .i64 0), .flat (.slice none 0 0)])), (3, some (.box [.flat (.int .i64 s), .own 103 i])), (103, some (.row 24 2 i (kidsC (l.take i))))]⟩) (fun i => i ≤ l.length) (fun i => l.length - i) 0 ?_ (Nat.zero_le _) (by
      rw [List.take_zero, kidsC_nil]
      exact Sub.auto)
    intro i hi
    rcases Nat.lt_or_ge i l.length with hlt | hge
    · obtain ⟨k, hk⟩ : ∃ k, l[i]? = some k := ⟨_, List.getElem?_eq_getElem hlt⟩
      have hp := part_kids hk
      have hd := depL_at hk
      have hks := TSmL.at hs.2 hk
      have ihk := ih k (by omega) hks
      have hsn := (kidsC_snoc hk).symm
      clear ih hk hs hks hd h
      obtain ⟨s', l'⟩ := k
      rw [treeC_node] at hsn
      rw [treeD_node] at hp ihk
      refine DW.walk ?_
      exact ⟨i + 1, by omega, by omega, Sub.auto⟩
    · obtain rfl : i = l.length := by omega
      rw [List.take_length]
      clear ih h hs
      refine DW.walk ?_
      exact ⟨.inr rfl, ResOk.cellA [(103, some (.row 24 2 l.length (kidsC l)))] rfl rfl rfl TyI.ag TyI.sz ⟨rfl, trivial⟩ (.cons (Vw.pers rfl) (.cons (Vw.own (.head _) (VwL.pers (kidsC_pers _))) .nil)) (Le.refl _)⟩
theorem clone_d : ∀ (n : Nat) (t : Tr), depT t ≤ n → TSm t → DFun Tryd.prog 22 [treeD t] (treeD t)
  | 0, .node s l, h, _ => by rw [depT_node] at h; omega
  | n + 1, .node s l, h, hs => by
    rw [depT_node] at h
    rw [TSm_node] at hs
    have hs1 := hs.1
    have ih := clone_d n
    rw [treeD_node]
    refine DFun.enterA Tryd.func22 Tryd.ntmps22 ?_
    refine DW.walkTo 2 ?_
    refine DW.adoptBox 3 1 103 29 2 rfl rfl rfl ?_
    refine DW.walk ?_
    refine DW.loopA (fun i : Nat => ⟨[(1, .ref 1 0), (2, .ref 2 0), (3, .ref 3 0), (10, .sl false 2 l.length (kidsC l)), (11, .flat (.int .i64 (l.length : Nat))), (12, .flat (.int .i64 (i : Nat)))], [(1, some (.box [.flat (.int .i64 s), .sl false 2 l.length (kidsC l)])), (2, some (.box [.flat (.int .i64 0), .flat (.slice none 0 0)])), (3, some (.box [.flat (.int .i64 s), .own 103 i])), (103, some (.row 29 2 i (kidsC (l.take i))))]⟩) (fun i => i ≤ l.length) (fun i => l.length - i) 0 ?_ (Nat.zero_le _) (by
      rw [List.take_zero, kidsC_nil]
      exact Sub.auto)
    intro i hi
    rcases Nat.lt_or_ge i l.length with hlt | hge
    · obtain ⟨k, hk⟩ : ∃ k, l[i]? = some k := ⟨_, List.getElem?_eq_getElem hlt⟩
      have hp := part_kids hk
      have hd := depL_at hk
      have hks := TSmL.at hs.2 hk
      have ihk := ih k (by omega) hks
      have hsn := (kidsC_snoc hk).symm
      clear ih hk hs hks hd h
      obtain ⟨s', l'⟩ := k
      rw [treeC_node] at hsn
      rw [treeD_node] at hp ihk
      refine DW.walk ?_
      exact ⟨i + 1, by omega, by omega, Sub.auto⟩
    · obtain rfl : i = l.length := by omega
      rw [List.take_length]
      clear ih h hs
      refine DW.walk ?_
      exact ⟨.inr rfl, ResOk.cellA [(103, some (.row 29 2 l.length (kidsC l)))] rfl rfl rfl TyI.ag TyI.sz ⟨rfl, trivial⟩ (.cons (Vw.pers rfl) (.cons (Vw.own (.head _) (VwL.pers (kidsC_pers _))) .nil)) (Le.refl _)⟩
end Go.Proofs.YtohjapcafkhabaaDoor
