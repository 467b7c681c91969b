/- Contracts over data: the nodes of a tree, checked. No condition. -/
import Derived.Test.YtohjapcafkhabaaDoorYC8
import Derived.Test.YtohjapcafkhabaaDoorYC2

set_option linter.unusedSimpArgs false
set_option linter.unusedVariables false
set_option maxHeartbeats 4000000
set_option maxRecDepth 8000
namespace Go.Proofs.YtohjapcafkhabaaDoor
open Go Go.RowKit Go.PP Go.Dm Go.Rt
theorem nodesE_node (r : List Int) (s : Int) (l : List Tr) : nodesE r (.node s l) = if s < 0 ∨ (r.length : Int) ≤ s then 6 else if (l.length : Int) ≠ r.getD s.toNat 0 then 3 else nodesL r l := by rw [nodesE]
theorem nodesL_nil (r : List Int) : nodesL r [] = 0 := by rw [nodesL]
theorem nodesL_cons (r : List Int) (t : Tr) (ts : List Tr) : nodesL r (t :: ts) = if nodesE r t ≠ 0 then nodesE r t else nodesL r ts := by rw [nodesL]
theorem nodes48_d (r : List Int) (hr : r.length ≤ 1000000000) : ∀ (n : Nat) (t : Tr), depT t ≤ n → TSm t → DFun Tryd.prog 48 [.sl false 1 r.length (r.map fun x => .flat (.int .i64 x)), treeD t] (.flat (.int .i64 (nodesE r t : Nat)))
  | 0, .node s l, h, _ => by rw [depT_node] at h; omega
  | n + 1, .node s l, h, hs => by
    rw [depT_node] at h
    rw [TSm_node] at hs
    have hs1 := hs.1
    have ih := nodes48_d r hr n
    have hrp := ints_pers r
    rw [treeD_node, nodesE_node]
    by_cases h6 : s < 0 ∨ (r.length : Int) ≤ s
    · rw [if_pos h6]
      clear ih hs h
      generalize (r.map fun x => D.flat (.int .i64 x)) = LR at *
      refine DFun.enterA Tryd.func48 Tryd.ntmps48 ?_
      by_cases h0 : s < 0
      · refine DW.walk ?_
        exact ⟨.inr rfl, ResOk.one [] rfl rfl trivial (Vw.pers rfl)⟩
      · have h1 := h6.resolve_left h0
        refine DW.walk ?_
        exact ⟨.inr rfl, ResOk.one [] rfl rfl trivial (Vw.pers rfl)⟩
    · rw [if_neg h6]
      have h0 : ¬ s < 0 := fun e => h6 (.inl e)
      have h1 : s < (r.length : Int) := by omega
      obtain ⟨k, hk⟩ : ∃ k, r[s.toNat]? = some k := ⟨_, List.getElem?_eq_getElem (by omega)⟩
      have hkd : r.getD s.toNat 0 = k := by rw [List.getD_eq_getElem?_getD, hk]; rfl
      have hp := part_int hk
      rw [hkd]
      by_cases h3 : (l.length : Int) ≠ k
      · rw [if_pos h3]
        clear ih hs h hk hkd h6
        generalize (r.map fun x => D.flat (.int .i64 x)) = LR at *
        refine DFun.enterA Tryd.func48 Tryd.ntmps48 ?_
        refine DW.walk ?_
        exact ⟨.inr rfl, ResOk.one [] rfl rfl trivial (Vw.pers rfl)⟩
      · rw [if_neg h3]
        have h3 : (l.length : Int) = k := by omega
        clear hk hkd h6
        obtain ⟨X, hX⟩ : ∃ X, nodesL r l = X := ⟨_, rfl⟩
        rw [hX]
        refine DFun.enterA Tryd.func48 Tryd.ntmps48 ?_
        refine DW.walk ?_
        refine DW.loopA (fun i : Nat => ⟨[(0, .sl false 1 r.length (r.map fun x => .flat (.int .i64 x))), (3, .ref 3 0), (4, .flat (.int .i64 0)), (5, .flat (.int .i64 (i : Nat)))], [(3, some (.box [.flat (.int .i64 s), treesD l]))]⟩) (fun i => i ≤ l.length ∧ nodesL r (l.drop i) = X) (fun i => l.length - i) 0 ?_ ⟨Nat.zero_le _, by rw [List.drop_zero]; exact hX⟩ (by exact Sub.auto)
        rintro i ⟨hi, hx⟩
        rcases Nat.lt_or_ge i l.length with hlt | hge
        · obtain ⟨k2, hk2⟩ : ∃ k2, l[i]? = some k2 := ⟨_, List.getElem?_eq_getElem hlt⟩
          have hp2 := part_kids hk2
          have hd := depL_at hk2
          have hks := TSmL.at hs.2 hk2
          have ihk := ih k2 (by omega) hks
          rw [drop_at hk2, nodesL_cons] at hx
          clear ih hk2 hs hks hd h hX
          by_cases hz : nodesE r k2 ≠ 0
          · rw [if_pos hz] at hx
            rw [hx] at ihk hz
            obtain ⟨s', l'⟩ := k2
            rw [treeD_node] at hp2 ihk
            clear hx
            generalize (r.map fun x => D.flat (.int .i64 x)) = LR at *
            refine DW.walk ?_
            exact ⟨.inr rfl, ResOk.one [] rfl rfl trivial (Vw.pers rfl)⟩
          · rw [if_neg hz] at hx
            have hz : nodesE r k2 = 0 := by omega
            rw [hz] at ihk
            obtain ⟨s', l'⟩ := k2
            rw [treeD_node] at hp2 ihk
            generalize (r.map fun x => D.flat (.int .i64 x)) = LR at *
            refine DW.walk ?_
            exact ⟨i + 1, ⟨by omega, hx⟩, by omega, Sub.auto⟩
        · obtain rfl : i = l.length := by omega
          rw [List.drop_of_length_le (Nat.le_refl _), nodesL_nil] at hx
          subst hx
          clear ih h hs hX
          generalize (r.map fun x => D.flat (.int .i64 x)) = LR at *
          refine DW.walk ?_
          exact ⟨.inr rfl, ResOk.one [] rfl rfl trivial (Vw.pers rfl)⟩
end Go.Proofs.YtohjapcafkhabaaDoor
