/- The law RankedTreeValid over data. No condition. -/
import Derived.Test.YtohjapcafkhabaaDoorYV4
import Derived.Test.YtohjapcafkhabaaDoorYV2
import Derived.Test.YtohjapcafkhabaaDoorYP9
import Derived.Test.YtohjapcafkhabaaDoorYL0
import Derived.Test.YtohjapcafkhabaaDoorYC3

set_option linter.unusedSimpArgs false
set_option linter.unusedVariables false
set_option maxHeartbeats 4000000
set_option maxRecDepth 8000
namespace Go.Proofs.YtohjapcafkhabaaDoor
open Go Go.RowKit Go.PP Go.Dm Go.Rt
theorem law6_d (r : List Int) (n : Int) (t : Tr) (or' : r.length * 8 ≤ 140737488351232) (ot : TSm t ∧ SymR t) : DFun Tryd.prog 6 [.sl false 1 r.length (r.map fun x => .flat (.int .i64 x)), .flat (.int .i64 n), treeD t] (.flat (.bool true)) := by
  have hK := known_d
  have hrp := ints_pers r
  by_cases gt : 40 < deepW t ∨ 300 < sizeW t
  · have g1 := great_t t ot.1 gt
    clear gt ot
    obtain ⟨s1, l1⟩ := t
    rw [treeD_node] at *
    generalize (r.map fun x => D.flat (.int .i64 x)) = LR at *
    refine DFun.enterA Tryd.func6 Tryd.ntmps6 ?_
    refine DW.walk ?_
    exact ⟨.inr rfl, ResOk.one [] rfl rfl trivial (Vw.pers rfl)⟩
  · have g1 := great_f t ot.1 (fun h => gt (.inl h)) (fun h => gt (.inr h))
    by_cases hl : 5000 < r.length
    · clear gt ot
      obtain ⟨s1, l1⟩ := t
      rw [treeD_node] at *
      generalize (r.map fun x => D.flat (.int .i64 x)) = LR at *
      refine DFun.enterA Tryd.func6 Tryd.ntmps6 ?_
      refine DW.walk ?_
      exact ⟨.inr rfl, ResOk.one [] rfl rfl trivial (Vw.pers rfl)⟩
    · have a1 := sym24_d r n (by omega)
      have a2 := sym25_d r n (by omega)
      have a3 := check26_d r (by omega)
      have a4 := check27_d r (by omega)
      have a5 := own_d _ t (Nat.le_refl _) ot.1
      have a6 := val28_d r (by omega) t ot.1
      have a7 := val20_d r (by omega) t ot.1
      have hL := syN_len r n r.length
      generalize syN r n r.length = L at *
      have hLp := ints_pers L
      generalize alphaE r = c at *
      generalize rightE r t = e at *
      clear gt ot
      obtain ⟨s1, l1⟩ := t
      rw [treeD_node] at *
      have hat : ∀ (i : Nat) k, L[i]? = some k → partD false 1 (i * 1) (L.map fun x => D.flat (.int .i64 x)) = some (.flat (.int .i64 k)) := fun i k h => part_int h
      have hln : (L.map fun x => D.flat (.int .i64 x)).length = L.length := List.length_map _
      generalize (r.map fun x => D.flat (.int .i64 x)) = LR at *
      refine DFun.enterA Tryd.func6 Tryd.ntmps6 ?_
      refine DW.walk ?_
      refine DW.loopA (fun i : Nat => ⟨[(0, .sl false 1 r.length LR), (5, .ref 5 0), (6, .flat (.bool false)), (7, .sl false 1 L.length (L.map fun x => D.flat (.int .i64 x))), (8, .sl false 1 L.length (L.map fun x => D.flat (.int .i64 x))), (9, .flat (.int .i64 (i : Nat)))], [(5, some (.box [.flat (.int .i64 s1), treesD l1]))]⟩) (fun i => i ≤ L.length) (fun i => L.length - i) 0 ?_ (Nat.zero_le _) (by exact Sub.auto)
      intro i hi
      rcases Nat.lt_or_ge i L.length with hlt | hge
      · obtain ⟨k, hk⟩ : ∃ k, L[i]? = some k := ⟨_, List.getElem?_eq_getElem hlt⟩
        have hp := hat i k hk
        clear hat hk a1 a2 a3 a4 a5 a6 a7
        generalize (L.map fun x => D.flat (.int .i64 x)) = LL at *
        refine DW.walk ?_
        exact ⟨i + 1, by omega, by omega, Sub.auto⟩
      · obtain rfl : i = L.length := by omega
        clear hat a1 a2
        generalize (L.map fun x => D.flat (.int .i64 x)) = LL at *
        refine DW.walk ?_
        exact ⟨.inr rfl, ResOk.one [] rfl rfl trivial (Vw.pers rfl)⟩
end Go.Proofs.YtohjapcafkhabaaDoor
