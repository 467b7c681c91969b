/- Contracts over data: numbers compared. No condition. -/
import Derived.Test.YtohjapcafkhabaaDoorYC2

set_option linter.unusedSimpArgs false
set_option linter.unusedVariables false
set_option maxHeartbeats 4000000
set_option maxRecDepth 8000
namespace Go.Proofs.YtohjapcafkhabaaDoor
open Go Go.RowKit Go.PP Go.Dm Go.Rt
theorem nan_d (a : Int) : DFun Tryd.prog 70 [.flat (.int .i64 a)] (.flat (.bool false)) := by
  refine DFun.enterA Tryd.func70 Tryd.ntmps70 ?_
  refine DW.walk ?_
  exact ⟨.inr rfl, ResOk.one [] rfl rfl trivial (Vw.le (Vw.pers rfl) (Le.of_eq (congrArg (fun b => D.flat (.bool b)) (decide_eq_false (fun h : a ≠ a => h rfl)))))⟩
theorem cmp47_d (a b : Int) : DFun Tryd.prog 47 [.flat (.int .i64 a), .flat (.int .i64 b)] (.flat (.int .i64 (cmpI a b))) := by
  unfold cmpI
  by_cases h1 : a < b
  · rw [if_pos h1]
    refine DFun.enterA Tryd.func47 Tryd.ntmps47 ?_
    refine DW.walk ?_
    exact ⟨.inr rfl, ResOk.one [] rfl rfl trivial (Vw.pers rfl)⟩
  · rw [if_neg h1]
    by_cases h2 : a > b
    · rw [if_pos h2]
      refine DFun.enterA Tryd.func47 Tryd.ntmps47 ?_
      refine DW.walk ?_
      exact ⟨.inr rfl, ResOk.one [] rfl rfl trivial (Vw.pers rfl)⟩
    · rw [if_neg h2]
      refine DFun.enterA Tryd.func47 Tryd.ntmps47 ?_
      refine DW.walk ?_
      exact ⟨.inr rfl, ResOk.one [] rfl rfl trivial (Vw.pers rfl)⟩
theorem cmp56_d (a b : Int) : DFun Tryd.prog 56 [.flat (.int .i64 a), .flat (.int .i64 b)] (.flat (.int .i64 (cmpI a b))) := by
  have n1 := nan_d a
  have n2 := nan_d b
  unfold cmpI
  by_cases h1 : a < b
  · rw [if_pos h1]
    refine DFun.enterA Tryd.func56 Tryd.ntmps56 ?_
    refine DW.walk ?_
    exact ⟨.inr rfl, ResOk.one [] rfl rfl trivial (Vw.pers rfl)⟩
  · rw [if_neg h1]
    by_cases h2 : a > b
    · rw [if_pos h2]
      refine DFun.enterA Tryd.func56 Tryd.ntmps56 ?_
      refine DW.walk ?_
      exact ⟨.inr rfl, ResOk.one [] rfl rfl trivial (Vw.pers rfl)⟩
    · rw [if_neg h2]
      refine DFun.enterA Tryd.func56 Tryd.ntmps56 ?_
      refine DW.walk ?_
      exact ⟨.inr rfl, ResOk.one [] rfl rfl trivial (Vw.pers rfl)⟩
/-- The first that is not zero. -/
def nz : List Int → Int
  | [] => 0
  | x :: r => if x ≠ 0 then x else nz r
theorem nz_cons (x : Int) (r : List Int) : nz (x :: r) = if x ≠ 0 then x else nz r := rfl
theorem or_d (l : List Int) (hl : l.length ≤ 1000) : DFun Tryd.prog 55 [.sl true 1 l.length (l.map fun x => .flat (.int .i64 x))] (.flat (.int .i64 (nz l))) := by
  refine DFun.enterA Tryd.func55 Tryd.ntmps55 ?_
  refine DW.walk ?_
  refine DW.loopA (fun i : Nat => ⟨[(3, .flat (.int .i64 0)), (6, .sl true 1 l.length (l.map fun x => .flat (.int .i64 x))), (7, .flat (.int .i64 (l.length : Nat))), (8, .flat (.int .i64 (i : Nat)))], []⟩) (fun i => i ≤ l.length ∧ nz (l.drop i) = nz l) (fun i => l.length - i) 0 ?_ ⟨Nat.zero_le _, by rw [List.drop_zero]⟩ (Sub.frame ⟨Vs.pers rfl, Vs.pers rfl, Vs.pers rfl, Vs.pers rfl, trivial⟩)
  rintro i ⟨hi, hn⟩
  rcases Nat.lt_or_ge i l.length with hlt | hge
  · obtain ⟨x, hx⟩ : ∃ x, l[i]? = some x := ⟨_, List.getElem?_eq_getElem hlt⟩
    have hp : partD false 1 (i * 1) (l.map fun x => .flat (.int .i64 x)) = some (.flat (.int .i64 x)) := part_map1 hx
    have hd : l.drop i = x :: l.drop (i + 1) := by
      rw [List.drop_eq_getElem_cons hlt]
      rw [List.getElem?_eq_getElem hlt] at hx
      rw [Option.some.inj hx]
    rw [hd, nz_cons] at hn
    generalize hL : (l.map fun x => D.flat (.int .i64 x)) = L at *
    have hLp : persL L = true := by rw [← hL]; exact persL_map (fun _ => rfl) l
    clear hd hx hL
    by_cases h0 : x = 0
    · rw [if_neg (by simpa using h0)] at hn
      refine DW.walk ?_
      exact ⟨i + 1, ⟨by omega, hn⟩, by omega, Sub.auto⟩
    · rw [if_pos h0] at hn
      rw [← hn]
      refine DW.walk ?_
      exact ⟨.inr rfl, ResOk.one [] rfl rfl trivial (Vw.pers rfl)⟩
  · obtain rfl : i = l.length := by omega
    rw [List.drop_of_length_le (Nat.le_refl _)] at hn
    rw [← hn]
    generalize (l.map fun x => D.flat (.int .i64 x)) = L at *
    refine DW.walk ?_
    exact ⟨.inr rfl, ResOk.one [] rfl rfl trivial (Vw.pers rfl)⟩
theorem or3_d (a b c : Int) : DFun Tryd.prog 55 [.sl true 1 3 [.flat (.int .i64 a), .flat (.int .i64 b), .flat (.int .i64 c)]] (.flat (.int .i64 (nz [a, b, c]))) := or_d [a, b, c] (by show 3 ≤ 1000; decide)
end Go.Proofs.YtohjapcafkhabaaDoor

set_option linter.unusedSimpArgs false
set_option linter.unusedVariables false
set_option maxHeartbeats 4000000
set_option maxRecDepth 8000
namespace Go.Proofs.YtohjapcafkhabaaDoor
open Go Go.RowKit Go.PP Go.Dm Go.Rt
theorem cmp18_d : ∀ (n : Nat) (t u : Tr), depT t ≤ n → TSm t → TSm u → DFun Tryd.prog 18 [treeD t, treeD u] (.flat (.int .i64 (cmpT t u)))
  | 0, .node s l, _, h, _, _ => by rw [depT_node] at h; omega
  | n + 1, .node s l, .node s' l', h, hs, hs' => by
    have z1 := size38_d _ (.node s l) (Nat.le_refl _) hs
    have z2 := size38_d _ (.node s' l') (Nat.le_refl _) hs'
    rw [treeD_node, sizeW_node] at z1 z2
    rw [depT_node] at h
    rw [TSm_node] at hs hs'
    have hs1 := hs.1
    have hs2 := hs'.1
    have ih := cmp18_d n
    rw [treeD_node, treeD_node, cmpT_node]
    generalize sizeL 1 l = a at *
    generalize sizeL 1 l' = a' at *
    have k1 := cmp47_d a a'
    have k2 := cmp47_d s s'
    have k3 := cmp47_d l.length l'.length
    by_cases h1 : cmpI a a' = 0
    · rw [if_neg (by simpa using h1)]
      rw [h1] at k1
      by_cases h2 : cmpI s s' = 0
      · rw [if_neg (by simpa using h2)]
        rw [h2] at k2
        by_cases h3 : cmpI l.length l'.length = 0
        · rw [if_neg (by simpa using h3)]
          rw [h3] at k3
          have hll : l.length = l'.length := by have := cmpI_zero.1 h3; omega
          clear h1 h2 h3
          refine DFun.enterA Tryd.func18 Tryd.ntmps18 ?_
          refine DW.walk ?_
          clear k1 k2 k3 z1 z2
          refine DW.loopA (fun i : Nat => ⟨[(2, .ref 2 0), (3, .ref 3 0), (8, .flat (.int .i64 (i : Nat)))], [(2, some (.box [.flat (.int .i64 s), .sl false 2 l.length (kidsC l)])), (3, some (.box [.flat (.int .i64 s'), .sl false 2 l'.length (kidsC l')]))]⟩) (fun i => i ≤ l.length ∧ cmpL (l.drop i) (l'.drop i) = cmpL l l') (fun i => l.length - i) 0 ?_ ⟨Nat.zero_le _, by rw [List.drop_zero, List.drop_zero]⟩
          rintro i ⟨hi, hc⟩
          rcases Nat.lt_or_ge i l.length with hlt | hge
          · obtain ⟨k, hk⟩ : ∃ k, l[i]? = some k := ⟨_, List.getElem?_eq_getElem hlt⟩
            obtain ⟨k', hk'⟩ : ∃ k, l'[i]? = some k := ⟨_, List.getElem?_eq_getElem (by omega)⟩
            have hp := part_kids hk
            have hp' := part_kids hk'
            have hd := depL_at hk
            have ihk := ih k k' (by omega) (TSmL.at hs.2 hk) (TSmL.at hs'.2 hk')
            rw [drop_at hk, drop_at hk', cmpL_cons] at hc
            clear ih hk hk' hs hs' hd h
            generalize cmpT k k' = z at *
            obtain ⟨s1, l1⟩ := k
            obtain ⟨s2, l2⟩ := k'
            rw [treeD_node] at hp hp' ihk
            rw [treeD_node] at ihk
            by_cases hz : z = 0
            · rw [if_neg (by simpa using hz)] at hc
              refine DW.walk ?_
              exact ⟨i + 1, ⟨by omega, hc⟩, by omega, Sub.auto⟩
            · rw [if_pos hz] at hc
              rw [← hc]
              clear hc
              refine DW.walk ?_
              exact ⟨.inr rfl, ResOk.one [] rfl rfl trivial (Vw.pers rfl)⟩
          · obtain rfl : i = l.length := by omega
            rw [List.drop_of_length_le (Nat.le_refl _), cmpL_nil] at hc
            rw [← hc]
            clear ih h hs hs' hc
            refine DW.walk ?_
            exact ⟨.inr rfl, ResOk.one [] rfl rfl trivial (Vw.pers rfl)⟩
        · rw [if_pos h3]
          generalize cmpI l.length l'.length = c at *
          clear h1 h2 ih h hs hs'
          refine DFun.enterA Tryd.func18 Tryd.ntmps18 ?_
          refine DW.walk ?_
          exact ⟨.inr rfl, ResOk.one [] rfl rfl trivial (Vw.pers rfl)⟩
      · rw [if_pos h2]
        generalize cmpI s s' = c at *
        clear h1 ih h hs hs' k3
        refine DFun.enterA Tryd.func18 Tryd.ntmps18 ?_
        refine DW.walk ?_
        exact ⟨.inr rfl, ResOk.one [] rfl rfl trivial (Vw.pers rfl)⟩
    · rw [if_pos h1]
      generalize cmpI a a' = c at *
      clear ih h hs hs' k2 k3
      refine DFun.enterA Tryd.func18 Tryd.ntmps18 ?_
      refine DW.walk ?_
      exact ⟨.inr rfl, ResOk.one [] rfl rfl trivial (Vw.pers rfl)⟩
end Go.Proofs.YtohjapcafkhabaaDoor

set_option linter.unusedSimpArgs false
set_option linter.unusedVariables false
set_option maxHeartbeats 4000000
set_option maxRecDepth 8000
namespace Go.Proofs.YtohjapcafkhabaaDoor
open Go Go.RowKit Go.PP Go.Dm Go.Rt
theorem le_clo (fn : Fn) : Le (.flat (.func fn #[] #[])) (.clo fn [] []) := fun M w G v _ h => by
  simp only [Rep] at h ⊢
  exact ⟨[], [], h, by simp only [RepL], by simp only [RepL]⟩
theorem cmpF_d (l l' : List Tr) (hs1 : l.length * 32 ≤ 140737488351232) (hll : l.length = l'.length) (ih : ∀ (i : Nat) k k', l[i]? = some k → l'[i]? = some k' → DFun Tryd.prog 33 [treeD k, treeD k'] (.flat (.int .i64 (cmpT k k')))) : DFun Tryd.prog 57 [treesD l, treesD l', .clo (.func 33) [] []] (.flat (.int .i64 (cmpL l l'))) := by
  refine DFun.enterA Tryd.func57 Tryd.ntmps57 ?_
  refine DW.walk ?_
  refine DW.loopA (fun i : Nat => ⟨[(0, .sl false 2 l.length (kidsC l)), (1, .sl false 2 l'.length (kidsC l')), (2, .clo (.func 33) [] []), (11, .sl false 2 l.length (kidsC l)), (12, .flat (.int .i64 (l.length : Nat))), (13, .flat (.int .i64 (i : Nat)))], []⟩) (fun i => i ≤ l.length ∧ cmpL (l.drop i) (l'.drop i) = cmpL l l') (fun i => l.length - i) 0 ?_ ⟨Nat.zero_le _, by rw [List.drop_zero, List.drop_zero]⟩
  rintro i ⟨hi, hc⟩
  rcases Nat.lt_or_ge i l.length with hlt | hge
  · obtain ⟨k, hk⟩ : ∃ k, l[i]? = some k := ⟨_, List.getElem?_eq_getElem hlt⟩
    obtain ⟨k', hk'⟩ : ∃ k, l'[i]? = some k := ⟨_, List.getElem?_eq_getElem (by omega)⟩
    have hp := part_kids hk
    have hp' := part_kids hk'
    have ihk := ih i k k' hk hk'
    rw [drop_at hk, drop_at hk', cmpL_cons] at hc
    clear ih hk hk'
    generalize cmpT k k' = z at *
    obtain ⟨s1, l1⟩ := k
    obtain ⟨s2, l2⟩ := k'
    rw [treeD_node] at hp hp' ihk
    rw [treeD_node] at ihk
    by_cases hz : z = 0
    · rw [if_neg (by simpa using hz)] at hc
      refine DW.walk ?_
      exact ⟨i + 1, ⟨by omega, hc⟩, by omega, Sub.auto⟩
    · rw [if_pos hz] at hc
      rw [← hc]
      clear hc
      refine DW.walk ?_
      exact ⟨.inr rfl, ResOk.one [] rfl rfl trivial (Vw.pers rfl)⟩
  · obtain rfl : i = l.length := by omega
    rw [List.drop_of_length_le (Nat.le_refl _), cmpL_nil] at hc
    rw [← hc]
    clear ih hc
    refine DW.walk ?_
    exact ⟨.inr rfl, ResOk.one [] rfl rfl trivial (Vw.pers rfl)⟩
theorem cmp33_d : ∀ (n : Nat) (t u : Tr), depT t ≤ n → TSm t → TSm u → DFun Tryd.prog 33 [treeD t, treeD u] (.flat (.int .i64 (cmpT t u)))
  | 0, .node s l, _, h, _, _ => by rw [depT_node] at h; omega
  | n + 1, .node s l, .node s' l', h, hs, hs' => by
    have z1 := size37_d _ (.node s l) (Nat.le_refl _) hs
    have z2 := size37_d _ (.node s' l') (Nat.le_refl _) hs'
    rw [treeD_node, sizeW_node] at z1 z2
    rw [depT_node] at h
    rw [TSm_node] at hs hs'
    have hs1 := hs.1
    have hs2 := hs'.1
    have hF : l.length = l'.length → DFun Tryd.prog 57 [treesD l, treesD l', .flat (.func (.func 33) #[] #[])] (.flat (.int .i64 (cmpL l l'))) := fun hll =>
      (cmpF_d l l' hs1 hll (fun i k k' hk hk' => cmp33_d n k k' (by have := depL_at hk; omega) (TSmL.at hs.2 hk) (TSmL.at hs'.2 hk'))).le ⟨Le.refl _, Le.refl _, le_clo _, trivial⟩ (Le.refl _)
    rw [treeD_node, treeD_node, cmpT_node]
    generalize sizeL 1 l = a at *
    generalize sizeL 1 l' = a' at *
    have k1 := cmp56_d a a'
    have k2 := cmp56_d s s'
    have k3 := cmp56_d l.length l'.length
    have h3 : cmpI l.length l'.length = 0 → l.length = l'.length := fun h => by have := cmpI_zero.1 h; omega
    generalize cmpI a a' = c1 at *
    generalize cmpI s s' = c2 at *
    generalize cmpI l.length l'.length = c3 at *
    have k4 := or3_d c1 c2 c3
    rw [nz_cons, nz_cons, nz_cons] at k4
    have k4 : DFun Tryd.prog 55 [.sl true 1 3 [.flat (.int .i64 c1), .flat (.int .i64 c2), .flat (.int .i64 c3)]] (.flat (.int .i64 (if c1 ≠ 0 then c1 else if c2 ≠ 0 then c2 else if c3 ≠ 0 then c3 else 0))) := k4
    by_cases hz : c1 = 0 ∧ c2 = 0 ∧ c3 = 0
    · obtain ⟨e1, e2, e3⟩ := hz
      have hF := hF (h3 e3)
      rw [if_neg (by simpa using e1), if_neg (by simpa using e2), if_neg (by simpa using e3)] at k4 ⊢
      generalize cmpL l l' = r at *
      clear h hs hs' h3 e1 e2 e3
      refine DFun.enterA Tryd.func33 Tryd.ntmps33 ?_
      refine DW.walk ?_
      exact ⟨.inr rfl, ResOk.one [] rfl rfl trivial (Vw.pers rfl)⟩
    · obtain ⟨r, hr, h0⟩ : ∃ r, (if c1 ≠ 0 then c1 else if c2 ≠ 0 then c2 else if c3 ≠ 0 then c3 else 0) = r ∧ r ≠ 0 := ⟨_, rfl, by
        split
        · assumption
        · split
          · assumption
          · split
            · assumption
            · omega⟩
      have hr2 : (if c1 ≠ 0 then c1 else if c2 ≠ 0 then c2 else if c3 ≠ 0 then c3 else cmpL l l') = r := by
        rw [← hr]
        split
        · rfl
        · split
          · rfl
          · split
            · rfl
            · omega
      rw [hr2]
      rw [hr] at k4
      clear h hs hs' h3 hF hr hr2 hz
      refine DFun.enterA Tryd.func33 Tryd.ntmps33 ?_
      refine DW.walk ?_
      exact ⟨.inr rfl, ResOk.one [] rfl rfl trivial (Vw.pers rfl)⟩
end Go.Proofs.YtohjapcafkhabaaDoor
