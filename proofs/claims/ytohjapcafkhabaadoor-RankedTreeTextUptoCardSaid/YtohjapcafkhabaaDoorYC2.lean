/- Contracts over data: sizes. No condition. -/
import Derived.Test.YtohjapcafkhabaaDoorYBK
import Derived.Test.YtohjapcafkhabaaDoorYTE

set_option linter.unusedSimpArgs false
set_option linter.unusedVariables false
set_option maxHeartbeats 4000000
set_option maxRecDepth 8000
namespace Go.Proofs.YtohjapcafkhabaaDoor
open Go Go.RowKit Go.PP Go.Dm Go.Rt
theorem sizeL_nil (n : Int) : sizeL n [] = n := by rw [sizeL]
theorem sizeL_cons (n : Int) (t : Tr) (ts : List Tr) : sizeL n (t :: ts) = sizeL (w64i (n + sizeW t)) ts := by rw [sizeL]
theorem deepL_nil (n : Int) : deepL n [] = w64i (n + 1) := by rw [deepL]
theorem deepL_cons (n : Int) (t : Tr) (ts : List Tr) : deepL n (t :: ts) = deepL (if deepW t > n then deepW t else n) ts := by rw [deepL]
theorem deepW_node (s : Int) (l : List Tr) : deepW (.node s l) = deepL 0 l := by rw [deepW]
theorem drop_at {l : List Tr} {i : Nat} {t : Tr} (h : l[i]? = some t) : l.drop i = t :: l.drop (i + 1) := by
  have hi := (List.getElem?_eq_some_iff.1 h).1
  rw [List.drop_eq_getElem_cons hi]
  rw [List.getElem?_eq_getElem hi] at h
  rw [Option.some.inj h]
theorem size37_d : ∀ (n : Nat) (t : Tr), depT t ≤ n → TSm t → DFun Tryd.prog 37 [treeD t] (.flat (.int .i64 (sizeW t)))
  | 0, .node s l, h, _ => by rw [depT_node] at h; omega
  | n + 1, .node s l, h, hs => by
    rw [depT_node] at h
    rw [TSm_node] at hs
    have hs1 := hs.1
    have ih := size37_d n
    rw [treeD_node, sizeW_node]
    refine DFun.enterA Tryd.func37 Tryd.ntmps37 ?_
    refine DW.walk ?_
    refine DW.loopA (fun p : Nat × Int => ⟨[(1, .ref 1 0), (3, .flat (.int .i64 p.2)), (7, .sl false 2 l.length (kidsC l)), (8, .flat (.int .i64 (l.length : Nat))), (9, .flat (.int .i64 (p.1 : Nat)))], [(1, some (.box [.flat (.int .i64 s), .sl false 2 l.length (kidsC l)]))]⟩) (fun p => p.1 ≤ l.length ∧ sizeL p.2 (l.drop p.1) = sizeL 1 l) (fun p => l.length - p.1) (0, 1) ?_ ⟨Nat.zero_le _, by show sizeL 1 (l.drop 0) = _; rw [List.drop_zero]⟩
    rintro ⟨i, m⟩ ⟨hi, hm⟩
    have hi : i ≤ l.length := hi
    have hm : sizeL m (l.drop i) = sizeL 1 l := hm
    rcases Nat.lt_or_ge i l.length with hlt | hge
    · obtain ⟨k, hk⟩ : ∃ k, l[i]? = some k := ⟨_, List.getElem?_eq_getElem hlt⟩
      have hp := part_kids hk
      have hd := depL_at hk
      have hks := TSmL.at hs.2 hk
      have ihk := ih k (by omega) hks
      rw [drop_at hk, sizeL_cons] at hm
      obtain ⟨c, hc⟩ : ∃ c, IntKind.i64.wrap (m + sizeW k) = c := ⟨_, rfl⟩
      unfold w64i at hm
      rw [hc] at hm
      clear ih hk hs hks hd h
      obtain ⟨s', l'⟩ := k
      rw [treeD_node] at hp ihk
      generalize sizeW (.node s' l') = z at *
      refine DW.walk ?_
      exact ⟨(i + 1, c), ⟨by show i + 1 ≤ _; omega, hm⟩, by show l.length - (i + 1) < l.length - i; omega, Sub.auto⟩
    · obtain rfl : i = l.length := by omega
      rw [List.drop_of_length_le (Nat.le_refl _), sizeL_nil] at hm
      subst hm
      clear ih h hs
      refine DW.walk ?_
      exact ⟨.inr rfl, ResOk.one [] rfl rfl trivial (Vw.pers rfl)⟩
theorem size38_d : ∀ (n : Nat) (t : Tr), depT t ≤ n → TSm t → DFun Tryd.prog 38 [treeD t] (.flat (.int .i64 (sizeW t)))
  | 0, .node s l, h, _ => by rw [depT_node] at h; omega
  | n + 1, .node s l, h, hs => by
    rw [depT_node] at h
    rw [TSm_node] at hs
    have hs1 := hs.1
    have ih := size38_d n
    rw [treeD_node, sizeW_node]
    refine DFun.enterA Tryd.func38 Tryd.ntmps38 ?_
    refine DW.walk ?_
    refine DW.loopA (fun p : Nat × Int => ⟨[(1, .ref 1 0), (3, .flat (.int .i64 p.2)), (4, .flat (.int .i64 (p.1 : Nat)))], [(1, some (.box [.flat (.int .i64 s), .sl false 2 l.length (kidsC l)]))]⟩) (fun p => p.1 ≤ l.length ∧ sizeL p.2 (l.drop p.1) = sizeL 1 l) (fun p => l.length - p.1) (0, 1) ?_ ⟨Nat.zero_le _, by show sizeL 1 (l.drop 0) = _; rw [List.drop_zero]⟩
    rintro ⟨i, m⟩ ⟨hi, hm⟩
    have hi : i ≤ l.length := hi
    have hm : sizeL m (l.drop i) = sizeL 1 l := hm
    rcases Nat.lt_or_ge i l.length with hlt | hge
    · obtain ⟨k, hk⟩ : ∃ k, l[i]? = some k := ⟨_, List.getElem?_eq_getElem hlt⟩
      have hp := part_kids hk
      have hd := depL_at hk
      have hks := TSmL.at hs.2 hk
      have ihk := ih k (by omega) hks
      rw [drop_at hk, sizeL_cons] at hm
      obtain ⟨c, hc⟩ : ∃ c, IntKind.i64.wrap (m + sizeW k) = c := ⟨_, rfl⟩
      unfold w64i at hm
      rw [hc] at hm
      clear ih hk hs hks hd h
      obtain ⟨s', l'⟩ := k
      rw [treeD_node] at hp ihk
      generalize sizeW (.node s' l') = z at *
      refine DW.walk ?_
      exact ⟨(i + 1, c), ⟨by show i + 1 ≤ _; omega, hm⟩, by show l.length - (i + 1) < l.length - i; omega, Sub.auto⟩
    · obtain rfl : i = l.length := by omega
      rw [List.drop_of_length_le (Nat.le_refl _), sizeL_nil] at hm
      subst hm
      clear ih h hs
      refine DW.walk ?_
      exact ⟨.inr rfl, ResOk.one [] rfl rfl trivial (Vw.pers rfl)⟩
end Go.Proofs.YtohjapcafkhabaaDoor

set_option linter.unusedSimpArgs false
set_option linter.unusedVariables false
set_option maxHeartbeats 4000000
set_option maxRecDepth 8000
namespace Go.Proofs.YtohjapcafkhabaaDoor
open Go Go.RowKit Go.PP Go.Dm Go.Rt
theorem deep39_d : ∀ (n : Nat) (t : Tr), depT t ≤ n → TSm t → DFun Tryd.prog 39 [treeD t] (.flat (.int .i64 (deepW t)))
  | 0, .node s l, h, _ => by rw [depT_node] at h; omega
  | n + 1, .node s l, h, hs => by
    rw [depT_node] at h
    rw [TSm_node] at hs
    have hs1 := hs.1
    have ih := deep39_d n
    rw [treeD_node, deepW_node]
    refine DFun.enterA Tryd.func39 Tryd.ntmps39 ?_
    refine DW.walk ?_
    refine DW.loopA (fun p : Nat × Int => ⟨[(1, .ref 1 0), (3, .flat (.int .i64 p.2)), (7, .sl false 2 l.length (kidsC l)), (8, .flat (.int .i64 (l.length : Nat))), (9, .flat (.int .i64 (p.1 : Nat)))], [(1, some (.box [.flat (.int .i64 s), .sl false 2 l.length (kidsC l)]))]⟩) (fun p => p.1 ≤ l.length ∧ deepL p.2 (l.drop p.1) = deepL 0 l) (fun p => l.length - p.1) (0, 0) ?_ ⟨Nat.zero_le _, by show deepL 0 (l.drop 0) = _; rw [List.drop_zero]⟩
    rintro ⟨i, m⟩ ⟨hi, hm⟩
    have hi : i ≤ l.length := hi
    have hm : deepL m (l.drop i) = deepL 0 l := hm
    rcases Nat.lt_or_ge i l.length with hlt | hge
    · obtain ⟨k, hk⟩ : ∃ k, l[i]? = some k := ⟨_, List.getElem?_eq_getElem hlt⟩
      have hp := part_kids hk
      have hd := depL_at hk
      have hks := TSmL.at hs.2 hk
      have ihk := ih k (by omega) hks
      rw [drop_at hk, deepL_cons] at hm
      obtain ⟨c, hc⟩ : ∃ c, (if deepW k > m then deepW k else m) = c := ⟨_, rfl⟩
      rw [hc] at hm
      clear ih hk hs hks hd h
      obtain ⟨s', l'⟩ := k
      rw [treeD_node] at hp ihk
      generalize deepW (.node s' l') = z at *
      refine DW.walk ?_
      exact ⟨(i + 1, c), ⟨by show i + 1 ≤ _; omega, hm⟩, by show l.length - (i + 1) < l.length - i; omega, Sub.auto⟩
    · obtain rfl : i = l.length := by omega
      rw [List.drop_of_length_le (Nat.le_refl _), deepL_nil] at hm
      unfold w64i at hm
      rw [← hm]
      obtain ⟨c, hc⟩ : ∃ c, IntKind.i64.wrap (m + 1) = c := ⟨_, rfl⟩
      rw [hc]
      clear ih h hs hm
      refine DW.walk ?_
      exact ⟨.inr rfl, ResOk.one [] rfl rfl trivial (Vw.pers rfl)⟩
theorem deep40_d : ∀ (n : Nat) (t : Tr), depT t ≤ n → TSm t → DFun Tryd.prog 40 [treeD t] (.flat (.int .i64 (deepW t)))
  | 0, .node s l, h, _ => by rw [depT_node] at h; omega
  | n + 1, .node s l, h, hs => by
    rw [depT_node] at h
    rw [TSm_node] at hs
    have hs1 := hs.1
    have ih := deep40_d n
    rw [treeD_node, deepW_node]
    refine DFun.enterA Tryd.func40 Tryd.ntmps40 ?_
    refine DW.walk ?_
    refine DW.loopA (fun p : Nat × Int => ⟨[(1, .ref 1 0), (3, .flat (.int .i64 p.2)), (4, .flat (.int .i64 (p.1 : Nat)))], [(1, some (.box [.flat (.int .i64 s), .sl false 2 l.length (kidsC l)]))]⟩) (fun p => p.1 ≤ l.length ∧ deepL p.2 (l.drop p.1) = deepL 0 l) (fun p => l.length - p.1) (0, 0) ?_ ⟨Nat.zero_le _, by show deepL 0 (l.drop 0) = _; rw [List.drop_zero]⟩
    rintro ⟨i, m⟩ ⟨hi, hm⟩
    have hi : i ≤ l.length := hi
    have hm : deepL m (l.drop i) = deepL 0 l := hm
    rcases Nat.lt_or_ge i l.length with hlt | hge
    · obtain ⟨k, hk⟩ : ∃ k, l[i]? = some k := ⟨_, List.getElem?_eq_getElem hlt⟩
      have hp := part_kids hk
      have hd := depL_at hk
      have hks := TSmL.at hs.2 hk
      have ihk := ih k (by omega) hks
      rw [drop_at hk, deepL_cons] at hm
      obtain ⟨c, hc⟩ : ∃ c, (if deepW k > m then deepW k else m) = c := ⟨_, rfl⟩
      rw [hc] at hm
      clear ih hk hs hks hd h
      obtain ⟨s', l'⟩ := k
      rw [treeD_node] at hp ihk
      generalize deepW (.node s' l') = z at *
      by_cases hgt : z > m
      · rw [if_pos hgt] at hc
        subst hc
        refine DW.walk ?_
        exact ⟨(i + 1, z), ⟨by show i + 1 ≤ _; omega, hm⟩, by show l.length - (i + 1) < l.length - i; omega, Sub.auto⟩
      · rw [if_neg hgt] at hc
        subst hc
        refine DW.walk ?_
        exact ⟨(i + 1, m), ⟨by show i + 1 ≤ _; omega, hm⟩, by show l.length - (i + 1) < l.length - i; omega, Sub.auto⟩
    · obtain rfl : i = l.length := by omega
      rw [List.drop_of_length_le (Nat.le_refl _), deepL_nil] at hm
      unfold w64i at hm
      rw [← hm]
      obtain ⟨c, hc⟩ : ∃ c, IntKind.i64.wrap (m + 1) = c := ⟨_, rfl⟩
      rw [hc]
      clear ih h hs hm
      refine DW.walk ?_
      exact ⟨.inr rfl, ResOk.one [] rfl rfl trivial (Vw.pers rfl)⟩
end Go.Proofs.YtohjapcafkhabaaDoor
