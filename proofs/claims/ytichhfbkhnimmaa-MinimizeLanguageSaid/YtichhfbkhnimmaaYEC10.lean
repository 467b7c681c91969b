/- What all contracts of the seat stand on. No condition. -/
import Derived.Test.YtichhfbkhnimmaaYBG
import Derived.Test.YtichhfbkhnimmaaYA
import Derived.Test.YtichhfbkhnimmaaYTD


set_option linter.unusedSimpArgs false
set_option linter.unusedVariables false
set_option maxHeartbeats 4000000
set_option maxRecDepth 8000
namespace Go.Proofs.Ytichhfbkhnimmaa
open Go Go.RowKit Go.PP Go.Dm Go.Rt
theorem sizeL_nil (n : Int) : sizeL n [] = n := by rw [sizeL]
theorem sizeL_cons (n : Int) (t : Tr) (ts : List Tr) : sizeL n (t :: ts) = sizeL (w64i (n + sizeW t)) ts := by rw [sizeL]
theorem deepL_nil (n : Int) : deepL n [] = w64i (n + 1) := by rw [deepL]
theorem deepL_cons (n : Int) (t : Tr) (ts : List Tr) : deepL n (t :: ts) = deepL (if deepW t > n then deepW t else n) ts := by rw [deepL]
theorem deepW_node (s : Int) (l : List Tr) : deepW (.node s l) = deepL 0 l := by rw [deepW]
theorem drop_at {l : List Tr} {i : Nat} {t : Tr} (h : l[i]? = some t) : l.drop i = t :: l.drop (i + 1) := by
  have hi := (List.getElem?_eq_some_iff.1 h).1
  rw [List.drop_eq_getElem_cons hi]
  rw [List.getElem?_eq_getElem hi] at h
  rw [Option.some.inj h]
theorem size114_d : ∀ (n : Nat) (t : Tr), depT t ≤ n → TSm t → DFun Try.prog 114 [treeD t] (.flat (.int .i64 (sizeW t)))
  | 0, .node s l, h, _ => by rw [depT_node] at h; omega
  | n + 1, .node s l, h, hs => by
    rw [depT_node] at h
    rw [TSm_node] at hs
    have hs1 := hs.1
    have ih := size114_d n
    rw [treeD_node, sizeW_node]
    refine DFun.enterA Try.func114 Try.ntmps114 ?_
    refine DW.walk ?_
    refine DW.loopA (fun p : Nat × Int => ⟨[(1, .ref 1 0), (3, .flat (.int .i64 p.2)), (7, .sl false 2 l.length (kidsC l)), (8, .flat (.int .i64 (l.length : Nat))), (9, .flat (.int .i64 (p.1 : Nat)))], [(1, some (.box [.flat (.int .i64 s), .sl false 2 l.length (kidsC l)]))]⟩) (fun p => p.1 ≤ l.length ∧ sizeL p.2 (l.drop p.1) = sizeL 1 l) (fun p => l.length - p.1) (0, 1) ?_ ⟨Nat.zero_le _, by show sizeL 1 (l.drop 0) = _; rw [List.drop_zero]⟩
    rintro ⟨i, m⟩ ⟨hi, hm⟩
    have hi : i ≤ l.length := hi
    have hm : sizeL m (l.drop i) = sizeL 1 l := hm
    rcases Nat.lt_or_ge i l.length with hlt | hge
    · obtain ⟨k, hk⟩ : ∃ k, l[i]? = some k := ⟨_, List.getElem?_eq_getElem hlt⟩
      have hp := part_kids hk
      have hd := depL_at hk
      have hks := TSmL.at hs.2 hk
      have ihk := ih k (by omega) hks
      rw [drop_at hk, sizeL_cons] at hm
      obtain ⟨c, hc⟩ : ∃ c, IntKind.i64.wrap (m + sizeW k) = c := ⟨_, rfl⟩
      unfold w64i at hm
      rw [hc] at hm
      clear ih hk hs hks hd h
      obtain ⟨s', l'⟩ := k
      rw [treeD_node] at hp ihk
      generalize sizeW (.node s' l') = z at *
      refine DW.walk ?_
      exact ⟨(i + 1, c), ⟨by show i + 1 ≤ _; omega, hm⟩, by show l.length - (i + 1) < l.length - i; omega, Sub.auto⟩
    · obtain rfl : i = l.length := by omega
      rw [List.drop_of_length_le (Nat.le_refl _), sizeL_nil] at hm
      subst hm
      clear ih h hs
      refine DW.walk ?_
      exact ⟨.inr rfl, ResOk.one [] rfl rfl trivial (Vw.pers rfl)⟩
theorem size37_d : ∀ (n : Nat) (t : Tr), depT t ≤ n → TSm t → DFun Try.prog 37 [treeD t] (.flat (.int .i64 (sizeW t)))
  | 0, .node s l, h, _ => by rw [depT_node] at h; omega
  | n + 1, .node s l, h, hs => by
    rw [depT_node] at h
    rw [TSm_node] at hs
    have hs1 := hs.1
    have ih := size37_d n
    rw [treeD_node, sizeW_node]
    refine DFun.enterA Try.func37 Try.ntmps37 ?_
    refine DW.walk ?_
    refine DW.loopA (fun p : Nat × Int => ⟨[(1, .ref 1 0), (3, .flat (.int .i64 p.2)), (4, .flat (.int .i64 (p.1 : Nat)))], [(1, some (.box [.flat (.int .i64 s), .sl false 2 l.length (kidsC l)]))]⟩) (fun p => p.1 ≤ l.length ∧ sizeL p.2 (l.drop p.1) = sizeL 1 l) (fun p => l.length - p.1) (0, 1) ?_ ⟨Nat.zero_le _, by show sizeL 1 (l.drop 0) = _; rw [List.drop_zero]⟩
    rintro ⟨i, m⟩ ⟨hi, hm⟩
    have hi : i ≤ l.length := hi
    have hm : sizeL m (l.drop i) = sizeL 1 l := hm
    rcases Nat.lt_or_ge i l.length with hlt | hge
    · obtain ⟨k, hk⟩ : ∃ k, l[i]? = some k := ⟨_, List.getElem?_eq_getElem hlt⟩
      have hp := part_kids hk
      have hd := depL_at hk
      have hks := TSmL.at hs.2 hk
      have ihk := ih k (by omega) hks
      rw [drop_at hk, sizeL_cons] at hm
      obtain ⟨c, hc⟩ : ∃ c, IntKind.i64.wrap (m + sizeW k) = c := ⟨_, rfl⟩
      unfold w64i at hm
      rw [hc] at hm
      clear ih hk hs hks hd h
      obtain ⟨s', l'⟩ := k
      rw [treeD_node] at hp ihk
      generalize sizeW (.node s' l') = z at *
      refine DW.walk ?_
      exact ⟨(i + 1, c), ⟨by show i + 1 ≤ _; omega, hm⟩, by show l.length - (i + 1) < l.length - i; omega, Sub.auto⟩
    · obtain rfl : i = l.length := by omega
      rw [List.drop_of_length_le (Nat.le_refl _), sizeL_nil] at hm
      subst hm
      clear ih h hs
      refine DW.walk ?_
      exact ⟨.inr rfl, ResOk.one [] rfl rfl trivial (Vw.pers rfl)⟩
end Go.Proofs.Ytichhfbkhnimmaa

set_option linter.unusedSimpArgs false
set_option linter.unusedVariables false
set_option maxHeartbeats 4000000
set_option maxRecDepth 8000
namespace Go.Proofs.Ytichhfbkhnimmaa
open Go Go.RowKit Go.PP Go.Dm Go.Rt
theorem deep125_d : ∀ (n : Nat) (t : Tr), depT t ≤ n → TSm t → DFun Try.prog 125 [treeD t] (.flat (.int .i64 (deepW t)))
  | 0, .node s l, h, _ => by rw [depT_node] at h; omega
  | n + 1, .node s l, h, hs => by
    rw [depT_node] at h
    rw [TSm_node] at hs
    have hs1 := hs.1
    have ih := deep125_d n
    rw [treeD_node, deepW_node]
    refine DFun.enterA Try.func125 Try.ntmps125 ?_
    refine DW.walk ?_
    refine DW.loopA (fun p : Nat × Int => ⟨[(1, .ref 1 0), (3, .flat (.int .i64 p.2)), (7, .sl false 2 l.length (kidsC l)), (8, .flat (.int .i64 (l.length : Nat))), (9, .flat (.int .i64 (p.1 : Nat)))], [(1, some (.box [.flat (.int .i64 s), .sl false 2 l.length (kidsC l)]))]⟩) (fun p => p.1 ≤ l.length ∧ deepL p.2 (l.drop p.1) = deepL 0 l) (fun p => l.length - p.1) (0, 0) ?_ ⟨Nat.zero_le _, by show deepL 0 (l.drop 0) = _; rw [List.drop_zero]⟩
    rintro ⟨i, m⟩ ⟨hi, hm⟩
    have hi : i ≤ l.length := hi
    have hm : deepL m (l.drop i) = deepL 0 l := hm
    rcases Nat.lt_or_ge i l.length with hlt | hge
    · obtain ⟨k, hk⟩ : ∃ k, l[i]? = some k := ⟨_, List.getElem?_eq_getElem hlt⟩
      have hp := part_kids hk
      have hd := depL_at hk
      have hks := TSmL.at hs.2 hk
      have ihk := ih k (by omega) hks
      rw [drop_at hk, deepL_cons] at hm
      obtain ⟨c, hc⟩ : ∃ c, (if deepW k > m then deepW k else m) = c := ⟨_, rfl⟩
      rw [hc] at hm
      clear ih hk hs hks hd h
      obtain ⟨s', l'⟩ := k
      rw [treeD_node] at hp ihk
      generalize deepW (.node s' l') = z at *
      refine DW.walk ?_
      exact ⟨(i + 1, c), ⟨by show i + 1 ≤ _; omega, hm⟩, by show l.length - (i + 1) < l.length - i; omega, Sub.auto⟩
    · obtain rfl : i = l.length := by omega
      rw [List.drop_of_length_le (Nat.le_refl _), deepL_nil] at hm
      unfold w64i at hm
      rw [← hm]
      obtain ⟨c, hc⟩ : ∃ c, IntKind.i64.wrap (m + 1) = c := ⟨_, rfl⟩
      rw [hc]
      clear ih h hs hm
      refine DW.walk ?_
      exact ⟨.inr rfl, ResOk.one [] rfl rfl trivial (Vw.pers rfl)⟩
theorem deep36_d : ∀ (n : Nat) (t : Tr), depT t ≤ n → TSm t → DFun Try.prog 36 [treeD t] (.flat (.int .i64 (deepW t)))
  | 0, .node s l, h, _ => by rw [depT_node] at h; omega
  | n + 1, .node s l, h, hs => by
    rw [depT_node] at h
    rw [TSm_node] at hs
    have hs1 := hs.1
    have ih := deep36_d n
    rw [treeD_node, deepW_node]
    refine DFun.enterA Try.func36 Try.ntmps36 ?_
    refine DW.walk ?_
    refine DW.loopA (fun p : Nat × Int => ⟨[(1, .ref 1 0), (3, .flat (.int .i64 p.2)), (4, .flat (.int .i64 (p.1 : Nat)))], [(1, some (.box [.flat (.int .i64 s), .sl false 2 l.length (kidsC l)]))]⟩) (fun p => p.1 ≤ l.length ∧ deepL p.2 (l.drop p.1) = deepL 0 l) (fun p => l.length - p.1) (0, 0) ?_ ⟨Nat.zero_le _, by show deepL 0 (l.drop 0) = _; rw [List.drop_zero]⟩
    rintro ⟨i, m⟩ ⟨hi, hm⟩
    have hi : i ≤ l.length := hi
    have hm : deepL m (l.drop i) = deepL 0 l := hm
    rcases Nat.lt_or_ge i l.length with hlt | hge
    · obtain ⟨k, hk⟩ : ∃ k, l[i]? = some k := ⟨_, List.getElem?_eq_getElem hlt⟩
      have hp := part_kids hk
      have hd := depL_at hk
      have hks := TSmL.at hs.2 hk
      have ihk := ih k (by omega) hks
      rw [drop_at hk, deepL_cons] at hm
      obtain ⟨c, hc⟩ : ∃ c, (if deepW k > m then deepW k else m) = c := ⟨_, rfl⟩
      rw [hc] at hm
      clear ih hk hs hks hd h
      obtain ⟨s', l'⟩ := k
      rw [treeD_node] at hp ihk
      generalize deepW (.node s' l') = z at *
      by_cases hgt : z > m
      · rw [if_pos hgt] at hc
        subst hc
        refine DW.walk ?_
        exact ⟨(i + 1, z), ⟨by show i + 1 ≤ _; omega, hm⟩, by show l.length - (i + 1) < l.length - i; omega, Sub.auto⟩
      · rw [if_neg hgt] at hc
        subst hc
        refine DW.walk ?_
        exact ⟨(i + 1, m), ⟨by show i + 1 ≤ _; omega, hm⟩, by show l.length - (i + 1) < l.length - i; omega, Sub.auto⟩
    · obtain rfl : i = l.length := by omega
      rw [List.drop_of_length_le (Nat.le_refl _), deepL_nil] at hm
      unfold w64i at hm
      rw [← hm]
      obtain ⟨c, hc⟩ : ∃ c, IntKind.i64.wrap (m + 1) = c := ⟨_, rfl⟩
      rw [hc]
      clear ih h hs hm
      refine DW.walk ?_
      exact ⟨.inr rfl, ResOk.one [] rfl rfl trivial (Vw.pers rfl)⟩
end Go.Proofs.Ytichhfbkhnimmaa

set_option linter.unusedSimpArgs false
set_option linter.unusedVariables false
set_option maxHeartbeats 4000000
set_option maxRecDepth 8000
namespace Go.Proofs.Ytichhfbkhnimmaa
open Go Go.RowKit Go.PP Go.Dm Go.Rt
theorem own_d : ∀ (n : Nat) (t : Tr), depT t ≤ n → TSm t → DFun Try.prog 38 [treeD t] (treeD t)
  | 0, .node s l, h, _ => by rw [depT_node] at h; omega
  | n + 1, .node s l, h, hs => by
    rw [depT_node] at h
    rw [TSm_node] at hs
    have hs1 := hs.1
    have ih := own_d n
    rw [treeD_node]
    refine DFun.enterA Try.func38 Try.ntmps38 ?_
    refine DW.walkTo 2 ?_
    refine DW.adoptBox 3 1 103 78 2 rfl rfl rfl ?_
    refine DW.walk ?_
    refine DW.loopA (fun i : Nat => ⟨[(1, .ref 1 0), (2, .ref 2 0), (3, .ref 3 0), (4, .flat (.int .i64 (i : Nat)))], [(1, some (.box [.flat (.int .i64 s), .sl false 2 l.length (kidsC l)])), (2, some (.box [.flat (.int .i64 0), .flat (.slice none 0 0)])), (3, some (.box [.flat (.int .i64 s), .own 103 i])), (103, some (.row 78 2 i (kidsC (l.take i))))]⟩) (fun i => i ≤ l.length) (fun i => l.length - i) 0 ?_ (Nat.zero_le _) (by
      rw [List.take_zero, kidsC_nil]
      exact Sub.auto)
    intro i hi
    rcases Nat.lt_or_ge i l.length with hlt | hge
    · obtain ⟨k, hk⟩ : ∃ k, l[i]? = some k := ⟨_, List.getElem?_eq_getElem hlt⟩
      have hp := part_kids hk
      have hd := depL_at hk
      have hks := TSmL.at hs.2 hk
      have ihk := ih k (by omega) hks
      have hsn := (kidsC_snoc hk).symm
      clear ih hk hs hks hd h
      obtain ⟨s', l'⟩ := k
      rw [treeC_node] at hsn
      rw [treeD_node] at hp ihk
      refine DW.walk ?_
      exact ⟨i + 1, by omega, by omega, Sub.auto⟩
    · obtain rfl : i = l.length := by omega
      rw [List.take_length]
      clear ih h hs
      refine DW.walk ?_
      exact ⟨.inr rfl, ResOk.cellA [(103, some (.row 78 2 l.length (kidsC l)))] rfl rfl rfl TyI.ag TyI.sz ⟨rfl, trivial⟩ (.cons (Vw.pers rfl) (.cons (Vw.own (.head _) (VwL.pers (kidsC_pers _))) .nil)) (Le.refl _)⟩
end Go.Proofs.Ytichhfbkhnimmaa

set_option linter.unusedSimpArgs false
set_option linter.unusedVariables false
set_option maxHeartbeats 4000000
set_option maxRecDepth 8000
namespace Go.Proofs.Ytichhfbkhnimmaa
open Go Go.RowKit Go.PP Go.Dm Go.Rt
theorem bT {p : Prop} [Decidable p] (h : p) : D.flat (.bool (decide p)) = D.flat (.bool true) := by rw [decide_eq_true h]
theorem bF {p : Prop} [Decidable p] (h : ¬ p) : D.flat (.bool (decide p)) = D.flat (.bool false) := by rw [decide_eq_false h]
theorem part_int {l : List Int} {i : Nat} {x : Int} (h : l[i]? = some x) : partD false 1 (i * 1) (l.map fun x => .flat (.int .i64 x)) = some (.flat (.int .i64 x)) := part_map1 h
theorem ints_pers (l : List Int) : persL (l.map fun x => D.flat (.int .i64 x)) = true := persL_map (fun _ => rfl) l
theorem first_of {P : Int → Prop} : ∀ {r : List Int}, (∃ n ∈ r, P n) → ∃ j n, r[j]? = some n ∧ P n ∧ ∀ m ∈ r.take j, ¬ P m
  | [], h => by obtain ⟨n, h, _⟩ := h; cases h
  | x :: r, h => by
    by_cases hx : P x
    · exact ⟨0, x, rfl, hx, fun m hm => by cases hm⟩
    · obtain ⟨n, hn, hp⟩ := h
      rcases List.mem_cons.1 hn with rfl | hn
      · exact absurd hp hx
      · obtain ⟨j, n, h1, h2, h3⟩ := first_of (r := r) ⟨n, hn, hp⟩
        exact ⟨j + 1, n, by simpa using h1, h2, fun m hm => by
          rcases List.mem_cons.1 (by simpa using hm) with rfl | hm
          · exact hx
          · exact h3 m hm⟩
theorem bad_d (n : Int) : DFun Try.prog 117 [.flat (.int .i64 n)] (.flat (.bool (decide (n < 0 ∨ 2 < n)))) := by
  by_cases h1 : n < 0
  · rw [decide_eq_true (.inl h1)]
    refine DFun.enterA Try.func117 Try.ntmps117 ?_
    refine DW.walk ?_
    exact ⟨.inr rfl, ResOk.one [] rfl rfl trivial (Vw.pers rfl)⟩
  · by_cases h2 : 2 < n
    · rw [decide_eq_true (.inr h2)]
      refine DFun.enterA Try.func117 Try.ntmps117 ?_
      refine DW.walk ?_
      exact ⟨.inr rfl, ResOk.one [] rfl rfl trivial (Vw.le (Vw.pers rfl) (Le.of_eq (bT (show n > 2 from h2))))⟩
    · rw [decide_eq_false (by omega)]
      refine DFun.enterA Try.func117 Try.ntmps117 ?_
      refine DW.walk ?_
      exact ⟨.inr rfl, ResOk.one [] rfl rfl trivial (Vw.le (Vw.pers rfl) (Le.of_eq (bF (show ¬ n > 2 from h2))))⟩
theorem idx130_at  (r : List Int) (hr : r.length ≤ 1000000000) (j : Nat) (n : Int) (hj : r[j]? = some n) (hp : (n < 0 ∨ 2 < n)) (hno : ∀ m ∈ r.take j, ¬ (m < 0 ∨ 2 < m)) : DFun Try.prog 130 [.sl false 1 r.length (r.map fun x => .flat (.int .i64 x)), .clo (.func 117) [] []] (.flat (.int .i64 (j : Nat))) := by
  refine DFun.enterA Try.func130 Try.ntmps130 ?_
  have hjl := (List.getElem?_eq_some_iff.1 hj).1
  obtain ⟨L, hL⟩ : ∃ L, (r.map fun x => D.flat (.int .i64 x)) = L := ⟨_, rfl⟩
  have hLp : persL L = true := by rw [← hL]; exact ints_pers r
  have hpt : ∀ (i : Nat) (x : Int), r[i]? = some x → partD false 1 (i * 1) L = some (.flat (.int .i64 x)) := fun i x h => by rw [← hL]; exact part_int h
  rw [hL]
  clear hL
  refine DW.walk ?_
  refine DW.loopA (fun i : Nat => ⟨[(0, .sl false 1 r.length L), (1, .clo (.func 117) [] []), (6, .sl false 1 r.length L), (7, .flat (.int .i64 (r.length : Nat))), (8, .flat (.int .i64 (i : Nat)))], []⟩) (fun i => i ≤ j) (fun i => j - i) 0 ?_ (Nat.zero_le _)
  intro i hi
  rcases Nat.lt_or_ge i j with hlt | hge
  · obtain ⟨x, hx⟩ : ∃ x, r[i]? = some x := ⟨_, List.getElem?_eq_getElem (by omega)⟩
    have hxp := hpt i x hx
    have hnx : ¬ (x < 0 ∨ 2 < x) := hno x (List.mem_take_iff_getElem.2 ⟨i, by omega, by rw [List.getElem?_eq_getElem (by omega)] at hx; exact Option.some.inj hx⟩)
    have hb := bad_d x
    rw [decide_eq_false hnx] at hb
    clear hpt hno hp hj
    refine DW.walk ?_
    exact ⟨i + 1, by omega, by omega, Sub.auto⟩
  · obtain rfl : i = j := by omega
    have hxp := hpt i n hj
    have hb := bad_d n
    rw [decide_eq_true hp] at hb
    clear hpt hno
    refine DW.walk ?_
    exact ⟨.inr rfl, ResOk.one [] rfl rfl trivial (Vw.pers rfl)⟩
theorem idx130_no  (r : List Int) (hr : r.length ≤ 1000000000) (hno : ∀ m ∈ r, ¬ (m < 0 ∨ 2 < m)) : DFun Try.prog 130 [.sl false 1 r.length (r.map fun x => .flat (.int .i64 x)), .clo (.func 117) [] []] (.flat (.int .i64 (-1))) := by
  refine DFun.enterA Try.func130 Try.ntmps130 ?_
  obtain ⟨L, hL⟩ : ∃ L, (r.map fun x => D.flat (.int .i64 x)) = L := ⟨_, rfl⟩
  have hLp : persL L = true := by rw [← hL]; exact ints_pers r
  have hpt : ∀ (i : Nat) (x : Int), r[i]? = some x → partD false 1 (i * 1) L = some (.flat (.int .i64 x)) := fun i x h => by rw [← hL]; exact part_int h
  rw [hL]
  clear hL
  refine DW.walk ?_
  refine DW.loopA (fun i : Nat => ⟨[(0, .sl false 1 r.length L), (1, .clo (.func 117) [] []), (6, .sl false 1 r.length L), (7, .flat (.int .i64 (r.length : Nat))), (8, .flat (.int .i64 (i : Nat)))], []⟩) (fun i => i ≤ r.length) (fun i => r.length - i) 0 ?_ (Nat.zero_le _)
  intro i hi
  rcases Nat.lt_or_ge i r.length with hlt | hge
  · obtain ⟨x, hx⟩ : ∃ x, r[i]? = some x := ⟨_, List.getElem?_eq_getElem (by omega)⟩
    have hxp := hpt i x hx
    have hnx : ¬ (x < 0 ∨ 2 < x) := hno x (List.mem_of_getElem? hx)
    have hb := bad_d x
    rw [decide_eq_false hnx] at hb
    clear hpt hno
    refine DW.walk ?_
    exact ⟨i + 1, by omega, by omega, Sub.auto⟩
  · obtain rfl : i = r.length := by omega
    clear hpt hno
    refine DW.walk ?_
    exact ⟨.inr rfl, ResOk.one [] rfl rfl trivial (Vw.pers rfl)⟩
theorem idx131_at (v : Int) (r : List Int) (hr : r.length ≤ 1000000000) (j : Nat) (n : Int) (hj : r[j]? = some n) (hp : (v = n)) (hno : ∀ m ∈ r.take j, ¬ (v = m)) : DFun Try.prog 131 [.sl false 1 r.length (r.map fun x => .flat (.int .i64 x)), .flat (.int .i64 v)] (.flat (.int .i64 (j : Nat))) := by
  refine DFun.enterA Try.func131 Try.ntmps131 ?_
  have hjl := (List.getElem?_eq_some_iff.1 hj).1
  obtain ⟨L, hL⟩ : ∃ L, (r.map fun x => D.flat (.int .i64 x)) = L := ⟨_, rfl⟩
  have hLp : persL L = true := by rw [← hL]; exact ints_pers r
  have hpt : ∀ (i : Nat) (x : Int), r[i]? = some x → partD false 1 (i * 1) L = some (.flat (.int .i64 x)) := fun i x h => by rw [← hL]; exact part_int h
  rw [hL]
  clear hL
  refine DW.walk ?_
  refine DW.loopA (fun i : Nat => ⟨[(0, .sl false 1 r.length L), (1, .flat (.int .i64 v)), (6, .sl false 1 r.length L), (7, .flat (.int .i64 (r.length : Nat))), (8, .flat (.int .i64 (i : Nat)))], []⟩) (fun i => i ≤ j) (fun i => j - i) 0 ?_ (Nat.zero_le _)
  intro i hi
  rcases Nat.lt_or_ge i j with hlt | hge
  · obtain ⟨x, hx⟩ : ∃ x, r[i]? = some x := ⟨_, List.getElem?_eq_getElem (by omega)⟩
    have hxp := hpt i x hx
    have hnx : ¬ (v = x) := hno x (List.mem_take_iff_getElem.2 ⟨i, by omega, by rw [List.getElem?_eq_getElem (by omega)] at hx; exact Option.some.inj hx⟩)
    have hq : ¬ v = x := hnx
    clear hpt hno hp hj
    refine DW.walk ?_
    exact ⟨i + 1, by omega, by omega, Sub.auto⟩
  · obtain rfl : i = j := by omega
    have hxp := hpt i n hj
    have hq : v = n := hp
    clear hpt hno
    refine DW.walk ?_
    exact ⟨.inr rfl, ResOk.one [] rfl rfl trivial (Vw.pers rfl)⟩
theorem idx131_no (v : Int) (r : List Int) (hr : r.length ≤ 1000000000) (hno : ∀ m ∈ r, ¬ (v = m)) : DFun Try.prog 131 [.sl false 1 r.length (r.map fun x => .flat (.int .i64 x)), .flat (.int .i64 v)] (.flat (.int .i64 (-1))) := by
  refine DFun.enterA Try.func131 Try.ntmps131 ?_
  obtain ⟨L, hL⟩ : ∃ L, (r.map fun x => D.flat (.int .i64 x)) = L := ⟨_, rfl⟩
  have hLp : persL L = true := by rw [← hL]; exact ints_pers r
  have hpt : ∀ (i : Nat) (x : Int), r[i]? = some x → partD false 1 (i * 1) L = some (.flat (.int .i64 x)) := fun i x h => by rw [← hL]; exact part_int h
  rw [hL]
  clear hL
  refine DW.walk ?_
  refine DW.loopA (fun i : Nat => ⟨[(0, .sl false 1 r.length L), (1, .flat (.int .i64 v)), (6, .sl false 1 r.length L), (7, .flat (.int .i64 (r.length : Nat))), (8, .flat (.int .i64 (i : Nat)))], []⟩) (fun i => i ≤ r.length) (fun i => r.length - i) 0 ?_ (Nat.zero_le _)
  intro i hi
  rcases Nat.lt_or_ge i r.length with hlt | hge
  · obtain ⟨x, hx⟩ : ∃ x, r[i]? = some x := ⟨_, List.getElem?_eq_getElem (by omega)⟩
    have hxp := hpt i x hx
    have hnx : ¬ (v = x) := hno x (List.mem_of_getElem? hx)
    have hq : ¬ v = x := hnx
    clear hpt hno
    refine DW.walk ?_
    exact ⟨i + 1, by omega, by omega, Sub.auto⟩
  · obtain rfl : i = r.length := by omega
    clear hpt hno
    refine DW.walk ?_
    exact ⟨.inr rfl, ResOk.one [] rfl rfl trivial (Vw.pers rfl)⟩
theorem le_clo8 (fn : Fn) : Le (.flat (.func fn #[] #[])) (.clo fn [] []) := fun M w G v _ h => by
  simp only [Rep] at h ⊢
  exact ⟨[], [], h, by simp only [RepL], by simp only [RepL]⟩
open Classical in
theorem contF_d (r : List Int) (hr : r.length ≤ 1000000000) : DFun Try.prog 116 [.sl false 1 r.length (r.map fun x => .flat (.int .i64 x)), .flat (.func (.func 117) #[] #[])] (.flat (.bool (decide (∃ n ∈ r, n < 0 ∨ 2 < n)))) := by
  by_cases h : ∃ n ∈ r, n < 0 ∨ 2 < n
  · obtain ⟨j, n, h1, h2, h3⟩ := first_of h
    have hi := (idx130_at r hr j n h1 h2 h3).le (args' := [.sl false 1 r.length (r.map fun x => .flat (.int .i64 x)), .flat (.func (.func 117) #[] #[])]) ⟨Le.refl _, le_clo8 _, trivial⟩ (Le.refl _)
    rw [decide_eq_true h]
    generalize (r.map fun x => D.flat (.int .i64 x)) = L at *
    clear h1 h2 h3 h
    refine DFun.enterA Try.func116 Try.ntmps116 ?_
    refine DW.walk ?_
    exact ⟨.inr rfl, ResOk.one [] rfl rfl trivial (Vw.le (Vw.pers rfl) (Le.of_eq (bT (by omega))))⟩
  · have hi := (idx130_no r hr (fun m hm hb => h ⟨m, hm, hb⟩)).le (args' := [.sl false 1 r.length (r.map fun x => .flat (.int .i64 x)), .flat (.func (.func 117) #[] #[])]) ⟨Le.refl _, le_clo8 _, trivial⟩ (Le.refl _)
    rw [decide_eq_false h]
    generalize (r.map fun x => D.flat (.int .i64 x)) = L at *
    clear h
    refine DFun.enterA Try.func116 Try.ntmps116 ?_
    refine DW.walk ?_
    exact ⟨.inr rfl, ResOk.one [] rfl rfl trivial (Vw.pers rfl)⟩
open Classical in
theorem cont_d (r : List Int) (v : Int) (hr : r.length ≤ 1000000000) : DFun Try.prog 118 [.sl false 1 r.length (r.map fun x => .flat (.int .i64 x)), .flat (.int .i64 v)] (.flat (.bool (decide (v ∈ r)))) := by
  by_cases h : v ∈ r
  · obtain ⟨j, n, h1, h2, h3⟩ := first_of (P := fun m => v = m) ⟨v, h, rfl⟩
    have hi := idx131_at v r hr j n h1 h2 h3
    rw [decide_eq_true h]
    generalize (r.map fun x => D.flat (.int .i64 x)) = L at *
    clear h1 h2 h3 h
    refine DFun.enterA Try.func118 Try.ntmps118 ?_
    refine DW.walk ?_
    exact ⟨.inr rfl, ResOk.one [] rfl rfl trivial (Vw.le (Vw.pers rfl) (Le.of_eq (bT (by omega))))⟩
  · have hi := idx131_no v r hr (fun m hm hb => h (by rw [hb]; exact hm))
    rw [decide_eq_false h]
    generalize (r.map fun x => D.flat (.int .i64 x)) = L at *
    clear h
    refine DFun.enterA Try.func118 Try.ntmps118 ?_
    refine DW.walk ?_
    exact ⟨.inr rfl, ResOk.one [] rfl rfl trivial (Vw.pers rfl)⟩
theorem check88_d (r : List Int) (hr : r.length ≤ 1000000000) : DFun Try.prog 88 [.sl false 1 r.length (r.map fun x => .flat (.int .i64 x))] (.flat (.int .i64 (alphaE r : Nat))) := by
  have h1 := contF_d r hr
  have h2 := cont_d r 0 hr
  unfold alphaE
  generalize (r.map fun x => D.flat (.int .i64 x)) = L at *
  by_cases c1 : r.length < 1 ∨ 4096 < r.length
  · rw [if_pos c1]
    clear h1 h2
    by_cases c2 : r.length < 1
    · refine DFun.enterA Try.func88 Try.ntmps88 ?_
      refine DW.walk ?_
      exact ⟨.inr rfl, ResOk.one [] rfl rfl trivial (Vw.pers rfl)⟩
    · have c3 : 4096 < r.length := by omega
      refine DFun.enterA Try.func88 Try.ntmps88 ?_
      refine DW.walk ?_
      exact ⟨.inr rfl, ResOk.one [] rfl rfl trivial (Vw.pers rfl)⟩
  · rw [if_neg c1]
    have c2 : ¬ r.length < 1 := by omega
    have c3 : ¬ 4096 < r.length := by omega
    by_cases c4 : ∃ n ∈ r, n < 0 ∨ 2 < n
    · rw [if_pos c4]
      rw [decide_eq_true c4] at h1
      refine DFun.enterA Try.func88 Try.ntmps88 ?_
      refine DW.walk ?_
      exact ⟨.inr rfl, ResOk.one [] rfl rfl trivial (Vw.pers rfl)⟩
    · rw [if_neg c4]
      rw [decide_eq_false c4] at h1
      by_cases c5 : (0 : Int) ∈ r
      · rw [if_pos c5]
        rw [decide_eq_true c5] at h2
        refine DFun.enterA Try.func88 Try.ntmps88 ?_
        refine DW.walk ?_
        exact ⟨.inr rfl, ResOk.one [] rfl rfl trivial (Vw.pers rfl)⟩
      · rw [if_neg c5]
        rw [decide_eq_false c5] at h2
        refine DFun.enterA Try.func88 Try.ntmps88 ?_
        refine DW.walk ?_
        exact ⟨.inr rfl, ResOk.one [] rfl rfl trivial (Vw.pers rfl)⟩
theorem clone76_0 (a : Option Addr) (c : Nat) : DFun Try.prog 76 [.flat (.slice a 0 c)] (.sl false 1 0 []) := by
  cases a with
  | none =>
    refine DFun.enterA Try.func76 Try.ntmps76 ?_
    refine DW.walk ?_
    exact ⟨.inr rfl, ResOk.one [] rfl rfl trivial (Vw.le (Vw.pers rfl) (Le.nil _ _))⟩
  | some a =>
    refine DFun.enterA Try.func76 Try.ntmps76 ?_
    refine DW.walk ?_
    exact ⟨.inr rfl, ResOk.one [] rfl rfl trivial (Vw.pers rfl)⟩
theorem clone76_d (r : List Int) (hr : r.length ≤ 1000000000) : DFun Try.prog 76 [.sl false 1 r.length (r.map fun x => .flat (.int .i64 x))] (.sl false 1 r.length (r.map fun x => .flat (.int .i64 x))) := by
  by_cases h0 : r = []
  · subst h0
    refine .intro fun M w vals hM hv hgl => ?_
    simp only [RepL] at hv
    obtain ⟨u, us, rfl, hu, rfl⟩ := hv
    have hu2 := hu
    simp only [Rep] at hu2
    obtain ⟨a, cap, rfl, _⟩ := hu2
    exact (clone76_0 a cap).go M w [.slice a 0 cap] hM (by simp only [RepL, Rep]; exact ⟨_, _, rfl, rfl, rfl⟩) hgl
  · have hl : 0 < r.length := List.length_pos_iff.2 h0
    have hp := ints_pers r
    generalize (r.map fun x => D.flat (.int .i64 x)) = L at *
    refine DFun.enterA Try.func76 Try.ntmps76 ?_
    refine DW.walk ?_
    exact ⟨.inr rfl, ResOk.one [] rfl rfl trivial (Vw.le (Vw.pers rfl) (Le.of_eq (congrArg (fun k => D.sl false 1 k L) (Nat.zero_add _))))⟩
end Go.Proofs.Ytichhfbkhnimmaa

set_option linter.unusedSimpArgs false
set_option linter.unusedVariables false
set_option maxHeartbeats 4000000
set_option maxRecDepth 8000
namespace Go.Proofs.Ytichhfbkhnimmaa
open Go Go.RowKit Go.PP Go.Dm Go.Rt
theorem check49_d (r : List Int) (hr : r.length ≤ 1000000000) : DFun Try.prog 49 [.sl false 1 r.length (r.map fun x => .flat (.int .i64 x))] (.flat (.int .i64 (alphaE r : Nat))) := by
  have hrp := ints_pers r
  by_cases h1 : r.length < 1 ∨ 4096 < r.length
  · have e : alphaE r = 2 := by unfold alphaE; rw [if_pos h1]
    rw [e]
    generalize (r.map fun x => D.flat (.int .i64 x)) = LR at *
    refine DFun.enterA Try.func49 Try.ntmps49 ?_
    rcases h1 with h1 | h1
    · refine DW.walk ?_
      exact ⟨.inr rfl, ResOk.one [] rfl rfl trivial (Vw.pers rfl)⟩
    · refine DW.walk ?_
      exact ⟨.inr rfl, ResOk.one [] rfl rfl trivial (Vw.pers rfl)⟩
  · have h2 : 1 ≤ r.length ∧ r.length ≤ 4096 := by omega
    have h3 := h2.1
    have h4 := h2.2
    refine DFun.enterA Try.func49 Try.ntmps49 ?_
    refine DW.walk ?_
    refine DW.loopA (fun p : Nat × Bool => ⟨[(0, .sl false 1 r.length (r.map fun x => .flat (.int .i64 x))), (2, .flat (.int .i64 0)), (3, .flat (.bool p.2)), (4, .flat (.int .i64 (p.1 : Nat)))], []⟩) (fun p => p.1 ≤ r.length ∧ (∀ m ∈ r.take p.1, ¬ (m < 0 ∨ 2 < m)) ∧ (p.2 = true ↔ (0 : Int) ∉ r.take p.1)) (fun p => r.length - p.1) (0, true) ?_ ⟨Nat.zero_le _, by simp, by simp⟩ (by exact Sub.auto)
    rintro ⟨i, b⟩ ⟨hi, hno, hb⟩
    have hi : i ≤ r.length := hi
    have hno : ∀ m ∈ r.take i, ¬ (m < 0 ∨ 2 < m) := hno
    have hb : b = true ↔ (0 : Int) ∉ r.take i := hb
    rcases Nat.lt_or_ge i r.length with hlt | hge
    · obtain ⟨k, hk⟩ : ∃ k, r[i]? = some k := ⟨_, List.getElem?_eq_getElem hlt⟩
      have hp := part_int hk
      by_cases hbad : k < 0 ∨ 2 < k
      · have e : alphaE r = 3 := by unfold alphaE; rw [if_neg h1, if_pos ⟨k, List.mem_of_getElem? hk, hbad⟩]
        rw [e]
        clear hno hb hk
        generalize (r.map fun x => D.flat (.int .i64 x)) = LR at *
        by_cases hk0 : k < 0
        · refine DW.walk ?_
          exact ⟨.inr rfl, ResOk.one [] rfl rfl trivial (Vw.pers rfl)⟩
        · have hk2 := hbad.resolve_left hk0
          refine DW.walk ?_
          exact ⟨.inr rfl, ResOk.one [] rfl rfl trivial (Vw.pers rfl)⟩
      · have hk0 : ¬ k < 0 := fun h => hbad (.inl h)
        have hk2 : ¬ 2 < k := fun h => hbad (.inr h)
        have ht : r.take (i + 1) = r.take i ++ [k] := by rw [List.take_add_one, hk]; rfl
        have hno' : ∀ m ∈ r.take (i + 1), ¬ (m < 0 ∨ 2 < m) := fun m hm => by
          rw [ht] at hm
          rcases List.mem_append.1 hm with hm | hm
          · exact hno m hm
          · rw [List.mem_singleton.1 hm]; exact hbad
        cases b with
        | true =>
          have hb' : decide (0 < k) = true ↔ (0 : Int) ∉ r.take (i + 1) := by
            rw [ht, List.mem_append, List.mem_singleton, decide_eq_true_iff]
            have := hb.1 rfl
            constructor
            · rintro h (h' | h')
              · exact this h'
              · omega
            · intro h
              have : ¬ (0 : Int) = k := fun e => h (.inr e)
              omega
          clear hno hb hk h1 ht hbad
          generalize (r.map fun x => D.flat (.int .i64 x)) = LR at *
          refine DW.walk ?_
          exact ⟨(i + 1, decide (0 < k)), ⟨by show i + 1 ≤ _; omega, hno', hb'⟩, by show r.length - (i + 1) < r.length - i; omega, Sub.auto⟩
        | false =>
          have hb' : false = true ↔ (0 : Int) ∉ r.take (i + 1) := by
            rw [ht, List.mem_append]
            constructor
            · intro h; cases h
            · intro h
              exact hb.2 fun h' => h (.inl h')
          clear hno hb hk h1 ht hbad
          generalize (r.map fun x => D.flat (.int .i64 x)) = LR at *
          refine DW.walk ?_
          exact ⟨(i + 1, false), ⟨by show i + 1 ≤ _; omega, hno', hb'⟩, by show r.length - (i + 1) < r.length - i; omega, Sub.auto⟩
    · obtain rfl : i = r.length := by omega
      rw [List.take_length] at hno hb
      have hn3 : ¬ ∃ n ∈ r, n < 0 ∨ 2 < n := fun ⟨n, a1, a2⟩ => hno n a1 a2
      cases b with
      | true =>
        have e : alphaE r = 9 := by unfold alphaE; rw [if_neg h1, if_neg hn3, if_neg (hb.1 rfl)]
        rw [e]
        clear hno hb hn3
        generalize (r.map fun x => D.flat (.int .i64 x)) = LR at *
        refine DW.walk ?_
        exact ⟨.inr rfl, ResOk.one [] rfl rfl trivial (Vw.pers rfl)⟩
      | false =>
        have e : alphaE r = 0 := by
          unfold alphaE
          rw [if_neg h1, if_neg hn3, if_pos]
          by_cases h : (0 : Int) ∈ r
          · exact h
          · have := hb.2 h
            cases this
        rw [e]
        clear hno hb hn3
        generalize (r.map fun x => D.flat (.int .i64 x)) = LR at *
        refine DW.walk ?_
        exact ⟨.inr rfl, ResOk.one [] rfl rfl trivial (Vw.pers rfl)⟩
end Go.Proofs.Ytichhfbkhnimmaa

set_option linter.unusedSimpArgs false
set_option linter.unusedVariables false
set_option maxHeartbeats 4000000
set_option maxRecDepth 8000
namespace Go.Proofs.Ytichhfbkhnimmaa
open Go Go.RowKit Go.PP Go.Dm Go.Rt
theorem nodesE_node (r : List Int) (s : Int) (l : List Tr) : nodesE r (.node s l) = if s < 0 ∨ (r.length : Int) ≤ s then 6 else if (l.length : Int) ≠ r.getD s.toNat 0 then 3 else nodesL r l := by rw [nodesE]
theorem nodesL_nil (r : List Int) : nodesL r [] = 0 := by rw [nodesL]
theorem nodesL_cons (r : List Int) (t : Tr) (ts : List Tr) : nodesL r (t :: ts) = if nodesE r t ≠ 0 then nodesE r t else nodesL r ts := by rw [nodesL]
end Go.Proofs.Ytichhfbkhnimmaa
