/- Contracts over data: Equal. No condition. -/
import Derived.Test.YtohjapcafkhabaaDoorYC6
import Derived.Test.YtohjapcafkhabaaDoorYC2

set_option linter.unusedSimpArgs false
set_option linter.unusedVariables false
set_option maxHeartbeats 4000000
set_option maxRecDepth 8000
namespace Go.Proofs.YtohjapcafkhabaaDoor
open Go Go.RowKit Go.PP Go.Dm Go.Rt
noncomputable def eqB (t u : Tr) : Bool := @decide (t = u) (Classical.propDecidable _)
theorem eqB_t {t u : Tr} (h : t = u) : eqB t u = true := @decide_eq_true _ (Classical.propDecidable _) h
theorem eqB_f {t u : Tr} (h : t ≠ u) : eqB t u = false := @decide_eq_false _ (Classical.propDecidable _) h
noncomputable def eqLB (l l' : List Tr) : Bool := @decide (l = l') (Classical.propDecidable _)
theorem eqLB_t {t u : List Tr} (h : t = u) : eqLB t u = true := @decide_eq_true _ (Classical.propDecidable _) h
theorem eqLB_f {t u : List Tr} (h : t ≠ u) : eqLB t u = false := @decide_eq_false _ (Classical.propDecidable _) h
theorem equalF_d (l l' : List Tr) (hs1 : l.length * 32 ≤ 140737488351232) (hs2 : l'.length * 32 ≤ 140737488351232) (ih : ∀ (i : Nat) k k', l[i]? = some k → l'[i]? = some k' → DFun Tryd.prog 31 [treeD k, treeD k'] (.flat (.bool (eqB k k')))) : DFun Tryd.prog 54 [treesD l, treesD l', .clo (.func 31) [] []] (.flat (.bool (eqLB l l'))) := by
  by_cases hll : l.length = l'.length
  · refine DFun.enterA Tryd.func54 Tryd.ntmps54 ?_
    refine DW.walk ?_
    refine DW.loopA (fun i : Nat => ⟨[(0, .sl false 2 l.length (kidsC l)), (1, .sl false 2 l'.length (kidsC l')), (2, .clo (.func 31) [] []), (15, .sl false 2 l.length (kidsC l)), (16, .flat (.int .i64 (l.length : Nat))), (17, .flat (.int .i64 (i : Nat)))], []⟩) (fun i => i ≤ l.length ∧ l.take i = l'.take i) (fun i => l.length - i) 0 ?_ ⟨Nat.zero_le _, by rw [List.take_zero, List.take_zero]⟩
    rintro i ⟨hi, hc⟩
    rcases Nat.lt_or_ge i l.length with hlt | hge
    · obtain ⟨k, hk⟩ : ∃ k, l[i]? = some k := ⟨_, List.getElem?_eq_getElem hlt⟩
      obtain ⟨k', hk'⟩ : ∃ k, l'[i]? = some k := ⟨_, List.getElem?_eq_getElem (by omega)⟩
      have hp := part_kids hk
      have hp' := part_kids hk'
      have ihk := ih i k k' hk hk'
      clear ih
      by_cases hz : k = k'
      · rw [eqB_t hz] at ihk
        have hc2 : l.take (i + 1) = l'.take (i + 1) := by rw [List.take_add_one, List.take_add_one, hc, hk, hk', hz]
        clear hk hk' hc hz
        obtain ⟨s1, l1⟩ := k
        obtain ⟨s2, l2⟩ := k'
        rw [treeD_node] at hp hp' ihk
        rw [treeD_node] at ihk
        refine DW.walk ?_
        exact ⟨i + 1, ⟨by omega, hc2⟩, by omega, Sub.auto⟩
      · rw [eqB_f hz] at ihk
        rw [eqLB_f (fun e => hz (by subst e; rw [hk] at hk'; exact Option.some.inj hk'))]
        clear hk hk' hc hz
        obtain ⟨s1, l1⟩ := k
        obtain ⟨s2, l2⟩ := k'
        rw [treeD_node] at hp hp' ihk
        rw [treeD_node] at ihk
        refine DW.walk ?_
        exact ⟨.inr rfl, ResOk.one [] rfl rfl trivial (Vw.pers rfl)⟩
    · obtain rfl : i = l.length := by omega
      rw [List.take_length, hll, List.take_length] at hc
      rw [eqLB_t hc]
      clear ih hc
      refine DW.walk ?_
      exact ⟨.inr rfl, ResOk.one [] rfl rfl trivial (Vw.pers rfl)⟩
  · rw [eqLB_f (fun e => hll (by rw [e]))]
    clear ih
    refine DFun.enterA Tryd.func54 Tryd.ntmps54 ?_
    refine DW.walk ?_
    exact ⟨.inr rfl, ResOk.one [] rfl rfl trivial (Vw.pers rfl)⟩
theorem equal_d : ∀ (n : Nat) (t u : Tr), depT t ≤ n → TSm t → TSm u → DFun Tryd.prog 31 [treeD t, treeD u] (.flat (.bool (eqB t u)))
  | 0, .node s l, _, h, _, _ => by rw [depT_node] at h; omega
  | n + 1, .node s l, .node s' l', h, hs, hs' => by
    rw [depT_node] at h
    rw [TSm_node] at hs hs'
    have hs1 := hs.1
    have hs2 := hs'.1
    have hF : DFun Tryd.prog 54 [treesD l, treesD l', .flat (.func (.func 31) #[] #[])] (.flat (.bool (eqLB l l'))) :=
      (equalF_d l l' hs1 hs2 (fun i k k' hk hk' => equal_d n k k' (by have := depL_at hk; omega) (TSmL.at hs.2 hk) (TSmL.at hs'.2 hk'))).le ⟨Le.refl _, Le.refl _, le_clo _, trivial⟩ (Le.refl _)
    rw [treeD_node, treeD_node]
    clear h hs hs'
    by_cases h1 : s = s'
    · have e : eqB (.node s l) (.node s' l') = eqLB l l' := by
        by_cases h2 : l = l'
        · rw [eqB_t (by rw [h1, h2]), eqLB_t h2]
        · rw [eqB_f (fun e => h2 (by injection e)), eqLB_f h2]
      rw [e]
      generalize eqLB l l' = r at *
      clear e
      refine DFun.enterA Tryd.func31 Tryd.ntmps31 ?_
      refine DW.walk ?_
      exact ⟨.inr rfl, ResOk.one [] rfl rfl trivial (Vw.pers rfl)⟩
    · rw [eqB_f (fun e => h1 (by injection e))]
      clear hF
      refine DFun.enterA Tryd.func31 Tryd.ntmps31 ?_
      refine DW.walk ?_
      exact ⟨.inr rfl, ResOk.one [] rfl rfl trivial (Vw.pers rfl)⟩
end Go.Proofs.YtohjapcafkhabaaDoor

set_option linter.unusedSimpArgs false
set_option linter.unusedVariables false
set_option maxHeartbeats 4000000
set_option maxRecDepth 8000
namespace Go.Proofs.YtohjapcafkhabaaDoor
open Go Go.RowKit Go.PP Go.Dm Go.Rt
theorem bT {p : Prop} [Decidable p] (h : p) : D.flat (.bool (decide p)) = D.flat (.bool true) := by rw [decide_eq_true h]
theorem bF {p : Prop} [Decidable p] (h : ¬ p) : D.flat (.bool (decide p)) = D.flat (.bool false) := by rw [decide_eq_false h]
theorem part_int {l : List Int} {i : Nat} {x : Int} (h : l[i]? = some x) : partD false 1 (i * 1) (l.map fun x => .flat (.int .i64 x)) = some (.flat (.int .i64 x)) := part_map1 h
theorem ints_pers (l : List Int) : persL (l.map fun x => D.flat (.int .i64 x)) = true := persL_map (fun _ => rfl) l
/-- The first of a kind. -/
theorem first_of {P : Int → Prop} : ∀ {r : List Int}, (∃ n ∈ r, P n) → ∃ j n, r[j]? = some n ∧ P n ∧ ∀ m ∈ r.take j, ¬ P m
  | [], h => by obtain ⟨n, h, _⟩ := h; cases h
  | x :: r, h => by
    by_cases hx : P x
    · exact ⟨0, x, rfl, hx, fun m hm => by cases hm⟩
    · obtain ⟨n, hn, hp⟩ := h
      rcases List.mem_cons.1 hn with rfl | hn
      · exact absurd hp hx
      · obtain ⟨j, n, h1, h2, h3⟩ := first_of (r := r) ⟨n, hn, hp⟩
        exact ⟨j + 1, n, by simpa using h1, h2, fun m hm => by
          rcases List.mem_cons.1 (by simpa using hm) with rfl | hm
          · exact hx
          · exact h3 m hm⟩
theorem bad_d (n : Int) : DFun Tryd.prog 51 [.flat (.int .i64 n)] (.flat (.bool (decide (n < 0 ∨ 2 < n)))) := by
  by_cases h1 : n < 0
  · rw [decide_eq_true (.inl h1)]
    refine DFun.enterA Tryd.func51 Tryd.ntmps51 ?_
    refine DW.walk ?_
    exact ⟨.inr rfl, ResOk.one [] rfl rfl trivial (Vw.pers rfl)⟩
  · by_cases h2 : 2 < n
    · rw [decide_eq_true (.inr h2)]
      refine DFun.enterA Tryd.func51 Tryd.ntmps51 ?_
      refine DW.walk ?_
      exact ⟨.inr rfl, ResOk.one [] rfl rfl trivial (Vw.le (Vw.pers rfl) (Le.of_eq (bT (show n > 2 from h2))))⟩
    · rw [decide_eq_false (by omega)]
      refine DFun.enterA Tryd.func51 Tryd.ntmps51 ?_
      refine DW.walk ?_
      exact ⟨.inr rfl, ResOk.one [] rfl rfl trivial (Vw.le (Vw.pers rfl) (Le.of_eq (bF (show ¬ n > 2 from h2))))⟩
theorem idx68_at  (r : List Int) (hr : r.length ≤ 1000000000) (j : Nat) (n : Int) (hj : r[j]? = some n) (hp : (n < 0 ∨ 2 < n)) (hno : ∀ m ∈ r.take j, ¬ (m < 0 ∨ 2 < m)) : DFun Tryd.prog 68 [.sl false 1 r.length (r.map fun x => .flat (.int .i64 x)), .clo (.func 51) [] []] (.flat (.int .i64 (j : Nat))) := by
  refine DFun.enterA Tryd.func68 Tryd.ntmps68 ?_
  have hjl := (List.getElem?_eq_some_iff.1 hj).1
  obtain ⟨L, hL⟩ : ∃ L, (r.map fun x => D.flat (.int .i64 x)) = L := ⟨_, rfl⟩
  have hLp : persL L = true := by rw [← hL]; exact ints_pers r
  have hpt : ∀ (i : Nat) (x : Int), r[i]? = some x → partD false 1 (i * 1) L = some (.flat (.int .i64 x)) := fun i x h => by rw [← hL]; exact part_int h
  rw [hL]
  clear hL
  refine DW.walk ?_
  refine DW.loopA (fun i : Nat => ⟨[(0, .sl false 1 r.length L), (1, .clo (.func 51) [] []), (6, .sl false 1 r.length L), (7, .flat (.int .i64 (r.length : Nat))), (8, .flat (.int .i64 (i : Nat)))], []⟩) (fun i => i ≤ j) (fun i => j - i) 0 ?_ (Nat.zero_le _)
  intro i hi
  rcases Nat.lt_or_ge i j with hlt | hge
  · obtain ⟨x, hx⟩ : ∃ x, r[i]? = some x := ⟨_, List.getElem?_eq_getElem (by omega)⟩
    have hxp := hpt i x hx
    have hnx : ¬ (x < 0 ∨ 2 < x) := hno x (List.mem_take_iff_getElem.2 ⟨i, by omega, by rw [List.getElem?_eq_getElem (by omega)] at hx; exact Option.some.inj hx⟩)
    have hb := bad_d x
    rw [decide_eq_false hnx] at hb
    clear hpt hno hp hj
    refine DW.walk ?_
    exact ⟨i + 1, by omega, by omega, Sub.auto⟩
  · obtain rfl : i = j := by omega
    have hxp := hpt i n hj
    have hb := bad_d n
    rw [decide_eq_true hp] at hb
    clear hpt hno
    refine DW.walk ?_
    exact ⟨.inr rfl, ResOk.one [] rfl rfl trivial (Vw.pers rfl)⟩
theorem idx68_no  (r : List Int) (hr : r.length ≤ 1000000000) (hno : ∀ m ∈ r, ¬ (m < 0 ∨ 2 < m)) : DFun Tryd.prog 68 [.sl false 1 r.length (r.map fun x => .flat (.int .i64 x)), .clo (.func 51) [] []] (.flat (.int .i64 (-1))) := by
  refine DFun.enterA Tryd.func68 Tryd.ntmps68 ?_
  obtain ⟨L, hL⟩ : ∃ L, (r.map fun x => D.flat (.int .i64 x)) = L := ⟨_, rfl⟩
  have hLp : persL L = true := by rw [← hL]; exact ints_pers r
  have hpt : ∀ (i : Nat) (x : Int), r[i]? = some x → partD false 1 (i * 1) L = some (.flat (.int .i64 x)) := fun i x h => by rw [← hL]; exact part_int h
  rw [hL]
  clear hL
  refine DW.walk ?_
  refine DW.loopA (fun i : Nat => ⟨[(0, .sl false 1 r.length L), (1, .clo (.func 51) [] []), (6, .sl false 1 r.length L), (7, .flat (.int .i64 (r.length : Nat))), (8, .flat (.int .i64 (i : Nat)))], []⟩) (fun i => i ≤ r.length) (fun i => r.length - i) 0 ?_ (Nat.zero_le _)
  intro i hi
  rcases Nat.lt_or_ge i r.length with hlt | hge
  · obtain ⟨x, hx⟩ : ∃ x, r[i]? = some x := ⟨_, List.getElem?_eq_getElem (by omega)⟩
    have hxp := hpt i x hx
    have hnx : ¬ (x < 0 ∨ 2 < x) := hno x (List.mem_of_getElem? hx)
    have hb := bad_d x
    rw [decide_eq_false hnx] at hb
    clear hpt hno
    refine DW.walk ?_
    exact ⟨i + 1, by omega, by omega, Sub.auto⟩
  · obtain rfl : i = r.length := by omega
    clear hpt hno
    refine DW.walk ?_
    exact ⟨.inr rfl, ResOk.one [] rfl rfl trivial (Vw.pers rfl)⟩
theorem idx69_at (v : Int) (r : List Int) (hr : r.length ≤ 1000000000) (j : Nat) (n : Int) (hj : r[j]? = some n) (hp : (v = n)) (hno : ∀ m ∈ r.take j, ¬ (v = m)) : DFun Tryd.prog 69 [.sl false 1 r.length (r.map fun x => .flat (.int .i64 x)), .flat (.int .i64 v)] (.flat (.int .i64 (j : Nat))) := by
  refine DFun.enterA Tryd.func69 Tryd.ntmps69 ?_
  have hjl := (List.getElem?_eq_some_iff.1 hj).1
  obtain ⟨L, hL⟩ : ∃ L, (r.map fun x => D.flat (.int .i64 x)) = L := ⟨_, rfl⟩
  have hLp : persL L = true := by rw [← hL]; exact ints_pers r
  have hpt : ∀ (i : Nat) (x : Int), r[i]? = some x → partD false 1 (i * 1) L = some (.flat (.int .i64 x)) := fun i x h => by rw [← hL]; exact part_int h
  rw [hL]
  clear hL
  refine DW.walk ?_
  refine DW.loopA (fun i : Nat => ⟨[(0, .sl false 1 r.length L), (1, .flat (.int .i64 v)), (6, .sl false 1 r.length L), (7, .flat (.int .i64 (r.length : Nat))), (8, .flat (.int .i64 (i : Nat)))], []⟩) (fun i => i ≤ j) (fun i => j - i) 0 ?_ (Nat.zero_le _)
  intro i hi
  rcases Nat.lt_or_ge i j with hlt | hge
  · obtain ⟨x, hx⟩ : ∃ x, r[i]? = some x := ⟨_, List.getElem?_eq_getElem (by omega)⟩
    have hxp := hpt i x hx
    have hnx : ¬ (v = x) := hno x (List.mem_take_iff_getElem.2 ⟨i, by omega, by rw [List.getElem?_eq_getElem (by omega)] at hx; exact Option.some.inj hx⟩)
    have hq : ¬ v = x := hnx
    clear hpt hno hp hj
    refine DW.walk ?_
    exact ⟨i + 1, by omega, by omega, Sub.auto⟩
  · obtain rfl : i = j := by omega
    have hxp := hpt i n hj
    have hq : v = n := hp
    clear hpt hno
    refine DW.walk ?_
    exact ⟨.inr rfl, ResOk.one [] rfl rfl trivial (Vw.pers rfl)⟩
theorem idx69_no (v : Int) (r : List Int) (hr : r.length ≤ 1000000000) (hno : ∀ m ∈ r, ¬ (v = m)) : DFun Tryd.prog 69 [.sl false 1 r.length (r.map fun x => .flat (.int .i64 x)), .flat (.int .i64 v)] (.flat (.int .i64 (-1))) := by
  refine DFun.enterA Tryd.func69 Tryd.ntmps69 ?_
  obtain ⟨L, hL⟩ : ∃ L, (r.map fun x => D.flat (.int .i64 x)) = L := ⟨_, rfl⟩
  have hLp : persL L = true := by rw [← hL]; exact ints_pers r
  have hpt : ∀ (i : Nat) (x : Int), r[i]? = some x → partD false 1 (i * 1) L = some (.flat (.int .i64 x)) := fun i x h => by rw [← hL]; exact part_int h
  rw [hL]
  clear hL
  refine DW.walk ?_
  refine DW.loopA (fun i : Nat => ⟨[(0, .sl false 1 r.length L), (1, .flat (.int .i64 v)), (6, .sl false 1 r.length L), (7, .flat (.int .i64 (r.length : Nat))), (8, .flat (.int .i64 (i : Nat)))], []⟩) (fun i => i ≤ r.length) (fun i => r.length - i) 0 ?_ (Nat.zero_le _)
  intro i hi
  rcases Nat.lt_or_ge i r.length with hlt | hge
  · obtain ⟨x, hx⟩ : ∃ x, r[i]? = some x := ⟨_, List.getElem?_eq_getElem (by omega)⟩
    have hxp := hpt i x hx
    have hnx : ¬ (v = x) := hno x (List.mem_of_getElem? hx)
    have hq : ¬ v = x := hnx
    clear hpt hno
    refine DW.walk ?_
    exact ⟨i + 1, by omega, by omega, Sub.auto⟩
  · obtain rfl : i = r.length := by omega
    clear hpt hno
    refine DW.walk ?_
    exact ⟨.inr rfl, ResOk.one [] rfl rfl trivial (Vw.pers rfl)⟩
theorem le_clo8 (fn : Fn) : Le (.flat (.func fn #[] #[])) (.clo fn [] []) := fun M w G v _ h => by
  simp only [Rep] at h ⊢
  exact ⟨[], [], h, by simp only [RepL], by simp only [RepL]⟩
open Classical in
theorem contF_d (r : List Int) (hr : r.length ≤ 1000000000) : DFun Tryd.prog 50 [.sl false 1 r.length (r.map fun x => .flat (.int .i64 x)), .flat (.func (.func 51) #[] #[])] (.flat (.bool (decide (∃ n ∈ r, n < 0 ∨ 2 < n)))) := by
  by_cases h : ∃ n ∈ r, n < 0 ∨ 2 < n
  · obtain ⟨j, n, h1, h2, h3⟩ := first_of h
    have hi := (idx68_at r hr j n h1 h2 h3).le (args' := [.sl false 1 r.length (r.map fun x => .flat (.int .i64 x)), .flat (.func (.func 51) #[] #[])]) ⟨Le.refl _, le_clo8 _, trivial⟩ (Le.refl _)
    rw [decide_eq_true h]
    generalize (r.map fun x => D.flat (.int .i64 x)) = L at *
    clear h1 h2 h3 h
    refine DFun.enterA Tryd.func50 Tryd.ntmps50 ?_
    refine DW.walk ?_
    exact ⟨.inr rfl, ResOk.one [] rfl rfl trivial (Vw.le (Vw.pers rfl) (Le.of_eq (bT (by omega))))⟩
  · have hi := (idx68_no r hr (fun m hm hb => h ⟨m, hm, hb⟩)).le (args' := [.sl false 1 r.length (r.map fun x => .flat (.int .i64 x)), .flat (.func (.func 51) #[] #[])]) ⟨Le.refl _, le_clo8 _, trivial⟩ (Le.refl _)
    rw [decide_eq_false h]
    generalize (r.map fun x => D.flat (.int .i64 x)) = L at *
    clear h
    refine DFun.enterA Tryd.func50 Tryd.ntmps50 ?_
    refine DW.walk ?_
    exact ⟨.inr rfl, ResOk.one [] rfl rfl trivial (Vw.pers rfl)⟩
open Classical in
theorem cont_d (r : List Int) (v : Int) (hr : r.length ≤ 1000000000) : DFun Tryd.prog 52 [.sl false 1 r.length (r.map fun x => .flat (.int .i64 x)), .flat (.int .i64 v)] (.flat (.bool (decide (v ∈ r)))) := by
  by_cases h : v ∈ r
  · obtain ⟨j, n, h1, h2, h3⟩ := first_of (P := fun m => v = m) ⟨v, h, rfl⟩
    have hi := idx69_at v r hr j n h1 h2 h3
    rw [decide_eq_true h]
    generalize (r.map fun x => D.flat (.int .i64 x)) = L at *
    clear h1 h2 h3 h
    refine DFun.enterA Tryd.func52 Tryd.ntmps52 ?_
    refine DW.walk ?_
    exact ⟨.inr rfl, ResOk.one [] rfl rfl trivial (Vw.le (Vw.pers rfl) (Le.of_eq (bT (by omega))))⟩
  · have hi := idx69_no v r hr (fun m hm hb => h (by rw [hb]; exact hm))
    rw [decide_eq_false h]
    generalize (r.map fun x => D.flat (.int .i64 x)) = L at *
    clear h
    refine DFun.enterA Tryd.func52 Tryd.ntmps52 ?_
    refine DW.walk ?_
    exact ⟨.inr rfl, ResOk.one [] rfl rfl trivial (Vw.pers rfl)⟩
theorem check26_d (r : List Int) (hr : r.length ≤ 1000000000) : DFun Tryd.prog 26 [.sl false 1 r.length (r.map fun x => .flat (.int .i64 x))] (.flat (.int .i64 (alphaE r : Nat))) := by
  have h1 := contF_d r hr
  have h2 := cont_d r 0 hr
  unfold alphaE
  generalize (r.map fun x => D.flat (.int .i64 x)) = L at *
  by_cases c1 : r.length < 1 ∨ 4096 < r.length
  · rw [if_pos c1]
    clear h1 h2
    by_cases c2 : r.length < 1
    · refine DFun.enterA Tryd.func26 Tryd.ntmps26 ?_
      refine DW.walk ?_
      exact ⟨.inr rfl, ResOk.one [] rfl rfl trivial (Vw.pers rfl)⟩
    · have c3 : 4096 < r.length := by omega
      refine DFun.enterA Tryd.func26 Tryd.ntmps26 ?_
      refine DW.walk ?_
      exact ⟨.inr rfl, ResOk.one [] rfl rfl trivial (Vw.pers rfl)⟩
  · rw [if_neg c1]
    have c2 : ¬ r.length < 1 := by omega
    have c3 : ¬ 4096 < r.length := by omega
    by_cases c4 : ∃ n ∈ r, n < 0 ∨ 2 < n
    · rw [if_pos c4]
      rw [decide_eq_true c4] at h1
      refine DFun.enterA Tryd.func26 Tryd.ntmps26 ?_
      refine DW.walk ?_
      exact ⟨.inr rfl, ResOk.one [] rfl rfl trivial (Vw.pers rfl)⟩
    · rw [if_neg c4]
      rw [decide_eq_false c4] at h1
      by_cases c5 : (0 : Int) ∈ r
      · rw [if_pos c5]
        rw [decide_eq_true c5] at h2
        refine DFun.enterA Tryd.func26 Tryd.ntmps26 ?_
        refine DW.walk ?_
        exact ⟨.inr rfl, ResOk.one [] rfl rfl trivial (Vw.pers rfl)⟩
      · rw [if_neg c5]
        rw [decide_eq_false c5] at h2
        refine DFun.enterA Tryd.func26 Tryd.ntmps26 ?_
        refine DW.walk ?_
        exact ⟨.inr rfl, ResOk.one [] rfl rfl trivial (Vw.pers rfl)⟩
theorem clone58_0 (a : Option Addr) (c : Nat) : DFun Tryd.prog 58 [.flat (.slice a 0 c)] (.sl false 1 0 []) := by
  cases a with
  | none =>
    refine DFun.enterA Tryd.func58 Tryd.ntmps58 ?_
    refine DW.walk ?_
    exact ⟨.inr rfl, ResOk.one [] rfl rfl trivial (Vw.le (Vw.pers rfl) (Le.nil _ _))⟩
  | some a =>
    refine DFun.enterA Tryd.func58 Tryd.ntmps58 ?_
    refine DW.walk ?_
    exact ⟨.inr rfl, ResOk.one [] rfl rfl trivial (Vw.pers rfl)⟩
theorem clone58_d (r : List Int) (hr : r.length ≤ 1000000000) : DFun Tryd.prog 58 [.sl false 1 r.length (r.map fun x => .flat (.int .i64 x))] (.sl false 1 r.length (r.map fun x => .flat (.int .i64 x))) := by
  by_cases h0 : r = []
  · subst h0
    refine .intro fun M w vals hM hv hgl => ?_
    simp only [RepL] at hv
    obtain ⟨u, us, rfl, hu, rfl⟩ := hv
    have hu2 := hu
    simp only [Rep] at hu2
    obtain ⟨a, cap, rfl, _⟩ := hu2
    exact (clone58_0 a cap).go M w [.slice a 0 cap] hM (by simp only [RepL, Rep]; exact ⟨_, _, rfl, rfl, rfl⟩) hgl
  · have hl : 0 < r.length := List.length_pos_iff.2 h0
    have hp := ints_pers r
    generalize (r.map fun x => D.flat (.int .i64 x)) = L at *
    refine DFun.enterA Tryd.func58 Tryd.ntmps58 ?_
    refine DW.walk ?_
    exact ⟨.inr rfl, ResOk.one [] rfl rfl trivial (Vw.le (Vw.pers rfl) (Le.of_eq (congrArg (fun k => D.sl false 1 k L) (Nat.zero_add _))))⟩
end Go.Proofs.YtohjapcafkhabaaDoor
