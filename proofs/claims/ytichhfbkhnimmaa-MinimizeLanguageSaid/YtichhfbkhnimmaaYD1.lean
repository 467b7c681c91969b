/- Contracts over data: the nodes of a tree, checked. No condition. -/
import Derived.Test.YtichhfbkhnimmaaYEC10
import Derived.Test.YtichhfbkhnimmaaYTD
import Derived.Test.YtichhfbkhnimmaaYMH

set_option linter.unusedSimpArgs false
set_option linter.unusedVariables false
set_option maxHeartbeats 4000000
set_option maxRecDepth 8000
namespace Go.Proofs.Ytichhfbkhnimmaa
open Go Go.RowKit Go.PP Go.Dm Go.Rt
theorem nodes109_d (r : List Int) (hr : r.length ≤ 1000000000) : ∀ (n : Nat) (t : Tr), depT t ≤ n → TSm t → DFun Try.prog 109 [.sl false 1 r.length (r.map fun x => .flat (.int .i64 x)), treeD t] (.flat (.int .i64 (nodesE r t : Nat)))
  | 0, .node s l, h, _ => by rw [depT_node] at h; omega
  | n + 1, .node s l, h, hs => by
    rw [depT_node] at h
    rw [TSm_node] at hs
    have hs1 := hs.1
    have ih := nodes109_d r hr n
    have hrp := ints_pers r
    rw [treeD_node, nodesE_node]
    by_cases h6 : s < 0 ∨ (r.length : Int) ≤ s
    · rw [if_pos h6]
      clear ih hs h
      generalize (r.map fun x => D.flat (.int .i64 x)) = LR at *
      refine DFun.enterA Try.func109 Try.ntmps109 ?_
      by_cases h0 : s < 0
      · refine DW.walk ?_
        exact ⟨.inr rfl, ResOk.one [] rfl rfl trivial (Vw.pers rfl)⟩
      · have h1 := h6.resolve_left h0
        refine DW.walk ?_
        exact ⟨.inr rfl, ResOk.one [] rfl rfl trivial (Vw.pers rfl)⟩
    · rw [if_neg h6]
      have h0 : ¬ s < 0 := fun e => h6 (.inl e)
      have h1 : s < (r.length : Int) := by omega
      obtain ⟨k, hk⟩ : ∃ k, r[s.toNat]? = some k := ⟨_, List.getElem?_eq_getElem (by omega)⟩
      have hkd : r.getD s.toNat 0 = k := by rw [List.getD_eq_getElem?_getD, hk]; rfl
      have hp := part_int hk
      rw [hkd]
      by_cases h3 : (l.length : Int) ≠ k
      · rw [if_pos h3]
        clear ih hs h hk hkd h6
        generalize (r.map fun x => D.flat (.int .i64 x)) = LR at *
        refine DFun.enterA Try.func109 Try.ntmps109 ?_
        refine DW.walk ?_
        exact ⟨.inr rfl, ResOk.one [] rfl rfl trivial (Vw.pers rfl)⟩
      · rw [if_neg h3]
        have h3 : (l.length : Int) = k := by omega
        clear hk hkd h6
        obtain ⟨X, hX⟩ : ∃ X, nodesL r l = X := ⟨_, rfl⟩
        rw [hX]
        refine DFun.enterA Try.func109 Try.ntmps109 ?_
        refine DW.walk ?_
        refine DW.loopA (fun i : Nat => ⟨[(0, .sl false 1 r.length (r.map fun x => .flat (.int .i64 x))), (3, .ref 3 0), (4, .flat (.int .i64 0)), (30, treesD l), (31, .flat (.int .i64 (l.length : Nat))), (32, .flat (.int .i64 (i : Nat)))], [(3, some (.box [.flat (.int .i64 s), treesD l]))]⟩) (fun i => i ≤ l.length ∧ nodesL r (l.drop i) = X) (fun i => l.length - i) 0 ?_ ⟨Nat.zero_le _, by rw [List.drop_zero]; exact hX⟩ (by exact Sub.auto)
        rintro i ⟨hi, hx⟩
        rcases Nat.lt_or_ge i l.length with hlt | hge
        · obtain ⟨k2, hk2⟩ : ∃ k2, l[i]? = some k2 := ⟨_, List.getElem?_eq_getElem hlt⟩
          have hp2 := part_kids hk2
          have hd := depL_at hk2
          have hks := TSmL.at hs.2 hk2
          have ihk := ih k2 (by omega) hks
          rw [drop_at hk2, nodesL_cons] at hx
          clear ih hk2 hs hks hd h hX
          by_cases hz : nodesE r k2 ≠ 0
          · rw [if_pos hz] at hx
            rw [hx] at ihk hz
            obtain ⟨s', l'⟩ := k2
            rw [treeD_node] at hp2 ihk
            clear hx
            generalize (r.map fun x => D.flat (.int .i64 x)) = LR at *
            refine DW.walk ?_
            exact ⟨.inr rfl, ResOk.one [] rfl rfl trivial (Vw.pers rfl)⟩
          · rw [if_neg hz] at hx
            have hz : nodesE r k2 = 0 := by omega
            rw [hz] at ihk
            obtain ⟨s', l'⟩ := k2
            rw [treeD_node] at hp2 ihk
            generalize (r.map fun x => D.flat (.int .i64 x)) = LR at *
            refine DW.walk ?_
            exact ⟨i + 1, ⟨by omega, hx⟩, by omega, Sub.auto⟩
        · obtain rfl : i = l.length := by omega
          rw [List.drop_of_length_le (Nat.le_refl _), nodesL_nil] at hx
          subst hx
          clear ih h hs hX
          generalize (r.map fun x => D.flat (.int .i64 x)) = LR at *
          refine DW.walk ?_
          exact ⟨.inr rfl, ResOk.one [] rfl rfl trivial (Vw.pers rfl)⟩
end Go.Proofs.Ytichhfbkhnimmaa

set_option linter.unusedSimpArgs false
set_option linter.unusedVariables false
set_option maxHeartbeats 4000000
set_option maxRecDepth 8000
namespace Go.Proofs.Ytichhfbkhnimmaa
open Go Go.RowKit Go.PP Go.Dm Go.Rt
theorem small108_d (t : Tr) (ts : TSm t) : DFun Try.prog 108 [treeD t] (.flat (.int .i64 (if 4096 < sizeW t then 2 else if 256 < deepW t then 16 else 0))) := by
  have h1 := size114_d _ t (Nat.le_refl _) ts
  have h2 := deep125_d _ t (Nat.le_refl _) ts
  generalize sizeW t = x at *
  generalize deepW t = y at *
  obtain ⟨s, l⟩ := t
  rw [treeD_node] at *
  clear ts
  refine DFun.enterA Try.func108 Try.ntmps108 ?_
  by_cases hx : 4096 < x
  · rw [if_pos hx]
    refine DW.walk ?_
    exact ⟨.inr rfl, ResOk.one [] rfl rfl trivial (Vw.pers rfl)⟩
  · rw [if_neg hx]
    by_cases hy : 256 < y
    · rw [if_pos hy]
      refine DW.walk ?_
      exact ⟨.inr rfl, ResOk.one [] rfl rfl trivial (Vw.pers rfl)⟩
    · rw [if_neg hy]
      refine DW.walk ?_
      exact ⟨.inr rfl, ResOk.one [] rfl rfl trivial (Vw.pers rfl)⟩
theorem val74_d (r : List Int) (hr : r.length ≤ 1000000000) (t : Tr) (ts : TSm t) : DFun Try.prog 74 [.sl false 1 r.length (r.map fun x => .flat (.int .i64 x)), treeD t] (.flat (.int .i64 (rightE r t : Nat))) := by
  have hc := check88_d r hr
  have hrp := ints_pers r
  have hn := nodes109_d r hr _ t (Nat.le_refl _) ts
  have h42 := small108_d t ts
  unfold rightE
  generalize alphaE r = c at *
  generalize nodesE r t = e at *
  generalize sizeW t = x at *
  generalize deepW t = y at *
  obtain ⟨s, l⟩ := t
  rw [treeD_node] at *
  clear ts
  generalize (r.map fun x => D.flat (.int .i64 x)) = LR at *
  by_cases h1 : c ≠ 0
  · rw [if_pos h1]
    clear hn
    refine DFun.enterA Try.func74 Try.ntmps74 ?_
    refine DW.walk ?_
    exact ⟨.inr rfl, ResOk.one [] rfl rfl trivial (Vw.pers rfl)⟩
  · rw [if_neg h1]
    have h1 : c = 0 := by omega
    subst h1
    by_cases hx : 4096 < x
    · simp only [if_pos hx] at *
      refine DFun.enterA Try.func74 Try.ntmps74 ?_
      refine DW.walk ?_
      exact ⟨.inr rfl, ResOk.one [] rfl rfl trivial (Vw.pers rfl)⟩
    · simp only [if_neg hx] at *
      by_cases hy : 256 < y
      · simp only [if_pos hy] at *
        refine DFun.enterA Try.func74 Try.ntmps74 ?_
        refine DW.walk ?_
        exact ⟨.inr rfl, ResOk.one [] rfl rfl trivial (Vw.pers rfl)⟩
      · simp only [if_neg hy] at *
        refine DFun.enterA Try.func74 Try.ntmps74 ?_
        refine DW.walk ?_
        exact ⟨.inr rfl, ResOk.one [] rfl rfl trivial (Vw.pers rfl)⟩
end Go.Proofs.Ytichhfbkhnimmaa

set_option linter.unusedSimpArgs false
set_option linter.unusedSectionVars false
set_option linter.unusedVariables false
set_option maxHeartbeats 400000
namespace Go.Mn
open Go Go.RowKit Go.PP Go.Dm Go.Rt
variable [GlobW]
abbrev intsD (l : List Int) : D := .sl false 1 l.length (l.map fun x => D.flat (.int .i64 x))
abbrev boolsD (l : List Bool) : D := .sl false 1 l.length (l.map fun x => D.flat (.bool x))
abbrev rowsL (t : List (List Int)) : List D := t.map fun r => D.sl false 1 r.length (r.map fun x => D.flat (.int .i64 x))
abbrev rowsD (t : List (List Int)) : D := .sl false 1 t.length (rowsL t)
def auC (A : Au) : List D := [intsD A.ranks, boolsD A.final, rowsD A.to]
def auD (A : Au) : D := .agg (auC A)
theorem auC_mk (rs : List Int) (fs : List Bool) (tt : List (List Int)) : auC ⟨rs, fs, tt⟩ = [.sl false 1 rs.length (rs.map fun x => D.flat (.int .i64 x)), .sl false 1 fs.length (fs.map fun x => D.flat (.bool x)), .sl false 1 tt.length (rowsL tt)] := rfl
theorem auD_mk (rs : List Int) (fs : List Bool) (tt : List (List Int)) : auD ⟨rs, fs, tt⟩ = .agg [.sl false 1 rs.length (rs.map fun x => D.flat (.int .i64 x)), .sl false 1 fs.length (fs.map fun x => D.flat (.bool x)), .sl false 1 tt.length (rowsL tt)] := rfl
theorem auD_eq (A : Au) : auD A = .agg [.sl false 1 A.ranks.length (A.ranks.map fun x => D.flat (.int .i64 x)), .sl false 1 A.final.length (A.final.map fun x => D.flat (.bool x)), .sl false 1 A.to.length (rowsL A.to)] := rfl
theorem auC_eq (A : Au) : auC A = [.sl false 1 A.ranks.length (A.ranks.map fun x => D.flat (.int .i64 x)), .sl false 1 A.final.length (A.final.map fun x => D.flat (.bool x)), .sl false 1 A.to.length (rowsL A.to)] := rfl
theorem part_b {l : List Bool} {i : Nat} {x : Bool} (h : l[i]? = some x) : partD false 1 (i * 1) (l.map fun x => D.flat (.bool x)) = some (.flat (.bool x)) := by
  unfold partD
  rw [if_neg (by decide), Nat.mul_one, List.getElem?_map, h]; rfl
theorem part_i {l : List Int} {i : Nat} {x : Int} (h : l[i]? = some x) : partD false 1 (i * 1) (l.map fun x => D.flat (.int .i64 x)) = some (.flat (.int .i64 x)) := by
  unfold partD
  rw [if_neg (by decide), Nat.mul_one, List.getElem?_map, h]; rfl
theorem part_r {t : List (List Int)} {i : Nat} {r : List Int} (h : t[i]? = some r) : partD false 1 (i * 1) (rowsL t) = some (.sl false 1 r.length (r.map fun x => D.flat (.int .i64 x))) := by
  unfold partD
  rw [if_neg (by decide), Nat.mul_one, List.getElem?_map, h]; rfl
theorem pers_i (l : List Int) : persL (l.map fun x => D.flat (.int .i64 x)) = true := persL_map (fun _ => rfl) l
theorem pers_b (l : List Bool) : persL (l.map fun x => D.flat (.bool x)) = true := persL_map (fun _ => rfl) l
theorem pers_r (t : List (List Int)) : persL (rowsL t) = true := persL_map (fun _ => rfl) t
open Classical in
theorem least_of {P : Nat → Prop} (h : ∃ i, P i) : ∃ i, P i ∧ ∀ j, j < i → ¬ P j := by
  obtain ⟨i, hi⟩ := h
  induction i using Nat.strongRecOn with
  | _ i ih =>
    by_cases hj : ∃ j, j < i ∧ P j
    · obtain ⟨j, h1, h2⟩ := hj
      exact ih j h1 h2
    · exact ⟨i, hi, fun j h1 h2 => hj ⟨j, h1, h2⟩⟩
end Go.Mn

set_option linter.unusedSimpArgs false
set_option linter.unusedVariables false
set_option maxHeartbeats 4000000
set_option maxRecDepth 8000
namespace Go.Proofs.Ytichhfbkhnimmaa
open Go Go.RowKit Go.PP Go.Dm Go.Rt Go.Mn
theorem state_d (A : Au) (s : Int) : DFun Try.prog 68 [auD A, .flat (.int .i64 s)] (.flat (.bool (decide (0 ≤ s ∧ s < (A.final.length : Int))))) := by
  obtain ⟨rs, fs, tt⟩ := A
  rw [auD_mk]
  generalize (rs.map fun x => D.flat (.int .i64 x)) = LR
  generalize (fs.map fun x => D.flat (.bool x)) = LB
  generalize rowsL tt = LT
  refine DFun.enterA Try.func68 Try.ntmps68 ?_
  by_cases h : 0 ≤ s
  · have e : D.flat (.bool (decide (s < (fs.length : Int)))) = D.flat (.bool (decide (0 ≤ s ∧ s < (fs.length : Int)))) := by
      rw [decide_eq_decide.2 (⟨fun h2 => ⟨h, h2⟩, fun h2 => h2.2⟩ : s < (fs.length : Int) ↔ 0 ≤ s ∧ s < (fs.length : Int))]
    refine DW.walk ?_
    exact ⟨.inr rfl, ResOk.one [] rfl rfl trivial (Vw.le (Vw.pers rfl) (Le.of_eq (e)))⟩
  · rw [decide_eq_false (show ¬ (0 ≤ s ∧ s < (fs.length : Int)) from fun h2 => h h2.1)]
    refine DW.walk ?_
    exact ⟨.inr rfl, ResOk.one [] rfl rfl trivial (Vw.pers rfl)⟩
theorem bad91_d (A : Au) (s : Int) : DFun Try.prog 91 [.flat (.int .i64 s), .ptr (auC A) 0] (.flat (.bool (!decide (0 ≤ s ∧ s < (A.final.length : Int))))) := by
  have hs := state_d A s
  obtain ⟨rs, fs, tt⟩ := A
  simp only [auD_mk, auC_mk] at *
  generalize (rs.map fun x => D.flat (.int .i64 x)) = LR at *
  generalize (fs.map fun x => D.flat (.bool x)) = LB at *
  generalize rowsL tt = LT at *
  refine DFun.enterA Try.func91 Try.ntmps91 ?_
  refine DW.walk ?_
  exact ⟨.inr rfl, ResOk.one [] rfl rfl trivial (Vw.pers rfl)⟩
theorem idx119_at (A : Au) (l : List Int) (hl : l.length ≤ 1000000000) (j : Nat) (x : Int) (h1 : l[j]? = some x) (h2 : ¬ (0 ≤ x ∧ x < (A.final.length : Int))) (h3 : ∀ i y, i < j → l[i]? = some y → 0 ≤ y ∧ y < (A.final.length : Int)) : DFun Try.prog 119 [.sl false 1 l.length (l.map fun x => D.flat (.int .i64 x)), .clo (.func 91) [] [.ptr (auC A) 0]] (.flat (.int .i64 ((j : Nat) : Int))) := by
  have hb := bad91_d A
  have hjl := (List.getElem?_eq_some_iff.1 h1).1
  have hlp := pers_i l
  have hpt : ∀ (i : Nat) (x : Int), l[i]? = some x → partD false 1 (i * 1) (l.map fun x => D.flat (.int .i64 x)) = some (.flat (.int .i64 x)) := fun i x h => part_i h
  generalize (l.map fun x => D.flat (.int .i64 x)) = L at *
  obtain ⟨rs, fs, tt⟩ := A
  simp only [auD_mk, auC_mk] at *
  generalize (rs.map fun x => D.flat (.int .i64 x)) = LR at *
  generalize (fs.map fun x => D.flat (.bool x)) = LB at *
  generalize rowsL tt = LT at *
  refine DFun.enterA Try.func119 Try.ntmps119 ?_
  refine DW.walk ?_
  refine DW.loopA (fun i : Nat => ⟨[(0, .sl false 1 l.length L), (1, .clo (.func 91) [] [.ptr [.sl false 1 rs.length LR, .sl false 1 fs.length LB, .sl false 1 tt.length LT] 0]), (6, .sl false 1 l.length L), (7, .flat (.int .i64 ((l.length : Nat) : Int))), (8, .flat (.int .i64 ((i : Nat) : Int)))], []⟩) (fun i => i ≤ j) (fun i => j - i) 0 ?_ (Nat.zero_le _)
  intro i hi
  rcases Nat.lt_or_ge i j with hlt | hge
  · obtain ⟨y, hy⟩ : ∃ y, l[i]? = some y := ⟨_, List.getElem?_eq_getElem (by omega)⟩
    have hp := hpt i y hy
    have hby := hb y
    rw [decide_eq_true (h3 i y hlt hy)] at hby
    clear hpt hb h1 h2 h3
    refine DW.walk ?_
    exact ⟨i + 1, by omega, by omega, Sub.auto⟩
  · obtain rfl : i = j := by omega
    have hp := hpt i x h1
    have hby := hb x
    rw [decide_eq_false h2] at hby
    clear hpt hb h1 h2 h3
    refine DW.walk ?_
    exact ⟨.inr rfl, ResOk.one [] rfl rfl trivial (Vw.pers rfl)⟩
theorem idx119_no (A : Au) (l : List Int) (hl : l.length ≤ 1000000000) (h3 : ∀ (i : Nat) y, l[i]? = some y → 0 ≤ y ∧ y < (A.final.length : Int)) : DFun Try.prog 119 [.sl false 1 l.length (l.map fun x => D.flat (.int .i64 x)), .clo (.func 91) [] [.ptr (auC A) 0]] (.flat (.int .i64 (-1))) := by
  have hb := bad91_d A
  have hlp := pers_i l
  have hpt : ∀ (i : Nat) (x : Int), l[i]? = some x → partD false 1 (i * 1) (l.map fun x => D.flat (.int .i64 x)) = some (.flat (.int .i64 x)) := fun i x h => part_i h
  generalize (l.map fun x => D.flat (.int .i64 x)) = L at *
  obtain ⟨rs, fs, tt⟩ := A
  simp only [auD_mk, auC_mk] at *
  generalize (rs.map fun x => D.flat (.int .i64 x)) = LR at *
  generalize (fs.map fun x => D.flat (.bool x)) = LB at *
  generalize rowsL tt = LT at *
  refine DFun.enterA Try.func119 Try.ntmps119 ?_
  refine DW.walk ?_
  refine DW.loopA (fun i : Nat => ⟨[(0, .sl false 1 l.length L), (1, .clo (.func 91) [] [.ptr [.sl false 1 rs.length LR, .sl false 1 fs.length LB, .sl false 1 tt.length LT] 0]), (6, .sl false 1 l.length L), (7, .flat (.int .i64 ((l.length : Nat) : Int))), (8, .flat (.int .i64 ((i : Nat) : Int)))], []⟩) (fun i => i ≤ l.length) (fun i => l.length - i) 0 ?_ (Nat.zero_le _)
  intro i hi
  rcases Nat.lt_or_ge i l.length with hlt | hge
  · obtain ⟨y, hy⟩ : ∃ y, l[i]? = some y := ⟨_, List.getElem?_eq_getElem (by omega)⟩
    have hp := hpt i y hy
    have hby := hb y
    rw [decide_eq_true (h3 i y hy)] at hby
    clear hpt hb h3
    refine DW.walk ?_
    exact ⟨i + 1, by omega, by omega, Sub.auto⟩
  · obtain rfl : i = l.length := by omega
    clear hpt hb h3
    refine DW.walk ?_
    exact ⟨.inr rfl, ResOk.one [] rfl rfl trivial (Vw.pers rfl)⟩
theorem cont90_d (A : Au) (l : List Int) (hl : l.length ≤ 1000000000) (b : Bool) (h : b = true ∧ (∃ s ∈ l, s < 0 ∨ (A.final.length : Int) ≤ s) ∨ b = false ∧ ¬ ∃ s ∈ l, s < 0 ∨ (A.final.length : Int) ≤ s) : DFun Try.prog 90 [.sl false 1 l.length (l.map fun x => D.flat (.int .i64 x)), .clo (.func 91) [] [.ptr (auC A) 0]] (.flat (.bool b)) := by
  rcases h with ⟨rfl, h⟩ | ⟨rfl, h⟩
  · have : ∃ j : Nat, ∃ x, l[j]? = some x ∧ ¬ (0 ≤ x ∧ x < (A.final.length : Int)) := by
      obtain ⟨s, hs, h⟩ := h
      obtain ⟨j, hj⟩ := List.getElem?_of_mem hs
      exact ⟨j, s, hj, by omega⟩
    obtain ⟨j, ⟨x, h1, h2⟩, h3⟩ := least_of this
    have hi := idx119_at A l hl j x h1 h2 fun i y hij hy => Classical.byContradiction fun hn => h3 i hij ⟨y, hy, hn⟩
    clear h1 h2 h3 this h
    rw [auC_eq] at *
    generalize (l.map fun x => D.flat (.int .i64 x)) = L at *
    refine DFun.enterA Try.func90 Try.ntmps90 ?_
    have e : D.flat (.bool (decide ((0 : Int) ≤ (j : Int)))) = D.flat (.bool true) := by rw [decide_eq_true (by omega)]
    refine DW.walk ?_
    exact ⟨.inr rfl, ResOk.one [] rfl rfl trivial (Vw.le (Vw.pers rfl) (Le.of_eq (e)))⟩
  · have hi := idx119_no A l hl fun i y hy => Classical.byContradiction fun hn => h ⟨y, List.mem_of_getElem? hy, by omega⟩
    clear h
    rw [auC_eq] at *
    generalize (l.map fun x => D.flat (.int .i64 x)) = L at *
    refine DFun.enterA Try.func90 Try.ntmps90 ?_
    refine DW.walk ?_
    exact ⟨.inr rfl, ResOk.one [] rfl rfl trivial (Vw.pers rfl)⟩
theorem wide_d (k n : Nat) (hk : k ≤ 2) (hn : n ≤ 512) : DFun Try.prog 89 [.flat (.int .i64 ((k : Nat) : Int)), .flat (.int .i64 ((n : Nat) : Int))] (.flat (.int .i64 ((wideN (k : Int) n : Nat) : Int))) := by
  have hw : wideN (k : Int) n = n ^ k := by unfold wideN; rw [Int.toNat_natCast]
  rw [hw]
  refine DFun.enterA Try.func89 Try.ntmps89 ?_
  refine DW.walk ?_
  refine DW.loopA (fun i : Nat => ⟨[(1, .flat (.int .i64 ((n : Nat) : Int))), (5, .flat (.int .i64 ((n ^ i : Nat) : Int))), (6, .flat (.int .i64 ((k : Nat) : Int))), (7, .flat (.int .i64 ((i : Nat) : Int)))], []⟩) (fun i => i ≤ k) (fun i => k - i) 0 ?_ (Nat.zero_le _)
  intro i hi
  rcases Nat.lt_or_ge i k with hlt | hge
  · have hm : IntKind.i64.wrap (((n ^ i : Nat) : Int) * (n : Int)) = ((n ^ (i + 1) : Nat) : Int) := by
      rw [← Int.natCast_mul, ← Nat.pow_succ]
      have h1 : n ^ (i + 1) ≤ 262144 := Nat.le_trans (Nat.pow_le_pow_left hn _) (Nat.le_trans (Nat.pow_le_pow_right (by decide) (show i + 1 ≤ 2 by omega)) (by decide))
      show IntKind.i64.wrap ((n ^ (i + 1) : Nat) : Int) = ((n ^ (i + 1) : Nat) : Int)
      generalize n ^ (i + 1) = q at *
      rw [IntKind.wrap_i64]; omega
    refine DW.walk ?_
    exact ⟨i + 1, by omega, by omega, Sub.auto⟩
  · obtain rfl : i = k := by omega
    refine DW.walk ?_
    exact ⟨.inr rfl, ResOk.one [] rfl rfl trivial (Vw.pers rfl)⟩
end Go.Proofs.Ytichhfbkhnimmaa
