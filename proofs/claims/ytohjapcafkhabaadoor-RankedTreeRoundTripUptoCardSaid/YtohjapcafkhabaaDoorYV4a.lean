/- Contracts over data: the nodes of a tree, checked. No condition. -/
import Derived.Test.YtohjapcafkhabaaDoorYC8
import Derived.Test.YtohjapcafkhabaaDoorYC2

set_option linter.unusedSimpArgs false
set_option linter.unusedVariables false
set_option maxHeartbeats 4000000
set_option maxRecDepth 8000
namespace Go.Proofs.YtohjapcafkhabaaDoor
open Go Go.RowKit Go.PP Go.Dm Go.Rt
theorem nodesE_node (r : List Int) (s : Int) (l : List Tr) : nodesE r (.node s l) = if s < 0 ∨ (r.length : Int) ≤ s then 6 else if (l.length : Int) ≠ r.getD s.toNat 0 then 3 else nodesL r l := by rw [nodesE]
theorem nodesL_nil (r : List Int) : nodesL r [] = 0 := by rw [nodesL]
theorem nodesL_cons (r : List Int) (t : Tr) (ts : List Tr) : nodesL r (t :: ts) = if nodesE r t ≠ 0 then nodesE r t else nodesL r ts := by rw [nodesL]
theorem nodes48_d (r : List Int) (hr : r.length ≤ 1000000000) : ∀ (n : Nat) (t : Tr), depT t ≤ n → TSm t → DFun Tryd.prog 48 [.sl false 1 r.length (r.map fun x => .flat (.int .i64 x)), treeD t] (.flat (.int .i64 (nodesE r t : Nat)))
  | 0, .node s l, h, _ => by rw [depT_node] at h; omega
  | n + 1, .node s l, h, hs => by
    rw [depT_node] at h
    rw [TSm_node] at hs
    have hs1 := hs.1
    have ih := nodes48_d r hr n
    have hrp := ints_pers r
    rw [treeD_node, nodesE_node]
    by_cases h6 : s < 0 ∨ (r.length : Int) ≤ s
    · rw [if_pos h6]
      clear ih hs h
      generalize (r.map fun x => D.flat (.int .i64 x)) = LR at *
      refine DFun.enterA Tryd.func48 Tryd.ntmps48 ?_
      by_cases h0 : s < 0
      · refine DW.walk ?_
        exact ⟨.inr rfl, ResOk.one [] rfl rfl trivial (Vw.pers rfl)⟩
      · have h1 := h6.resolve_left h0
        refine DW.walk ?_
        exact ⟨.inr rfl, ResOk.one [] rfl rfl trivial (Vw.pers rfl)⟩
    · rw [if_neg h6]
      have h0 : ¬ s < 0 := fun e => h6 (.inl e)
      have h1 : s < (r.length : Int) := by omega
      obtain ⟨k, hk⟩ : ∃ k, r[s.toNat]? = some k := ⟨_, List.getElem?_eq_getElem (by omega)⟩
      have hkd : r.getD s.toNat 0 = k := by rw [List.getD_eq_getElem?_getD, hk]; rfl
      have hp := part_int hk
      rw [hkd]
      by_cases h3 : (l.length : Int) ≠ k
      · rw [if_pos h3]
        clear ih hs h hk hkd h6
        generalize (r.map fun x => D.flat (.int .i64 x)) = LR at *
        refine DFun.enterA Tryd.func48 Tryd.ntmps48 ?_
        refine DW.walk ?_
        exact ⟨.inr rfl, ResOk.one [] rfl rfl trivial (Vw.pers rfl)⟩
      · rw [if_neg h3]
        have h3 : (l.length : Int) = k := by omega
        clear hk hkd h6
        obtain ⟨X, hX⟩ : ∃ X, nodesL r l = X := ⟨_, rfl⟩
        rw [hX]
        refine DFun.enterA Tryd.func48 Tryd.ntmps48 ?_
        refine DW.walk ?_
        refine DW.loopA (fun i : Nat => ⟨[(0, .sl false 1 r.length (r.map fun x => .flat (.int .i64 x))), (3, .ref 3 0), (4, .flat (.int .i64 0)), (5, .flat (.int .i64 (i : Nat)))], [(3, some (.box [.flat (.int .i64 s), treesD l]))]⟩) (fun i => i ≤ l.length ∧ nodesL r (l.drop i) = X) (fun i => l.length - i) 0 ?_ ⟨Nat.zero_le _, by rw [List.drop_zero]; exact hX⟩ (by exact Sub.auto)
        rintro i ⟨hi, hx⟩
        rcases Nat.lt_or_ge i l.length with hlt | hge
        · obtain ⟨k2, hk2⟩ : ∃ k2, l[i]? = some k2 := ⟨_, List.getElem?_eq_getElem hlt⟩
          have hp2 := part_kids hk2
          have hd := depL_at hk2
          have hks := TSmL.at hs.2 hk2
          have ihk := ih k2 (by omega) hks
          rw [drop_at hk2, nodesL_cons] at hx
          clear ih hk2 hs hks hd h hX
          by_cases hz : nodesE r k2 ≠ 0
          · rw [if_pos hz] at hx
            rw [hx] at ihk hz
            obtain ⟨s', l'⟩ := k2
            rw [treeD_node] at hp2 ihk
            clear hx
            generalize (r.map fun x => D.flat (.int .i64 x)) = LR at *
            refine DW.walk ?_
            exact ⟨.inr rfl, ResOk.one [] rfl rfl trivial (Vw.pers rfl)⟩
          · rw [if_neg hz] at hx
            have hz : nodesE r k2 = 0 := by omega
            rw [hz] at ihk
            obtain ⟨s', l'⟩ := k2
            rw [treeD_node] at hp2 ihk
            generalize (r.map fun x => D.flat (.int .i64 x)) = LR at *
            refine DW.walk ?_
            exact ⟨i + 1, ⟨by omega, hx⟩, by omega, Sub.auto⟩
        · obtain rfl : i = l.length := by omega
          rw [List.drop_of_length_le (Nat.le_refl _), nodesL_nil] at hx
          subst hx
          clear ih h hs hX
          generalize (r.map fun x => D.flat (.int .i64 x)) = LR at *
          refine DW.walk ?_
          exact ⟨.inr rfl, ResOk.one [] rfl rfl trivial (Vw.pers rfl)⟩
end Go.Proofs.YtohjapcafkhabaaDoor

set_option linter.unusedSimpArgs false
set_option linter.unusedVariables false
set_option maxHeartbeats 4000000
set_option maxRecDepth 8000
namespace Go.Proofs.YtohjapcafkhabaaDoor
open Go Go.RowKit Go.PP Go.Dm Go.Rt
theorem check27_d (r : List Int) (hr : r.length ≤ 1000000000) : DFun Tryd.prog 27 [.sl false 1 r.length (r.map fun x => .flat (.int .i64 x))] (.flat (.int .i64 (alphaE r : Nat))) := by
  have hrp := ints_pers r
  by_cases h1 : r.length < 1 ∨ 4096 < r.length
  · have e : alphaE r = 2 := by unfold alphaE; rw [if_pos h1]
    rw [e]
    generalize (r.map fun x => D.flat (.int .i64 x)) = LR at *
    refine DFun.enterA Tryd.func27 Tryd.ntmps27 ?_
    rcases h1 with h1 | h1
    · refine DW.walk ?_
      exact ⟨.inr rfl, ResOk.one [] rfl rfl trivial (Vw.pers rfl)⟩
    · refine DW.walk ?_
      exact ⟨.inr rfl, ResOk.one [] rfl rfl trivial (Vw.pers rfl)⟩
  · have h2 : 1 ≤ r.length ∧ r.length ≤ 4096 := by omega
    have h3 := h2.1
    have h4 := h2.2
    refine DFun.enterA Tryd.func27 Tryd.ntmps27 ?_
    refine DW.walk ?_
    refine DW.loopA (fun p : Nat × Bool => ⟨[(0, .sl false 1 r.length (r.map fun x => .flat (.int .i64 x))), (2, .flat (.int .i64 0)), (3, .flat (.bool p.2)), (4, .flat (.int .i64 (p.1 : Nat)))], []⟩) (fun p => p.1 ≤ r.length ∧ (∀ m ∈ r.take p.1, ¬ (m < 0 ∨ 2 < m)) ∧ (p.2 = true ↔ (0 : Int) ∉ r.take p.1)) (fun p => r.length - p.1) (0, true) ?_ ⟨Nat.zero_le _, by simp, by simp⟩ (by exact Sub.auto)
    rintro ⟨i, b⟩ ⟨hi, hno, hb⟩
    have hi : i ≤ r.length := hi
    have hno : ∀ m ∈ r.take i, ¬ (m < 0 ∨ 2 < m) := hno
    have hb : b = true ↔ (0 : Int) ∉ r.take i := hb
    rcases Nat.lt_or_ge i r.length with hlt | hge
    · obtain ⟨k, hk⟩ : ∃ k, r[i]? = some k := ⟨_, List.getElem?_eq_getElem hlt⟩
      have hp := part_int hk
      by_cases hbad : k < 0 ∨ 2 < k
      · have e : alphaE r = 3 := by unfold alphaE; rw [if_neg h1, if_pos ⟨k, List.mem_of_getElem? hk, hbad⟩]
        rw [e]
        clear hno hb hk
        generalize (r.map fun x => D.flat (.int .i64 x)) = LR at *
        by_cases hk0 : k < 0
        · refine DW.walk ?_
          exact ⟨.inr rfl, ResOk.one [] rfl rfl trivial (Vw.pers rfl)⟩
        · have hk2 := hbad.resolve_left hk0
          refine DW.walk ?_
          exact ⟨.inr rfl, ResOk.one [] rfl rfl trivial (Vw.pers rfl)⟩
      · have hk0 : ¬ k < 0 := fun h => hbad (.inl h)
        have hk2 : ¬ 2 < k := fun h => hbad (.inr h)
        have ht : r.take (i + 1) = r.take i ++ [k] := by rw [List.take_add_one, hk]; rfl
        have hno' : ∀ m ∈ r.take (i + 1), ¬ (m < 0 ∨ 2 < m) := fun m hm => by
          rw [ht] at hm
          rcases List.mem_append.1 hm with hm | hm
          · exact hno m hm
          · rw [List.mem_singleton.1 hm]; exact hbad
        cases b with
        | true =>
          have hb' : decide (0 < k) = true ↔ (0 : Int) ∉ r.take (i + 1) := by
            rw [ht, List.mem_append, List.mem_singleton, decide_eq_true_iff]
            have := hb.1 rfl
            constructor
            · rintro h (h' | h')
              · exact this h'
              · omega
            · intro h
              have : ¬ (0 : Int) = k := fun e => h (.inr e)
              omega
          clear hno hb hk h1 ht hbad
          generalize (r.map fun x => D.flat (.int .i64 x)) = LR at *
          refine DW.walk ?_
          exact ⟨(i + 1, decide (0 < k)), ⟨by show i + 1 ≤ _; omega, hno', hb'⟩, by show r.length - (i + 1) < r.length - i; omega, Sub.auto⟩
        | false =>
          have hb' : false = true ↔ (0 : Int) ∉ r.take (i + 1) := by
            rw [ht, List.mem_append]
            constructor
            · intro h; cases h
            · intro h
              exact hb.2 fun h' => h (.inl h')
          clear hno hb hk h1 ht hbad
          generalize (r.map fun x => D.flat (.int .i64 x)) = LR at *
          refine DW.walk ?_
          exact ⟨(i + 1, false), ⟨by show i + 1 ≤ _; omega, hno', hb'⟩, by show r.length - (i + 1) < r.length - i; omega, Sub.auto⟩
    · obtain rfl : i = r.length := by omega
      rw [List.take_length] at hno hb
      have hn3 : ¬ ∃ n ∈ r, n < 0 ∨ 2 < n := fun ⟨n, a1, a2⟩ => hno n a1 a2
      cases b with
      | true =>
        have e : alphaE r = 9 := by unfold alphaE; rw [if_neg h1, if_neg hn3, if_neg (hb.1 rfl)]
        rw [e]
        clear hno hb hn3
        generalize (r.map fun x => D.flat (.int .i64 x)) = LR at *
        refine DW.walk ?_
        exact ⟨.inr rfl, ResOk.one [] rfl rfl trivial (Vw.pers rfl)⟩
      | false =>
        have e : alphaE r = 0 := by
          unfold alphaE
          rw [if_neg h1, if_neg hn3, if_pos]
          by_cases h : (0 : Int) ∈ r
          · exact h
          · have := hb.2 h
            cases this
        rw [e]
        clear hno hb hn3
        generalize (r.map fun x => D.flat (.int .i64 x)) = LR at *
        refine DW.walk ?_
        exact ⟨.inr rfl, ResOk.one [] rfl rfl trivial (Vw.pers rfl)⟩
end Go.Proofs.YtohjapcafkhabaaDoor

set_option linter.unusedSimpArgs false
set_option linter.unusedVariables false
set_option maxHeartbeats 4000000
set_option maxRecDepth 8000
namespace Go.Proofs.YtohjapcafkhabaaDoor
open Go Go.RowKit Go.PP Go.Dm Go.Rt
theorem val20_d (r : List Int) (hr : r.length ≤ 1000000000) (t : Tr) (ts : TSm t) : DFun Tryd.prog 20 [.sl false 1 r.length (r.map fun x => .flat (.int .i64 x)), treeD t] (.flat (.int .i64 (rightE r t : Nat))) := by
  have hc := check27_d r hr
  have hrp := ints_pers r
  have hn := nodes48_d r hr _ t (Nat.le_refl _) ts
  have h38 := size38_d _ t (Nat.le_refl _) ts
  have h40 := deep40_d _ t (Nat.le_refl _) ts
  unfold rightE
  generalize alphaE r = c at *
  generalize nodesE r t = e at *
  generalize sizeW t = x at *
  generalize deepW t = y at *
  obtain ⟨s, l⟩ := t
  rw [treeD_node] at *
  clear ts
  generalize (r.map fun x => D.flat (.int .i64 x)) = LR at *
  by_cases h1 : c ≠ 0
  · rw [if_pos h1]
    clear hn
    refine DFun.enterA Tryd.func20 Tryd.ntmps20 ?_
    refine DW.walk ?_
    exact ⟨.inr rfl, ResOk.one [] rfl rfl trivial (Vw.pers rfl)⟩
  · rw [if_neg h1]
    have h1 : c = 0 := by omega
    subst h1
    by_cases hx : 4096 < x
    · simp only [if_pos hx] at *
      refine DFun.enterA Tryd.func20 Tryd.ntmps20 ?_
      refine DW.walk ?_
      exact ⟨.inr rfl, ResOk.one [] rfl rfl trivial (Vw.pers rfl)⟩
    · simp only [if_neg hx] at *
      by_cases hy : 256 < y
      · simp only [if_pos hy] at *
        refine DFun.enterA Tryd.func20 Tryd.ntmps20 ?_
        refine DW.walk ?_
        exact ⟨.inr rfl, ResOk.one [] rfl rfl trivial (Vw.pers rfl)⟩
      · simp only [if_neg hy] at *
        refine DFun.enterA Tryd.func20 Tryd.ntmps20 ?_
        refine DW.walk ?_
        exact ⟨.inr rfl, ResOk.one [] rfl rfl trivial (Vw.pers rfl)⟩
end Go.Proofs.YtohjapcafkhabaaDoor
