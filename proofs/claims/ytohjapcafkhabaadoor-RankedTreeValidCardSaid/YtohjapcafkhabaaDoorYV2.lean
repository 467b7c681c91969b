/- Contracts over data: the symbols of an arity. No condition. -/
import Derived.Test.YtohjapcafkhabaaDoorYC8

set_option linter.unusedSimpArgs false
set_option linter.unusedVariables false
set_option maxHeartbeats 4000000
set_option maxRecDepth 8000
namespace Go.Proofs.YtohjapcafkhabaaDoor
open Go Go.RowKit Go.PP Go.Dm Go.Rt
/-- The symbols with n children among the first i. -/
def syN (r : List Int) (n : Int) : Nat → List Int
  | 0 => []
  | i + 1 => syN r n i ++ if r[i]? = some n then [(i : Int)] else []
theorem syN_yes {r : List Int} {n : Int} {i : Nat} (h : r[i]? = some n) : syN r n (i + 1) = syN r n i ++ [(i : Int)] := by rw [syN, if_pos h]
theorem syN_no {r : List Int} {n : Int} {i : Nat} (h : r[i]? ≠ some n) : syN r n (i + 1) = syN r n i := by rw [syN, if_neg h, List.append_nil]
theorem syN_len (r : List Int) (n : Int) : ∀ i, (syN r n i).length ≤ i
  | 0 => Nat.le_refl _
  | i + 1 => by
    have := syN_len r n i
    rw [syN, List.length_append]
    split
    · simpa using this
    · simp; omega
theorem sym24_d (r : List Int) (n : Int) (hr : r.length ≤ 1000000000) : DFun Tryd.prog 24 [.sl false 1 r.length (r.map fun x => .flat (.int .i64 x)), .flat (.int .i64 n)] (.sl false 1 (syN r n r.length).length ((syN r n r.length).map fun x => D.flat (.int .i64 x))) := by
  have hrp := ints_pers r
  refine DFun.enterA Tryd.func24 Tryd.ntmps24 ?_
  refine DW.walkTo 2 ?_
  refine DW.adopt 5 105 3 1 rfl rfl ?_
  refine DW.walk ?_
  refine DW.loopA (fun i : Nat => ⟨[(5, .own 105 (syN r n (i)).length), (8, .sl false 1 r.length (r.map fun x => .flat (.int .i64 x))), (9, .flat (.int .i64 (r.length : Nat))), (10, .flat (.int .i64 ((i : Nat) : Nat))), (1, .flat (.int .i64 n))], [(105, some (.row 3 1 (syN r n (i)).length ((syN r n (i)).map fun x => D.flat (.int .i64 x))))]⟩) (fun i => i ≤ r.length) (fun i => r.length - i) 0 ?_ (Nat.zero_le _) (by exact Sub.auto)
  intro i hi
  rcases Nat.lt_or_ge i r.length with hlt | hge
  · obtain ⟨k, hk⟩ : ∃ k, r[i]? = some k := ⟨_, List.getElem?_eq_getElem hlt⟩
    have hp := part_int hk
    have hsl := syN_len r n i
    by_cases hkn : k = n
    · have e1 : (syN r n (i + 1)).length = (syN r n i).length + 1 := by rw [syN_yes (hkn ▸ hk)]; simp
      have e2 : ((syN r n i).map fun x => D.flat (.int .i64 x)) ++ [.flat (.int .i64 (i : Nat))] = ((syN r n (i + 1)).map fun x => D.flat (.int .i64 x)) := by rw [syN_yes (hkn ▸ hk)]; simp
      have hpl := ints_pers (syN r n (i + 1))
      rw [← e2] at hpl
      clear hk
      generalize (r.map fun x => D.flat (.int .i64 x)) = LR at *
      refine DW.walk ?_
      refine ⟨i + 1, by omega, by omega, ?_⟩
      rw [e1, ← e2]
      exact Sub.auto
    · have hpl := ints_pers (syN r n i)
      have e1 : syN r n (i + 1) = syN r n i := syN_no (by rw [hk]; intro e; exact hkn (Option.some.inj e))
      clear hk
      generalize (r.map fun x => D.flat (.int .i64 x)) = LR at *
      refine DW.walk ?_
      refine ⟨i + 1, by omega, by omega, ?_⟩
      rw [e1]
      exact Sub.auto
  · obtain rfl : i = r.length := by omega
    generalize (r.map fun x => D.flat (.int .i64 x)) = LR at *
    refine DW.walk ?_
    exact ⟨.inr rfl, ResOk.one [(105, some (.row 3 1 (syN r n r.length).length ((syN r n r.length).map fun x => D.flat (.int .i64 x))))] rfl rfl ⟨rfl, trivial⟩ (Vw.own (.head _) (VwL.pers (ints_pers _)))⟩
theorem sym25_d (r : List Int) (n : Int) (hr : r.length ≤ 1000000000) : DFun Tryd.prog 25 [.sl false 1 r.length (r.map fun x => .flat (.int .i64 x)), .flat (.int .i64 n)] (.sl false 1 (syN r n r.length).length ((syN r n r.length).map fun x => D.flat (.int .i64 x))) := by
  have hrp := ints_pers r
  refine DFun.enterA Tryd.func25 Tryd.ntmps25 ?_
  refine DW.walkTo 2 ?_
  refine DW.adopt 5 105 3 1 rfl rfl ?_
  refine DW.walk ?_
  refine DW.loopA (fun i : Nat => ⟨[(5, .own 105 (syN r n (i)).length), (0, .sl false 1 r.length (r.map fun x => .flat (.int .i64 x))), (1, .flat (.int .i64 n)), (6, .flat (.int .i64 ((i : Nat) : Nat)))], [(105, some (.row 3 1 (syN r n (i)).length ((syN r n (i)).map fun x => D.flat (.int .i64 x))))]⟩) (fun i => i ≤ r.length) (fun i => r.length - i) 0 ?_ (Nat.zero_le _) (by exact Sub.auto)
  intro i hi
  rcases Nat.lt_or_ge i r.length with hlt | hge
  · obtain ⟨k, hk⟩ : ∃ k, r[i]? = some k := ⟨_, List.getElem?_eq_getElem hlt⟩
    have hp := part_int hk
    have hsl := syN_len r n i
    by_cases hkn : k = n
    · have e1 : (syN r n (i + 1)).length = (syN r n i).length + 1 := by rw [syN_yes (hkn ▸ hk)]; simp
      have e2 : ((syN r n i).map fun x => D.flat (.int .i64 x)) ++ [.flat (.int .i64 (i : Nat))] = ((syN r n (i + 1)).map fun x => D.flat (.int .i64 x)) := by rw [syN_yes (hkn ▸ hk)]; simp
      have hpl := ints_pers (syN r n (i + 1))
      rw [← e2] at hpl
      clear hk
      generalize (r.map fun x => D.flat (.int .i64 x)) = LR at *
      refine DW.walk ?_
      refine ⟨i + 1, by omega, by omega, ?_⟩
      rw [e1, ← e2]
      exact Sub.auto
    · have hpl := ints_pers (syN r n i)
      have e1 : syN r n (i + 1) = syN r n i := syN_no (by rw [hk]; intro e; exact hkn (Option.some.inj e))
      clear hk
      generalize (r.map fun x => D.flat (.int .i64 x)) = LR at *
      refine DW.walk ?_
      refine ⟨i + 1, by omega, by omega, ?_⟩
      rw [e1]
      exact Sub.auto
  · obtain rfl : i = r.length := by omega
    generalize (r.map fun x => D.flat (.int .i64 x)) = LR at *
    refine DW.walk ?_
    exact ⟨.inr rfl, ResOk.one [(105, some (.row 3 1 (syN r n r.length).length ((syN r n r.length).map fun x => D.flat (.int .i64 x))))] rfl rfl ⟨rfl, trivial⟩ (Vw.own (.head _) (VwL.pers (ints_pers _)))⟩
end Go.Proofs.YtohjapcafkhabaaDoor

set_option linter.unusedSimpArgs false
set_option linter.unusedVariables false
set_option maxHeartbeats 4000000
set_option maxRecDepth 8000
namespace Go.Proofs.YtohjapcafkhabaaDoor
open Go Go.RowKit Go.PP Go.Dm Go.Rt
theorem check27_d (r : List Int) (hr : r.length ≤ 1000000000) : DFun Tryd.prog 27 [.sl false 1 r.length (r.map fun x => .flat (.int .i64 x))] (.flat (.int .i64 (alphaE r : Nat))) := by
  have hrp := ints_pers r
  by_cases h1 : r.length < 1 ∨ 4096 < r.length
  · have e : alphaE r = 2 := by unfold alphaE; rw [if_pos h1]
    rw [e]
    generalize (r.map fun x => D.flat (.int .i64 x)) = LR at *
    refine DFun.enterA Tryd.func27 Tryd.ntmps27 ?_
    rcases h1 with h1 | h1
    · refine DW.walk ?_
      exact ⟨.inr rfl, ResOk.one [] rfl rfl trivial (Vw.pers rfl)⟩
    · refine DW.walk ?_
      exact ⟨.inr rfl, ResOk.one [] rfl rfl trivial (Vw.pers rfl)⟩
  · have h2 : 1 ≤ r.length ∧ r.length ≤ 4096 := by omega
    have h3 := h2.1
    have h4 := h2.2
    refine DFun.enterA Tryd.func27 Tryd.ntmps27 ?_
    refine DW.walk ?_
    refine DW.loopA (fun p : Nat × Bool => ⟨[(0, .sl false 1 r.length (r.map fun x => .flat (.int .i64 x))), (2, .flat (.int .i64 0)), (3, .flat (.bool p.2)), (4, .flat (.int .i64 (p.1 : Nat)))], []⟩) (fun p => p.1 ≤ r.length ∧ (∀ m ∈ r.take p.1, ¬ (m < 0 ∨ 2 < m)) ∧ (p.2 = true ↔ (0 : Int) ∉ r.take p.1)) (fun p => r.length - p.1) (0, true) ?_ ⟨Nat.zero_le _, by simp, by simp⟩ (by exact Sub.auto)
    rintro ⟨i, b⟩ ⟨hi, hno, hb⟩
    have hi : i ≤ r.length := hi
    have hno : ∀ m ∈ r.take i, ¬ (m < 0 ∨ 2 < m) := hno
    have hb : b = true ↔ (0 : Int) ∉ r.take i := hb
    rcases Nat.lt_or_ge i r.length with hlt | hge
    · obtain ⟨k, hk⟩ : ∃ k, r[i]? = some k := ⟨_, List.getElem?_eq_getElem hlt⟩
      have hp := part_int hk
      by_cases hbad : k < 0 ∨ 2 < k
      · have e : alphaE r = 3 := by unfold alphaE; rw [if_neg h1, if_pos ⟨k, List.mem_of_getElem? hk, hbad⟩]
        rw [e]
        clear hno hb hk
        generalize (r.map fun x => D.flat (.int .i64 x)) = LR at *
        by_cases hk0 : k < 0
        · refine DW.walk ?_
          exact ⟨.inr rfl, ResOk.one [] rfl rfl trivial (Vw.pers rfl)⟩
        · have hk2 := hbad.resolve_left hk0
          refine DW.walk ?_
          exact ⟨.inr rfl, ResOk.one [] rfl rfl trivial (Vw.pers rfl)⟩
      · have hk0 : ¬ k < 0 := fun h => hbad (.inl h)
        have hk2 : ¬ 2 < k := fun h => hbad (.inr h)
        have ht : r.take (i + 1) = r.take i ++ [k] := by rw [List.take_add_one, hk]; rfl
        have hno' : ∀ m ∈ r.take (i + 1), ¬ (m < 0 ∨ 2 < m) := fun m hm => by
          rw [ht] at hm
          rcases List.mem_append.1 hm with hm | hm
          · exact hno m hm
          · rw [List.mem_singleton.1 hm]; exact hbad
        cases b with
        | true =>
          have hb' : decide (0 < k) = true ↔ (0 : Int) ∉ r.take (i + 1) := by
            rw [ht, List.mem_append, List.mem_singleton, decide_eq_true_iff]
            have := hb.1 rfl
            constructor
            · rintro h (h' | h')
              · exact this h'
              · omega
            · intro h
              have : ¬ (0 : Int) = k := fun e => h (.inr e)
              omega
          clear hno hb hk h1 ht hbad
          generalize (r.map fun x => D.flat (.int .i64 x)) = LR at *
          refine DW.walk ?_
          exact ⟨(i + 1, decide (0 < k)), ⟨by show i + 1 ≤ _; omega, hno', hb'⟩, by show r.length - (i + 1) < r.length - i; omega, Sub.auto⟩
        | false =>
          have hb' : false = true ↔ (0 : Int) ∉ r.take (i + 1) := by
            rw [ht, List.mem_append]
            constructor
            · intro h; cases h
            · intro h
              exact hb.2 fun h' => h (.inl h')
          clear hno hb hk h1 ht hbad
          generalize (r.map fun x => D.flat (.int .i64 x)) = LR at *
          refine DW.walk ?_
          exact ⟨(i + 1, false), ⟨by show i + 1 ≤ _; omega, hno', hb'⟩, by show r.length - (i + 1) < r.length - i; omega, Sub.auto⟩
    · obtain rfl : i = r.length := by omega
      rw [List.take_length] at hno hb
      have hn3 : ¬ ∃ n ∈ r, n < 0 ∨ 2 < n := fun ⟨n, a1, a2⟩ => hno n a1 a2
      cases b with
      | true =>
        have e : alphaE r = 9 := by unfold alphaE; rw [if_neg h1, if_neg hn3, if_neg (hb.1 rfl)]
        rw [e]
        clear hno hb hn3
        generalize (r.map fun x => D.flat (.int .i64 x)) = LR at *
        refine DW.walk ?_
        exact ⟨.inr rfl, ResOk.one [] rfl rfl trivial (Vw.pers rfl)⟩
      | false =>
        have e : alphaE r = 0 := by
          unfold alphaE
          rw [if_neg h1, if_neg hn3, if_pos]
          by_cases h : (0 : Int) ∈ r
          · exact h
          · have := hb.2 h
            cases this
        rw [e]
        clear hno hb hn3
        generalize (r.map fun x => D.flat (.int .i64 x)) = LR at *
        refine DW.walk ?_
        exact ⟨.inr rfl, ResOk.one [] rfl rfl trivial (Vw.pers rfl)⟩
end Go.Proofs.YtohjapcafkhabaaDoor
