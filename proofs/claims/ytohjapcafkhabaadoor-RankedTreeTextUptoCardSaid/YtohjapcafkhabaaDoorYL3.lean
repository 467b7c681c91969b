/- The law RankedTreeText over data. No condition. -/
import Derived.Test.YtohjapcafkhabaaDoorYRD5
import Derived.Test.YtohjapcafkhabaaDoorYN3
import Derived.Test.YtohjapcafkhabaaDoorYP13
import Derived.Test.YtohjapcafkhabaaDoorYL0
import Derived.Test.YtohjapcafkhabaaDoorYC3
import Derived.Test.YtohjapcafkhabaaDoorYC6
import Derived.Test.YtohjapcafkhabaaDoorYB4
import Derived.Test.YtohjapcafkhabaaDoorYP9

set_option linter.unusedSimpArgs false
set_option linter.unusedVariables false
set_option maxHeartbeats 4000000
set_option maxRecDepth 8000
namespace Go.Proofs.YtohjapcafkhabaaDoor
open Go Go.RowKit Go.PP Go.Dm Go.Rt
theorem tx_g1 (s1 : Int) (l1 : List Tr) (s : List UInt8) (hs : s.length ≤ 140737488351232) (g1 : DFun Tryd.prog 11 [.agg [.flat (.int .i64 s1), treesD l1]] (.flat (.bool true))) (hK : DFun Tryd.prog 12 [] (.flat (.bool true))) : DFun Tryd.prog 3 [.agg [.flat (.int .i64 s1), treesD l1], strD s] (.flat (.bool true)) := by
  refine DFun.enterA Tryd.func3 Tryd.ntmps3 ?_
  refine DW.walk ?_
  exact ⟨.inr rfl, ResOk.one [] rfl rfl trivial (Vw.pers rfl)⟩
theorem tx_g2 (s1 : Int) (l1 : List Tr) (s : List UInt8) (hs : s.length ≤ 140737488351232) (g1 : DFun Tryd.prog 11 [.agg [.flat (.int .i64 s1), treesD l1]] (.flat (.bool false))) (h2 : 2000 < s.length) (hK : DFun Tryd.prog 12 [] (.flat (.bool true))) : DFun Tryd.prog 3 [.agg [.flat (.int .i64 s1), treesD l1], strD s] (.flat (.bool true)) := by
  refine DFun.enterA Tryd.func3 Tryd.ntmps3 ?_
  refine DW.walk ?_
  exact ⟨.inr rfl, ResOk.one [] rfl rfl trivial (Vw.pers rfl)⟩
theorem tx_go (s1 s2 : Int) (l1 l2 : List Tr) (s X : List UInt8) (e : Int) (h2 : s.length ≤ 2000) (g1 : DFun Tryd.prog 11 [.agg [.flat (.int .i64 s1), treesD l1]] (.flat (.bool false))) (hK : DFun Tryd.prog 12 [] (.flat (.bool true))) (c13 : DFun Tryd.prog 13 [strD s] (.tup [.agg [.flat (.int .i64 s2), treesD l2], .flat (.int .i64 e)])) (c14 : DFun Tryd.prog 14 [strD s] (.tup [.agg [.flat (.int .i64 s2), treesD l2], .flat (.int .i64 e)])) (b1 : DFun Tryd.prog 16 [.agg [.flat (.int .i64 s1), treesD l1]] (.agg [.flat (.int .i64 s1), treesD l1])) (b2 : DFun Tryd.prog 15 [.agg [.flat (.int .i64 s1), treesD l1]] (strD X)) (b3 : DFun Tryd.prog 17 [.agg [.flat (.int .i64 s1), treesD l1]] (strD X)) (hss : decide (X = X) = true) (hee : decide (e = e) = true) (b4 : DFun Tryd.prog 19 [.agg [.flat (.int .i64 s2), treesD l2]] (.agg [.flat (.int .i64 s2), treesD l2])) (b5 : DFun Tryd.prog 18 [.agg [.flat (.int .i64 s2), treesD l2], .agg [.flat (.int .i64 s2), treesD l2]] (.flat (.int .i64 0))) : DFun Tryd.prog 3 [.agg [.flat (.int .i64 s1), treesD l1], strD s] (.flat (.bool true)) := by
  refine DFun.enterA Tryd.func3 Tryd.ntmps3 ?_
  refine DW.walk ?_
  exact ⟨.inr rfl, ResOk.one [] rfl rfl trivial (Vw.pers rfl)⟩
mutual
theorem good_small : ∀ t : Tr, goodT t → TSm t ∧ SymR t
  | .node s l, h => by
    obtain ⟨⟨a1, a2⟩, a3, a4⟩ := goodT_node.1 h
    obtain ⟨b1, b2⟩ := goodL_small l a4
    exact ⟨TSm_node.2 ⟨by omega, b1⟩, SymR_node.2 ⟨by omega, b2⟩⟩
theorem goodL_small : ∀ l : List Tr, goodTL l → TSmL l ∧ SymRL l
  | [], _ => ⟨by rw [TSmL]; trivial, by rw [SymRL]; trivial⟩
  | t :: ts, h => by
    rw [goodTL] at h
    obtain ⟨b1, b2⟩ := good_small t h.1
    obtain ⟨c1, c2⟩ := goodL_small ts h.2
    exact ⟨by rw [TSmL]; exact ⟨b1, c1⟩, by rw [SymRL]; exact ⟨b2, c2⟩⟩
end
theorem itoa_len (s : Int) (h : -9223372036854775808 ≤ s ∧ s ≤ 9223372036854775807) : (Lib.itoa s).length ≤ 20 := by
  unfold Lib.itoa
  split
  · have := dec_len19 (m := s.natAbs - 1) (by omega)
    by_cases hm : s.natAbs ≤ 9223372036854775807
    · have := dec_len19 (m := s.natAbs) hm
      rw [List.length_cons]; omega
    · have e : s.natAbs = 9223372036854775808 := by omega
      rw [e]
      decide +kernel
  · have := dec_len19 (m := s.toNat) (by omega)
    omega
mutual
theorem text_len23 : ∀ t : Tr, SymR t → (textT Lib.itoa t).length + 1 ≤ 23 * sizeT t
  | .node s l, h => by
    have hi := itoa_len s (SymR_node.1 h).1
    have hk := textL_len23 l 40 (SymR_node.1 h).2
    rw [textT, sizeT_node]
    split
    · simp only [List.length_append, List.length_nil]; omega
    · simp only [List.length_append, List.length_cons, List.length_nil]; omega
theorem textL_len23 : ∀ (l : List Tr) (c : UInt8), SymRL l → (textL Lib.itoa c l).length ≤ 23 * sizeTL l
  | [], c, h => by rw [textL]; exact Nat.zero_le _
  | t :: ts, c, h => by
    rw [SymRL] at h
    have h1 := text_len23 t h.1
    have h2 := textL_len23 ts 44 h.2
    rw [textL, sizeTL_cons]
    simp only [List.cons_append, List.length_cons, List.length_append]
    omega
end
theorem both_parse (s : List UInt8) (hs : s.length ≤ 2000) : ∃ u e, DFun Tryd.prog 13 [strD s] (.tup [treeD u, .flat (.int .i64 e)]) ∧ DFun Tryd.prog 14 [strD s] (.tup [treeD u, .flat (.int .i64 e)]) ∧ TSm u := by
  have z : TSm (.node 0 []) := by simp [TSm, TSmL]
  by_cases hg : ∃ v, goodT v ∧ s = textT Lib.itoa v
  · obtain ⟨v, hv, e⟩ := hg
    obtain ⟨v1, v2⟩ := good_small v hv
    have h1 := parse_textG _ v (Nat.le_refl _) hv [] (fun b hb => by cases hb) (by intro h; cases h) (by rw [List.append_nil, ← e]; omega)
    rw [List.append_nil, ← e] at h1
    have h2 := read_text _ v (Nat.le_refl _) hv s 0 [] (by omega) (by rw [List.append_nil]; exact e) (fun b hb => by cases hb) (by intro h; cases h)
    rw [← e] at h2
    have hx : 0 + s.length = s.length := Nat.zero_add _
    have h42 := small42_d v v1
    have h38 := size38_d _ v (Nat.le_refl _) v1
    have h40 := deep40_d _ v (Nat.le_refl _) v1
    by_cases q1 : 4096 < sizeW v
    · rw [if_pos q1] at h42
      exact ⟨_, 2, parse13_s s v _ hs h1 h42 (by decide), p14_s s v _ hs h2 hx _ h38 q1, z⟩
    · rw [if_neg q1] at h42
      by_cases q2 : 256 < deepW v
      · rw [if_pos q2] at h42
        exact ⟨_, 16, parse13_s s v _ hs h1 h42 (by decide), p14_e s v _ hs h2 hx _ _ h38 h40 q1 q2, z⟩
      · rw [if_neg q2] at h42
        exact ⟨_, 0, parse13_ok s v (by omega) h1 h42, p14_ok s v _ hs h2 hx _ _ h38 h40 q1 q2, v1⟩
  · refine ⟨.node 0 [], 3, ?_, ?_, z⟩
    · obtain ⟨t, r, ok, h1, h2, h3, h4⟩ := parse_anyG s.length s (Nat.le_refl _) (by omega)
      cases ok with
      | false => exact parse13_f s t r false hs (by omega) h1 (.inl rfl)
      | true =>
        refine parse13_f s t r true hs (by omega) h1 (.inr ⟨rfl, decide_eq_true fun hr => hg ⟨t, h2.2.2, ?_⟩⟩)
        have := h4 rfl
        rwa [hr, List.append_nil] at this
    · obtain ⟨t, x, ok, h1, h2, h3⟩ := read_any _ s 0 (Nat.le_refl _) (Nat.zero_le _) (by omega)
      cases ok with
      | false => exact p14_no s t x false hs h1 (.inl rfl)
      | true =>
        refine p14_no s t x true hs h1 (.inr ⟨rfl, fun hx => hg ⟨t, h2.2.2, ?_⟩⟩)
        obtain ⟨_, _, h5⟩ := h3 rfl
        rw [hx, List.drop_length, List.append_nil] at h5
        exact h5
theorem law3_d (t : Tr) (s : List UInt8) (ot : TSm t ∧ SymR t) (hs : s.length ≤ 140737488351232) (hb : sizeT t ≤ 4611686018427387904) : DFun Tryd.prog 3 [treeD t, strD s] (.flat (.bool true)) := by
  have hK := known_d
  by_cases gt : 40 < deepW t ∨ 300 < sizeW t
  · have g1 := great_t t ot.1 gt
    obtain ⟨s1, l1⟩ := t
    rw [treeD_node] at *
    exact tx_g1 s1 l1 s hs g1 hK
  · have hsz : sizeW t ≤ 300 := by omega
    have hdp : deepW t ≤ 40 := by omega
    have g1 := great_f t ot.1 (by omega) (by omega)
    by_cases h2 : 2000 < s.length
    · obtain ⟨s1, l1⟩ := t
      rw [treeD_node] at *
      exact tx_g2 s1 l1 s hs g1 h2 hK
    · have h2 : s.length ≤ 2000 := by omega
      obtain ⟨u, e, c13, c14, hu⟩ := both_parse s h2
      have b1 := own_d _ t (Nat.le_refl _) ot.1
      have b4 := back_d _ u (Nat.le_refl _) hu
      have b5 := cmp18_d _ u u (Nat.le_refl _) hu hu
      rw [cmpT_self] at b5
      have hse := sizeW_eq t hb
      have hl := text_len23 t ot.2
      have b2 := format_d t ot.1 ot.2 (by omega)
      have b3 := rtext_d _ t (Nat.le_refl _) ot.1 ot.2 (by omega)
      have hss : decide (textT Lib.itoa t = textT Lib.itoa t) = true := decide_eq_true rfl
      generalize textT Lib.itoa t = X at *
      have hee : decide (e = e) = true := decide_eq_true rfl
      obtain ⟨s1, l1⟩ := t
      obtain ⟨s2, l2⟩ := u
      rw [treeD_node] at *
      exact tx_go s1 s2 l1 l2 s X e h2 g1 hK c13 c14 b1 b2 b3 hss hee b4 b5
end Go.Proofs.YtohjapcafkhabaaDoor
