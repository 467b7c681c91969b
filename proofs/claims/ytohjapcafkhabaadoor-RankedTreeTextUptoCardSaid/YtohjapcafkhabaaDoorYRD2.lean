/- Contracts over data: the reference reads a number. No condition. -/
import Derived.Test.YtohjapcafkhabaaDoorYP3
import Derived.Test.YtohjapcafkhabaaDoorYNR
import Derived.Test.YtohjapcafkhabaaDoorYTE
import Derived.Test.YtohjapcafkhabaaDoorYP5

set_option linter.unusedSimpArgs false
set_option linter.unusedVariables false
set_option maxHeartbeats 4000000
set_option maxRecDepth 8000
namespace Go.Proofs.YtohjapcafkhabaaDoor
open Go Go.RowKit Go.PP Go.Dm Go.Rt
noncomputable abbrev code43 : Code := Tryd.f43.body.getD .skip
theorem dgF1 {b : UInt8} (h : isDg b = true) : 48 ≤ (b.toNat : Int) ∧ (b.toNat : Int) ≤ 57 := by
  have := dg_range h
  omega
theorem dgF2 {b : UInt8} (h : isDg b = false) : (b.toNat : Int) < 48 ∨ (48 ≤ (b.toNat : Int) ∧ 57 < (b.toNat : Int)) := by
  unfold isDg at h
  simp only [Bool.and_eq_false_iff, decide_eq_false_iff_not] at h
  omega
theorem valN_take {d : List UInt8} {j : Nat} {b : UInt8} (h : d[j]? = some b) : valN (d.take (j + 1)) = 10 * valN (d.take j) + (b.toNat - 48) := by
  obtain ⟨hj, rfl⟩ := List.getElem?_eq_some_iff.1 h
  rw [List.take_succ_eq_append_getElem hj, valN_snoc]
theorem valN_le {d : List UInt8} (hd : ∀ b ∈ d, isDg b = true) (hl : d.length ≤ 4) (j : Nat) : valN (d.take j) < 10000 := by
  have h1 := valN_lt (d.take j) fun b hb => hd b (List.mem_of_mem_take hb)
  have h2 : (d.take j).length ≤ 4 := by rw [List.length_take]; omega
  have h3 : 10 ^ (d.take j).length ≤ 10 ^ 4 := Nat.pow_le_pow_right (by decide) h2
  omega
/-- The number at place a: its digits, at most four. -/
structure DgAt (s : List UInt8) (a : Nat) (d : List UInt8) : Prop where
  hd : ∀ b ∈ d, isDg b = true
  hl : d.length ≤ 4
  at_ : ∀ j b, d[j]? = some b → s[a + j]? = some b
  le : a + d.length ≤ s.length
  fin : d.length = 4 ∨ a + d.length = s.length ∨ ∃ b, s[a + d.length]? = some b ∧ isDg b = false
theorem rd_num {cc : Code} (hsel : selC [1, 1, 1, 0] code43 = some cc) (s : List UInt8) (a : Nat) (d : List UInt8) (hs : s.length ≤ 1000000) (h : DgAt s a d) : DW Tryd.prog 127 cc ⟨[(0, strD s), (1, .flat (.int .i64 (a : Nat))), (4, .ref 4 0), (5, .flat (.int .i64 0)), (6, .flat (.bool false)), (7, .flat (.int .i64 (a : Nat))), (8, .flat (.int .i64 0))], [(4, some (.box [.flat (.int .i64 0), .flat (.slice none 0 0)]))]⟩ (Nm 127 ⟨[(0, strD s), (1, .flat (.int .i64 ((a + d.length : Nat) : Int))), (4, .ref 4 0), (5, .flat (.int .i64 0)), (6, .flat (.bool false)), (7, .flat (.int .i64 (a : Nat))), (8, .flat (.int .i64 ((valN d : Nat) : Int)))], [(4, some (.box [.flat (.int .i64 0), .flat (.slice none 0 0)]))]⟩) := by
  refine DW.sel hsel (by rfl) ?_
  refine DW.walk ?_
  have hl := h.hl
  have hle := h.le
  refine DW.loopA (fun j : Nat => ⟨[(0, strD s), (1, .flat (.int .i64 ((a + j : Nat) : Int))), (4, .ref 4 0), (5, .flat (.int .i64 0)), (6, .flat (.bool false)), (7, .flat (.int .i64 (a : Nat))), (8, .flat (.int .i64 ((valN (d.take j) : Nat) : Int)))], [(4, some (.box [.flat (.int .i64 0), .flat (.slice none 0 0)]))]⟩) (fun j => j ≤ d.length) (fun j => d.length - j) 0 ?_ (Nat.zero_le _) (by rw [List.take_zero]; exact Sub.auto)
  intro j hj
  rcases Nat.lt_or_ge j d.length with hlt | hge
  · obtain ⟨b, hb⟩ : ∃ b, d[j]? = some b := ⟨_, List.getElem?_eq_getElem hlt⟩
    have hx := h.at_ j b hb
    have hdg := dgF1 (h.hd b (List.mem_of_getElem? hb))
    have h1 := hdg.1
    have h2 := hdg.2
    have hv := valN_take hb
    have hv2 := valN_le h.hd hl j
    have hv4 : ((valN (d.take (j + 1)) : Nat) : Int) = 10 * ((valN (d.take j) : Nat) : Int) + ((b.toNat : Int) - 48) := by omega
    generalize valN (d.take j) = V at *
    have hbl : (b.toNat : Int) ≤ 57 := h2
    clear h hb hdg hv
    refine DW.walk ?_
    exact ⟨j + 1, by omega, by omega, by rw [hv4]; exact Sub.auto⟩
  · obtain rfl : j = d.length := by omega
    have hf := h.fin
    rw [List.take_length]
    generalize d.length = L at *
    generalize valN d = V at *
    clear h hj hge
    by_cases e1 : a + L = s.length
    · refine DW.walk ?_
      exact Nm.mk Sub.auto
    · have e2 : a + L < s.length := by omega
      obtain ⟨b, hb⟩ : ∃ b, s[a + L]? = some b := ⟨_, List.getElem?_eq_getElem e2⟩
      by_cases e3 : isDg b = true
      · have e4 : L = 4 := by
          rcases hf with h | h | ⟨b', h, h'⟩
          · exact h
          · omega
          · rw [hb] at h; cases h; rw [e3] at h'; cases h'
        have hdg := dgF1 e3
        have h1 := hdg.1
        have h2 := hdg.2
        clear hdg hf
        subst e4
        refine DW.walk ?_
        exact Nm.mk Sub.auto
      · have e3 : isDg b = false := by simpa using e3
        clear hf
        rcases dgF2 e3 with h1 | ⟨h1, h2⟩
        · have h1 : ¬ 48 ≤ (b.toNat : Int) := by omega
          refine DW.walk ?_
          exact Nm.mk Sub.auto
        · have h2 : ¬ (b.toNat : Int) ≤ 57 := by omega
          refine DW.walk ?_
          exact Nm.mk Sub.auto
end Go.Proofs.YtohjapcafkhabaaDoor

set_option linter.unusedSimpArgs false
set_option linter.unusedVariables false
set_option maxHeartbeats 4000000
set_option maxRecDepth 8000
namespace Go.Proofs.YtohjapcafkhabaaDoor
open Go Go.RowKit Go.PP Go.Dm Go.Rt
theorem rd_enter (s : List UInt8) (a : Nat) (d : List UInt8) (hs : s.length ≤ 1000000) (h : DgAt s a d) {dd : D} (hrest : ∀ cc : Code, selC [1, 1, 1, 1] code43 = some cc → DW Tryd.prog 127 cc ⟨[(0, strD s), (1, .flat (.int .i64 ((a + d.length : Nat) : Int))), (4, .ref 4 0), (5, .flat (.int .i64 0)), (6, .flat (.bool false)), (7, .flat (.int .i64 (a : Nat))), (8, .flat (.int .i64 ((valN d : Nat) : Int)))], [(4, some (.box [.flat (.int .i64 0), .flat (.slice none 0 0)]))]⟩ (fun e s => (e = .normal ∨ e = .ret) ∧ ResOk Tryd.prog Tryd.f43 s dd)) : DFun Tryd.prog 43 [strD s, .flat (.int .i64 (a : Nat))] dd := by
  have num := fun (cc : Code) (hc : selC [1, 1, 1, 0] code43 = some cc) => rd_num hc s a d hs h
  refine DFun.enterA Tryd.func43 Tryd.ntmps43 ?_
  refine DW.walkTo 2 ?_
  refine DW.cut ⟨[(0, strD s), (1, .flat (.int .i64 (a : Nat))), (4, .ref 4 0), (5, .flat (.int .i64 0)), (6, .flat (.bool false)), (7, .flat (.int .i64 (a : Nat))), (8, .flat (.int .i64 0))], [(4, some (.box [.flat (.int .i64 0), .flat (.slice none 0 0)]))]⟩ ?_ ?_
  · clear num hrest
    refine DW.walk ?_
    exact Nm.mk Sub.auto
  · refine DW.seq ?_
    refine DW.cut _ (num _ (by rfl)) ?_
    exact hrest _ (by rfl)
theorem rd_c6 {cc : Code} (hsel : selC [1, 1, 1, 1, 0] code43 = some cc) (s : List UInt8) (a : Nat) (d : List UInt8) (hs : s.length ≤ 1000000) (h : DgAt s a d) (hb : ¬ badN d) (hv : (valN d : Nat) ≤ 4095) : DW Tryd.prog 127 cc ⟨[(0, strD s), (1, .flat (.int .i64 ((a + d.length : Nat) : Int))), (4, .ref 4 0), (5, .flat (.int .i64 0)), (6, .flat (.bool false)), (7, .flat (.int .i64 (a : Nat))), (8, .flat (.int .i64 ((valN d : Nat) : Int)))], [(4, some (.box [.flat (.int .i64 0), .flat (.slice none 0 0)]))]⟩ (Nm 127 ⟨[(0, strD s), (1, .flat (.int .i64 ((a + d.length : Nat) : Int))), (4, .ref 4 0), (5, .flat (.int .i64 0)), (6, .flat (.bool false)), (7, .flat (.int .i64 (a : Nat))), (8, .flat (.int .i64 ((valN d : Nat) : Int)))], [(4, some (.box [.flat (.int .i64 0), .flat (.slice none 0 0)]))]⟩) := by
  refine DW.sel hsel (by rfl) ?_
  have hd0 : 0 < d.length := List.length_pos_iff.2 fun e => hb (.inl e)
  obtain ⟨x, hx⟩ : ∃ x, d[0]? = some x := ⟨_, List.getElem?_eq_getElem hd0⟩
  have hx2 : s[a]? = some x := h.at_ 0 x hx
  have hle := h.le
  generalize hV : valN d = V at *
  by_cases hx3 : (x.toNat : Int) = 48
  · have hl1 : d.length = 1 := by
      refine Classical.byContradiction fun hn => hb (.inr ⟨by omega, ?_⟩)
      rw [List.head?_eq_getElem?, hx]
      exact congrArg some (u8_ext (by show x.toNat = 48; omega))
    generalize d.length = L at *
    clear h hb hx
    refine DW.walk ?_
    exact Nm.mk Sub.auto
  · generalize d.length = L at *
    clear h hb hx
    refine DW.walk ?_
    exact Nm.mk Sub.auto
theorem rd_bad0 (s : List UInt8) (a : Nat) (d : List UInt8) (hs : s.length ≤ 1000000) (h : DgAt s a d) (hb : badN d ∨ 4095 < valN d) : DFun Tryd.prog 43 [strD s, .flat (.int .i64 (a : Nat))] (.tup [treeD (.node 0 []), .flat (.int .i64 0), .flat (.bool false)]) := by
  refine rd_enter s a d hs h fun cc hsel => ?_
  refine DW.sel hsel (by rfl) ?_
  have hle := h.le
  by_cases h0 : d = []
  · have hl0 : d.length = 0 := by rw [h0]; rfl
    generalize valN d = V at *
    generalize d.length = L at *
    clear h hb h0
    refine DW.walk ?_
    exact ⟨.inr rfl, ResOk.cellTmp2A [] rfl rfl rfl TyI.ag TyI.sz rfl rfl trivial (.cons (Vw.pers rfl) (.cons (Vw.p rfl (Le.nil _ _)) .nil)) (Le.of_eq (by rw [treeD_node, treesD, kidsC_nil]; rfl)) (Vw.pers rfl) (Vw.pers rfl)⟩
  · have hd0 : 0 < d.length := List.length_pos_iff.2 h0
    obtain ⟨x, hx⟩ : ∃ x, d[0]? = some x := ⟨_, List.getElem?_eq_getElem hd0⟩
    have hx2 : s[a]? = some x := h.at_ 0 x hx
    by_cases hx3 : (x.toNat : Int) = 48
    · by_cases hl1 : 1 < d.length
      · generalize valN d = V at *
        generalize d.length = L at *
        clear h hb hx h0
        refine DW.walk ?_
        exact ⟨.inr rfl, ResOk.cellTmp2A [] rfl rfl rfl TyI.ag TyI.sz rfl rfl trivial (.cons (Vw.pers rfl) (.cons (Vw.p rfl (Le.nil _ _)) .nil)) (Le.of_eq (by rw [treeD_node, treesD, kidsC_nil]; rfl)) (Vw.pers rfl) (Vw.pers rfl)⟩
      · have hl1 : d.length = 1 := by omega
        have hv : 4095 < valN d := by
          rcases hb with (h | h) | h
          · exact absurd h h0
          · omega
          · exact h
        generalize valN d = V at *
        generalize d.length = L at *
        clear h hb hx h0
        refine DW.walk ?_
        exact ⟨.inr rfl, ResOk.cellTmp2A [] rfl rfl rfl TyI.ag TyI.sz rfl rfl trivial (.cons (Vw.pers rfl) (.cons (Vw.p rfl (Le.nil _ _)) .nil)) (Le.of_eq (by rw [treeD_node, treesD, kidsC_nil]; rfl)) (Vw.pers rfl) (Vw.pers rfl)⟩
    · have hv : 4095 < valN d := by
        rcases hb with (h | h) | h
        · exact absurd h h0
        · exfalso
          have h2 := h.2
          rw [List.head?_eq_getElem?, hx] at h2
          rw [Option.some.inj h2] at hx3
          exact hx3 rfl
        · exact h
      generalize valN d = V at *
      generalize d.length = L at *
      clear h hb hx h0
      refine DW.walk ?_
      exact ⟨.inr rfl, ResOk.cellTmp2A [] rfl rfl rfl TyI.ag TyI.sz rfl rfl trivial (.cons (Vw.pers rfl) (.cons (Vw.p rfl (Le.nil _ _)) .nil)) (Le.of_eq (by rw [treeD_node, treesD, kidsC_nil]; rfl)) (Vw.pers rfl) (Vw.pers rfl)⟩
theorem rd_leaf (s : List UInt8) (a : Nat) (d : List UInt8) (hs : s.length ≤ 1000000) (h : DgAt s a d) (hb : ¬ badN d) (hv : valN d ≤ 4095) (hq : s[a + d.length]? ≠ some 40) : DFun Tryd.prog 43 [strD s, .flat (.int .i64 (a : Nat))] (.tup [treeD (.node (valN d : Nat) []), .flat (.int .i64 ((a + d.length : Nat) : Int)), .flat (.bool true)]) := by
  have c6 := fun (cc : Code) (hc : selC [1, 1, 1, 1, 0] code43 = some cc) => rd_c6 hc s a d hs h hb hv
  refine rd_enter s a d hs h fun cc hsel => ?_
  refine DW.sel hsel (by rfl) ?_
  refine DW.seq ?_
  refine DW.cut _ (c6 _ (by rfl)) ?_
  have hle := h.le
  clear c6 h hb
  generalize valN d = V at *
  generalize d.length = L at *
  by_cases e1 : a + L = s.length
  · clear hq
    refine DW.walk ?_
    exact ⟨.inr rfl, ResOk.cellTmp2A [] rfl rfl rfl TyI.ag TyI.sz rfl rfl trivial (.cons (Vw.pers rfl) (.cons (Vw.p rfl (Le.nil _ _)) .nil)) (Le.of_eq (by rw [treeD_node, treesD, kidsC_nil]; rfl)) (Vw.pers rfl) (Vw.pers rfl)⟩
  · obtain ⟨b, hb⟩ : ∃ b, s[a + L]? = some b := ⟨_, List.getElem?_eq_getElem (by omega)⟩
    have e3 : ¬ (b.toNat : Int) = 40 := fun e => hq (by rw [hb]; exact congrArg some (u8_ext (by show b.toNat = 40; omega)))
    clear hq
    refine DW.walk ?_
    exact ⟨.inr rfl, ResOk.cellTmp2A [] rfl rfl rfl TyI.ag TyI.sz rfl rfl trivial (.cons (Vw.pers rfl) (.cons (Vw.p rfl (Le.nil _ _)) .nil)) (Le.of_eq (by rw [treeD_node, treesD, kidsC_nil]; rfl)) (Vw.pers rfl) (Vw.pers rfl)⟩
end Go.Proofs.YtohjapcafkhabaaDoor
