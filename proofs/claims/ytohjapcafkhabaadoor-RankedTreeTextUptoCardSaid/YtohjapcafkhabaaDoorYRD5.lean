/- Contracts over data: the reference reads children. No condition. -/
import Derived.Test.YtohjapcafkhabaaDoorYRD2
import Derived.Test.YtohjapcafkhabaaDoorYP12g

set_option linter.unusedSimpArgs false
set_option linter.unusedVariables false
set_option maxHeartbeats 4000000
set_option maxRecDepth 8000
namespace Go.Proofs.YtohjapcafkhabaaDoor
open Go Go.RowKit Go.PP Go.Dm Go.Rt
theorem rd_ok {cc : Code} (hsel : selC [1, 1, 1, 1, 1] code43 = some cc) (s : List UInt8) (a : Nat) (n : Int) (m : Nat) (hm : m = 1 ∨ m = 2) (A : Nat → Nat) (Ts : List Tr) (hT : Ts.length = m) (hs : s.length ≤ 1000000) (hA : ∀ i, i ≤ m → A i < s.length) (h40 : s[A 0]? = some 40) (h44 : m = 2 → s[A 1]? = some 44) (h41 : s[A m]? = some 41) (hp : ∀ i t, Ts[i]? = some t → DFun Tryd.prog 43 [strD s, .flat (.int .i64 (((A i : Nat) : Int) + 1))] (.tup [treeD t, .flat (.int .i64 ((A (i + 1) : Nat) : Int)), .flat (.bool true)])) {DD : D} (hDD : DD = .tup [treeD (.node n Ts), .flat (.int .i64 (((A m : Nat) : Int) + 1)), .flat (.bool true)]) : DW Tryd.prog 127 cc ⟨[(0, strD s), (1, .flat (.int .i64 ((A 0 : Nat) : Int))), (4, .ref 4 0), (5, .flat (.int .i64 0)), (6, .flat (.bool false)), (7, .flat (.int .i64 (a : Nat))), (8, .flat (.int .i64 n))], [(4, some (.box [.flat (.int .i64 0), .flat (.slice none 0 0)]))]⟩ (fun e s => (e = .normal ∨ e = .ret) ∧ ResOk Tryd.prog Tryd.f43 s DD) := by
  obtain ⟨B, hB⟩ : ∃ B, m = B + 1 := ⟨m - 1, by omega⟩
  have hl0 := hA 0 (by omega)
  refine DW.sel hsel (by rfl) ?_
  refine DW.walkTo 9 ?_
  refine DW.adoptBox 9 1 109 24 2 rfl rfl rfl ?_
  refine DW.walk ?_
  refine DW.loopA (fun i : Nat => ⟨[(0, strD s), (1, .flat (.int .i64 ((A i : Nat) : Int))), (4, .ref 4 0), (5, .flat (.int .i64 0)), (6, .flat (.bool false)), (9, .ref 9 0)], [(4, some (.box [.flat (.int .i64 0), .flat (.slice none 0 0)])), (9, some (.box [.flat (.int .i64 n), .own 109 i])), (109, some (.row 24 2 i (kidsC (Ts.take i))))]⟩) (fun i => i ≤ B) (fun i => B - i) 0 ?_ (Nat.zero_le _) (by
    rw [List.take_zero, kidsC_nil]
    exact Sub.auto)
  intro i hi
  clear h40
  rcases Nat.lt_or_ge i B with hlt | hge
  · have hm2 : m = 2 := by omega
    have hi0 : i = 0 := by omega
    have h44 : s[A (i + 1)]? = some 44 := by rw [hi0]; exact h44 hm2
    obtain ⟨t, ht⟩ : ∃ t, Ts[i]? = some t := ⟨_, List.getElem?_eq_getElem (by omega)⟩
    have hpi := hp i t ht
    have hsn := (kidsC_snoc ht).symm
    obtain ⟨s', l'⟩ := t
    rw [treeC_node] at hsn
    rw [treeD_node] at hpi
    have hl1 := hA i (by omega)
    have hl2 := hA (i + 1) (by omega)
    clear hp ht hA h41
    refine DW.walk ?_
    exact ⟨i + 1, by omega, by omega, Sub.auto⟩
  · obtain rfl : i = B := by omega
    have h41 : s[A (i + 1)]? = some 41 := by rw [← hB]; exact h41
    obtain ⟨t, ht⟩ : ∃ t, Ts[i]? = some t := ⟨_, List.getElem?_eq_getElem (by omega)⟩
    have hpi := hp i t ht
    have hsn := (kidsC_snoc ht).symm
    obtain ⟨s', l'⟩ := t
    rw [treeC_node] at hsn
    rw [treeD_node] at hpi
    have hl1 := hA i (by omega)
    have hl2 := hA (i + 1) (by omega)
    have hTk : Ts.take (i + 1) = Ts := List.take_of_length_le (by omega)
    rw [hTk] at hsn
    subst hB
    clear hp ht hA h44 hTk
    subst hDD
    have hi2 : i < 2 := by omega
    refine DW.walk ?_
    exact ⟨.inr rfl, ResOk.cellTmp2A [(109, some (.row 24 2 (i + 1) (kidsC (List.take i Ts) ++ [.flat (.int .i64 s'), treesD l'])))] rfl rfl rfl TyI.ag TyI.sz rfl rfl ⟨rfl, trivial⟩ (.cons (Vw.pers rfl) (.cons (Vw.own (.head _) (VwL.pers (by rw [hsn]; exact kidsC_pers _))) .nil)) (Le.of_eq (by rw [hsn, treeD_node, treesD, hT])) (Vw.pers rfl) (Vw.pers rfl)⟩
/-- How it ends badly. -/
def EndBad (s : List UInt8) (m : Nat) (A : Nat → Nat) : Prop :=
  (∃ t x, DFun Tryd.prog 43 [strD s, .flat (.int .i64 (((A m : Nat) : Int) + 1))] (.tup [treeD t, .flat (.int .i64 x), .flat (.bool false)])) ∨
  (∃ t, DFun Tryd.prog 43 [strD s, .flat (.int .i64 (((A m : Nat) : Int) + 1))] (.tup [treeD t, .flat (.int .i64 ((A (m + 1) : Nat) : Int)), .flat (.bool true)]) ∧ s[A (m + 1)]? ≠ some 41 ∧ s[A (m + 1)]? ≠ some 44 ∧ A (m + 1) ≤ s.length)
theorem rd_bad {cc : Code} (hsel : selC [1, 1, 1, 1, 1] code43 = some cc) (s : List UInt8) (a : Nat) (n : Int) (m : Nat) (hm : m = 0 ∨ m = 1) (A : Nat → Nat) (Ts : List Tr) (hT : Ts.length = m) (hs : s.length ≤ 1000000) (hA : ∀ i, i ≤ m → A i < s.length) (h40 : s[A 0]? = some 40) (h44 : m = 1 → s[A 1]? = some 44) (hp : ∀ i t, Ts[i]? = some t → DFun Tryd.prog 43 [strD s, .flat (.int .i64 (((A i : Nat) : Int) + 1))] (.tup [treeD t, .flat (.int .i64 ((A (i + 1) : Nat) : Int)), .flat (.bool true)])) (hend : EndBad s m A) {DD : D} (hDD : DD = (.tup [treeD (.node 0 []), .flat (.int .i64 0), .flat (.bool false)])) : DW Tryd.prog 127 cc ⟨[(0, strD s), (1, .flat (.int .i64 ((A 0 : Nat) : Int))), (4, .ref 4 0), (5, .flat (.int .i64 0)), (6, .flat (.bool false)), (7, .flat (.int .i64 (a : Nat))), (8, .flat (.int .i64 n))], [(4, some (.box [.flat (.int .i64 0), .flat (.slice none 0 0)]))]⟩ (fun e s => (e = .normal ∨ e = .ret) ∧ ResOk Tryd.prog Tryd.f43 s DD) := by
  obtain ⟨B, hB⟩ : ∃ B, m = B := ⟨m, rfl⟩
  have hl0 := hA 0 (by omega)
  refine DW.sel hsel (by rfl) ?_
  refine DW.walkTo 9 ?_
  refine DW.adoptBox 9 1 109 24 2 rfl rfl rfl ?_
  refine DW.walk ?_
  refine DW.loopA (fun i : Nat => ⟨[(0, strD s), (1, .flat (.int .i64 ((A i : Nat) : Int))), (4, .ref 4 0), (5, .flat (.int .i64 0)), (6, .flat (.bool false)), (9, .ref 9 0)], [(4, some (.box [.flat (.int .i64 0), .flat (.slice none 0 0)])), (9, some (.box [.flat (.int .i64 n), .own 109 i])), (109, some (.row 24 2 i (kidsC (Ts.take i))))]⟩) (fun i => i ≤ B) (fun i => B - i) 0 ?_ (Nat.zero_le _) (by
    rw [List.take_zero, kidsC_nil]
    exact Sub.auto)
  intro i hi
  clear h40
  rcases Nat.lt_or_ge i B with hlt | hge
  · have hm2 : m = 1 := by omega
    have hi0 : i = 0 := by omega
    have h44 : s[A (i + 1)]? = some 44 := by rw [hi0]; exact h44 hm2
    obtain ⟨t, ht⟩ : ∃ t, Ts[i]? = some t := ⟨_, List.getElem?_eq_getElem (by omega)⟩
    have hpi := hp i t ht
    have hsn := (kidsC_snoc ht).symm
    obtain ⟨s', l'⟩ := t
    rw [treeC_node] at hsn
    rw [treeD_node] at hpi
    have hl1 := hA i (by omega)
    have hl2 := hA (i + 1) (by omega)
    clear hp ht hA hend
    refine DW.walk ?_
    exact ⟨i + 1, by omega, by omega, Sub.auto⟩
  · obtain rfl : i = B := by omega
    subst hB
    subst hDD
    have hTk : Ts.take m = Ts := List.take_of_length_le (by omega)
    rw [hTk]
    have hkp := kidsC_pers Ts
    generalize kidsC Ts = ks at *
    have hl1 := hA m (by omega)
    have hm3 : m < 2 := by omega
    clear hp hA h44 hTk hi hge
    rcases hend with ⟨t, x, hq⟩ | ⟨t, hq, h1, h2, h3⟩
    · obtain ⟨s', l'⟩ := t
      rw [treeD_node] at hq
      have hkl := kidsC_pers l'
      refine DW.walk ?_
      exact ⟨.inr rfl, ResOk.cellTmp2A [] rfl rfl rfl TyI.ag TyI.sz rfl rfl trivial (.cons (Vw.pers rfl) (.cons (Vw.p rfl (Le.nil _ _)) .nil)) (Le.of_eq (by rw [treeD_node, treesD, kidsC_nil]; rfl)) (Vw.pers rfl) (Vw.pers rfl)⟩
    · obtain ⟨s', l'⟩ := t
      rw [treeD_node] at hq
      have hkl := kidsC_pers l'
      by_cases e1 : A (m + 1) = s.length
      · clear h1 h2
        refine DW.walk ?_
        exact ⟨.inr rfl, ResOk.cellTmp2A [] rfl rfl rfl TyI.ag TyI.sz rfl rfl trivial (.cons (Vw.pers rfl) (.cons (Vw.p rfl (Le.nil _ _)) .nil)) (Le.of_eq (by rw [treeD_node, treesD, kidsC_nil]; rfl)) (Vw.pers rfl) (Vw.pers rfl)⟩
      · have e2 : A (m + 1) < s.length := by omega
        obtain ⟨b, hb⟩ : ∃ b, s[A (m + 1)]? = some b := ⟨_, List.getElem?_eq_getElem e2⟩
        have e3 : ¬ (b.toNat : Int) = 41 := fun e => h1 (by rw [hb]; exact congrArg some (u8_ext (by show b.toNat = 41; omega)))
        have e4 : ¬ (b.toNat : Int) = 44 := fun e => h2 (by rw [hb]; exact congrArg some (u8_ext (by show b.toNat = 44; omega)))
        clear h1 h2
        refine DW.walk ?_
        exact ⟨.inr rfl, ResOk.cellTmp2A [] rfl rfl rfl TyI.ag TyI.sz rfl rfl trivial (.cons (Vw.pers rfl) (.cons (Vw.p rfl (Le.nil _ _)) .nil)) (Le.of_eq (by rw [treeD_node, treesD, kidsC_nil]; rfl)) (Vw.pers rfl) (Vw.pers rfl)⟩
theorem rd_bad2 {cc : Code} (hsel : selC [1, 1, 1, 1, 1] code43 = some cc) (s : List UInt8) (a : Nat) (n : Int) (A : Nat → Nat) (Ts : List Tr) (hT : Ts.length = 2) (hs : s.length ≤ 1000000) (hA : ∀ i, i ≤ 2 → A i < s.length) (h40 : s[A 0]? = some 40) (h44 : ∀ i, i < 2 → s[A (i + 1)]? = some 44) (hp : ∀ i t, Ts[i]? = some t → DFun Tryd.prog 43 [strD s, .flat (.int .i64 (((A i : Nat) : Int) + 1))] (.tup [treeD t, .flat (.int .i64 ((A (i + 1) : Nat) : Int)), .flat (.bool true)])) {DD : D} (hDD : DD = (.tup [treeD (.node 0 []), .flat (.int .i64 0), .flat (.bool false)])) : DW Tryd.prog 127 cc ⟨[(0, strD s), (1, .flat (.int .i64 ((A 0 : Nat) : Int))), (4, .ref 4 0), (5, .flat (.int .i64 0)), (6, .flat (.bool false)), (7, .flat (.int .i64 (a : Nat))), (8, .flat (.int .i64 n))], [(4, some (.box [.flat (.int .i64 0), .flat (.slice none 0 0)]))]⟩ (fun e s => (e = .normal ∨ e = .ret) ∧ ResOk Tryd.prog Tryd.f43 s DD) := by
  obtain ⟨B, hB⟩ : ∃ B, 2 = B := ⟨2, rfl⟩
  have hl0 := hA 0 (by omega)
  refine DW.sel hsel (by rfl) ?_
  refine DW.walkTo 9 ?_
  refine DW.adoptBox 9 1 109 24 2 rfl rfl rfl ?_
  refine DW.walk ?_
  refine DW.loopA (fun i : Nat => ⟨[(0, strD s), (1, .flat (.int .i64 ((A i : Nat) : Int))), (4, .ref 4 0), (5, .flat (.int .i64 0)), (6, .flat (.bool false)), (9, .ref 9 0)], [(4, some (.box [.flat (.int .i64 0), .flat (.slice none 0 0)])), (9, some (.box [.flat (.int .i64 n), .own 109 i])), (109, some (.row 24 2 i (kidsC (Ts.take i))))]⟩) (fun i => i ≤ B) (fun i => B - i) 0 ?_ (Nat.zero_le _) (by
    rw [List.take_zero, kidsC_nil]
    exact Sub.auto)
  intro i hi
  clear h40
  rcases Nat.lt_or_ge i B with hlt | hge
  · have h44 := h44 i (by omega)
    obtain ⟨t, ht⟩ : ∃ t, Ts[i]? = some t := ⟨_, List.getElem?_eq_getElem (by omega)⟩
    have hpi := hp i t ht
    have hsn := (kidsC_snoc ht).symm
    obtain ⟨s', l'⟩ := t
    rw [treeC_node] at hsn
    rw [treeD_node] at hpi
    have hl1 := hA i (by omega)
    have hl2 := hA (i + 1) (by omega)
    have hi2 : i < 2 := by omega
    clear hp ht hA
    refine DW.walk ?_
    exact ⟨i + 1, by omega, by omega, Sub.auto⟩
  · obtain rfl : i = B := by omega
    subst hDD
    have hkp := kidsC_pers (Ts.take i)
    generalize kidsC (Ts.take i) = ks at *
    have hi2 : ¬ i < 2 := by omega
    clear hp hA h44 hi hge
    refine DW.walk ?_
    exact ⟨.inr rfl, ResOk.cellTmp2A [] rfl rfl rfl TyI.ag TyI.sz rfl rfl trivial (.cons (Vw.pers rfl) (.cons (Vw.p rfl (Le.nil _ _)) .nil)) (Le.of_eq (by rw [treeD_node, treesD, kidsC_nil]; rfl)) (Vw.pers rfl) (Vw.pers rfl)⟩
end Go.Proofs.YtohjapcafkhabaaDoor

set_option linter.unusedSimpArgs false
set_option linter.unusedVariables false
set_option maxHeartbeats 4000000
set_option maxRecDepth 8000
namespace Go.Proofs.YtohjapcafkhabaaDoor
open Go Go.RowKit Go.PP Go.Dm Go.Rt
theorem rd_from (s : List UInt8) (a : Nat) (d : List UInt8) (hs : s.length ≤ 1000000) (h : DgAt s a d) (hb : ¬ badN d) (hv : valN d ≤ 4095) {DD : D} (p : Nat) (hp : p = a + d.length)
    (hrest : ∀ cc : Code, selC [1, 1, 1, 1, 1] code43 = some cc → DW Tryd.prog 127 cc ⟨[(0, strD s), (1, .flat (.int .i64 (p : Nat))), (4, .ref 4 0), (5, .flat (.int .i64 0)), (6, .flat (.bool false)), (7, .flat (.int .i64 (a : Nat))), (8, .flat (.int .i64 ((valN d : Nat) : Int)))], [(4, some (.box [.flat (.int .i64 0), .flat (.slice none 0 0)]))]⟩ (fun e s => (e = .normal ∨ e = .ret) ∧ ResOk Tryd.prog Tryd.f43 s DD)) : DFun Tryd.prog 43 [strD s, .flat (.int .i64 (a : Nat))] DD := by
  subst hp
  have c6 := fun (cc : Code) (hc : selC [1, 1, 1, 1, 0] code43 = some cc) => rd_c6 hc s a d hs h hb hv
  refine rd_enter s a d hs h fun cc hsel => ?_
  refine DW.sel hsel (by rfl) ?_
  refine DW.seq ?_
  refine DW.cut _ (c6 _ (by rfl)) ?_
  exact hrest _ (by rfl)
theorem dg_at (s : List UInt8) (a : Nat) (ha : a ≤ s.length) : DgAt s a ((digs (s.drop a)).take 4) := by
  have e := digs_rest (s.drop a)
  have hl := congrArg List.length e
  rw [List.length_append, List.length_drop] at hl
  have hall := digs_all (s.drop a)
  have hat : ∀ j b, (digs (s.drop a))[j]? = some b → s[a + j]? = some b := fun j b h => by
    have h2 : (s.drop a)[j]? = some b := by
      rw [← e, List.getElem?_append_left (List.getElem?_eq_some_iff.1 h).1]; exact h
    rwa [List.getElem?_drop] at h2
  refine ⟨fun b hb => hall b (List.mem_of_mem_take hb), by rw [List.length_take]; omega, fun j b h => ?_, by rw [List.length_take]; omega, ?_⟩
  · rw [List.getElem?_take] at h
    split at h
    · exact hat j b h
    · cases h
  · rw [List.length_take]
    by_cases h4 : 4 ≤ (digs (s.drop a)).length
    · exact .inl (by omega)
    · by_cases he : a + (digs (s.drop a)).length = s.length
      · exact .inr (.inl (by omega))
      · refine .inr (.inr ?_)
        have hr : rest (s.drop a) ≠ [] := fun e2 => by
          rw [e2] at hl
          simp only [List.length_nil] at hl
          omega
        cases hc : rest (s.drop a) with
        | nil => exact absurd hc hr
        | cons b q =>
          refine ⟨b, ?_, ?_⟩
          · have h2 : (digs (s.drop a) ++ rest (s.drop a))[(digs (s.drop a)).length]? = some b := by
              rw [List.getElem?_append_right (Nat.le_refl _), hc, Nat.sub_self]; rfl
            rw [e, List.getElem?_drop] at h2
            rw [Nat.min_eq_right (by omega)]
            exact h2
          · unfold rest at hc
            have := List.head?_dropWhile_not isDg (s.drop a)
            rw [hc] at this
            simpa using this
/-- What read says, and that it is right. -/
def ParR (s : List UInt8) (a : Nat) (t : Tr) (x : Nat) (ok : Bool) : Prop :=
  DFun Tryd.prog 43 [strD s, .flat (.int .i64 ((a : Nat) : Int))] (.tup [treeD t, .flat (.int .i64 ((x : Nat) : Int)), .flat (.bool ok)]) ∧ (TSm t ∧ SymR t ∧ goodT t) ∧ (ok = true → a ≤ x ∧ x ≤ s.length ∧ s.drop a = textT Lib.itoa t ++ s.drop x)
theorem rd_failG {s : List UInt8} {a : Nat} (h : DFun Tryd.prog 43 [strD s, .flat (.int .i64 ((a : Nat) : Int))] (.tup [treeD (.node 0 []), .flat (.int .i64 0), .flat (.bool false)])) : ∃ t x ok, ParR s a t x ok :=
  ⟨_, 0, _, h, ⟨by simp [TSm, TSmL], by simp [SymR, SymRL], by simp [goodT, goodTL]⟩, fun h => by cases h⟩
theorem drop_c {s : List UInt8} {p : Nat} {c : UInt8} (h : s[p]? = some c) : s.drop p = c :: s.drop (p + 1) := by
  obtain ⟨hp, e⟩ := List.getElem?_eq_some_iff.1 h
  rw [List.drop_eq_getElem_cons hp, e]
theorem drop_d {s : List UInt8} {a : Nat} {d : List UInt8} (h : DgAt s a d) : s.drop a = d ++ s.drop (a + d.length) := by
  have hle := h.le
  have e : (s.drop a).take d.length = d := by
    apply List.ext_getElem?
    intro j
    rw [List.getElem?_take]
    split
    · rename_i hj
      rw [List.getElem?_drop]
      rw [List.getElem?_eq_getElem hj]
      exact h.at_ j _ (List.getElem?_eq_getElem hj)
    · rename_i hj
      rw [List.getElem?_eq_none (by omega)]
  have := (List.take_append_drop d.length (s.drop a)).symm
  rw [e, List.drop_drop] at this
  exact this
theorem nat_succ (p : Nat) : ((p + 1 : Nat) : Int) = (p : Int) + 1 := rfl
theorem itoa_d' {d : List UInt8} (hd : ∀ b ∈ d, isDg b = true) (hb : ¬ badN d) : Lib.itoa ((valN d : Nat) : Int) = d := by
  rw [itoa_nat]
  exact Canon.dig _ ⟨fun e => hb (.inl e), hd, fun e => hb (.inr e)⟩
theorem read_any : ∀ (n : Nat) (s : List UInt8) (a : Nat), s.length - a ≤ n → a ≤ s.length → s.length ≤ 1000000 → ∃ t x ok, ParR s a t x ok := by
  intro n
  induction n with
  | zero =>
    intro s a h0 ha hs
    obtain rfl : a = s.length := by omega
    have h : DgAt s s.length [] := ⟨fun b hb => (by cases hb), (by decide), fun j b h => (by cases h), Nat.le_refl _, .inr (.inl rfl)⟩
    exact rd_failG (rd_bad0 s _ [] hs h (.inl (.inl rfl)))
  | succ n ih =>
    intro s a hn ha hs
    have h := dg_at s a ha
    generalize (digs (s.drop a)).take 4 = d at *
    by_cases hbad : badN d ∨ 4095 < valN d
    · exact rd_failG (rd_bad0 s a d hs h hbad)
    · have hb : ¬ badN d := fun e => hbad (.inl e)
      have hv : valN d ≤ 4095 := by
        refine Classical.byContradiction fun e => hbad (.inr (by omega))
      have hit := itoa_d' h.hd hb
      have hdr := drop_d h
      have hd0 : 0 < d.length := List.length_pos_iff.2 fun e => hb (.inl e)
      have hle := h.le
      have hsn : -9223372036854775808 ≤ ((valN d : Nat) : Int) ∧ ((valN d : Nat) : Int) ≤ 9223372036854775807 := by omega
      have hv4 : ((valN d : Nat) : Int) < 4096 := by omega
      by_cases h40 : s[a + d.length]? = some 40
      · have hp40 := (List.getElem?_eq_some_iff.1 h40).1
        have from_ := fun {DD : D} (p : Nat) (hp : p = a + d.length) (hrest) => rd_from s a d hs h hb hv (DD := DD) p hp hrest
        generalize hN : valN d = N at *
        obtain ⟨p, hp⟩ : ∃ p, p = a + d.length := ⟨_, rfl⟩
        rw [← hp] at h40 hp40 hdr hle
        obtain ⟨t1, x1, ok1, d1, g1, e1⟩ := ih s (p + 1) (by omega) (by omega) hs
        rw [nat_succ] at d1
        have hdp := drop_c h40
        cases ok1 with
        | false =>
          exact rd_failG (from_ p hp fun cc hsel => rd_bad hsel s a N 0 (.inl rfl) (fun _ => p) [] rfl hs (fun _ _ => hp40) h40 (fun h => by cases h) (fun i t h => by cases h) (.inl ⟨t1, _, d1⟩) rfl)
        | true =>
          obtain ⟨l1, l2, e1⟩ := e1 rfl
          by_cases h41 : s[x1]? = some 41
          · have hx1 := (List.getElem?_eq_some_iff.1 h41).1
            refine ⟨.node (N : Nat) [t1], x1 + 1, true, from_ p hp fun cc hsel => rd_ok hsel s a N 1 (.inl rfl) (fun i => if i = 0 then p else x1) [t1] rfl hs (fun i hi => ?_) h40 (fun h => by cases h) h41 (fun i t hi => ?_) rfl, ⟨?_, ?_, ?_⟩, fun _ => ⟨by omega, by omega, ?_⟩⟩
            · rcases (by omega : i = 0 ∨ i = 1) with rfl | rfl
              · exact hp40
              · exact hx1
            · rcases i with _ | i
              · obtain rfl := Option.some.inj hi
                exact d1
              · rw [List.getElem?_cons_succ, List.getElem?_nil] at hi
                cases hi
            · rw [TSm_node, TSmL, TSmL]; exact ⟨by show 1 * 32 ≤ _; decide, g1.1, trivial⟩
            · rw [SymR_node, SymRL, SymRL]; exact ⟨hsn, g1.2.1, trivial⟩
            · rw [goodT_node, goodTL, goodTL]; exact ⟨⟨by omega, hv4⟩, by simp, g1.2.2, trivial⟩
            · rw [text1, hit, hdr, hdp, e1, drop_c h41]
              simp
          · by_cases h44 : s[x1]? = some 44
            · have hx1 := (List.getElem?_eq_some_iff.1 h44).1
              obtain ⟨t2, x2, ok2, d2, g2, e2⟩ := ih s (x1 + 1) (by omega) (by omega) hs
              rw [nat_succ] at d2
              have hA1 : ∀ i, i ≤ 1 → (fun i => if i = 0 then p else if i = 1 then x1 else x2) i < s.length := fun i hi => by
                rcases (by omega : i = 0 ∨ i = 1) with rfl | rfl
                · exact hp40
                · exact hx1
              have hd1 : ∀ i t, [t1][i]? = some t → DFun Tryd.prog 43 [strD s, .flat (.int .i64 ((((fun i => if i = 0 then p else if i = 1 then x1 else x2) i : Nat) : Int) + 1))] (.tup [treeD t, .flat (.int .i64 (((fun i => if i = 0 then p else if i = 1 then x1 else x2) (i + 1) : Nat) : Int)), .flat (.bool true)]) := fun i t hi => by
                rcases i with _ | i
                · obtain rfl := Option.some.inj hi
                  exact d1
                · rw [List.getElem?_cons_succ, List.getElem?_nil] at hi
                  cases hi
              cases ok2 with
              | false => exact rd_failG (from_ p hp fun cc hsel => rd_bad hsel s a N 1 (.inr rfl) (fun i => if i = 0 then p else if i = 1 then x1 else x2) [t1] rfl hs hA1 h40 (fun _ => h44) hd1 (.inl ⟨t2, _, d2⟩) rfl)
              | true =>
                obtain ⟨l3, l4, e2⟩ := e2 rfl
                have hd2 : ∀ i t, [t1, t2][i]? = some t → DFun Tryd.prog 43 [strD s, .flat (.int .i64 ((((fun i => if i = 0 then p else if i = 1 then x1 else x2) i : Nat) : Int) + 1))] (.tup [treeD t, .flat (.int .i64 (((fun i => if i = 0 then p else if i = 1 then x1 else x2) (i + 1) : Nat) : Int)), .flat (.bool true)]) := fun i t hi => by
                  rcases i with _ | _ | i
                  · obtain rfl := Option.some.inj hi
                    exact d1
                  · obtain rfl := Option.some.inj hi
                    exact d2
                  · rw [List.getElem?_cons_succ, List.getElem?_cons_succ, List.getElem?_nil] at hi
                    cases hi
                have hA2 : ∀ c, s[x2]? = some c → ∀ i, i ≤ 2 → (fun i => if i = 0 then p else if i = 1 then x1 else x2) i < s.length := fun c hc i hi => by
                  rcases (by omega : i = 0 ∨ i = 1 ∨ i = 2) with rfl | rfl | rfl
                  · exact hp40
                  · exact hx1
                  · exact (List.getElem?_eq_some_iff.1 hc).1
                by_cases h41b : s[x2]? = some 41
                · have hx2 := (List.getElem?_eq_some_iff.1 h41b).1
                  refine ⟨.node (N : Nat) [t1, t2], x2 + 1, true, from_ p hp fun cc hsel => rd_ok hsel s a N 2 (.inr rfl) (fun i => if i = 0 then p else if i = 1 then x1 else x2) [t1, t2] rfl hs (hA2 _ h41b) h40 (fun _ => h44) h41b hd2 rfl, ⟨?_, ?_, ?_⟩, fun _ => ⟨by omega, by omega, ?_⟩⟩
                  · rw [TSm_node, TSmL, TSmL, TSmL]; exact ⟨by show 2 * 32 ≤ _; decide, g1.1, g2.1, trivial⟩
                  · rw [SymR_node, SymRL, SymRL, SymRL]; exact ⟨hsn, g1.2.1, g2.2.1, trivial⟩
                  · rw [goodT_node, goodTL, goodTL, goodTL]; exact ⟨⟨by omega, hv4⟩, by simp, g1.2.2, g2.2.2, trivial⟩
                  · rw [text2, hit, hdr, hdp, e1, drop_c h44, e2, drop_c h41b]
                    simp
                · by_cases h44b : s[x2]? = some 44
                  · exact rd_failG (from_ p hp fun cc hsel => rd_bad2 hsel s a N (fun i => if i = 0 then p else if i = 1 then x1 else x2) [t1, t2] rfl hs (hA2 _ h44b) h40 (fun i hi => by
                      rcases (by omega : i = 0 ∨ i = 1) with rfl | rfl
                      · exact h44
                      · exact h44b) hd2 rfl)
                  · exact rd_failG (from_ p hp fun cc hsel => rd_bad hsel s a N 1 (.inr rfl) (fun i => if i = 0 then p else if i = 1 then x1 else x2) [t1] rfl hs hA1 h40 (fun _ => h44) hd1 (.inr ⟨t2, d2, h41b, h44b, l4⟩) rfl)
            · exact rd_failG (from_ p hp fun cc hsel => rd_bad hsel s a N 0 (.inl rfl) (fun i => if i = 0 then p else x1) [] rfl hs (fun i hi => by
                obtain rfl : i = 0 := by omega
                exact hp40) h40 (fun h => by cases h) (fun i t h => by cases h) (.inr ⟨t1, d1, h41, h44, l2⟩) rfl)
      · refine ⟨_, a + d.length, true, rd_leaf s a d hs h hb hv h40, ⟨?_, ?_, ?_⟩, fun _ => ⟨by omega, hle, ?_⟩⟩
        · rw [TSm_node, TSmL]; exact ⟨by decide, trivial⟩
        · rw [SymR_node, SymRL]; exact ⟨hsn, trivial⟩
        · rw [goodT_node, goodTL]; exact ⟨⟨by omega, hv4⟩, by simp, trivial⟩
        · rw [text0, hit, hdr]
end Go.Proofs.YtohjapcafkhabaaDoor

set_option linter.unusedSimpArgs false
set_option linter.unusedVariables false
set_option maxHeartbeats 4000000
set_option maxRecDepth 8000
namespace Go.Proofs.YtohjapcafkhabaaDoor
open Go Go.RowKit Go.PP Go.Dm Go.Rt
theorem dg_of {s : List UInt8} {a : Nat} {d X : List UInt8} (e : s.drop a = d ++ X) (hd : ∀ b ∈ d, isDg b = true) (hl : d.length ≤ 4) (h0 : 0 < d.length) (hX : ∀ b, X.head? = some b → isDg b = false) : DgAt s a d := by
  have hlen := congrArg List.length e
  rw [List.length_append, List.length_drop] at hlen
  refine ⟨hd, hl, fun j b h => ?_, by omega, ?_⟩
  · rw [← List.getElem?_drop, e, List.getElem?_append_left (List.getElem?_eq_some_iff.1 h).1]; exact h
  · cases X with
    | nil =>
      simp only [List.length_nil] at hlen
      exact .inr (.inl (by omega))
    | cons b q =>
      refine .inr (.inr ⟨b, ?_, hX b rfl⟩)
      rw [← List.getElem?_drop, e, List.getElem?_append_right (Nat.le_refl _), Nat.sub_self]; rfl
theorem drop_app {s : List UInt8} {a : Nat} {d X : List UInt8} (e : s.drop a = d ++ X) : s.drop (a + d.length) = X := by
  rw [← List.drop_drop, e, List.drop_left]
theorem head_drop {s : List UInt8} {a : Nat} {c : UInt8} {X : List UInt8} (e : s.drop a = c :: X) : s[a]? = some c ∧ s.drop (a + 1) = X ∧ a < s.length := by
  have h : s[a]? = some c := by
    rw [show a = a + 0 from rfl, ← List.getElem?_drop, e]; rfl
  refine ⟨h, ?_, (List.getElem?_eq_some_iff.1 h).1⟩
  rw [← List.drop_drop, e]; rfl
theorem read_text : ∀ (n : Nat) (t : Tr), depT t ≤ n → goodT t → ∀ (s : List UInt8) (a : Nat) (X : List UInt8), s.length ≤ 1000000 → s.drop a = textT Lib.itoa t ++ X → (∀ b, X.head? = some b → isDg b = false) → X.head? ≠ some 40 → DFun Tryd.prog 43 [strD s, .flat (.int .i64 ((a : Nat) : Int))] (.tup [treeD t, .flat (.int .i64 ((a + (textT Lib.itoa t).length : Nat) : Int)), .flat (.bool true)]) := by
  intro n
  induction n with
  | zero => intro t h; obtain ⟨s, l⟩ := t; rw [depT_node] at h; omega
  | succ n ih =>
    intro t h hn s a X hs he hX hX4
    obtain ⟨sy, l⟩ := t
    rw [depT_node] at h
    obtain ⟨⟨a1, a2⟩, a3, a4⟩ := goodT_node.1 hn
    obtain ⟨m, rfl⟩ : ∃ m : Nat, sy = (m : Int) := ⟨sy.toNat, by omega⟩
    have hm : m < 4096 := by omega
    obtain ⟨⟨h1, h2, h3⟩, h4, h5⟩ := dig_ok m
    have hdl := dec_len hm
    have hit := itoa_nat m
    have hd0 : 0 < (Lib.decDigits m).length := List.length_pos_iff.2 h1
    have hb : ¬ badN (Lib.decDigits m) := fun e => e.elim h1 h3
    have hv : valN (Lib.decDigits m) ≤ 4095 := by omega
    have dg : ∀ (c : UInt8) (Y : List UInt8), isDg c = false → ∀ b, (c :: Y).head? = some b → isDg b = false := fun c Y hc b hb => by
      rw [← Option.some.inj hb]; exact hc
    match l, a3 with
    | [], _ =>
      rw [text0, hit] at he ⊢
      have hdg := dg_of he h2 hdl hd0 hX
      have hp := drop_app he
      have := rd_leaf s a _ hs hdg hb hv (fun e => hX4 (by rw [← hp, List.head?_drop]; exact e))
      rw [h4] at this
      exact this
    | [t1], _ =>
      rw [goodTL, goodTL] at a4
      have hd1 := depL_at (l := [t1]) (i := 0) (t := t1) rfl
      rw [text1, hit] at he ⊢
      simp only [List.append_assoc, List.cons_append, List.nil_append] at he
      have hdg := dg_of he h2 hdl hd0 (dg 40 _ (by decide))
      have hp := drop_app he
      obtain ⟨p1, p2, p3⟩ := head_drop hp
      have c1 := ih t1 (by omega) a4.1 s _ (41 :: X) hs p2 (dg 41 _ (by decide)) (by show some (41 : UInt8) ≠ _; decide)
      have q := drop_app p2
      obtain ⟨q1, q2, q3⟩ := head_drop q
      rw [nat_succ] at c1
      have hlen : ((a + (Lib.decDigits m ++ (40 :: (textT Lib.itoa t1 ++ [41]))).length : Nat) : Int) = ((a + (Lib.decDigits m).length + 1 + (textT Lib.itoa t1).length : Nat) : Int) + 1 := by
        simp only [List.length_append, List.length_cons, List.length_nil]
        omega
      rw [hlen]
      generalize a + (Lib.decDigits m).length + 1 + (textT Lib.itoa t1).length = x1 at *
      obtain ⟨p, hpe⟩ : ∃ p, p = a + (Lib.decDigits m).length := ⟨_, rfl⟩
      rw [← hpe] at p1 p3 c1
      refine rd_from s a _ hs hdg hb hv p hpe fun cc hsel => rd_ok hsel s a _ 1 (.inl rfl) (fun i => if i = 0 then p else x1) [t1] rfl hs (fun i hi => ?_) p1 (fun h => by cases h) q1 (fun i t hi => ?_) (by rw [h4]; rfl)
      · rcases (by omega : i = 0 ∨ i = 1) with rfl | rfl
        · exact p3
        · exact q3
      · rcases i with _ | i
        · obtain rfl := Option.some.inj hi
          exact c1
        · rw [List.getElem?_cons_succ, List.getElem?_nil] at hi
          cases hi
    | [t1, t2], _ =>
      rw [goodTL, goodTL, goodTL] at a4
      have hd1 := depL_at (l := [t1, t2]) (i := 0) (t := t1) rfl
      have hd2 := depL_at (l := [t1, t2]) (i := 1) (t := t2) rfl
      rw [text2, hit] at he ⊢
      simp only [List.append_assoc, List.cons_append, List.nil_append] at he
      have hdg := dg_of he h2 hdl hd0 (dg 40 _ (by decide))
      have hp := drop_app he
      obtain ⟨p1, p2, p3⟩ := head_drop hp
      have c1 := ih t1 (by omega) a4.1 s _ _ hs p2 (dg 44 _ (by decide)) (by show some (44 : UInt8) ≠ _; decide)
      have q := drop_app p2
      obtain ⟨q1, q2, q3⟩ := head_drop q
      rw [nat_succ] at c1
      have c2 := ih t2 (by omega) a4.2.1 s _ (41 :: X) hs q2 (dg 41 _ (by decide)) (by show some (41 : UInt8) ≠ _; decide)
      have r := drop_app q2
      obtain ⟨r1, r2, r3⟩ := head_drop r
      rw [nat_succ] at c2
      have hlen : ((a + (Lib.decDigits m ++ (40 :: (textT Lib.itoa t1 ++ (44 :: (textT Lib.itoa t2 ++ [41]))))).length : Nat) : Int) = ((a + (Lib.decDigits m).length + 1 + (textT Lib.itoa t1).length + 1 + (textT Lib.itoa t2).length : Nat) : Int) + 1 := by
        simp only [List.length_append, List.length_cons, List.length_nil]
        omega
      rw [hlen]
      generalize a + (Lib.decDigits m).length + 1 + (textT Lib.itoa t1).length + 1 + (textT Lib.itoa t2).length = x2 at *
      generalize a + (Lib.decDigits m).length + 1 + (textT Lib.itoa t1).length = x1 at *
      obtain ⟨p, hpe⟩ : ∃ p, p = a + (Lib.decDigits m).length := ⟨_, rfl⟩
      rw [← hpe] at p1 p3 c1
      refine rd_from s a _ hs hdg hb hv p hpe fun cc hsel => rd_ok hsel s a _ 2 (.inr rfl) (fun i => if i = 0 then p else if i = 1 then x1 else x2) [t1, t2] rfl hs (fun i hi => ?_) p1 (fun _ => q1) r1 (fun i t hi => ?_) (by rw [h4]; rfl)
      · rcases (by omega : i = 0 ∨ i = 1 ∨ i = 2) with rfl | rfl | rfl
        · exact p3
        · exact q3
        · exact r3
      · rcases i with _ | _ | i
        · obtain rfl := Option.some.inj hi
          exact c1
        · obtain rfl := Option.some.inj hi
          exact c2
        · rw [List.getElem?_cons_succ, List.getElem?_cons_succ, List.getElem?_nil] at hi
          cases hi
    | _ :: _ :: _ :: _, h => simp at h
theorem p14_ok (s : List UInt8) (t : Tr) (x : Nat) (hs : s.length ≤ 2000) (h1 : DFun Tryd.prog 43 [strD s, .flat (.int .i64 0)] (.tup [treeD t, .flat (.int .i64 (x : Nat)), .flat (.bool true)])) (hx : x = s.length) (S E : Int) (h38 : DFun Tryd.prog 38 [treeD t] (.flat (.int .i64 S))) (h40 : DFun Tryd.prog 40 [treeD t] (.flat (.int .i64 E))) (hS : ¬ 4096 < S) (hE : ¬ 256 < E) : DFun Tryd.prog 14 [strD s] (.tup [treeD t, .flat (.int .i64 0)]) := by
  obtain ⟨y, l⟩ := t
  rw [treeD_node] at *
  have hp := kidsC_pers l
  refine DFun.enterA Tryd.func14 Tryd.ntmps14 ?_
  refine DW.walk ?_
  exact ⟨.inr rfl, ResOk.cellTmpA [] rfl rfl rfl TyI.ag TyI.sz rfl trivial (.cons (Vw.pers rfl) (.cons (Vw.pers rfl) .nil)) (Le.of_eq rfl) (Vw.pers rfl)⟩
theorem p14_s (s : List UInt8) (t : Tr) (x : Nat) (hs : s.length ≤ 2000) (h1 : DFun Tryd.prog 43 [strD s, .flat (.int .i64 0)] (.tup [treeD t, .flat (.int .i64 (x : Nat)), .flat (.bool true)])) (hx : x = s.length) (S : Int) (h38 : DFun Tryd.prog 38 [treeD t] (.flat (.int .i64 S))) (hS : 4096 < S) : DFun Tryd.prog 14 [strD s] (.tup [treeD (.node 0 []), .flat (.int .i64 2)]) := by
  obtain ⟨y, l⟩ := t
  rw [treeD_node] at h1 h38
  have hp := kidsC_pers l
  refine DFun.enterA Tryd.func14 Tryd.ntmps14 ?_
  refine DW.walk ?_
  exact ⟨.inr rfl, ResOk.cellTmpA [] rfl rfl rfl TyI.ag TyI.sz rfl trivial (.cons (Vw.pers rfl) (.cons (Vw.p rfl (Le.nil _ _)) .nil)) (Le.of_eq (by rw [treeD_node, treesD, kidsC_nil]; rfl)) (Vw.pers rfl)⟩
theorem p14_e (s : List UInt8) (t : Tr) (x : Nat) (hs : s.length ≤ 2000) (h1 : DFun Tryd.prog 43 [strD s, .flat (.int .i64 0)] (.tup [treeD t, .flat (.int .i64 (x : Nat)), .flat (.bool true)])) (hx : x = s.length) (S E : Int) (h38 : DFun Tryd.prog 38 [treeD t] (.flat (.int .i64 S))) (h40 : DFun Tryd.prog 40 [treeD t] (.flat (.int .i64 E))) (hS : ¬ 4096 < S) (hE : 256 < E) : DFun Tryd.prog 14 [strD s] (.tup [treeD (.node 0 []), .flat (.int .i64 16)]) := by
  obtain ⟨y, l⟩ := t
  rw [treeD_node] at h1 h38 h40
  have hp := kidsC_pers l
  refine DFun.enterA Tryd.func14 Tryd.ntmps14 ?_
  refine DW.walk ?_
  exact ⟨.inr rfl, ResOk.cellTmpA [] rfl rfl rfl TyI.ag TyI.sz rfl trivial (.cons (Vw.pers rfl) (.cons (Vw.p rfl (Le.nil _ _)) .nil)) (Le.of_eq (by rw [treeD_node, treesD, kidsC_nil]; rfl)) (Vw.pers rfl)⟩
theorem p14_no (s : List UInt8) (t : Tr) (x : Nat) (ok : Bool) (hs : s.length ≤ 2000) (h1 : DFun Tryd.prog 43 [strD s, .flat (.int .i64 0)] (.tup [treeD t, .flat (.int .i64 (x : Nat)), .flat (.bool ok)])) (hx : ok = false ∨ (ok = true ∧ ¬ x = s.length)) : DFun Tryd.prog 14 [strD s] (.tup [treeD (.node 0 []), .flat (.int .i64 3)]) := by
  obtain ⟨y, l⟩ := t
  rw [treeD_node] at h1
  have hp := kidsC_pers l
  refine DFun.enterA Tryd.func14 Tryd.ntmps14 ?_
  rcases hx with rfl | ⟨rfl, hx⟩
  · refine DW.walk ?_
    exact ⟨.inr rfl, ResOk.cellTmpA [] rfl rfl rfl TyI.ag TyI.sz rfl trivial (.cons (Vw.pers rfl) (.cons (Vw.p rfl (Le.nil _ _)) .nil)) (Le.of_eq (by rw [treeD_node, treesD, kidsC_nil]; rfl)) (Vw.pers rfl)⟩
  · refine DW.walk ?_
    exact ⟨.inr rfl, ResOk.cellTmpA [] rfl rfl rfl TyI.ag TyI.sz rfl trivial (.cons (Vw.pers rfl) (.cons (Vw.p rfl (Le.nil _ _)) .nil)) (Le.of_eq (by rw [treeD_node, treesD, kidsC_nil]; rfl)) (Vw.pers rfl)⟩
end Go.Proofs.YtohjapcafkhabaaDoor
