/- Contracts over data: a text that is a tree. No condition. -/
import Derived.Test.YtohjapcafkhabaaDoorYP3
import Derived.Test.YtohjapcafkhabaaDoorYC3
import Derived.Test.YtohjapcafkhabaaDoorXSl
import Derived.Test.YtohjapcafkhabaaDoorYC2

set_option linter.unusedSimpArgs false
set_option linter.unusedVariables false
set_option maxHeartbeats 4000000
set_option maxRecDepth 8000
namespace Go.Proofs.YtohjapcafkhabaaDoor
open Go Go.RowKit Go.PP Go.Dm Go.Rt
theorem ResOk.cellTmp2A {P : Program} {fn : Func} {s : DS} {x u v : Tmp} {t id : Nat} {cs cs' : List D} {d' e e' f f' : D} (pe : Sg) (hr : fn.results = #[.cell x t, .tmp u, .tmp v]) (hx : lkF s.f x = .ref id 0) (hi : lkE s.σ id = some (.box cs)) (hb : aggOf P t = some true) (hn : sizeOfT P t = some cs.length) (hu : lkF s.f u = e) (hv : lkF s.f v = f) (he : Ens s.σ pe) (h : VwL pe cs cs') (hd : Le (.agg cs') d') (h2 : Vw pe e e') (h3 : Vw pe f f') (hk : keysOf cs = none := by first | rfl | assumption) : ResOk P fn s (.tup [d', e', f']) :=
  ResOk.cellTmp2 pe hr hx hi hb hn part_all hu hv he (Vw.le (Vw.agg h) hd) h2 h3 hk
theorem parse_leaf (s r : List UInt8) (n : Int) (hnum : DFun Tryd.prog 62 [strD s] (.tup [.flat (.int .i64 n), strD r, .flat (.bool true)])) (h40 : DFun Tryd.prog 63 [strD r, strD [40]] (.flat (.bool false))) : DFun Tryd.prog 41 [strD s] (.tup [treeD (.node n []), strD r, .flat (.bool true)]) := by
  rw [treeD_node]
  refine DFun.enterA Tryd.func41 Tryd.ntmps41 ?_
  refine DW.walk ?_
  refine ⟨.inr rfl, ?_⟩
  refine ResOk.cellTmp2A [] rfl rfl rfl TyI.ag TyI.sz rfl rfl trivial (.cons (Vw.pers rfl) (.cons (Vw.p rfl (Le.nil _ _)) .nil)) (Le.of_eq (by rw [treesD, kidsC_nil]; rfl)) (Vw.pers rfl) (Vw.pers rfl)
theorem parse_kids (s : List UInt8) (n : Int) (m : Nat) (hm : m = 1 ∨ m = 2) (S : Nat → List UInt8) (Ts : List Tr) (hT : Ts.length = m) (hS : ∀ i, i < m → 1 ≤ (S i).length ∧ (S i).length ≤ 1000000) (r : List UInt8) (ok : Bool)
    (hnum : DFun Tryd.prog 62 [strD s] (.tup [.flat (.int .i64 n), strD (S 0), .flat (.bool true)]))
    (h40 : ∀ i, i ≤ m → DFun Tryd.prog 63 [strD (S i), strD [40]] (.flat (.bool (decide (i = 0)))))
    (h44 : DFun Tryd.prog 63 [strD (S 1), strD [44]] (.flat (.bool (decide (1 < m)))))
    (hp : ∀ i t, Ts[i]? = some t → DFun Tryd.prog 41 [strD (List.drop 1 (S i))] (.tup [treeD t, strD (S (i + 1)), .flat (.bool true)]))
    (hend : DFun Tryd.prog 64 [strD (S m), strD [41]] (.tup [strD r, .flat (.bool ok)])) : DFun Tryd.prog 41 [strD s] (.tup [treeD (.node n Ts), strD r, .flat (.bool ok)]) := by
  rw [treeD_node]
  have h0 := h40 0 (Nat.zero_le _)
  rw [decide_eq_true rfl] at h0
  refine DFun.enterA Tryd.func41 Tryd.ntmps41 ?_
  refine DW.walkTo 5 ?_
  refine DW.adoptBox 7 1 107 29 2 rfl rfl rfl ?_
  refine DW.walk ?_
  refine DW.loopA (fun i : Nat => ⟨[(0, strD (S i)), (2, .ref 2 0), (3, strD []), (4, .flat (.bool false)), (7, .ref 7 0)], [(2, some (.box [.flat (.int .i64 0), .flat (.slice none 0 0)])), (7, some (.box [.flat (.int .i64 n), .own 107 i])), (107, some (.row 29 2 i (kidsC (Ts.take i))))]⟩) (fun i => i ≤ m) (fun i => m - i) 0 ?_ (Nat.zero_le _) (by
    rw [List.take_zero, kidsC_nil]
    exact Sub.auto)
  intro i hi
  clear h0 hnum
  rcases Nat.lt_or_ge i m with hlt | hge
  · obtain ⟨t, ht⟩ : ∃ t, Ts[i]? = some t := ⟨_, List.getElem?_eq_getElem (by omega)⟩
    have hpi := hp i t ht
    have hsn := (kidsC_snoc ht).symm
    have hl := hS i hlt
    have hl1 := hl.1
    have hl2 := hl.2
    have h1 := h40 (i + 1) (by omega)
    rw [decide_eq_false (by omega)] at h1
    obtain ⟨s', l'⟩ := t
    rw [treeC_node] at hsn
    rw [treeD_node] at hpi
    clear hp ht hend hS hl
    rcases Nat.eq_zero_or_pos i with h0 | h0
    · have h2 := h40 i (by omega)
      rw [decide_eq_true h0] at h2
      clear h40 h44 hT
      refine DW.walk ?_
      exact ⟨i + 1, by omega, by omega, Sub.auto⟩
    · have h2 := h40 i (by omega)
      rw [decide_eq_false (by omega)] at h2
      obtain rfl : i = 1 := by omega
      rw [decide_eq_true hlt] at h44
      clear h40 hT
      refine DW.walk ?_
      exact ⟨1 + 1, by omega, by omega, Sub.auto⟩
  · obtain rfl : m = i := by omega
    rw [← hT, List.take_length, hT]
    have h2 := h40 m (by omega)
    rw [decide_eq_false (by omega)] at h2
    clear h40 hp hS
    rcases hm with rfl | rfl
    · rw [decide_eq_false (by omega)] at h44
      refine DW.walk ?_
      exact ⟨.inr rfl, ResOk.cellTmp2A [(107, some (.row 29 2 1 (kidsC Ts)))] rfl rfl rfl TyI.ag TyI.sz rfl rfl ⟨rfl, trivial⟩ (.cons (Vw.pers rfl) (.cons (Vw.own (.head _) (VwL.pers (kidsC_pers _))) .nil)) (Le.of_eq (by rw [treesD, hT])) (Vw.pers rfl) (Vw.pers rfl)⟩
    · refine DW.walk ?_
      exact ⟨.inr rfl, ResOk.cellTmp2A [(107, some (.row 29 2 2 (kidsC Ts)))] rfl rfl rfl TyI.ag TyI.sz rfl rfl ⟨rfl, trivial⟩ (.cons (Vw.pers rfl) (.cons (Vw.own (.head _) (VwL.pers (kidsC_pers _))) .nil)) (Le.of_eq (by rw [treesD, hT])) (Vw.pers rfl) (Vw.pers rfl)⟩
end Go.Proofs.YtohjapcafkhabaaDoor

set_option linter.unusedSimpArgs false
set_option linter.unusedVariables false
set_option maxHeartbeats 4000000
set_option maxRecDepth 8000
namespace Go.Proofs.YtohjapcafkhabaaDoor
open Go Go.RowKit Go.PP Go.Dm Go.Rt
theorem exT : TSm (.node 2 [.node 0 [], .node 1 [.node 0 []]]) := by simp [TSm, TSmL]
theorem exS : sizeW (.node 2 [.node 0 [], .node 1 [.node 0 []]]) = 4 := by simp [sizeW, sizeL, w64i]; decide +kernel
theorem exD : deepW (.node 2 [.node 0 [], .node 1 [.node 0 []]]) = 3 := by simp [deepW, deepL, w64i]; decide +kernel
theorem small42_d (t : Tr) (ts : TSm t) : DFun Tryd.prog 42 [treeD t] (.flat (.int .i64 (if 4096 < sizeW t then 2 else if 256 < deepW t then 16 else 0))) := by
  have h1 := size37_d _ t (Nat.le_refl _) ts
  have h2 := deep39_d _ t (Nat.le_refl _) ts
  generalize sizeW t = x at *
  generalize deepW t = y at *
  obtain ⟨s, l⟩ := t
  rw [treeD_node] at *
  clear ts
  refine DFun.enterA Tryd.func42 Tryd.ntmps42 ?_
  by_cases hx : 4096 < x
  · rw [if_pos hx]
    refine DW.walk ?_
    exact ⟨.inr rfl, ResOk.one [] rfl rfl trivial (Vw.pers rfl)⟩
  · rw [if_neg hx]
    by_cases hy : 256 < y
    · rw [if_pos hy]
      refine DW.walk ?_
      exact ⟨.inr rfl, ResOk.one [] rfl rfl trivial (Vw.pers rfl)⟩
    · rw [if_neg hy]
      refine DW.walk ?_
      exact ⟨.inr rfl, ResOk.one [] rfl rfl trivial (Vw.pers rfl)⟩
theorem parse13_ok (s : List UInt8) (t : Tr) (hs : s.length ≤ 65536) (h1 : DFun Tryd.prog 41 [strD s] (.tup [treeD t, strD [], .flat (.bool true)])) (h2 : DFun Tryd.prog 42 [treeD t] (.flat (.int .i64 0))) : DFun Tryd.prog 13 [strD s] (.tup [treeD t, .flat (.int .i64 0)]) := by
  obtain ⟨x, l⟩ := t
  rw [treeD_node] at *
  have hp := kidsC_pers l
  have hpl : persL [D.flat (.int .i64 x), .sl false 2 l.length (kidsC l)] = true := by simp [persL, Dm.pers, hp]
  refine DFun.enterA Tryd.func13 Tryd.ntmps13 ?_
  refine DW.walk ?_
  exact ⟨.inr rfl, ResOk.cellTmpA [] rfl rfl rfl TyI.ag TyI.sz rfl trivial (VwL.pers hpl) (Le.refl _) (Vw.pers rfl)⟩
theorem num1_d (c : UInt8) (r : List UInt8) (hc : isDg c = true) (hr : ∀ b, r.head? = some b → isDg b = false) (hl : r.length ≤ 1000) (n : Int) (hn : n = (valN [c] : Int)) (hv : valN [c] < 4096) : DFun Tryd.prog 62 [strD (c :: r)] (.tup [.flat (.int .i64 n), strD r, .flat (.bool true)]) := by
  obtain ⟨e1, e2⟩ := take_dig (d := [c]) (r := r) (fun b hb => by rw [List.mem_singleton.1 hb]; exact hc) hr
  have e1 : digs (c :: r) = [c] := e1
  have e2 : rest (c :: r) = r := e2
  have h := number_ok (s := c :: r) (by rw [List.length_cons]; omega) (by
    rw [e1]
    rintro (h | h)
    · cases h
    · exact absurd h.1 (by simp)) (by rw [e1]; simp)
  rw [e1, e2, decide_eq_true (by omega), ← hn] at h
  exact h
theorem parse_ex : DFun Tryd.prog 41 [strD [50, 40, 48, 44, 49, 40, 48, 41, 41]] (.tup [treeD (.node 2 [.node 0 [], .node 1 [.node 0 []]]), strD [], .flat (.bool true)]) := by
  have np1 : DFun Tryd.prog 62 [strD [48, 44, 49, 40, 48, 41, 41]] (.tup [.flat (.int .i64 0), strD [44, 49, 40, 48, 41, 41], .flat (.bool true)]) := num1_d 48 [44, 49, 40, 48, 41, 41] (by decide) (by decide) (by decide) _ rfl (by decide)
  have ap1 : DFun Tryd.prog 63 [strD [44, 49, 40, 48, 41, 41], strD [40]] (.flat (.bool false)) := by
    have h := hasp_d 40 [44, 49, 40, 48, 41, 41] (by decide)
    rwa [decide_eq_false (by decide)] at h
  have p1 := parse_leaf [48, 44, 49, 40, 48, 41, 41] [44, 49, 40, 48, 41, 41] 0 np1 ap1
  have np3 : DFun Tryd.prog 62 [strD [48, 41, 41]] (.tup [.flat (.int .i64 0), strD [41, 41], .flat (.bool true)]) := num1_d 48 [41, 41] (by decide) (by decide) (by decide) _ rfl (by decide)
  have ap3 : DFun Tryd.prog 63 [strD [41, 41], strD [40]] (.flat (.bool false)) := by
    have h := hasp_d 40 [41, 41] (by decide)
    rwa [decide_eq_false (by decide)] at h
  have p3 := parse_leaf [48, 41, 41] [41, 41] 0 np3 ap3
  have n2 : DFun Tryd.prog 62 [strD [49, 40, 48, 41, 41]] (.tup [.flat (.int .i64 1), strD [40, 48, 41, 41], .flat (.bool true)]) := num1_d 49 [40, 48, 41, 41] (by decide) (by decide) (by decide) _ rfl (by decide)
  have b1 : DFun Tryd.prog 63 [strD [40, 48, 41, 41], strD [40]] (.flat (.bool true)) := by
    have h := hasp_d 40 [40, 48, 41, 41] (by decide)
    rwa [decide_eq_true (by decide)] at h
  have b2 : DFun Tryd.prog 63 [strD [41, 41], strD [40]] (.flat (.bool false)) := by
    have h := hasp_d 40 [41, 41] (by decide)
    rwa [decide_eq_false (by decide)] at h
  have b3 : DFun Tryd.prog 63 [strD [41, 41], strD [44]] (.flat (.bool false)) := by
    have h := hasp_d 44 [41, 41] (by decide)
    rwa [decide_eq_false (by decide)] at h
  have c2 : DFun Tryd.prog 64 [strD [41, 41], strD [41]] (.tup [strD [41], .flat (.bool true)]) := by
    have h := cut_d 41 [41, 41] (by decide)
    rwa [decide_eq_true (by decide), show cutA 41 [41, 41] = [41] by decide] at h
  have p2 := parse_kids [49, 40, 48, 41, 41] 1 1 (.inl rfl) (fun i => if i = 0 then [40, 48, 41, 41] else [41, 41]) [.node 0 []] rfl (fun i hi => by
    obtain rfl : i = 0 := by omega
    exact ⟨by decide, by decide⟩) [41] true n2 (fun i hi => by
    rcases (by omega : i = 0 ∨ i = 1) with rfl | rfl
    · exact b1
    · exact b2) b3 (fun i t ht => by
    rcases i with _ | i
    · obtain rfl := Option.some.inj ht
      exact p3
    · rw [List.getElem?_cons_succ, List.getElem?_nil] at ht
      cases ht) c2
  have n : DFun Tryd.prog 62 [strD [50, 40, 48, 44, 49, 40, 48, 41, 41]] (.tup [.flat (.int .i64 2), strD [40, 48, 44, 49, 40, 48, 41, 41], .flat (.bool true)]) := num1_d 50 [40, 48, 44, 49, 40, 48, 41, 41] (by decide) (by decide) (by decide) _ rfl (by decide)
  have d1 : DFun Tryd.prog 63 [strD [40, 48, 44, 49, 40, 48, 41, 41], strD [40]] (.flat (.bool true)) := by
    have h := hasp_d 40 [40, 48, 44, 49, 40, 48, 41, 41] (by decide)
    rwa [decide_eq_true (by decide)] at h
  have d2 : DFun Tryd.prog 63 [strD [44, 49, 40, 48, 41, 41], strD [40]] (.flat (.bool false)) := by
    have h := hasp_d 40 [44, 49, 40, 48, 41, 41] (by decide)
    rwa [decide_eq_false (by decide)] at h
  have d3 : DFun Tryd.prog 63 [strD [41], strD [40]] (.flat (.bool false)) := by
    have h := hasp_d 40 [41] (by decide)
    rwa [decide_eq_false (by decide)] at h
  have d4 : DFun Tryd.prog 63 [strD [44, 49, 40, 48, 41, 41], strD [44]] (.flat (.bool true)) := by
    have h := hasp_d 44 [44, 49, 40, 48, 41, 41] (by decide)
    rwa [decide_eq_true (by decide)] at h
  have c3 : DFun Tryd.prog 64 [strD [41], strD [41]] (.tup [strD [], .flat (.bool true)]) := by
    have h := cut_d 41 [41] (by decide)
    rwa [decide_eq_true (by decide), show cutA 41 [41] = [] by decide] at h
  exact parse_kids [50, 40, 48, 44, 49, 40, 48, 41, 41] 2 2 (.inr rfl) (fun i => if i = 0 then [40, 48, 44, 49, 40, 48, 41, 41] else if i = 1 then [44, 49, 40, 48, 41, 41] else [41]) [.node 0 [], .node 1 [.node 0 []]] rfl (fun i hi => by
    rcases (by omega : i = 0 ∨ i = 1) with rfl | rfl
    · exact ⟨by decide, by decide⟩
    · exact ⟨by decide, by decide⟩) [] true n (fun i hi => by
    rcases (by omega : i = 0 ∨ i = 1 ∨ i = 2) with rfl | rfl | rfl
    · exact d1
    · exact d2
    · exact d3) d4 (fun i t ht => by
    rcases i with _ | _ | i
    · obtain rfl := Option.some.inj ht
      exact p1
    · obtain rfl := Option.some.inj ht
      exact p2
    · rw [List.getElem?_cons_succ, List.getElem?_cons_succ, List.getElem?_nil] at ht
      cases ht) c3
theorem parse13_ex : DFun Tryd.prog 13 [strD [50, 40, 48, 44, 49, 40, 48, 41, 41]] (.tup [treeD (.node 2 [.node 0 [], .node 1 [.node 0 []]]), .flat (.int .i64 0)]) := by
  refine parse13_ok _ _ (by decide) parse_ex ?_
  have h := small42_d (.node 2 [.node 0 [], .node 1 [.node 0 []]]) exT
  have e1 : sizeW (.node 2 [.node 0 [], .node 1 [.node 0 []]]) = 4 := exS
  have e2 : deepW (.node 2 [.node 0 [], .node 1 [.node 0 []]]) = 3 := exD
  rw [e1, e2] at h
  exact h
end Go.Proofs.YtohjapcafkhabaaDoor
