/- Contracts over data: a subtree replaced, by the reference. No condition. -/
import Derived.Test.YtohjapcafkhabaaDoorYR3

set_option linter.unusedSimpArgs false
set_option linter.unusedVariables false
set_option maxHeartbeats 4000000
set_option maxRecDepth 8000
namespace Go.Proofs.YtohjapcafkhabaaDoor
open Go Go.RowKit Go.PP Go.Dm Go.Rt
theorem T.appendEmpty [Rnd] {P : Program} {N : Nat} {dst : Option Tmp} {ty : TypeId} {pos : String} {af : Array Edge} {gd : Option (Nat × Bool)} {id e n m bytes : Nat} {z : Value} {f : Bool} {ds : List D} (t x y) (ht : P.underlying t = some (.slice e)) (hinfo : (P.info? e).map (fun i => (i.zero, i.size, i.bytes)) = some (some z, n, bytes)) (hzs : z.cells.size = n) (hsz : 0 < n) (hbp : 0 < bytes)
    (hm : 0 < m) (hby : m * bytes ≤ 140737488355328) (hid : newId N id = true) :
    Tri P N ⟨dst, .call { callee := .builtin .append, args := #[x, y], argTypes := #[t, t] }, ty, pos, af, gd⟩ [(x, .sl true n 0 []), (y, .sl f n m ds)] [(id, none)] (.own id m) [(id, some (.row e n m ds))] := by
  refine Tri.makeRd hid fun M w G ρ hv => ?_
  have hvx := hv.1
  have hvy := hv.2.1
  simp only [Rep] at hvx hvy
  obtain ⟨ax, cx, x1, x2, x3, x4, x5, x6⟩ := hvx
  have hcx : cx = 0 := by
    have := x3 trivial
    omega
  subst hcx
  obtain ⟨ay, cy, y1, y2, y3, y4, y5, y6⟩ := hvy
  obtain ⟨news, n1, n2, n3⟩ : ∃ news : List Value, RepL M w none ds news ∧ (ay = none → news = []) ∧ ∀ a, ay = some a → ∀ j u, news[j]? = some u → w.cell? (a.add j) = some u := by
    rcases y6 with r6 | ⟨b, off, rfl, r7, r8⟩
    · have hds : ds = [] := List.eq_nil_of_length_eq_zero (by rw [y4]; exact r6)
      subst hds
      exact ⟨[], by simp only [RepL], fun _ => rfl, fun a _ j u h => by simp at h⟩
    · obtain ⟨news, q1, q2⟩ := RepC.vals r8
      exact ⟨news, q1, (fun h => by cases h), fun a ha j u hj => by cases ha; rw [add_off]; exact q2 j u hj⟩
  have hln : news.length = m * n := by rw [← n1.length]; exact y4
  have hsrc : Src P w t n m (.slice ay m cy) news := Src.sl (c := cy) ht hln n2 n3
  obtain ⟨cap, hcap, hmx, hr⟩ := run_appendF (P := P) t t ty e ht hinfo hzs hsz ax 0 [] (by simp) (fun _ => rfl) (fun a h j u hj => by simp at hj) _ m news hsrc hln hm (by simpa using hby) hbp
  simp only [Nat.zero_add] at hcap hr
  refine ⟨news ++ (Builtin.zeroCells z.cells (cap - m)).toList, cap, hcap, hmx, ?_, ?_, ?_⟩
  · rw [run_app x1 y1 hr]
    congr 2
    simp
  · simp only [List.length_append, Array.length_toList, size_zeroCells, hzs, hln, ← Nat.add_mul]
    congr 1; omega
  · rw [← hln, List.take_left']
    · exact n1.up
    · rfl
attribute [-instance] instTyInProgOfNatTypeIdAggToArrayValueConsIntI64IntSliceNoneAddrNatNil in
theorem with32_d (sp : Int) (lp : List Tr) (tp : TSm (.node sp lp)) : ∀ (p : List Int), p.length ≤ 1000000 → ∀ (t : Tr), TSm t → atT p t ≠ none → DFun Tryd.prog 32 [treeD t, .sl false 1 p.length (p.map fun x => .flat (.int .i64 x)), .agg [.flat (.int .i64 sp), treesD lp]] (treeD (withT (.node sp lp) p t))
  | [], hp, .node s l, hs, _ => by
    rw [withT_nil, treeD_node]
    have hpl := tree_pers sp lp
    have hpl2 := tree_pers s l
    show DFun Tryd.prog 32 [.agg [.flat (.int .i64 s), treesD l], .sl false 1 0 [], .agg [.flat (.int .i64 sp), treesD lp]] _
    refine DFun.enterA Tryd.func32 Tryd.ntmps32 ?_
    refine DW.walk ?_
    exact ⟨.inr rfl, ResOk.cellA [] rfl rfl rfl TyI.ag TyI.sz trivial (VwL.pers hpl) (Le.of_eq (by rw [treeD_node]))⟩
  | k :: p, hp, .node s l, hs, ha => by
    have h0 : ¬ k < 0 := fun h => ha (atT_neg h)
    have h1 : ¬ (l.length : Int) ≤ k := fun h => ha (atT_big h0 h)
    obtain ⟨m, rfl⟩ : ∃ m : Nat, k = (m : Int) := ⟨k.toNat, by omega⟩
    have hm : m < l.length := by omega
    obtain ⟨x, hx⟩ : ∃ x, l[m]? = some x := ⟨_, List.getElem?_eq_getElem hm⟩
    have hx' : l[(m : Int).toNat]? = some x := by rw [Int.toNat_natCast]; exact hx
    rw [withT_cons hx', Int.toNat_natCast]
    rw [atT_in h0 hx'] at ha
    have hp : p.length + 1 ≤ 1000000 := hp
    have hxs := TSmL.at (TSm_node.1 hs).2 hx
    have ih := with32_d sp lp tp p (by omega) x hxs ha
    have hkp := kidsC_pers l
    have hpl := tree_pers sp lp
    have hs1 := (TSm_node.1 hs).1
    have hpk := part_kids hx
    have hpt : partD false 1 (0 * 1) (((m : Int) :: p).map fun x => D.flat (.int .i64 x)) = some (.flat (.int .i64 (m : Nat))) := part_int (l := (m : Int) :: p) (i := 0) rfl
    have hpp := ints_pers ((m : Int) :: p)
    have hdr : ((((m : Int) :: p).map fun x => D.flat (.int .i64 x)).drop (1 * 1)) = p.map fun x => D.flat (.int .i64 x) := rfl
    have hln : (((m : Int) :: p).map fun x => D.flat (.int .i64 x)).length = p.length + 1 := by simp
    generalize withT (.node sp lp) p x = y at *
    have hset := kidsC_set l m y hm
    obtain ⟨s2, l2⟩ := y
    obtain ⟨s', l'⟩ := x
    rw [treeD_node] at hpk ih
    rw [treeD_node] at ih
    rw [treeC_node] at hset
    have hsp : SplD (kidsC l) (m * 2) [.flat (.int .i64 s2), treesD l2] (kidsC (l.set m (.node s2 l2))) := ⟨hset⟩
    have hkl2 := kidsC_pers l2
    have hpset := kidsC_pers (l.set m (.node s2 l2))
    have hkll := kidsC_len l
    rw [treeD_node, treeD_node]
    clear hs hx hx' ha hxs hset tp
    show DFun Tryd.prog 32 [.agg [.flat (.int .i64 s), treesD l], .sl false 1 (p.length + 1) (((m : Int) :: p).map fun x => D.flat (.int .i64 x)), .agg [.flat (.int .i64 sp), treesD lp]] _
    have ih : DFun Tryd.prog 32 [.agg [.flat (.int .i64 s'), treesD l'], .sl false 1 (p.length + 1 - 1) (List.drop (1 * 1) (((m : Int) :: p).map fun x => D.flat (.int .i64 x))), .agg [.flat (.int .i64 sp), treesD lp]] (.agg [.flat (.int .i64 s2), treesD l2]) := ih
    generalize ((((m : Int)) :: p).map fun x => D.flat (.int .i64 x)) = LR at *
    refine DFun.enterA Tryd.func32 Tryd.ntmps32 ?_
    refine DW.walk ?_
    refine DC.t (T.appendEmpty (id := 1107) _ _ _ TySl.h nf24 rfl (by decide) (by decide) (by omega) (by omega) rfl) ⟨rfl, rfl, trivial⟩ ⟨rfl, trivial⟩ ?_
    refine DC.walk ?_
    exact ⟨.inr rfl, ResOk.cellA [(1107, some (.row 24 2 l.length (kidsC (l.set m (.node s2 l2)))))] rfl rfl rfl TyI.ag TyI.sz ⟨rfl, trivial⟩ (.cons (Vw.pers rfl) (.cons (Vw.own (.head _) (VwL.pers (kidsC_pers _))) .nil)) (Le.of_eq (by rw [treesD, List.length_set]))⟩
end Go.Proofs.YtohjapcafkhabaaDoor

set_option linter.unusedSimpArgs false
set_option linter.unusedVariables false
set_option maxHeartbeats 4000000
set_option maxRecDepth 8000
namespace Go.Proofs.YtohjapcafkhabaaDoor
open Go Go.RowKit Go.PP Go.Dm Go.Rt
theorem TSmL_set : ∀ (l : List Tr) (m : Nat) (y : Tr), TSmL l → TSm y → TSmL (l.set m y)
  | [], m, y, h, _ => by rw [List.set_nil]; exact h
  | t :: ts, 0, y, h, hy => by rw [List.set_cons_zero, TSmL]; rw [TSmL] at h; exact ⟨hy, h.2⟩
  | t :: ts, m + 1, y, h, hy => by rw [List.set_cons_succ, TSmL]; rw [TSmL] at h; exact ⟨h.1, TSmL_set ts m y h.2 hy⟩
theorem with_all (part : Tr) (tp : TSm part) : ∀ (p : List Int) (t x : Tr), TSm t → atT p t = some x → TSm x ∧ TSm (withT part p t) ∧ atT p (withT part p t) = some part ∧ withT x p (withT part p t) = t
  | [], t, x, hs, h => by
    rw [atT_nil] at h
    obtain rfl := Option.some.inj h
    rw [withT_nil, atT_nil, withT_nil]
    exact ⟨hs, tp, rfl, rfl⟩
  | k :: p, .node s l, x, hs, h => by
    have h0 : ¬ k < 0 := fun e => by rw [atT_neg e] at h; cases h
    have h1 : ¬ (l.length : Int) ≤ k := fun e => by rw [atT_big h0 e] at h; cases h
    obtain ⟨y, hy⟩ : ∃ y, l[k.toNat]? = some y := ⟨_, List.getElem?_eq_getElem (by omega)⟩
    rw [atT_in h0 hy] at h
    rw [TSm_node] at hs
    obtain ⟨q1, q2, q3, q4⟩ := with_all part tp p y x (TSmL.at hs.2 hy) h
    have hg : (l.set k.toNat (withT part p y))[k.toNat]? = some (withT part p y) := List.getElem?_set_self (by omega)
    rw [withT_cons hy, atT_in h0 hg, withT_cons hg, q4, List.set_set]
    refine ⟨q1, ?_, q3, ?_⟩
    · rw [TSm_node, List.length_set]
      exact ⟨hs.1, TSmL_set l _ _ hs.2 q2⟩
    · congr 1
      obtain ⟨hi, he⟩ := List.getElem?_eq_some_iff.1 hy
      rw [← he]
      exact List.set_getElem_self hi
theorem rep_ok (rl : Nat) (LR : List D) (hln : LR.length = rl) (hrp : persL LR = true) (hr8 : rl ≤ 1000000) (s1 s2 s3 s4 : Int) (l1 l2 l3 l4 : List Tr) (h1 : DFun Tryd.prog 29 [.agg [.flat (.int .i64 s1), treesD l1], .sl false 1 rl LR] (.tup [.agg [.flat (.int .i64 s3), treesD l3], .flat (.bool true)])) (h2 : DFun Tryd.prog 49 [.agg [.flat (.int .i64 s1), treesD l1], .sl false 1 rl LR, .agg [.flat (.int .i64 s2), treesD l2]] (.agg [.flat (.int .i64 s4), treesD l4])) : DFun Tryd.prog 21 [.agg [.flat (.int .i64 s1), treesD l1], .sl false 1 rl LR, .agg [.flat (.int .i64 s2), treesD l2]] (.tup [.agg [.flat (.int .i64 s4), treesD l4], .flat (.int .i64 0)]) := by
  have k1 := kidsC_pers l1
  have k2 := kidsC_pers l2
  have k3 := kidsC_pers l3
  have hpl := tree_pers s4 l4
  refine DFun.enterA Tryd.func21 Tryd.ntmps21 ?_
  refine DW.walk ?_
  exact ⟨.inr rfl, ResOk.cellTmpA [] rfl rfl rfl TyI.ag TyI.sz rfl trivial (VwL.pers hpl) (Le.refl _) (Vw.pers rfl)⟩
theorem rep_no (rl : Nat) (LR : List D) (hln : LR.length = rl) (hrp : persL LR = true) (hr8 : rl ≤ 1000000) (s1 s2 s3 : Int) (l1 l2 l3 : List Tr) (h1 : DFun Tryd.prog 29 [.agg [.flat (.int .i64 s1), treesD l1], .sl false 1 rl LR] (.tup [.agg [.flat (.int .i64 s3), treesD l3], .flat (.bool false)])) : DFun Tryd.prog 21 [.agg [.flat (.int .i64 s1), treesD l1], .sl false 1 rl LR, .agg [.flat (.int .i64 s2), treesD l2]] (.tup [.agg [.flat (.int .i64 0), treesD []], .flat (.int .i64 9)]) := by
  have k1 := kidsC_pers l1
  have k2 := kidsC_pers l2
  have k3 := kidsC_pers l3
  refine DFun.enterA Tryd.func21 Tryd.ntmps21 ?_
  refine DW.walk ?_
  exact ⟨.inr rfl, ResOk.cellTmpA [] rfl rfl rfl TyI.ag TyI.sz rfl trivial (.cons (Vw.pers rfl) (.cons (Vw.p rfl (Le.nil _ _)) .nil)) (Le.of_eq (by rw [treesD, kidsC_nil]; rfl)) (Vw.pers rfl)⟩
end Go.Proofs.YtohjapcafkhabaaDoor
