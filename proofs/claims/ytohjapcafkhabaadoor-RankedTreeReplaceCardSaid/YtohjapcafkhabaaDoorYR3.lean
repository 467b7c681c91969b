/- Contracts over data: subtrees. No condition. -/
import Derived.Test.YtohjapcafkhabaaDoorYC3
import Derived.Test.YtohjapcafkhabaaDoorYC8
import Derived.Test.YtohjapcafkhabaaDoorXSl

set_option linter.unusedSimpArgs false
set_option linter.unusedVariables false
set_option maxHeartbeats 4000000
set_option maxRecDepth 8000
namespace Go.Proofs.YtohjapcafkhabaaDoor
open Go Go.RowKit Go.PP Go.Dm Go.Rt
/-- What a subtree is told as. -/
def atR : Option Tr → D
  | some x => .tup [treeD x, .flat (.bool true)]
  | none => .tup [treeD (.node 0 []), .flat (.bool false)]
theorem atT_nil (t : Tr) : atT [] t = some t := by rw [atT]
theorem atT_neg {i : Int} {p : List Int} {s : Int} {l : List Tr} (h : i < 0) : atT (i :: p) (.node s l) = none := by rw [atT, if_pos h]
theorem atT_big {i : Int} {p : List Int} {s : Int} {l : List Tr} (h : ¬ i < 0) (h2 : (l.length : Int) ≤ i) : atT (i :: p) (.node s l) = none := by
  rw [atT, if_neg h, List.getElem?_eq_none (by omega)]
theorem atT_in {i : Int} {p : List Int} {s : Int} {l : List Tr} {x : Tr} (h : ¬ i < 0) (h2 : l[i.toNat]? = some x) : atT (i :: p) (.node s l) = atT p x := by
  rw [atT, if_neg h, h2]
theorem tree_pers (s : Int) (l : List Tr) : persL [.flat (.int .i64 s), treesD l] = true := by simp [persL, Dm.pers, kidsC_pers l]
theorem sub29_d (p : List Int) (hp : p.length ≤ 1000000) (t : Tr) (ts : TSm t) : DFun Tryd.prog 29 [treeD t, .sl false 1 p.length (p.map fun x => .flat (.int .i64 x))] (atR (atT p t)) := by
  have hpp := ints_pers p
  obtain ⟨A, hA⟩ : ∃ A, atT p t = A := ⟨_, rfl⟩
  rw [hA]
  obtain ⟨s0, l0⟩ := t
  have hk0 := kidsC_pers l0
  rw [treeD_node]
  refine DFun.enterA Tryd.func29 Tryd.ntmps29 ?_
  refine DW.walk ?_
  refine DW.loopA (fun q : Nat × Tr => ⟨[(2, .ref 2 0), (4, .ref 4 0), (5, .flat (.bool false)), (8, .sl false 1 p.length (p.map fun x => .flat (.int .i64 x))), (9, .flat (.int .i64 (p.length : Nat))), (10, .flat (.int .i64 (q.1 : Nat)))], [(2, some (.box (treeC q.2))), (4, some (.box [.flat (.int .i64 0), .flat (.slice none 0 0)]))]⟩) (fun q => q.1 ≤ p.length ∧ atT (p.drop q.1) q.2 = A ∧ TSm q.2) (fun q => p.length - q.1) (0, .node s0 l0) ?_ ⟨Nat.zero_le _, by rw [List.drop_zero]; exact hA, ts⟩ (by
    rw [treeC_node]
    exact Sub.auto)
  rintro ⟨i, ⟨s, l⟩⟩ ⟨hi, ha, hs⟩
  have hi : i ≤ p.length := hi
  have ha : atT (p.drop i) (.node s l) = A := ha
  have hs : TSm (.node s l) := hs
  clear hA ts
  have hkp := kidsC_pers l
  have hs1 := (TSm_node.1 hs).1
  show DW Tryd.prog _ _ ⟨_, [(2, some (.box (treeC (.node s l)))), _]⟩ _
  rw [treeC_node]
  rcases Nat.lt_or_ge i p.length with hlt | hge
  · obtain ⟨k, hk⟩ : ∃ k, p[i]? = some k := ⟨_, List.getElem?_eq_getElem hlt⟩
    have hpt := part_int hk
    have hdr : p.drop i = k :: p.drop (i + 1) := by
      rw [List.drop_eq_getElem_cons hlt]
      rw [List.getElem?_eq_getElem hlt] at hk
      rw [Option.some.inj hk]
    rw [hdr] at ha
    by_cases h0 : k < 0
    · rw [atT_neg h0] at ha
      subst ha
      clear hk hdr hs
      generalize (p.map fun x => D.flat (.int .i64 x)) = LR at *
      refine DW.walk ?_
      exact ⟨.inr rfl, ResOk.cellTmpA [] rfl rfl rfl TyI.ag TyI.sz rfl trivial (.cons (Vw.pers rfl) (.cons (Vw.p rfl (Le.nil _ _)) .nil)) (Le.of_eq (by rw [treeD_node, treesD, kidsC_nil]; rfl)) (Vw.pers rfl)⟩
    · by_cases h1 : (l.length : Int) ≤ k
      · rw [atT_big h0 h1] at ha
        subst ha
        clear hk hdr hs
        generalize (p.map fun x => D.flat (.int .i64 x)) = LR at *
        refine DW.walk ?_
        exact ⟨.inr rfl, ResOk.cellTmpA [] rfl rfl rfl TyI.ag TyI.sz rfl trivial (.cons (Vw.pers rfl) (.cons (Vw.p rfl (Le.nil _ _)) .nil)) (Le.of_eq (by rw [treeD_node, treesD, kidsC_nil]; rfl)) (Vw.pers rfl)⟩
      · obtain ⟨x, hx⟩ : ∃ x, l[k.toNat]? = some x := ⟨_, List.getElem?_eq_getElem (by omega)⟩
        rw [atT_in h0 hx] at ha
        have hxs := TSmL.at (TSm_node.1 hs).2 hx
        have hpk := part_kids hx
        obtain ⟨s', l'⟩ := x
        rw [treeD_node] at hpk
        have hkp' := kidsC_pers l'
        clear hk hdr hs hx
        generalize (p.map fun x => D.flat (.int .i64 x)) = LR at *
        refine DW.walk ?_
        refine ⟨(i + 1, .node s' l'), ⟨by show i + 1 ≤ _; omega, ha, hxs⟩, by show p.length - (i + 1) < p.length - i; omega, ?_⟩
        show Sub _ _ ⟨_, [(2, some (.box (treeC (.node s' l')))), _]⟩
        rw [treeC_node]
        exact Sub.auto
  · obtain rfl : i = p.length := by omega
    rw [List.drop_of_length_le (Nat.le_refl _), atT_nil] at ha
    subst ha
    have hc := clone_d _ (.node s l) (Nat.le_refl _) hs
    rw [treeD_node] at hc
    have hpl := tree_pers s l
    clear hs
    generalize (p.map fun x => D.flat (.int .i64 x)) = LR at *
    refine DW.walk ?_
    exact ⟨.inr rfl, ResOk.cellTmpA [] rfl rfl rfl TyI.ag TyI.sz rfl trivial (VwL.pers hpl) (Le.of_eq (by rw [treeD_node])) (Vw.pers rfl)⟩
theorem at30_d : ∀ (p : List Int), p.length ≤ 1000000 → ∀ (t : Tr), TSm t → DFun Tryd.prog 30 [treeD t, .sl false 1 p.length (p.map fun x => .flat (.int .i64 x))] (atR (atT p t))
  | [], hp, .node s l, hs => by
    rw [atT_nil, treeD_node]
    have hpl := tree_pers s l
    have hs1 := (TSm_node.1 hs).1
    show DFun Tryd.prog 30 [.agg [.flat (.int .i64 s), treesD l], .sl false 1 0 []] _
    refine DFun.enterA Tryd.func30 Tryd.ntmps30 ?_
    refine DW.walk ?_
    exact ⟨.inr rfl, ResOk.cellTmpA [] rfl rfl rfl TyI.ag TyI.sz rfl trivial (VwL.pers hpl) (Le.of_eq (by rw [treeD_node])) (Vw.pers rfl)⟩
  | k :: p, hp, .node s l, hs => by
    rw [treeD_node]
    have hkp := kidsC_pers l
    have hs1 := (TSm_node.1 hs).1
    have hp : p.length + 1 ≤ 1000000 := hp
    have hpt : partD false 1 (0 * 1) ((k :: p).map fun x => D.flat (.int .i64 x)) = some (.flat (.int .i64 k)) := part_int (l := k :: p) (i := 0) rfl
    have hpp := ints_pers (k :: p)
    have hdr : (((k :: p).map fun x => D.flat (.int .i64 x)).drop (1 * 1)) = p.map fun x => D.flat (.int .i64 x) := rfl
    have hln : ((k :: p).map fun x => D.flat (.int .i64 x)).length = p.length + 1 := by simp
    by_cases h0 : k < 0
    · rw [atT_neg h0]
      clear hs
      show DFun Tryd.prog 30 [.agg [.flat (.int .i64 s), treesD l], .sl false 1 (p.length + 1) ((k :: p).map fun x => D.flat (.int .i64 x))] _
      generalize ((k :: p).map fun x => D.flat (.int .i64 x)) = LR at *
      refine DFun.enterA Tryd.func30 Tryd.ntmps30 ?_
      refine DW.walk ?_
      exact ⟨.inr rfl, ResOk.cellTmpA [] rfl rfl rfl TyI.ag TyI.sz rfl trivial (.cons (Vw.pers rfl) (.cons (Vw.p rfl (Le.nil _ _)) .nil)) (Le.of_eq (by rw [treeD_node, treesD, kidsC_nil]; rfl)) (Vw.pers rfl)⟩
    · by_cases h1 : (l.length : Int) ≤ k
      · rw [atT_big h0 h1]
        clear hs
        show DFun Tryd.prog 30 [.agg [.flat (.int .i64 s), treesD l], .sl false 1 (p.length + 1) ((k :: p).map fun x => D.flat (.int .i64 x))] _
        generalize ((k :: p).map fun x => D.flat (.int .i64 x)) = LR at *
        refine DFun.enterA Tryd.func30 Tryd.ntmps30 ?_
        refine DW.walk ?_
        exact ⟨.inr rfl, ResOk.cellTmpA [] rfl rfl rfl TyI.ag TyI.sz rfl trivial (.cons (Vw.pers rfl) (.cons (Vw.p rfl (Le.nil _ _)) .nil)) (Le.of_eq (by rw [treeD_node, treesD, kidsC_nil]; rfl)) (Vw.pers rfl)⟩
      · obtain ⟨x, hx⟩ : ∃ x, l[k.toNat]? = some x := ⟨_, List.getElem?_eq_getElem (by omega)⟩
        rw [atT_in h0 hx]
        have hpk := part_kids hx
        have ih := at30_d p (by omega) x (TSmL.at (TSm_node.1 hs).2 hx)
        generalize atT p x = B at *
        obtain ⟨s', l'⟩ := x
        rw [treeD_node] at hpk ih
        clear hs hx
        show DFun Tryd.prog 30 [.agg [.flat (.int .i64 s), treesD l], .sl false 1 (p.length + 1) ((k :: p).map fun x => D.flat (.int .i64 x))] _
        generalize ((k :: p).map fun x => D.flat (.int .i64 x)) = LR at *
        cases B with
        | some y =>
          obtain ⟨s2, l2⟩ := y
          have ih : DFun Tryd.prog 30 [.agg [.flat (.int .i64 s'), treesD l'], .sl false 1 (p.length + 1 - 1) (List.drop (1 * 1) LR)] (.tup [treeD (.node s2 l2), .flat (.bool true)]) := by rw [hdr]; exact ih
          rw [treeD_node] at ih
          have hpl := tree_pers s2 l2
          show DFun Tryd.prog 30 _ (.tup [treeD (.node s2 l2), .flat (.bool true)])
          refine DFun.enterA Tryd.func30 Tryd.ntmps30 ?_
          refine DW.walk ?_
          exact ⟨.inr rfl, ResOk.cellTmpA [] rfl rfl rfl TyI.ag TyI.sz rfl trivial (VwL.pers hpl) (Le.of_eq (by rw [treeD_node])) (Vw.pers rfl)⟩
        | none =>
          have ih : DFun Tryd.prog 30 [.agg [.flat (.int .i64 s'), treesD l'], .sl false 1 (p.length + 1 - 1) (List.drop (1 * 1) LR)] (.tup [treeD (.node 0 []), .flat (.bool false)]) := by rw [hdr]; exact ih
          rw [treeD_node] at ih
          have hpl := tree_pers 0 []
          show DFun Tryd.prog 30 _ (.tup [treeD (.node 0 []), .flat (.bool false)])
          refine DFun.enterA Tryd.func30 Tryd.ntmps30 ?_
          refine DW.walk ?_
          exact ⟨.inr rfl, ResOk.cellTmpA [] rfl rfl rfl TyI.ag TyI.sz rfl trivial (VwL.pers hpl) (Le.of_eq (by rw [treeD_node])) (Vw.pers rfl)⟩
end Go.Proofs.YtohjapcafkhabaaDoor

set_option linter.unusedSimpArgs false
set_option linter.unusedVariables false
set_option maxHeartbeats 4000000
set_option maxRecDepth 8000
namespace Go.Proofs.YtohjapcafkhabaaDoor
open Go Go.RowKit Go.PP Go.Dm Go.Rt
theorem ResL.cellA [Rnd] {P : Program} {N : Nat} {fn : Func} {s : DS} {we : Sg} {f' : Fr} {x : Tmp} {t id : Nat} {cs : List D} (hr : fn.results = #[.cell x t]) (h1 : EsOk s.σ we we) (h2 : FsOk s.σ we s.f f') (hx : lkF f' x = .ref id 0) (hi : lkE we id = some (.box cs)) (hb : aggOf P t = some true) (hn : sizeOfT P t = some cs.length) (hk : keysOf cs = none) : ResL P fn N s we (.agg cs) :=
  ⟨f', h1, h2, fun w0 M0 B0 g a w hs => by
    have h0 := hs.tm x
    rw [hx] at h0
    obtain ⟨ad, u, q1, q2, q3⟩ := run_loadBox (P := P) hs hi hb hn part_all hk h0
    rw [Array.getD_eq_getD_getElem?] at q1
    exact ⟨u, by simp [results, hr, q1, q2], q3⟩⟩
theorem clone_own (s : Int) (l : List Tr) (hs : TSm (.node s l)) : DLend Tryd.prog 22 [.agg [.flat (.int .i64 s), treesD l]] [(1107, none), (1108, none)] [(1107, some (.row 29 2 l.length (kidsC l))), (1108, some (.box [.flat (.int .i64 s), .own 1107 l.length]))] (.agg [.flat (.int .i64 s), .own 1107 l.length]) := by
  rw [TSm_node] at hs
  have hs1 := hs.1
  have m2 : IdAt 2 1108 := .of _ _
  refine DLend.enterA Tryd.func22 Tryd.ntmps22 ?_
  refine DW.walkTo 2 ?_
  refine DW.adoptBox 3 1 1107 29 2 rfl rfl rfl ?_
  refine DW.walk ?_
  refine DW.loopA (fun i : Nat => ⟨[(1, .ref 1 0), (2, .ref 1108 0), (3, .ref 3 0), (10, .sl false 2 l.length (kidsC l)), (11, .flat (.int .i64 (l.length : Nat))), (12, .flat (.int .i64 (i : Nat)))], [(1, some (.box [.flat (.int .i64 s), .sl false 2 l.length (kidsC l)])), (1108, some (.box [.flat (.int .i64 0), .flat (.slice none 0 0)])), (3, some (.box [.flat (.int .i64 s), .own 1107 i])), (1107, some (.row 29 2 i (kidsC (l.take i))))]⟩) (fun i => i ≤ l.length) (fun i => l.length - i) 0 ?_ (Nat.zero_le _) (by
    rw [List.take_zero, kidsC_nil]
    exact Sub.auto)
  intro i hi
  rcases Nat.lt_or_ge i l.length with hlt | hge
  · obtain ⟨k, hk⟩ : ∃ k, l[i]? = some k := ⟨_, List.getElem?_eq_getElem hlt⟩
    have hp := part_kids hk
    have hks := TSmL.at hs.2 hk
    have ihk := clone_d _ k (Nat.le_refl _) hks
    have hsn := (kidsC_snoc hk).symm
    clear hk hs hks
    obtain ⟨s', l'⟩ := k
    rw [treeC_node] at hsn
    rw [treeD_node] at hp ihk
    refine DW.walk ?_
    exact ⟨i + 1, by omega, by omega, Sub.auto⟩
  · obtain rfl : i = l.length := by omega
    rw [List.take_length]
    have hkp := kidsC_pers l
    clear hs
    refine DW.walk ?_
    exact ⟨.inr rfl, ResL.cellA (f' := [(2, .ref 1108 0)]) rfl EsOk.auto (FsOk.cons (Vs.ref' rfl rfl) trivial) rfl rfl TyI.ag TyI.sz rfl⟩
end Go.Proofs.YtohjapcafkhabaaDoor

set_option linter.unusedSimpArgs false
set_option linter.unusedVariables false
set_option maxHeartbeats 4000000
set_option maxRecDepth 8000
namespace Go.Proofs.YtohjapcafkhabaaDoor
open Go Go.RowKit Go.PP Go.Dm Go.Rt
theorem kidsC_set : ∀ (l : List Tr) (m : Nat) (y : Tr), m < l.length → spliceD (kidsC l) (m * 2) (treeC y) = kidsC (l.set m y)
  | [], m, y, h => by simp at h
  | t :: ts, 0, y, _ => by
    have h1 := treeC_two t
    have h2 := treeC_two y
    unfold spliceD
    rw [List.set_cons_zero, kidsC_cons, kidsC_cons, h2, show 0 * 2 = 0 from rfl, List.take_zero, List.nil_append, Nat.zero_add, List.drop_append_of_le_length (by omega), List.drop_of_length_le (by omega), List.nil_append]
  | t :: ts, m + 1, y, h => by
    have h1 := treeC_two t
    have h2 := treeC_two y
    have ih := kidsC_set ts m y (by simpa using h)
    unfold spliceD at ih ⊢
    rw [h2] at ih ⊢
    rw [List.set_cons_succ, kidsC_cons, kidsC_cons, ← ih, show (m + 1) * 2 = (treeC t).length + m * 2 by omega, List.take_length_add_append, show (treeC t).length + m * 2 + 2 = (treeC t).length + (m * 2 + 2) by omega, List.drop_length_add_append, List.append_assoc, List.append_assoc, List.append_assoc]
theorem withT_nil (part t : Tr) : withT part [] t = part := by rw [withT]
theorem withT_cons {part : Tr} {i : Int} {p : List Int} {s : Int} {l : List Tr} {x : Tr} (h2 : l[i.toNat]? = some x) : withT part (i :: p) (.node s l) = .node s (l.set i.toNat (withT part p x)) := by
  rw [withT, h2]
theorem with49_d (sp : Int) (lp : List Tr) (tp : TSm (.node sp lp)) : ∀ (p : List Int), p.length ≤ 1000000 → ∀ (t : Tr), TSm t → atT p t ≠ none → DFun Tryd.prog 49 [treeD t, .sl false 1 p.length (p.map fun x => .flat (.int .i64 x)), .agg [.flat (.int .i64 sp), treesD lp]] (treeD (withT (.node sp lp) p t))
  | [], hp, .node s l, hs, _ => by
    rw [withT_nil, treeD_node]
    have hc := clone_d _ (.node sp lp) (Nat.le_refl _) tp
    rw [treeD_node] at hc
    have hpl := tree_pers sp lp
    have hpl2 := tree_pers s l
    show DFun Tryd.prog 49 [.agg [.flat (.int .i64 s), treesD l], .sl false 1 0 [], .agg [.flat (.int .i64 sp), treesD lp]] _
    refine DFun.enterA Tryd.func49 Tryd.ntmps49 ?_
    refine DW.walk ?_
    exact ⟨.inr rfl, ResOk.cellA [] rfl rfl rfl TyI.ag TyI.sz trivial (VwL.pers hpl) (Le.of_eq (by rw [treeD_node]))⟩
  | k :: p, hp, .node s l, hs, ha => by
    have h0 : ¬ k < 0 := fun h => ha (atT_neg h)
    have h1 : ¬ (l.length : Int) ≤ k := fun h => ha (atT_big h0 h)
    obtain ⟨m, rfl⟩ : ∃ m : Nat, k = (m : Int) := ⟨k.toNat, by omega⟩
    have hm : m < l.length := by omega
    obtain ⟨x, hx⟩ : ∃ x, l[m]? = some x := ⟨_, List.getElem?_eq_getElem hm⟩
    have hx' : l[(m : Int).toNat]? = some x := by rw [Int.toNat_natCast]; exact hx
    rw [withT_cons hx', Int.toNat_natCast]
    rw [atT_in h0 hx'] at ha
    have hp : p.length + 1 ≤ 1000000 := hp
    have hxs := TSmL.at (TSm_node.1 hs).2 hx
    have ih := with49_d sp lp tp p (by omega) x hxs ha
    have hcl := clone_own s l hs
    have hkp := kidsC_pers l
    have hpl := tree_pers sp lp
    have hs1 := (TSm_node.1 hs).1
    have hpk := part_kids hx
    have hpt : partD false 1 (0 * 1) (((m : Int) :: p).map fun x => D.flat (.int .i64 x)) = some (.flat (.int .i64 (m : Nat))) := part_int (l := (m : Int) :: p) (i := 0) rfl
    have hpp := ints_pers ((m : Int) :: p)
    have hdr : ((((m : Int) :: p).map fun x => D.flat (.int .i64 x)).drop (1 * 1)) = p.map fun x => D.flat (.int .i64 x) := rfl
    have hln : (((m : Int) :: p).map fun x => D.flat (.int .i64 x)).length = p.length + 1 := by simp
    generalize withT (.node sp lp) p x = y at *
    have hset := kidsC_set l m y hm
    obtain ⟨s2, l2⟩ := y
    obtain ⟨s', l'⟩ := x
    rw [treeD_node] at hpk ih
    rw [treeD_node] at ih
    rw [treeC_node] at hset
    have hsp : SplD (kidsC l) (m * 2) [.flat (.int .i64 s2), treesD l2] (kidsC (l.set m (.node s2 l2))) := ⟨hset⟩
    have hkl2 := kidsC_pers l2
    have hpset := kidsC_pers (l.set m (.node s2 l2))
    have hkll := kidsC_len l
    rw [treeD_node, treeD_node]
    clear hs hx hx' ha hxs hset tp
    show DFun Tryd.prog 49 [.agg [.flat (.int .i64 s), treesD l], .sl false 1 (p.length + 1) (((m : Int) :: p).map fun x => D.flat (.int .i64 x)), .agg [.flat (.int .i64 sp), treesD lp]] _
    have ih : DFun Tryd.prog 49 [.agg [.flat (.int .i64 s'), treesD l'], .sl false 1 (p.length + 1 - 1) (List.drop (1 * 1) (((m : Int) :: p).map fun x => D.flat (.int .i64 x))), .agg [.flat (.int .i64 sp), treesD lp]] (.agg [.flat (.int .i64 s2), treesD l2]) := ih
    generalize ((((m : Int)) :: p).map fun x => D.flat (.int .i64 x)) = LR at *
    refine DFun.enterA Tryd.func49 Tryd.ntmps49 ?_
    refine DW.walk ?_
    exact ⟨.inr rfl, ResOk.cellA [(1107, some (.row 29 2 l.length (kidsC (l.set m (.node s2 l2)))))] rfl rfl rfl TyI.ag TyI.sz ⟨rfl, trivial⟩ (.cons (Vw.pers rfl) (.cons (Vw.own (.head _) (VwL.pers (kidsC_pers _))) .nil)) (Le.of_eq (by rw [treesD, List.length_set]))⟩
end Go.Proofs.YtohjapcafkhabaaDoor
