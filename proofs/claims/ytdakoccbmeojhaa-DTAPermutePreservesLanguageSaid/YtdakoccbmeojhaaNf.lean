/- Contracts over data: Own; the checks of trees, Accepts. No condition. -/
import Derived.Test.YtdakoccbmeojhaaNo
import Derived.Test.YtdakoccbmeojhaaNd
import Derived.Test.YtdakoccbmeojhaaWe
import Derived.Test.YtdakoccbmeojhaaWh
set_option linter.unusedSimpArgs false
set_option linter.unusedVariables false
set_option maxHeartbeats 1000000
set_option maxRecDepth 8000
namespace Go.Proofs.Ytdakoccbmeojhaa
open Go Go.RowKit Go.PP Go.Dm

theorem ent17 : Enters Try.prog 17 := fun args w => by go_simp

theorem own_d : ∀ (n : Nat) (t : Tr), depT t ≤ n → TSm t → DFun Try.prog 17 [treeD t] (treeD t)
  | 0, .node s l, h, _ => by rw [depT] at h; omega
  | n + 1, .node s l, h, hs => by
    rw [depT] at h
    rw [TSm] at hs
    have hs1 := hs.1
    have ih := own_d n
    unfold treeD
    rw [treeC]
    refine DFun.enter Try.func17 rfl Try.ntmps17 (by simp) ?_
    dsimp only [evalD, lkF, lkE, updF, Nat.beq, Nat.reduceBEq, cond_true, cond_false, List.cons_append, List.nil_append, List.append_nil, argF, Nat.reduceAdd, Nat.reduceMul, spliceD, List.take, List.drop, List.length, flats, Value.cells, List.map, List.set, Thn, Blk, if_true, if_false, reduceIte, Nat.reduceEqDiff]
    repeat (first
        | (refine DW.seq ?_)
        | (refine DW.block ?_)
        | (refine Thn.n ?_)
        | (refine Blk.n ?_)
        | (refine Blk.here ?_)
        | (refine Thn.e ?_)
        | (refine Blk.pass rfl ?_)
        | (refine Thn.r ?_)
        | (refine Blk.r ?_)
        | (refine DW.skip ?_)
        | (refine DW.label ?_)
        | (refine DW.regionC (id := 0) ?_; refine DC.tri (T.box 1 29 _ rfl) ⟨rfl, trivial⟩ ⟨rfl, trivial⟩ ?_ (.none rfl) rfl; refine DC.tri (T.alloc 2 39 ze39) trivial ⟨rfl, trivial⟩ ?_ (.none rfl) rfl; refine DC.nilN (by first | (dsimp only [evalD, lkF, lkE, updF, Nat.beq, Nat.reduceBEq, cond_true, cond_false, List.cons_append, List.nil_append, List.append_nil, argF, Nat.reduceAdd, Nat.reduceMul, spliceD, List.take, List.drop, List.length, flats, Value.cells, List.map, List.set]; done) | exact rfl | fail) ?_)
        | (refine DW.regionC (id := 1) ?_; (first | refine DC.tri (T.fieldRef' 29 _ 0 fd29_0 (by decide)) ⟨rfl, trivial⟩ trivial ?_ (.none rfl) rfl | refine DC.tri (T.fieldPtr' 29 _ 0 fd29_0 (by decide)) ⟨rfl, trivial⟩ trivial ?_ (.none rfl) rfl); (first | refine DC.tri (T.loadRef 3 _ ag3 sz3 (by first | rfl | assumption)) ⟨rfl, trivial⟩ ⟨rfl, trivial⟩ ?_ (.none rfl) rfl | refine DC.tri (T.loadPtr 3 _ ag3 sz3 (by first | rfl | assumption)) ⟨rfl, trivial⟩ trivial ?_ (.none rfl) rfl | refine DC.tri (T.loadElp 3 _ ag3 sz3 (by first | rfl | assumption)) ⟨rfl, trivial⟩ ⟨rfl, trivial⟩ ?_ (.none rfl) rfl); refine DC.tri (T.buildS1 39 _ Try.underlying39 ze39 (pl39 Try.underlying39) rfl) ⟨rfl, trivial⟩ trivial ?_ (.none rfl) rfl; refine DC.tri (T.alloc 3 39 ze39) trivial ⟨rfl, trivial⟩ ?_ (.none rfl) rfl; (first | refine DC.tri (T.storeRef 39 _ _ sz39 rfl rfl (by first | rfl | simp [oneL, oneD, Value.oneCell']) (by first | decide | (simp; done) | omega | (simp; omega))) ⟨rfl, rfl, trivial⟩ ⟨rfl, trivial⟩ ?_ (.none rfl) rfl | refine DC.tri (T.storeElp 39 _ _ sz39 rfl rfl rfl (by first | decide | (simp; done) | omega | (simp; omega))) ⟨rfl, rfl, trivial⟩ ⟨rfl, trivial⟩ ?_ (.none rfl) rfl); refine DC.nilN (by first | (dsimp only [evalD, lkF, lkE, updF, Nat.beq, Nat.reduceBEq, cond_true, cond_false, List.cons_append, List.nil_append, List.append_nil, argF, Nat.reduceAdd, Nat.reduceMul, spliceD, List.take, List.drop, List.length, flats, Value.cells, List.map, List.set]; done) | exact rfl | fail) ?_)
        | (refine DW.regionC (id := 2) ?_; refine DC.tri (T.assign _ _) ⟨rfl, trivial⟩ trivial ?_ (.none rfl) rfl; refine DC.nilN (by first | (dsimp only [evalD, lkF, lkE, updF, Nat.beq, Nat.reduceBEq, cond_true, cond_false, List.cons_append, List.nil_append, List.append_nil, argF, Nat.reduceAdd, Nat.reduceMul, spliceD, List.take, List.drop, List.length, flats, Value.cells, List.map, List.set]; done) | exact rfl | fail) ?_)
        | (refine DW.condT' rfl (by first | rfl | assumption | exact decide_eq_true (by first | assumption | omega) | exact decide_eq_false (by first | assumption | omega) | (simp only [*]; done) | fail) ?_)
        | (refine DW.condF' rfl (by first | rfl | assumption | exact decide_eq_true (by first | assumption | omega) | exact decide_eq_false (by first | assumption | omega) | (simp only [*]; done) | fail) ?_)
        | (refine DW.exit ?_)
        | (refine DW.ret ?_)
        | fail)
    refine DW.adoptBox 3 1 103 39 2 rfl rfl rfl ?_
    refine DW.loop (fun i : Nat => ⟨[(4, intD i), (3, .ref 3 0), (1, .ref 1 0), (2, .ref 2 0)], [(3, some (.box [intD s, .own 103 i])), (103, some (.row 39 2 i (kidsC (l.take i)))), (1, some (.box [intD s, .sl false 2 l.length (kidsC l)])), (2, some (.box [intD 0, .flat (.slice none 0 0)]))]⟩) (fun i => i ≤ l.length) (fun i => l.length - i) 0 (by omega)
      (Sub.of ⟨⟨_, rfl, Vs.pers rfl, Vs.own rfl rfl, trivial⟩, ⟨_, rfl, VsL.eq (by rw [List.take_zero, kidsC]) (kidsC_pers _)⟩, ⟨_, rfl, VsL.pers rfl⟩, ⟨_, rfl, VsL.pers rfl⟩, trivial⟩ ⟨Vs.int (by simp), Vs.ref rfl, Vs.ref rfl, Vs.ref rfl, trivial⟩) ?_
    rintro i hi
    by_cases hlt : i < l.length
    · obtain ⟨k, hk⟩ : ∃ k, l[i]? = some k := ⟨l[i], by simp⟩
      have hp := part_kids hk
      have hd := depL_at hk
      have hks := TSmL.at hs.2 hk
      have hkc := kidsC_snoc hk
      have ihk := ih k (by omega) hks
      clear ih hk
      obtain ⟨s', l'⟩ := k
      repeat (first
          | (refine DW.seq ?_)
          | (refine DW.block ?_)
          | (refine Thn.n ?_)
          | (refine Blk.n ?_)
          | (refine Blk.here ?_)
          | (refine Thn.e ?_)
          | (refine Blk.pass rfl ?_)
          | (refine Thn.r ?_)
          | (refine Blk.r ?_)
          | (refine DW.skip ?_)
          | (refine DW.label ?_)
          | (refine DW.regionC (id := 3) ?_; refine DC.tri (T.move _ _) ⟨rfl, trivial⟩ trivial ?_ (.none rfl) rfl; (first | refine DC.tri (T.fieldRef' 29 _ 1 fd29_1 (by decide)) ⟨rfl, trivial⟩ trivial ?_ (.none rfl) rfl | refine DC.tri (T.fieldPtr' 29 _ 1 fd29_1 (by decide)) ⟨rfl, trivial⟩ trivial ?_ (.none rfl) rfl); (first | refine DC.tri (T.loadRef 27 _ ag27 sz27 (by first | rfl | assumption)) ⟨rfl, trivial⟩ ⟨rfl, trivial⟩ ?_ (.none rfl) rfl | refine DC.tri (T.loadPtr 27 _ ag27 sz27 (by first | rfl | assumption)) ⟨rfl, trivial⟩ trivial ?_ (.none rfl) rfl | refine DC.tri (T.loadElp 27 _ ag27 sz27 (by first | rfl | assumption)) ⟨rfl, trivial⟩ ⟨rfl, trivial⟩ ?_ (.none rfl) rfl); (first | refine DC.tri (T.lenSl 27 _ un27) ⟨rfl, trivial⟩ trivial ?_ (.none rfl) rfl | refine DC.tri (T.lenOwn 27 _ un27) ⟨rfl, trivial⟩ trivial ?_ (.none rfl) rfl | refine DC.tri (T.lenNil 27 _ un27) ⟨rfl, trivial⟩ trivial ?_ (.none rfl) rfl); refine DC.tri (T.lss _ _ _ _) ⟨rfl, rfl, trivial⟩ trivial ?_ (.none rfl) rfl; refine DC.nilN (by first | (dsimp only [evalD, lkF, lkE, updF, Nat.beq, Nat.reduceBEq, cond_true, cond_false, List.cons_append, List.nil_append, List.append_nil, argF, Nat.reduceAdd, Nat.reduceMul, spliceD, List.take, List.drop, List.length, flats, Value.cells, List.map, List.set]; done) | exact rfl | fail) ?_)
          | (refine DW.regionC (id := 4) ?_; refine DC.tri (T.move _ _) ⟨rfl, trivial⟩ trivial ?_ (.none rfl) rfl; (first | refine DC.tri (T.add (k := .i64) _ _ _ _ (w64 (by omega) (by omega))) ⟨rfl, rfl, trivial⟩ trivial ?_ (.none rfl) rfl | refine DC.tri (T.add (k := .i64) _ _ _ _ (by assumption)) ⟨rfl, rfl, trivial⟩ trivial ?_ (.none rfl) rfl); refine DC.tri (T.assign _ _) ⟨rfl, trivial⟩ trivial ?_ (.none rfl) rfl; refine DC.nilN (by first | (dsimp only [evalD, lkF, lkE, updF, Nat.beq, Nat.reduceBEq, cond_true, cond_false, List.cons_append, List.nil_append, List.append_nil, argF, Nat.reduceAdd, Nat.reduceMul, spliceD, List.take, List.drop, List.length, flats, Value.cells, List.map, List.set]; done) | exact rfl | fail) ?_)
          | (refine DW.drawnC (id := 5) rfl (by kernel_rfl) ?_; (first | refine DC.tri (T.fieldRef' 39 _ 1 fd39_1 (by decide)) ⟨rfl, trivial⟩ trivial ?_ (.none rfl) rfl | refine DC.tri (T.fieldPtr' 39 _ 1 fd39_1 (by decide)) ⟨rfl, trivial⟩ trivial ?_ (.none rfl) rfl); (first | refine DC.tri (T.loadRef 37 _ ag37 sz37 (by first | rfl | assumption)) ⟨rfl, trivial⟩ ⟨rfl, trivial⟩ ?_ (.none rfl) rfl | refine DC.tri (T.loadPtr 37 _ ag37 sz37 (by first | rfl | assumption)) ⟨rfl, trivial⟩ trivial ?_ (.none rfl) rfl | refine DC.tri (T.loadElp 37 _ ag37 sz37 (by first | rfl | assumption)) ⟨rfl, trivial⟩ ⟨rfl, trivial⟩ ?_ (.none rfl) rfl); (first | refine DC.tri (T.fieldRef' 29 _ 1 fd29_1 (by decide)) ⟨rfl, trivial⟩ trivial ?_ (.none rfl) rfl | refine DC.tri (T.fieldPtr' 29 _ 1 fd29_1 (by decide)) ⟨rfl, trivial⟩ trivial ?_ (.none rfl) rfl); (first | refine DC.tri (T.loadRef 27 _ ag27 sz27 (by first | rfl | assumption)) ⟨rfl, trivial⟩ ⟨rfl, trivial⟩ ?_ (.none rfl) rfl | refine DC.tri (T.loadPtr 27 _ ag27 sz27 (by first | rfl | assumption)) ⟨rfl, trivial⟩ trivial ?_ (.none rfl) rfl | refine DC.tri (T.loadElp 27 _ ag27 sz27 (by first | rfl | assumption)) ⟨rfl, trivial⟩ ⟨rfl, trivial⟩ ?_ (.none rfl) rfl); refine DC.tri (T.move _ _) ⟨rfl, trivial⟩ trivial ?_ (.none rfl) rfl; (first | refine DC.tri (T.indexSl 27 _ _ un27 sz29 (by omega) (by omega) (by decide)) ⟨rfl, rfl, trivial⟩ trivial ?_ (.none rfl) rfl | refine DC.tri (T.indexOwn 27 _ _ un27 sz29 (by omega) (by omega)) ⟨rfl, rfl, trivial⟩ ⟨rfl, trivial⟩ ?_ (.none rfl) rfl); (first | refine DC.tri (T.loadRef 29 _ ag29 sz29 (by first | rfl | assumption)) ⟨rfl, trivial⟩ ⟨rfl, trivial⟩ ?_ (.none rfl) rfl | refine DC.tri (T.loadPtr 29 _ ag29 sz29 (by first | rfl | assumption)) ⟨rfl, trivial⟩ trivial ?_ (.none rfl) rfl | refine DC.tri (T.loadElp 29 _ ag29 sz29 (by first | rfl | assumption)) ⟨rfl, trivial⟩ ⟨rfl, trivial⟩ ?_ (.none rfl) rfl); refine DC.tri (T.call («as» := [_]) (ds' := [_]) ent17 ihk rfl rfl (LeL.refl _)) ⟨rfl, trivial⟩ trivial ?_ (.none rfl) rfl; refine DC.tri (T.buildSl1 37 _ un37 ze39 sz39 rfl rfl (by decide) rfl) ⟨rfl, trivial⟩ trivial ?_ (.none rfl) rfl; refine DC.tri (T.append 37 _ _ un37 nf39 rfl (by decide) (by decide) (by first | rfl | assumption | exact oneL_map (fun _ => rfl) _) (by omega)) ⟨rfl, rfl, trivial⟩ ⟨rfl, trivial⟩ ?_ (.none rfl) rfl; (first | refine DC.tri (T.fieldRef' 39 _ 1 fd39_1 (by decide)) ⟨rfl, trivial⟩ trivial ?_ (.none rfl) rfl | refine DC.tri (T.fieldPtr' 39 _ 1 fd39_1 (by decide)) ⟨rfl, trivial⟩ trivial ?_ (.none rfl) rfl); (first | refine DC.tri (T.storeRef 37 _ _ sz37 rfl rfl (by first | rfl | simp [oneL, oneD, Value.oneCell']) (by first | decide | (simp; done) | omega | (simp; omega))) ⟨rfl, rfl, trivial⟩ ⟨rfl, trivial⟩ ?_ (.none rfl) rfl | refine DC.tri (T.storeElp 37 _ _ sz37 rfl rfl rfl (by first | decide | (simp; done) | omega | (simp; omega))) ⟨rfl, rfl, trivial⟩ ⟨rfl, trivial⟩ ?_ (.none rfl) rfl); refine DC.nilN (by first | (dsimp only [evalD, lkF, lkE, updF, Nat.beq, Nat.reduceBEq, cond_true, cond_false, List.cons_append, List.nil_append, List.append_nil, argF, Nat.reduceAdd, Nat.reduceMul, spliceD, List.take, List.drop, List.length, flats, Value.cells, List.map, List.set]; done) | exact rfl | fail) ?_; refine ⟨by kernel_rfl, ?_⟩)
          | (refine DW.condT' rfl (by first | rfl | assumption | exact decide_eq_true (by first | assumption | omega) | exact decide_eq_false (by first | assumption | omega) | (simp only [*]; done) | fail) ?_)
          | (refine DW.condF' rfl (by first | rfl | assumption | exact decide_eq_true (by first | assumption | omega) | exact decide_eq_false (by first | assumption | omega) | (simp only [*]; done) | fail) ?_)
          | (refine DW.exit ?_)
          | (refine DW.ret ?_)
          | fail)
      refine ⟨i + 1, by omega, by omega, Sub.of ⟨⟨_, rfl, Vs.pers rfl, Vs.own rfl rfl, trivial⟩, ⟨_, rfl, VsL.eq (by rw [hkc]) (kidsC_pers _)⟩, ⟨_, rfl, VsL.pers rfl⟩, ⟨_, rfl, VsL.pers rfl⟩, trivial⟩ ⟨Vs.int (by simp), Vs.ref rfl, Vs.ref rfl, Vs.ref rfl, trivial⟩⟩
    · obtain rfl : i = l.length := by omega
      repeat (first
          | (refine DW.seq ?_)
          | (refine DW.block ?_)
          | (refine Thn.n ?_)
          | (refine Blk.n ?_)
          | (refine Blk.here ?_)
          | (refine Thn.e ?_)
          | (refine Blk.pass rfl ?_)
          | (refine Thn.r ?_)
          | (refine Blk.r ?_)
          | (refine DW.skip ?_)
          | (refine DW.label ?_)
          | (refine DW.regionC (id := 3) ?_; refine DC.tri (T.move _ _) ⟨rfl, trivial⟩ trivial ?_ (.none rfl) rfl; (first | refine DC.tri (T.fieldRef' 29 _ 1 fd29_1 (by decide)) ⟨rfl, trivial⟩ trivial ?_ (.none rfl) rfl | refine DC.tri (T.fieldPtr' 29 _ 1 fd29_1 (by decide)) ⟨rfl, trivial⟩ trivial ?_ (.none rfl) rfl); (first | refine DC.tri (T.loadRef 27 _ ag27 sz27 (by first | rfl | assumption)) ⟨rfl, trivial⟩ ⟨rfl, trivial⟩ ?_ (.none rfl) rfl | refine DC.tri (T.loadPtr 27 _ ag27 sz27 (by first | rfl | assumption)) ⟨rfl, trivial⟩ trivial ?_ (.none rfl) rfl | refine DC.tri (T.loadElp 27 _ ag27 sz27 (by first | rfl | assumption)) ⟨rfl, trivial⟩ ⟨rfl, trivial⟩ ?_ (.none rfl) rfl); (first | refine DC.tri (T.lenSl 27 _ un27) ⟨rfl, trivial⟩ trivial ?_ (.none rfl) rfl | refine DC.tri (T.lenOwn 27 _ un27) ⟨rfl, trivial⟩ trivial ?_ (.none rfl) rfl | refine DC.tri (T.lenNil 27 _ un27) ⟨rfl, trivial⟩ trivial ?_ (.none rfl) rfl); refine DC.tri (T.lss _ _ _ _) ⟨rfl, rfl, trivial⟩ trivial ?_ (.none rfl) rfl; refine DC.nilN (by first | (dsimp only [evalD, lkF, lkE, updF, Nat.beq, Nat.reduceBEq, cond_true, cond_false, List.cons_append, List.nil_append, List.append_nil, argF, Nat.reduceAdd, Nat.reduceMul, spliceD, List.take, List.drop, List.length, flats, Value.cells, List.map, List.set]; done) | exact rfl | fail) ?_)
          | (refine DW.regionC (id := 6) ?_; (first | refine DC.tri (T.loadRef 39 _ ag39 sz39 (by first | rfl | assumption)) ⟨rfl, trivial⟩ ⟨rfl, trivial⟩ ?_ (.none rfl) rfl | refine DC.tri (T.loadPtr 39 _ ag39 sz39 (by first | rfl | assumption)) ⟨rfl, trivial⟩ trivial ?_ (.none rfl) rfl | refine DC.tri (T.loadElp 39 _ ag39 sz39 (by first | rfl | assumption)) ⟨rfl, trivial⟩ ⟨rfl, trivial⟩ ?_ (.none rfl) rfl); (first | refine DC.tri (T.storeRef 39 _ _ sz39 rfl rfl (by first | rfl | simp [oneL, oneD, Value.oneCell']) (by first | decide | (simp; done) | omega | (simp; omega))) ⟨rfl, rfl, trivial⟩ ⟨rfl, trivial⟩ ?_ (.none rfl) rfl | refine DC.tri (T.storeElp 39 _ _ sz39 rfl rfl rfl (by first | decide | (simp; done) | omega | (simp; omega))) ⟨rfl, rfl, trivial⟩ ⟨rfl, trivial⟩ ?_ (.none rfl) rfl); refine DC.nilN (by first | (dsimp only [evalD, lkF, lkE, updF, Nat.beq, Nat.reduceBEq, cond_true, cond_false, List.cons_append, List.nil_append, List.append_nil, argF, Nat.reduceAdd, Nat.reduceMul, spliceD, List.take, List.drop, List.length, flats, Value.cells, List.map, List.set]; done) | exact rfl | fail) ?_)
          | (refine DW.condT' rfl (by first | rfl | assumption | exact decide_eq_true (by first | assumption | omega) | exact decide_eq_false (by first | assumption | omega) | (simp only [*]; done) | fail) ?_)
          | (refine DW.condF' rfl (by first | rfl | assumption | exact decide_eq_true (by first | assumption | omega) | exact decide_eq_false (by first | assumption | omega) | (simp only [*]; done) | fail) ?_)
          | (refine DW.exit ?_)
          | (refine DW.ret ?_)
          | fail)
      exact ⟨.inr rfl, ResOk.cellA [(103, some (.row 39 2 l.length (kidsC (l.take l.length))))] rfl rfl rfl ag39 sz39 ⟨rfl, trivial⟩ (.cons (Vw.pers rfl) (.cons (Vw.own (.head _) (VwL.pers (kidsC_pers _))) .nil)) (Le.of_eq (by rw [List.take_length]))⟩

theorem tree_d (t : Tr) (hs : TSm t) : DFun Try.prog 14 [treeD t] (boolD (treeB (depT t) t)) := fun M w vals hM hv => by
  obtain ⟨v, rfl, h1⟩ := repl1 hv
  obtain ⟨s, u, rfl, hin⟩ := tree_in hs h1
  exact ret_d (tree_any (depT t) s u t w hin)
theorem valid_d (r : List Int) (t : Tr) (hs : TSm t) : DFun Try.prog 35 [intsD r, treeD t] (.flat (.int .i64 (rightE (depT t) r t : Nat))) := fun M w vals hM hv => by
  obtain ⟨v, v2, rfl, h1, h2⟩ := repl2 hv
  obtain ⟨s, u, rfl, hin⟩ := tree_in hs h2
  exact ret_d (valid_any (depT t) s u v t r w hin ((ints_of_rep h1).mono (fun _ _ h => h.elim)))
theorem accepts_d (A : Au) (t : Tr) (hs : TSm t) : DFun Try.prog 22 [auD A, treeD t] (boolD (acceptsB (depT t) A t)) := fun M w vals hM hv => by
  obtain ⟨v, v2, rfl, h1, h2⟩ := repl2 hv
  obtain ⟨s, u, rfl, hin⟩ := tree_in hs h2
  obtain ⟨v1, v2, v3, rfl, h3⟩ := au_in0 h1
  exact ret_d (accepts_any (depT t) A s u v1 v2 v3 t w hin h3)
end Go.Proofs.Ytdakoccbmeojhaa
