/- Contracts over data: From, To, known. No condition. -/
import Derived.Test.YtdakoccbmeojhaaNc
import Derived.Test.YtdakoccbmeojhaaWj
set_option linter.unusedSimpArgs false
set_option linter.unusedVariables false
set_option maxHeartbeats 1000000
set_option maxRecDepth 8000
namespace Go.Proofs.Ytdakoccbmeojhaa
open Go Go.RowKit Go.PP Go.Dm

theorem ent16 : Enters Try.prog 16 := fun args w => by go_simp
theorem ent29 : Enters Try.prog 29 := fun args w => by go_simp
theorem ent15 : Enters Try.prog 15 := fun args w => by go_simp
theorem ent13 : Enters Try.prog 13 := fun args w => by go_simp
theorem ent34 : Enters Try.prog 34 := fun args w => by go_simp
theorem ent26 : Enters Try.prog 26 := fun args w => by go_simp

theorem from_d (A : Au) : DFun Try.prog 16 [auD A] (auD A) := by
  refine DFun.enter Try.func16 rfl Try.ntmps16 (by simp) ?_
  dsimp only [evalD, lkF, lkE, updF, Nat.beq, Nat.reduceBEq, cond_true, cond_false, List.cons_append, List.nil_append, List.append_nil, argF, Nat.reduceAdd, Nat.reduceMul, spliceD, List.take, List.drop, List.length, flats, Value.cells, List.map, List.set, Thn, Blk, if_true, if_false, reduceIte, Nat.reduceEqDiff]
  repeat (first
      | (refine DW.seq ?_)
      | (refine DW.block ?_)
      | (refine Thn.n ?_)
      | (refine Blk.n ?_)
      | (refine Blk.here ?_)
      | (refine Thn.e ?_)
      | (refine Blk.pass rfl ?_)
      | (refine Thn.r ?_)
      | (refine Blk.r ?_)
      | (refine DW.skip ?_)
      | (refine DW.label ?_)
      | (refine DW.regionC (id := 0) ?_; refine DC.tri (T.box 1 26 _ rfl) ⟨rfl, trivial⟩ ⟨rfl, trivial⟩ ?_ (.none rfl) rfl; refine DC.tri (T.alloc 2 35 ze35) trivial ⟨rfl, trivial⟩ ?_ (.none rfl) rfl; refine DC.nilN (by first | (dsimp only [evalD, lkF, lkE, updF, Nat.beq, Nat.reduceBEq, cond_true, cond_false, List.cons_append, List.nil_append, List.append_nil, argF, Nat.reduceAdd, Nat.reduceMul, spliceD, List.take, List.drop, List.length, flats, Value.cells, List.map, List.set]; done) | exact rfl | fail) ?_)
      | (refine DW.regionC (id := 1) ?_; (first | refine DC.tri (T.fieldRef' 26 _ 0 fd26_0 (by decide)) ⟨rfl, trivial⟩ trivial ?_ (.none rfl) rfl | refine DC.tri (T.fieldPtr' 26 _ 0 fd26_0 (by decide)) ⟨rfl, trivial⟩ trivial ?_ (.none rfl) rfl); (first | refine DC.tri (T.loadRef 22 _ ag22 sz22 (by first | rfl | assumption)) ⟨rfl, trivial⟩ ⟨rfl, trivial⟩ ?_ (.none rfl) rfl | refine DC.tri (T.loadPtr 22 _ ag22 sz22 (by first | rfl | assumption)) ⟨rfl, trivial⟩ trivial ?_ (.none rfl) rfl | refine DC.tri (T.loadElp 22 _ ag22 sz22 (by first | rfl | assumption)) ⟨rfl, trivial⟩ ⟨rfl, trivial⟩ ?_ (.none rfl) rfl); (first | refine DC.tri (T.fieldRef' 26 _ 1 fd26_1 (by decide)) ⟨rfl, trivial⟩ trivial ?_ (.none rfl) rfl | refine DC.tri (T.fieldPtr' 26 _ 1 fd26_1 (by decide)) ⟨rfl, trivial⟩ trivial ?_ (.none rfl) rfl); (first | refine DC.tri (T.loadRef 23 _ ag23 sz23 (by first | rfl | assumption)) ⟨rfl, trivial⟩ ⟨rfl, trivial⟩ ?_ (.none rfl) rfl | refine DC.tri (T.loadPtr 23 _ ag23 sz23 (by first | rfl | assumption)) ⟨rfl, trivial⟩ trivial ?_ (.none rfl) rfl | refine DC.tri (T.loadElp 23 _ ag23 sz23 (by first | rfl | assumption)) ⟨rfl, trivial⟩ ⟨rfl, trivial⟩ ?_ (.none rfl) rfl); (first | refine DC.tri (T.fieldRef' 26 _ 2 fd26_2 (by decide)) ⟨rfl, trivial⟩ trivial ?_ (.none rfl) rfl | refine DC.tri (T.fieldPtr' 26 _ 2 fd26_2 (by decide)) ⟨rfl, trivial⟩ trivial ?_ (.none rfl) rfl); (first | refine DC.tri (T.loadRef 24 _ ag24 sz24 (by first | rfl | assumption)) ⟨rfl, trivial⟩ ⟨rfl, trivial⟩ ?_ (.none rfl) rfl | refine DC.tri (T.loadPtr 24 _ ag24 sz24 (by first | rfl | assumption)) ⟨rfl, trivial⟩ trivial ?_ (.none rfl) rfl | refine DC.tri (T.loadElp 24 _ ag24 sz24 (by first | rfl | assumption)) ⟨rfl, trivial⟩ ⟨rfl, trivial⟩ ?_ (.none rfl) rfl); refine DC.tri (T.buildS3 35 _ _ _ Try.underlying35 ze35 (pl35 Try.underlying35) rfl) ⟨rfl, rfl, rfl, trivial⟩ trivial ?_ (.none rfl) rfl; (first | refine DC.tri (T.storeRef 35 _ _ sz35 rfl rfl (by first | rfl | simp [oneL, oneD, Value.oneCell']) (by first | decide | (simp; done) | omega | (simp; omega))) ⟨rfl, rfl, trivial⟩ ⟨rfl, trivial⟩ ?_ (.none rfl) rfl | refine DC.tri (T.storeElp 35 _ _ sz35 rfl rfl rfl (by first | decide | (simp; done) | omega | (simp; omega))) ⟨rfl, rfl, trivial⟩ ⟨rfl, trivial⟩ ?_ (.none rfl) rfl); refine DC.nilN (by first | (dsimp only [evalD, lkF, lkE, updF, Nat.beq, Nat.reduceBEq, cond_true, cond_false, List.cons_append, List.nil_append, List.append_nil, argF, Nat.reduceAdd, Nat.reduceMul, spliceD, List.take, List.drop, List.length, flats, Value.cells, List.map, List.set]; done) | exact rfl | fail) ?_)
      | (refine DW.condT' rfl (by first | rfl | assumption | exact decide_eq_true (by first | assumption | omega) | exact decide_eq_false (by first | assumption | omega) | (simp only [*]; done) | fail) ?_)
      | (refine DW.condF' rfl (by first | rfl | assumption | exact decide_eq_true (by first | assumption | omega) | exact decide_eq_false (by first | assumption | omega) | (simp only [*]; done) | fail) ?_)
      | (refine DW.exit ?_)
      | (refine DW.ret ?_)
      | fail)
  exact ⟨.inr rfl, ResOk.cellA [] rfl rfl rfl ag35 sz35 trivial (VwL.pers rfl) (Le.refl _)⟩
theorem to_d (A : Au) : DFun Try.prog 29 [auD A] (auD A) := by
  refine DFun.enter Try.func29 rfl Try.ntmps29 (by simp) ?_
  dsimp only [evalD, lkF, lkE, updF, Nat.beq, Nat.reduceBEq, cond_true, cond_false, List.cons_append, List.nil_append, List.append_nil, argF, Nat.reduceAdd, Nat.reduceMul, spliceD, List.take, List.drop, List.length, flats, Value.cells, List.map, List.set, Thn, Blk, if_true, if_false, reduceIte, Nat.reduceEqDiff]
  repeat (first
      | (refine DW.seq ?_)
      | (refine DW.block ?_)
      | (refine Thn.n ?_)
      | (refine Blk.n ?_)
      | (refine Blk.here ?_)
      | (refine Thn.e ?_)
      | (refine Blk.pass rfl ?_)
      | (refine Thn.r ?_)
      | (refine Blk.r ?_)
      | (refine DW.skip ?_)
      | (refine DW.label ?_)
      | (refine DW.regionC (id := 0) ?_; refine DC.tri (T.box 1 35 _ rfl) ⟨rfl, trivial⟩ ⟨rfl, trivial⟩ ?_ (.none rfl) rfl; refine DC.tri (T.alloc 2 26 ze26) trivial ⟨rfl, trivial⟩ ?_ (.none rfl) rfl; refine DC.nilN (by first | (dsimp only [evalD, lkF, lkE, updF, Nat.beq, Nat.reduceBEq, cond_true, cond_false, List.cons_append, List.nil_append, List.append_nil, argF, Nat.reduceAdd, Nat.reduceMul, spliceD, List.take, List.drop, List.length, flats, Value.cells, List.map, List.set]; done) | exact rfl | fail) ?_)
      | (refine DW.regionC (id := 1) ?_; (first | refine DC.tri (T.fieldRef' 35 _ 0 fd35_0 (by decide)) ⟨rfl, trivial⟩ trivial ?_ (.none rfl) rfl | refine DC.tri (T.fieldPtr' 35 _ 0 fd35_0 (by decide)) ⟨rfl, trivial⟩ trivial ?_ (.none rfl) rfl); (first | refine DC.tri (T.loadRef 33 _ ag33 sz33 (by first | rfl | assumption)) ⟨rfl, trivial⟩ ⟨rfl, trivial⟩ ?_ (.none rfl) rfl | refine DC.tri (T.loadPtr 33 _ ag33 sz33 (by first | rfl | assumption)) ⟨rfl, trivial⟩ trivial ?_ (.none rfl) rfl | refine DC.tri (T.loadElp 33 _ ag33 sz33 (by first | rfl | assumption)) ⟨rfl, trivial⟩ ⟨rfl, trivial⟩ ?_ (.none rfl) rfl); (first | refine DC.tri (T.fieldRef' 35 _ 1 fd35_1 (by decide)) ⟨rfl, trivial⟩ trivial ?_ (.none rfl) rfl | refine DC.tri (T.fieldPtr' 35 _ 1 fd35_1 (by decide)) ⟨rfl, trivial⟩ trivial ?_ (.none rfl) rfl); (first | refine DC.tri (T.loadRef 23 _ ag23 sz23 (by first | rfl | assumption)) ⟨rfl, trivial⟩ ⟨rfl, trivial⟩ ?_ (.none rfl) rfl | refine DC.tri (T.loadPtr 23 _ ag23 sz23 (by first | rfl | assumption)) ⟨rfl, trivial⟩ trivial ?_ (.none rfl) rfl | refine DC.tri (T.loadElp 23 _ ag23 sz23 (by first | rfl | assumption)) ⟨rfl, trivial⟩ ⟨rfl, trivial⟩ ?_ (.none rfl) rfl); (first | refine DC.tri (T.fieldRef' 35 _ 2 fd35_2 (by decide)) ⟨rfl, trivial⟩ trivial ?_ (.none rfl) rfl | refine DC.tri (T.fieldPtr' 35 _ 2 fd35_2 (by decide)) ⟨rfl, trivial⟩ trivial ?_ (.none rfl) rfl); (first | refine DC.tri (T.loadRef 24 _ ag24 sz24 (by first | rfl | assumption)) ⟨rfl, trivial⟩ ⟨rfl, trivial⟩ ?_ (.none rfl) rfl | refine DC.tri (T.loadPtr 24 _ ag24 sz24 (by first | rfl | assumption)) ⟨rfl, trivial⟩ trivial ?_ (.none rfl) rfl | refine DC.tri (T.loadElp 24 _ ag24 sz24 (by first | rfl | assumption)) ⟨rfl, trivial⟩ ⟨rfl, trivial⟩ ?_ (.none rfl) rfl); refine DC.tri (T.buildS3 26 _ _ _ Try.underlying26 ze26 (pl26 Try.underlying26) rfl) ⟨rfl, rfl, rfl, trivial⟩ trivial ?_ (.none rfl) rfl; (first | refine DC.tri (T.storeRef 26 _ _ sz26 rfl rfl (by first | rfl | simp [oneL, oneD, Value.oneCell']) (by first | decide | (simp; done) | omega | (simp; omega))) ⟨rfl, rfl, trivial⟩ ⟨rfl, trivial⟩ ?_ (.none rfl) rfl | refine DC.tri (T.storeElp 26 _ _ sz26 rfl rfl rfl (by first | decide | (simp; done) | omega | (simp; omega))) ⟨rfl, rfl, trivial⟩ ⟨rfl, trivial⟩ ?_ (.none rfl) rfl); refine DC.nilN (by first | (dsimp only [evalD, lkF, lkE, updF, Nat.beq, Nat.reduceBEq, cond_true, cond_false, List.cons_append, List.nil_append, List.append_nil, argF, Nat.reduceAdd, Nat.reduceMul, spliceD, List.take, List.drop, List.length, flats, Value.cells, List.map, List.set]; done) | exact rfl | fail) ?_)
      | (refine DW.condT' rfl (by first | rfl | assumption | exact decide_eq_true (by first | assumption | omega) | exact decide_eq_false (by first | assumption | omega) | (simp only [*]; done) | fail) ?_)
      | (refine DW.condF' rfl (by first | rfl | assumption | exact decide_eq_true (by first | assumption | omega) | exact decide_eq_false (by first | assumption | omega) | (simp only [*]; done) | fail) ?_)
      | (refine DW.exit ?_)
      | (refine DW.ret ?_)
      | fail)
  exact ⟨.inr rfl, ResOk.cellA [] rfl rfl rfl ag26 sz26 trivial (VwL.pers rfl) (Le.refl _)⟩
theorem known_d : DFun Try.prog 15 [] (boolD true) := fun M w vals hM hv => by
  simp only [RepL] at hv
  subst hv
  exact ret_d (known_any w)
end Go.Proofs.Ytdakoccbmeojhaa
