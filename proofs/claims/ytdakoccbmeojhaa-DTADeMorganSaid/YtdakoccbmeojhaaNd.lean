/- Contracts over data: the product of the document. No condition. -/
import Derived.Test.YtdakoccbmeojhaaNc
import Derived.Test.YtdakoccbmeojhaaWj
set_option linter.unusedSimpArgs false
set_option linter.unusedVariables false
set_option maxHeartbeats 1000000
set_option maxRecDepth 8000
namespace Go.Proofs.Ytdakoccbmeojhaa
open Go Go.RowKit Go.PP Go.Dm

theorem ent32 : Enters Try.prog 32 := fun args w => by go_simp
theorem ent21 : Enters Try.prog 21 := fun args w => by go_simp
theorem ent58 : Enters Try.prog 58 := fun args w => by go_simp

theorem digs_one {a : Nat} {p : Nat} (hp : p < wideN ((1 : Nat) : Int) a) : digs a 1 p = [(p : Int)] := by
  have h : p < a := by simpa [wideN] using hp
  simp [digs, Nat.mod_eq_of_lt h]
theorem digs_two {a : Nat} {p : Nat} (hp : p < wideN ((2 : Nat) : Int) a) : digs a 2 p = [(p : Int) / (a : Int), (p : Int) % (a : Int)] := by
  have h : p < a * a := by simpa [wideN, Nat.pow_succ] using hp
  simp [digs, Nat.mod_eq_of_lt (Nat.div_lt_of_lt_mul h)]

theorem pair_d (A B : Au) (wh : List Bool) (hw : wh.length = 4) : DFun Try.prog 32 [auD A, auD B, arrD wh] (.tup [auD (pairE A B wh).1, intD ((pairE A B wh).2 : Nat)]) := by
  refine DFun.enter Try.func32 rfl Try.ntmps32 (by simp) ?_
  dsimp only [evalD, lkF, lkE, updF, Nat.beq, cond_true, cond_false, List.cons_append, List.nil_append, List.append_nil, argF, Nat.reduceAdd, Nat.reduceMul, spliceD, List.take, List.drop, List.length, flats, Value.cells, List.map, List.set, Thn, Blk, if_true, if_false, reduceIte, Nat.reduceEqDiff]
  repeat (first
      | (refine DW.seq ?_)
      | (refine DW.block ?_)
      | (refine Thn.n ?_)
      | (refine Blk.n ?_)
      | (refine Blk.here ?_)
      | (refine Thn.e ?_)
      | (refine Blk.pass rfl ?_)
      | (refine Thn.r ?_)
      | (refine Blk.r ?_)
      | (refine DW.skip ?_)
      | (refine DW.label ?_)
      | (refine DW.regionC (id := 0) ?_; refine DC.tri (T.box 3 26 _ rfl) ⟨rfl, trivial⟩ ⟨rfl, trivial⟩ ?_ (.none rfl) rfl; refine DC.tri (T.box 4 26 _ rfl) ⟨rfl, trivial⟩ ⟨rfl, trivial⟩ ?_ (.none rfl) rfl; refine DC.tri (T.box 5 62 _ rfl) ⟨rfl, trivial⟩ ⟨rfl, trivial⟩ ?_ (.none rfl) rfl; refine DC.tri (T.alloc 6 26 ze26) trivial ⟨rfl, trivial⟩ ?_ (.none rfl) rfl; refine DC.tri (T.assign _ _) ⟨rfl, trivial⟩ trivial ?_ (.none rfl) rfl; refine DC.nilN (by first | (dsimp only [evalD, lkF, lkE, updF, Nat.beq, cond_true, cond_false, List.cons_append, List.nil_append, List.append_nil, argF, Nat.reduceAdd, Nat.reduceMul, spliceD, List.take, List.drop, List.length, flats, Value.cells, List.map, List.set]; done) | exact rfl | fail) ?_)
      | (refine DW.regionC (id := 1) ?_; (first | refine DC.tri (T.loadRef 26 _ ag26 sz26 (by first | rfl | assumption)) ⟨rfl, trivial⟩ ⟨rfl, trivial⟩ ?_ (.none rfl) rfl | refine DC.tri (T.loadPtr 26 _ ag26 sz26 (by first | rfl | assumption)) ⟨rfl, trivial⟩ trivial ?_ (.none rfl) rfl | refine DC.tri (T.loadElp 26 _ ag26 sz26 (by first | rfl | assumption)) ⟨rfl, trivial⟩ ⟨rfl, trivial⟩ ?_ (.none rfl) rfl); (first | refine DC.tri (T.call («as» := [_]) (ds' := [_]) ent21 (rcheck_d A) rfl rfl (LeL.refl _)) ⟨rfl, trivial⟩ trivial ?_ (.none rfl) rfl | refine DC.tri (T.call («as» := [_]) (ds' := [_]) ent21 (rcheck_d B) rfl rfl (LeL.refl _)) ⟨rfl, trivial⟩ trivial ?_ (.none rfl) rfl); refine DC.tri (T.assign _ _) ⟨rfl, trivial⟩ trivial ?_ (.none rfl) rfl; refine DC.nilN (by first | (dsimp only [evalD, lkF, lkE, updF, Nat.beq, cond_true, cond_false, List.cons_append, List.nil_append, List.append_nil, argF, Nat.reduceAdd, Nat.reduceMul, spliceD, List.take, List.drop, List.length, flats, Value.cells, List.map, List.set]; done) | exact rfl | fail) ?_)
      | (refine DW.condT' rfl (by first | rfl | assumption | exact decide_eq_true (by first | assumption | omega) | exact decide_eq_false (by first | assumption | omega) | (simp only [*]; done) | fail) ?_)
      | (refine DW.condF' rfl (by first | rfl | assumption | exact decide_eq_true (by first | assumption | omega) | exact decide_eq_false (by first | assumption | omega) | (simp only [*]; done) | fail) ?_)
      | (refine DW.exit ?_)
      | (refine DW.ret ?_)
      | fail)
  by_cases hk : chk A = 0
  rotate_left
  · have hne : ((chk A : Nat) : Int) ≠ 0 := by omega
    rw [pairE_a hk]
    repeat (first
        | (refine DW.seq ?_)
        | (refine DW.block ?_)
        | (refine Thn.n ?_)
        | (refine Blk.n ?_)
        | (refine Blk.here ?_)
        | (refine Thn.e ?_)
        | (refine Blk.pass rfl ?_)
        | (refine Thn.r ?_)
        | (refine Blk.r ?_)
        | (refine DW.skip ?_)
        | (refine DW.label ?_)
        | (refine DW.regionC (id := 2) ?_; refine DC.tri (T.move _ _) ⟨rfl, trivial⟩ trivial ?_ (.none rfl) rfl; refine DC.tri (T.neq _ _ _ _) ⟨rfl, rfl, trivial⟩ trivial ?_ (.none rfl) rfl; refine DC.nilN (by first | (dsimp only [evalD, lkF, lkE, updF, Nat.beq, cond_true, cond_false, List.cons_append, List.nil_append, List.append_nil, argF, Nat.reduceAdd, Nat.reduceMul, spliceD, List.take, List.drop, List.length, flats, Value.cells, List.map, List.set]; done) | exact rfl | fail) ?_)
        | (refine DW.regionC (id := 3) ?_; refine DC.tri (T.buildS0 26 Try.underlying26 ze26 (pl26 Try.underlying26)) trivial trivial ?_ (.none rfl) rfl; refine DC.tri (T.move _ _) ⟨rfl, trivial⟩ trivial ?_ (.none rfl) rfl; (first | refine DC.tri (T.storeRef 26 _ _ sz26 rfl rfl (by first | rfl | simp [oneL, oneD, Value.oneCell']) (by first | decide | (simp; done) | omega | (simp; omega))) ⟨rfl, rfl, trivial⟩ ⟨rfl, trivial⟩ ?_ (.none rfl) rfl | refine DC.tri (T.storeElp 26 _ _ sz26 rfl rfl rfl (by first | decide | (simp; done) | omega | (simp; omega))) ⟨rfl, rfl, trivial⟩ ⟨rfl, trivial⟩ ?_ (.none rfl) rfl); refine DC.tri (T.assign _ _) ⟨rfl, trivial⟩ trivial ?_ (.none rfl) rfl; refine DC.nilN (by first | (dsimp only [evalD, lkF, lkE, updF, Nat.beq, cond_true, cond_false, List.cons_append, List.nil_append, List.append_nil, argF, Nat.reduceAdd, Nat.reduceMul, spliceD, List.take, List.drop, List.length, flats, Value.cells, List.map, List.set]; done) | exact rfl | fail) ?_)
        | (refine DW.condT' rfl (by first | rfl | assumption | exact decide_eq_true (by first | assumption | omega) | exact decide_eq_false (by first | assumption | omega) | (simp only [*]; done) | fail) ?_)
        | (refine DW.condF' rfl (by first | rfl | assumption | exact decide_eq_true (by first | assumption | omega) | exact decide_eq_false (by first | assumption | omega) | (simp only [*]; done) | fail) ?_)
        | (refine DW.exit ?_)
        | (refine DW.ret ?_)
        | fail)
    exact ⟨.inr rfl, ResOk.cellTmpA [] rfl rfl rfl ag26 sz26 rfl trivial (.cons (Vw.p rfl Le.empty) (.cons (Vw.p rfl Le.empty) (.cons (Vw.p rfl Le.empty) .nil))) (Le.refl _) (Vw.pers rfl)⟩
  have hne : ¬ ((chk A : Nat) : Int) ≠ 0 := by omega
  repeat (first
      | (refine DW.seq ?_)
      | (refine DW.block ?_)
      | (refine Thn.n ?_)
      | (refine Blk.n ?_)
      | (refine Blk.here ?_)
      | (refine Thn.e ?_)
      | (refine Blk.pass rfl ?_)
      | (refine Thn.r ?_)
      | (refine Blk.r ?_)
      | (refine DW.skip ?_)
      | (refine DW.label ?_)
      | (refine DW.regionC (id := 2) ?_; refine DC.tri (T.move _ _) ⟨rfl, trivial⟩ trivial ?_ (.none rfl) rfl; refine DC.tri (T.neq _ _ _ _) ⟨rfl, rfl, trivial⟩ trivial ?_ (.none rfl) rfl; refine DC.nilN (by first | (dsimp only [evalD, lkF, lkE, updF, Nat.beq, cond_true, cond_false, List.cons_append, List.nil_append, List.append_nil, argF, Nat.reduceAdd, Nat.reduceMul, spliceD, List.take, List.drop, List.length, flats, Value.cells, List.map, List.set]; done) | exact rfl | fail) ?_)
      | (refine DW.regionC (id := 4) ?_; (first | refine DC.tri (T.loadRef 26 _ ag26 sz26 (by first | rfl | assumption)) ⟨rfl, trivial⟩ ⟨rfl, trivial⟩ ?_ (.none rfl) rfl | refine DC.tri (T.loadPtr 26 _ ag26 sz26 (by first | rfl | assumption)) ⟨rfl, trivial⟩ trivial ?_ (.none rfl) rfl | refine DC.tri (T.loadElp 26 _ ag26 sz26 (by first | rfl | assumption)) ⟨rfl, trivial⟩ ⟨rfl, trivial⟩ ?_ (.none rfl) rfl); refine DC.tri (T.call («as» := [_]) (ds' := [_]) ent21 (rcheck_d B) rfl rfl (LeL.refl _)) ⟨rfl, trivial⟩ trivial ?_ (.none rfl) rfl; refine DC.tri (T.assign _ _) ⟨rfl, trivial⟩ trivial ?_ (.none rfl) rfl; refine DC.nilN (by first | (dsimp only [evalD, lkF, lkE, updF, Nat.beq, cond_true, cond_false, List.cons_append, List.nil_append, List.append_nil, argF, Nat.reduceAdd, Nat.reduceMul, spliceD, List.take, List.drop, List.length, flats, Value.cells, List.map, List.set]; done) | exact rfl | fail) ?_)
      | (refine DW.condT' rfl (by first | rfl | assumption | exact decide_eq_true (by first | assumption | omega) | exact decide_eq_false (by first | assumption | omega) | (simp only [*]; done) | fail) ?_)
      | (refine DW.condF' rfl (by first | rfl | assumption | exact decide_eq_true (by first | assumption | omega) | exact decide_eq_false (by first | assumption | omega) | (simp only [*]; done) | fail) ?_)
      | (refine DW.exit ?_)
      | (refine DW.ret ?_)
      | fail)
  by_cases hk2 : chk B = 0
  rotate_left
  · have hne : ((chk B : Nat) : Int) ≠ 0 := by omega
    rw [pairE_b hk hk2]
    repeat (first
        | (refine DW.seq ?_)
        | (refine DW.block ?_)
        | (refine Thn.n ?_)
        | (refine Blk.n ?_)
        | (refine Blk.here ?_)
        | (refine Thn.e ?_)
        | (refine Blk.pass rfl ?_)
        | (refine Thn.r ?_)
        | (refine Blk.r ?_)
        | (refine DW.skip ?_)
        | (refine DW.label ?_)
        | (refine DW.regionC (id := 5) ?_; refine DC.tri (T.move _ _) ⟨rfl, trivial⟩ trivial ?_ (.none rfl) rfl; refine DC.tri (T.neq _ _ _ _) ⟨rfl, rfl, trivial⟩ trivial ?_ (.none rfl) rfl; refine DC.nilN (by first | (dsimp only [evalD, lkF, lkE, updF, Nat.beq, cond_true, cond_false, List.cons_append, List.nil_append, List.append_nil, argF, Nat.reduceAdd, Nat.reduceMul, spliceD, List.take, List.drop, List.length, flats, Value.cells, List.map, List.set]; done) | exact rfl | fail) ?_)
        | (refine DW.regionC (id := 6) ?_; refine DC.tri (T.buildS0 26 Try.underlying26 ze26 (pl26 Try.underlying26)) trivial trivial ?_ (.none rfl) rfl; refine DC.tri (T.move _ _) ⟨rfl, trivial⟩ trivial ?_ (.none rfl) rfl; (first | refine DC.tri (T.storeRef 26 _ _ sz26 rfl rfl (by first | rfl | simp [oneL, oneD, Value.oneCell']) (by first | decide | (simp; done) | omega | (simp; omega))) ⟨rfl, rfl, trivial⟩ ⟨rfl, trivial⟩ ?_ (.none rfl) rfl | refine DC.tri (T.storeElp 26 _ _ sz26 rfl rfl rfl (by first | decide | (simp; done) | omega | (simp; omega))) ⟨rfl, rfl, trivial⟩ ⟨rfl, trivial⟩ ?_ (.none rfl) rfl); refine DC.tri (T.assign _ _) ⟨rfl, trivial⟩ trivial ?_ (.none rfl) rfl; refine DC.nilN (by first | (dsimp only [evalD, lkF, lkE, updF, Nat.beq, cond_true, cond_false, List.cons_append, List.nil_append, List.append_nil, argF, Nat.reduceAdd, Nat.reduceMul, spliceD, List.take, List.drop, List.length, flats, Value.cells, List.map, List.set]; done) | exact rfl | fail) ?_)
        | (refine DW.condT' rfl (by first | rfl | assumption | exact decide_eq_true (by first | assumption | omega) | exact decide_eq_false (by first | assumption | omega) | (simp only [*]; done) | fail) ?_)
        | (refine DW.condF' rfl (by first | rfl | assumption | exact decide_eq_true (by first | assumption | omega) | exact decide_eq_false (by first | assumption | omega) | (simp only [*]; done) | fail) ?_)
        | (refine DW.exit ?_)
        | (refine DW.ret ?_)
        | fail)
    exact ⟨.inr rfl, ResOk.cellTmpA [] rfl rfl rfl ag26 sz26 rfl trivial (.cons (Vw.p rfl Le.empty) (.cons (Vw.p rfl Le.empty) (.cons (Vw.p rfl Le.empty) .nil))) (Le.refl _) (Vw.pers rfl)⟩
  have hne2 : ¬ ((chk B : Nat) : Int) ≠ 0 := by omega
  by_cases hr : A.ranks = B.ranks
  rotate_left
  · have heq : DFun Try.prog 58 [intsD A.ranks, intsD B.ranks] (boolD false) := by simpa [hr] using eqR_d A.ranks B.ranks
    rw [pairE_k hk hk2 hr]
    repeat (first
        | (refine DW.seq ?_)
        | (refine DW.block ?_)
        | (refine Thn.n ?_)
        | (refine Blk.n ?_)
        | (refine Blk.here ?_)
        | (refine Thn.e ?_)
        | (refine Blk.pass rfl ?_)
        | (refine Thn.r ?_)
        | (refine Blk.r ?_)
        | (refine DW.skip ?_)
        | (refine DW.label ?_)
        | (refine DW.regionC (id := 5) ?_; refine DC.tri (T.move _ _) ⟨rfl, trivial⟩ trivial ?_ (.none rfl) rfl; refine DC.tri (T.neq _ _ _ _) ⟨rfl, rfl, trivial⟩ trivial ?_ (.none rfl) rfl; refine DC.nilN (by first | (dsimp only [evalD, lkF, lkE, updF, Nat.beq, cond_true, cond_false, List.cons_append, List.nil_append, List.append_nil, argF, Nat.reduceAdd, Nat.reduceMul, spliceD, List.take, List.drop, List.length, flats, Value.cells, List.map, List.set]; done) | exact rfl | fail) ?_)
        | (refine DW.regionC (id := 7) ?_; (first | refine DC.tri (T.fieldRef' 26 _ 0 fd26_0 (by decide)) ⟨rfl, trivial⟩ trivial ?_ (.none rfl) rfl | refine DC.tri (T.fieldPtr' 26 _ 0 fd26_0 (by decide)) ⟨rfl, trivial⟩ trivial ?_ (.none rfl) rfl); (first | refine DC.tri (T.loadRef 22 _ ag22 sz22 (by first | rfl | assumption)) ⟨rfl, trivial⟩ ⟨rfl, trivial⟩ ?_ (.none rfl) rfl | refine DC.tri (T.loadPtr 22 _ ag22 sz22 (by first | rfl | assumption)) ⟨rfl, trivial⟩ trivial ?_ (.none rfl) rfl | refine DC.tri (T.loadElp 22 _ ag22 sz22 (by first | rfl | assumption)) ⟨rfl, trivial⟩ ⟨rfl, trivial⟩ ?_ (.none rfl) rfl); (first | refine DC.tri (T.fieldRef' 26 _ 0 fd26_0 (by decide)) ⟨rfl, trivial⟩ trivial ?_ (.none rfl) rfl | refine DC.tri (T.fieldPtr' 26 _ 0 fd26_0 (by decide)) ⟨rfl, trivial⟩ trivial ?_ (.none rfl) rfl); (first | refine DC.tri (T.loadRef 22 _ ag22 sz22 (by first | rfl | assumption)) ⟨rfl, trivial⟩ ⟨rfl, trivial⟩ ?_ (.none rfl) rfl | refine DC.tri (T.loadPtr 22 _ ag22 sz22 (by first | rfl | assumption)) ⟨rfl, trivial⟩ trivial ?_ (.none rfl) rfl | refine DC.tri (T.loadElp 22 _ ag22 sz22 (by first | rfl | assumption)) ⟨rfl, trivial⟩ ⟨rfl, trivial⟩ ?_ (.none rfl) rfl); refine DC.tri (T.call («as» := [_, _]) (ds' := [_, _]) ent58 heq rfl rfl (LeL.refl _)) ⟨rfl, rfl, trivial⟩ trivial ?_ (.none rfl) rfl; refine DC.tri (T.not _ _) ⟨rfl, trivial⟩ trivial ?_ (.none rfl) rfl; refine DC.nilN (by first | (dsimp only [evalD, lkF, lkE, updF, Nat.beq, cond_true, cond_false, List.cons_append, List.nil_append, List.append_nil, argF, Nat.reduceAdd, Nat.reduceMul, spliceD, List.take, List.drop, List.length, flats, Value.cells, List.map, List.set]; done) | exact rfl | fail) ?_)
        | (refine DW.regionC (id := 8) ?_; refine DC.tri (T.buildS0 26 Try.underlying26 ze26 (pl26 Try.underlying26)) trivial trivial ?_ (.none rfl) rfl; (first | refine DC.tri (T.storeRef 26 _ _ sz26 rfl rfl (by first | rfl | simp [oneL, oneD, Value.oneCell']) (by first | decide | (simp; done) | omega | (simp; omega))) ⟨rfl, rfl, trivial⟩ ⟨rfl, trivial⟩ ?_ (.none rfl) rfl | refine DC.tri (T.storeElp 26 _ _ sz26 rfl rfl rfl (by first | decide | (simp; done) | omega | (simp; omega))) ⟨rfl, rfl, trivial⟩ ⟨rfl, trivial⟩ ?_ (.none rfl) rfl); refine DC.tri (T.assign _ _) ⟨rfl, trivial⟩ trivial ?_ (.none rfl) rfl; refine DC.nilN (by first | (dsimp only [evalD, lkF, lkE, updF, Nat.beq, cond_true, cond_false, List.cons_append, List.nil_append, List.append_nil, argF, Nat.reduceAdd, Nat.reduceMul, spliceD, List.take, List.drop, List.length, flats, Value.cells, List.map, List.set]; done) | exact rfl | fail) ?_)
        | (refine DW.condT' rfl (by first | rfl | assumption | exact decide_eq_true (by first | assumption | omega) | exact decide_eq_false (by first | assumption | omega) | (simp only [*]; done) | fail) ?_)
        | (refine DW.condF' rfl (by first | rfl | assumption | exact decide_eq_true (by first | assumption | omega) | exact decide_eq_false (by first | assumption | omega) | (simp only [*]; done) | fail) ?_)
        | (refine DW.exit ?_)
        | (refine DW.ret ?_)
        | fail)
    exact ⟨.inr rfl, ResOk.cellTmpA [] rfl rfl rfl ag26 sz26 rfl trivial (.cons (Vw.p rfl Le.empty) (.cons (Vw.p rfl Le.empty) (.cons (Vw.p rfl Le.empty) .nil))) (Le.refl _) (Vw.pers rfl)⟩
  have hA := chk_ok hk
  have hB := chk_ok hk2
  have ha1 := hA.lo
  have ha2 := hA.hi
  have hb1 := hB.lo
  have hb2 := hB.hi
  have hrl := hA.alpha.hi
  have heq : DFun Try.prog 58 [intsD A.ranks, intsD B.ranks] (boolD true) := by simpa [hr] using eqR_d A.ranks B.ranks
  have hmul : A.final.length * B.final.length ≤ 512 * 512 := Nat.mul_le_mul ha2 hb2
  have hmi : ((A.final.length * B.final.length : Nat) : Int) = (A.final.length : Int) * (B.final.length : Int) := Int.natCast_mul _ _
  have hmi2 : (A.final.length : Int) * (B.final.length : Int) ≤ 262144 ∧ 0 ≤ (A.final.length : Int) * (B.final.length : Int) := by rw [← hmi]; omega
  by_cases h4 : A.final.length * B.final.length ≤ 512
  rotate_left
  · have h5 : 512 < (A.final.length : Int) * (B.final.length : Int) := by rw [← hmi]; omega
    rw [pairE_l hk hk2 hr (by omega)]
    repeat (first
        | (refine DW.seq ?_)
        | (refine DW.block ?_)
        | (refine Thn.n ?_)
        | (refine Blk.n ?_)
        | (refine Blk.here ?_)
        | (refine Thn.e ?_)
        | (refine Blk.pass rfl ?_)
        | (refine Thn.r ?_)
        | (refine Blk.r ?_)
        | (refine DW.skip ?_)
        | (refine DW.label ?_)
        | (refine DW.regionC (id := 5) ?_; refine DC.tri (T.move _ _) ⟨rfl, trivial⟩ trivial ?_ (.none rfl) rfl; refine DC.tri (T.neq _ _ _ _) ⟨rfl, rfl, trivial⟩ trivial ?_ (.none rfl) rfl; refine DC.nilN (by first | (dsimp only [evalD, lkF, lkE, updF, Nat.beq, cond_true, cond_false, List.cons_append, List.nil_append, List.append_nil, argF, Nat.reduceAdd, Nat.reduceMul, spliceD, List.take, List.drop, List.length, flats, Value.cells, List.map, List.set]; done) | exact rfl | fail) ?_)
        | (refine DW.regionC (id := 7) ?_; (first | refine DC.tri (T.fieldRef' 26 _ 0 fd26_0 (by decide)) ⟨rfl, trivial⟩ trivial ?_ (.none rfl) rfl | refine DC.tri (T.fieldPtr' 26 _ 0 fd26_0 (by decide)) ⟨rfl, trivial⟩ trivial ?_ (.none rfl) rfl); (first | refine DC.tri (T.loadRef 22 _ ag22 sz22 (by first | rfl | assumption)) ⟨rfl, trivial⟩ ⟨rfl, trivial⟩ ?_ (.none rfl) rfl | refine DC.tri (T.loadPtr 22 _ ag22 sz22 (by first | rfl | assumption)) ⟨rfl, trivial⟩ trivial ?_ (.none rfl) rfl | refine DC.tri (T.loadElp 22 _ ag22 sz22 (by first | rfl | assumption)) ⟨rfl, trivial⟩ ⟨rfl, trivial⟩ ?_ (.none rfl) rfl); (first | refine DC.tri (T.fieldRef' 26 _ 0 fd26_0 (by decide)) ⟨rfl, trivial⟩ trivial ?_ (.none rfl) rfl | refine DC.tri (T.fieldPtr' 26 _ 0 fd26_0 (by decide)) ⟨rfl, trivial⟩ trivial ?_ (.none rfl) rfl); (first | refine DC.tri (T.loadRef 22 _ ag22 sz22 (by first | rfl | assumption)) ⟨rfl, trivial⟩ ⟨rfl, trivial⟩ ?_ (.none rfl) rfl | refine DC.tri (T.loadPtr 22 _ ag22 sz22 (by first | rfl | assumption)) ⟨rfl, trivial⟩ trivial ?_ (.none rfl) rfl | refine DC.tri (T.loadElp 22 _ ag22 sz22 (by first | rfl | assumption)) ⟨rfl, trivial⟩ ⟨rfl, trivial⟩ ?_ (.none rfl) rfl); refine DC.tri (T.call («as» := [_, _]) (ds' := [_, _]) ent58 heq rfl rfl (LeL.refl _)) ⟨rfl, rfl, trivial⟩ trivial ?_ (.none rfl) rfl; refine DC.tri (T.not _ _) ⟨rfl, trivial⟩ trivial ?_ (.none rfl) rfl; refine DC.nilN (by first | (dsimp only [evalD, lkF, lkE, updF, Nat.beq, cond_true, cond_false, List.cons_append, List.nil_append, List.append_nil, argF, Nat.reduceAdd, Nat.reduceMul, spliceD, List.take, List.drop, List.length, flats, Value.cells, List.map, List.set]; done) | exact rfl | fail) ?_)
        | (refine DW.drawnC (id := 9) rfl (by kernel_rfl) ?_; (first | refine DC.tri (T.fieldRef' 26 _ 1 fd26_1 (by decide)) ⟨rfl, trivial⟩ trivial ?_ (.none rfl) rfl | refine DC.tri (T.fieldPtr' 26 _ 1 fd26_1 (by decide)) ⟨rfl, trivial⟩ trivial ?_ (.none rfl) rfl); (first | refine DC.tri (T.loadRef 23 _ ag23 sz23 (by first | rfl | assumption)) ⟨rfl, trivial⟩ ⟨rfl, trivial⟩ ?_ (.none rfl) rfl | refine DC.tri (T.loadPtr 23 _ ag23 sz23 (by first | rfl | assumption)) ⟨rfl, trivial⟩ trivial ?_ (.none rfl) rfl | refine DC.tri (T.loadElp 23 _ ag23 sz23 (by first | rfl | assumption)) ⟨rfl, trivial⟩ ⟨rfl, trivial⟩ ?_ (.none rfl) rfl); (first | refine DC.tri (T.lenSl 23 _ un23) ⟨rfl, trivial⟩ trivial ?_ (.none rfl) rfl | refine DC.tri (T.lenOwn 23 _ un23) ⟨rfl, trivial⟩ trivial ?_ (.none rfl) rfl | refine DC.tri (T.lenNil 23 _ un23) ⟨rfl, trivial⟩ trivial ?_ (.none rfl) rfl); (first | refine DC.tri (T.fieldRef' 26 _ 1 fd26_1 (by decide)) ⟨rfl, trivial⟩ trivial ?_ (.none rfl) rfl | refine DC.tri (T.fieldPtr' 26 _ 1 fd26_1 (by decide)) ⟨rfl, trivial⟩ trivial ?_ (.none rfl) rfl); (first | refine DC.tri (T.loadRef 23 _ ag23 sz23 (by first | rfl | assumption)) ⟨rfl, trivial⟩ ⟨rfl, trivial⟩ ?_ (.none rfl) rfl | refine DC.tri (T.loadPtr 23 _ ag23 sz23 (by first | rfl | assumption)) ⟨rfl, trivial⟩ trivial ?_ (.none rfl) rfl | refine DC.tri (T.loadElp 23 _ ag23 sz23 (by first | rfl | assumption)) ⟨rfl, trivial⟩ ⟨rfl, trivial⟩ ?_ (.none rfl) rfl); (first | refine DC.tri (T.lenSl 23 _ un23) ⟨rfl, trivial⟩ trivial ?_ (.none rfl) rfl | refine DC.tri (T.lenOwn 23 _ un23) ⟨rfl, trivial⟩ trivial ?_ (.none rfl) rfl | refine DC.tri (T.lenNil 23 _ un23) ⟨rfl, trivial⟩ trivial ?_ (.none rfl) rfl); refine DC.tri (T.assign _ _) ⟨rfl, trivial⟩ trivial ?_ (.none rfl) rfl; refine DC.tri (T.assign _ _) ⟨rfl, trivial⟩ trivial ?_ (.none rfl) rfl; refine DC.nilN (by first | (dsimp only [evalD, lkF, lkE, updF, Nat.beq, cond_true, cond_false, List.cons_append, List.nil_append, List.append_nil, argF, Nat.reduceAdd, Nat.reduceMul, spliceD, List.take, List.drop, List.length, flats, Value.cells, List.map, List.set]; done) | exact rfl | fail) ?_; refine ⟨by kernel_rfl, ?_⟩)
        | (refine DW.regionC (id := 10) ?_; refine DC.tri (T.move _ _) ⟨rfl, trivial⟩ trivial ?_ (.none rfl) rfl; refine DC.tri (T.move _ _) ⟨rfl, trivial⟩ trivial ?_ (.none rfl) rfl; (first | refine DC.tri (T.mul (k := .i64) _ _ _ _ (w64 (by omega) (by omega))) ⟨rfl, rfl, trivial⟩ trivial ?_ (.none rfl) rfl | refine DC.tri (T.mul (k := .i64) _ _ _ _ (by assumption)) ⟨rfl, rfl, trivial⟩ trivial ?_ (.none rfl) rfl); refine DC.tri (T.gtr _ _ _ _) ⟨rfl, rfl, trivial⟩ trivial ?_ (.none rfl) rfl; refine DC.nilN (by first | (dsimp only [evalD, lkF, lkE, updF, Nat.beq, cond_true, cond_false, List.cons_append, List.nil_append, List.append_nil, argF, Nat.reduceAdd, Nat.reduceMul, spliceD, List.take, List.drop, List.length, flats, Value.cells, List.map, List.set]; done) | exact rfl | fail) ?_)
        | (refine DW.regionC (id := 11) ?_; refine DC.tri (T.buildS0 26 Try.underlying26 ze26 (pl26 Try.underlying26)) trivial trivial ?_ (.none rfl) rfl; (first | refine DC.tri (T.storeRef 26 _ _ sz26 rfl rfl (by first | rfl | simp [oneL, oneD, Value.oneCell']) (by first | decide | (simp; done) | omega | (simp; omega))) ⟨rfl, rfl, trivial⟩ ⟨rfl, trivial⟩ ?_ (.none rfl) rfl | refine DC.tri (T.storeElp 26 _ _ sz26 rfl rfl rfl (by first | decide | (simp; done) | omega | (simp; omega))) ⟨rfl, rfl, trivial⟩ ⟨rfl, trivial⟩ ?_ (.none rfl) rfl); refine DC.tri (T.assign _ _) ⟨rfl, trivial⟩ trivial ?_ (.none rfl) rfl; refine DC.nilN (by first | (dsimp only [evalD, lkF, lkE, updF, Nat.beq, cond_true, cond_false, List.cons_append, List.nil_append, List.append_nil, argF, Nat.reduceAdd, Nat.reduceMul, spliceD, List.take, List.drop, List.length, flats, Value.cells, List.map, List.set]; done) | exact rfl | fail) ?_)
        | (refine DW.condT' rfl (by first | rfl | assumption | exact decide_eq_true (by first | assumption | omega) | exact decide_eq_false (by first | assumption | omega) | (simp only [*]; done) | fail) ?_)
        | (refine DW.condF' rfl (by first | rfl | assumption | exact decide_eq_true (by first | assumption | omega) | exact decide_eq_false (by first | assumption | omega) | (simp only [*]; done) | fail) ?_)
        | (refine DW.exit ?_)
        | (refine DW.ret ?_)
        | fail)
    exact ⟨.inr rfl, ResOk.cellTmpA [] rfl rfl rfl ag26 sz26 rfl trivial (.cons (Vw.p rfl Le.empty) (.cons (Vw.p rfl Le.empty) (.cons (Vw.p rfl Le.empty) .nil))) (Le.refl _) (Vw.pers rfl)⟩
  have h5 : ¬ 512 < (A.final.length : Int) * (B.final.length : Int) := by rw [← hmi]; omega
  rw [pairE_ok hk hk2 hr h4]
  repeat (first
      | (refine DW.seq ?_)
      | (refine DW.block ?_)
      | (refine Thn.n ?_)
      | (refine Blk.n ?_)
      | (refine Blk.here ?_)
      | (refine Thn.e ?_)
      | (refine Blk.pass rfl ?_)
      | (refine Thn.r ?_)
      | (refine Blk.r ?_)
      | (refine DW.skip ?_)
      | (refine DW.label ?_)
      | (refine DW.regionC (id := 5) ?_; refine DC.tri (T.move _ _) ⟨rfl, trivial⟩ trivial ?_ (.none rfl) rfl; refine DC.tri (T.neq _ _ _ _) ⟨rfl, rfl, trivial⟩ trivial ?_ (.none rfl) rfl; refine DC.nilN (by first | (dsimp only [evalD, lkF, lkE, updF, Nat.beq, cond_true, cond_false, List.cons_append, List.nil_append, List.append_nil, argF, Nat.reduceAdd, Nat.reduceMul, spliceD, List.take, List.drop, List.length, flats, Value.cells, List.map, List.set]; done) | exact rfl | fail) ?_)
      | (refine DW.regionC (id := 7) ?_; (first | refine DC.tri (T.fieldRef' 26 _ 0 fd26_0 (by decide)) ⟨rfl, trivial⟩ trivial ?_ (.none rfl) rfl | refine DC.tri (T.fieldPtr' 26 _ 0 fd26_0 (by decide)) ⟨rfl, trivial⟩ trivial ?_ (.none rfl) rfl); (first | refine DC.tri (T.loadRef 22 _ ag22 sz22 (by first | rfl | assumption)) ⟨rfl, trivial⟩ ⟨rfl, trivial⟩ ?_ (.none rfl) rfl | refine DC.tri (T.loadPtr 22 _ ag22 sz22 (by first | rfl | assumption)) ⟨rfl, trivial⟩ trivial ?_ (.none rfl) rfl | refine DC.tri (T.loadElp 22 _ ag22 sz22 (by first | rfl | assumption)) ⟨rfl, trivial⟩ ⟨rfl, trivial⟩ ?_ (.none rfl) rfl); (first | refine DC.tri (T.fieldRef' 26 _ 0 fd26_0 (by decide)) ⟨rfl, trivial⟩ trivial ?_ (.none rfl) rfl | refine DC.tri (T.fieldPtr' 26 _ 0 fd26_0 (by decide)) ⟨rfl, trivial⟩ trivial ?_ (.none rfl) rfl); (first | refine DC.tri (T.loadRef 22 _ ag22 sz22 (by first | rfl | assumption)) ⟨rfl, trivial⟩ ⟨rfl, trivial⟩ ?_ (.none rfl) rfl | refine DC.tri (T.loadPtr 22 _ ag22 sz22 (by first | rfl | assumption)) ⟨rfl, trivial⟩ trivial ?_ (.none rfl) rfl | refine DC.tri (T.loadElp 22 _ ag22 sz22 (by first | rfl | assumption)) ⟨rfl, trivial⟩ ⟨rfl, trivial⟩ ?_ (.none rfl) rfl); refine DC.tri (T.call («as» := [_, _]) (ds' := [_, _]) ent58 heq rfl rfl (LeL.refl _)) ⟨rfl, rfl, trivial⟩ trivial ?_ (.none rfl) rfl; refine DC.tri (T.not _ _) ⟨rfl, trivial⟩ trivial ?_ (.none rfl) rfl; refine DC.nilN (by first | (dsimp only [evalD, lkF, lkE, updF, Nat.beq, cond_true, cond_false, List.cons_append, List.nil_append, List.append_nil, argF, Nat.reduceAdd, Nat.reduceMul, spliceD, List.take, List.drop, List.length, flats, Value.cells, List.map, List.set]; done) | exact rfl | fail) ?_)
      | (refine DW.drawnC (id := 9) rfl (by kernel_rfl) ?_; (first | refine DC.tri (T.fieldRef' 26 _ 1 fd26_1 (by decide)) ⟨rfl, trivial⟩ trivial ?_ (.none rfl) rfl | refine DC.tri (T.fieldPtr' 26 _ 1 fd26_1 (by decide)) ⟨rfl, trivial⟩ trivial ?_ (.none rfl) rfl); (first | refine DC.tri (T.loadRef 23 _ ag23 sz23 (by first | rfl | assumption)) ⟨rfl, trivial⟩ ⟨rfl, trivial⟩ ?_ (.none rfl) rfl | refine DC.tri (T.loadPtr 23 _ ag23 sz23 (by first | rfl | assumption)) ⟨rfl, trivial⟩ trivial ?_ (.none rfl) rfl | refine DC.tri (T.loadElp 23 _ ag23 sz23 (by first | rfl | assumption)) ⟨rfl, trivial⟩ ⟨rfl, trivial⟩ ?_ (.none rfl) rfl); (first | refine DC.tri (T.lenSl 23 _ un23) ⟨rfl, trivial⟩ trivial ?_ (.none rfl) rfl | refine DC.tri (T.lenOwn 23 _ un23) ⟨rfl, trivial⟩ trivial ?_ (.none rfl) rfl | refine DC.tri (T.lenNil 23 _ un23) ⟨rfl, trivial⟩ trivial ?_ (.none rfl) rfl); (first | refine DC.tri (T.fieldRef' 26 _ 1 fd26_1 (by decide)) ⟨rfl, trivial⟩ trivial ?_ (.none rfl) rfl | refine DC.tri (T.fieldPtr' 26 _ 1 fd26_1 (by decide)) ⟨rfl, trivial⟩ trivial ?_ (.none rfl) rfl); (first | refine DC.tri (T.loadRef 23 _ ag23 sz23 (by first | rfl | assumption)) ⟨rfl, trivial⟩ ⟨rfl, trivial⟩ ?_ (.none rfl) rfl | refine DC.tri (T.loadPtr 23 _ ag23 sz23 (by first | rfl | assumption)) ⟨rfl, trivial⟩ trivial ?_ (.none rfl) rfl | refine DC.tri (T.loadElp 23 _ ag23 sz23 (by first | rfl | assumption)) ⟨rfl, trivial⟩ ⟨rfl, trivial⟩ ?_ (.none rfl) rfl); (first | refine DC.tri (T.lenSl 23 _ un23) ⟨rfl, trivial⟩ trivial ?_ (.none rfl) rfl | refine DC.tri (T.lenOwn 23 _ un23) ⟨rfl, trivial⟩ trivial ?_ (.none rfl) rfl | refine DC.tri (T.lenNil 23 _ un23) ⟨rfl, trivial⟩ trivial ?_ (.none rfl) rfl); refine DC.tri (T.assign _ _) ⟨rfl, trivial⟩ trivial ?_ (.none rfl) rfl; refine DC.tri (T.assign _ _) ⟨rfl, trivial⟩ trivial ?_ (.none rfl) rfl; refine DC.nilN (by first | (dsimp only [evalD, lkF, lkE, updF, Nat.beq, cond_true, cond_false, List.cons_append, List.nil_append, List.append_nil, argF, Nat.reduceAdd, Nat.reduceMul, spliceD, List.take, List.drop, List.length, flats, Value.cells, List.map, List.set]; done) | exact rfl | fail) ?_; refine ⟨by kernel_rfl, ?_⟩)
      | (refine DW.regionC (id := 10) ?_; refine DC.tri (T.move _ _) ⟨rfl, trivial⟩ trivial ?_ (.none rfl) rfl; refine DC.tri (T.move _ _) ⟨rfl, trivial⟩ trivial ?_ (.none rfl) rfl; (first | refine DC.tri (T.mul (k := .i64) _ _ _ _ (w64 (by omega) (by omega))) ⟨rfl, rfl, trivial⟩ trivial ?_ (.none rfl) rfl | refine DC.tri (T.mul (k := .i64) _ _ _ _ (by assumption)) ⟨rfl, rfl, trivial⟩ trivial ?_ (.none rfl) rfl); refine DC.tri (T.gtr _ _ _ _) ⟨rfl, rfl, trivial⟩ trivial ?_ (.none rfl) rfl; refine DC.nilN (by first | (dsimp only [evalD, lkF, lkE, updF, Nat.beq, cond_true, cond_false, List.cons_append, List.nil_append, List.append_nil, argF, Nat.reduceAdd, Nat.reduceMul, spliceD, List.take, List.drop, List.length, flats, Value.cells, List.map, List.set]; done) | exact rfl | fail) ?_)
      | (refine DW.regionC (id := 12) ?_; (first | refine DC.tri (T.fieldRef' 26 _ 0 fd26_0 (by decide)) ⟨rfl, trivial⟩ trivial ?_ (.none rfl) rfl | refine DC.tri (T.fieldPtr' 26 _ 0 fd26_0 (by decide)) ⟨rfl, trivial⟩ trivial ?_ (.none rfl) rfl); (first | refine DC.tri (T.loadRef 22 _ ag22 sz22 (by first | rfl | assumption)) ⟨rfl, trivial⟩ ⟨rfl, trivial⟩ ?_ (.none rfl) rfl | refine DC.tri (T.loadPtr 22 _ ag22 sz22 (by first | rfl | assumption)) ⟨rfl, trivial⟩ trivial ?_ (.none rfl) rfl | refine DC.tri (T.loadElp 22 _ ag22 sz22 (by first | rfl | assumption)) ⟨rfl, trivial⟩ ⟨rfl, trivial⟩ ?_ (.none rfl) rfl); refine DC.tri (T.buildS1 26 _ Try.underlying26 ze26 (pl26 Try.underlying26) rfl) ⟨rfl, trivial⟩ trivial ?_ (.none rfl) rfl; refine DC.tri (T.alloc 12 26 ze26) trivial ⟨rfl, trivial⟩ ?_ (.none rfl) rfl; (first | refine DC.tri (T.storeRef 26 _ _ sz26 rfl rfl (by first | rfl | simp [oneL, oneD, Value.oneCell']) (by first | decide | (simp; done) | omega | (simp; omega))) ⟨rfl, rfl, trivial⟩ ⟨rfl, trivial⟩ ?_ (.none rfl) rfl | refine DC.tri (T.storeElp 26 _ _ sz26 rfl rfl rfl (by first | decide | (simp; done) | omega | (simp; omega))) ⟨rfl, rfl, trivial⟩ ⟨rfl, trivial⟩ ?_ (.none rfl) rfl); refine DC.nilN (by first | (dsimp only [evalD, lkF, lkE, updF, Nat.beq, cond_true, cond_false, List.cons_append, List.nil_append, List.append_nil, argF, Nat.reduceAdd, Nat.reduceMul, spliceD, List.take, List.drop, List.length, flats, Value.cells, List.map, List.set]; done) | exact rfl | fail) ?_)
      | (refine DW.condT' rfl (by first | rfl | assumption | exact decide_eq_true (by first | assumption | omega) | exact decide_eq_false (by first | assumption | omega) | (simp only [*]; done) | fail) ?_)
      | (refine DW.condF' rfl (by first | rfl | assumption | exact decide_eq_true (by first | assumption | omega) | exact decide_eq_false (by first | assumption | omega) | (simp only [*]; done) | fail) ?_)
      | (refine DW.exit ?_)
      | (refine DW.ret ?_)
      | fail)
  refine DW.sub (Sub.of (f' := [(3, .ptr (auC A) 0), (4, .ptr (auC B) 0), (5, .ptr (wh.map boolD) 0), (12, .ref 12 0), (6, .ref 6 0), (10, intD A.final.length), (11, intD B.final.length)]) (σ' := [(12, some (.box [intsD A.ranks, .flat (.slice none 0 0), .flat (.slice none 0 0)])), (6, some (.box [.flat (.slice none 0 0), .flat (.slice none 0 0), .flat (.slice none 0 0)]))])
      ⟨⟨_, rfl, VsL.pers rfl⟩, ⟨_, rfl, VsL.pers rfl⟩, trivial⟩ ⟨Vs.shut (pe := [(3, some (.box (auC A)))]) ⟨rfl, trivial⟩ (Vw.ref (.head _) (VwL.pers rfl) (by simp [auC])) (fun id h => by simp only [keys, List.map_cons, List.map_nil, List.mem_singleton] at h; subst h; rfl), Vs.shut (pe := [(4, some (.box (auC B)))]) ⟨rfl, trivial⟩ (Vw.ref (.head _) (VwL.pers rfl) (by simp [auC])) (fun id h => by simp only [keys, List.map_cons, List.map_nil, List.mem_singleton] at h; subst h; rfl), Vs.shut (pe := [(5, some (.box (wh.map boolD)))]) ⟨rfl, trivial⟩ (Vw.ref (.head _) (VwL.pers (persL_map (fun _ => rfl) _)) (by intro h; simp at h; subst h; simp at hw)) (fun id h => by simp only [keys, List.map_cons, List.map_nil, List.mem_singleton] at h; subst h; rfl), Vs.ref rfl, Vs.ref rfl, Vs.pers rfl, Vs.pers rfl, trivial⟩) ?_
  repeat (first
      | (refine DW.seq ?_)
      | (refine DW.block ?_)
      | (refine Thn.n ?_)
      | (refine Blk.n ?_)
      | (refine Blk.here ?_)
      | (refine Thn.e ?_)
      | (refine Blk.pass rfl ?_)
      | (refine Thn.r ?_)
      | (refine Blk.r ?_)
      | (refine DW.skip ?_)
      | (refine DW.label ?_)
      | (refine DW.regionC (id := 13) ?_; refine DC.tri (T.assign _ _) ⟨rfl, trivial⟩ trivial ?_ (.none rfl) rfl; refine DC.nilN (by first | (dsimp only [evalD, lkF, lkE, updF, Nat.beq, cond_true, cond_false, List.cons_append, List.nil_append, List.append_nil, argF, Nat.reduceAdd, Nat.reduceMul, spliceD, List.take, List.drop, List.length, flats, Value.cells, List.map, List.set]; done) | exact rfl | fail) ?_)
      | (refine DW.condT' rfl (by first | rfl | assumption | exact decide_eq_true (by first | assumption | omega) | exact decide_eq_false (by first | assumption | omega) | (simp only [*]; done) | fail) ?_)
      | (refine DW.condF' rfl (by first | rfl | assumption | exact decide_eq_true (by first | assumption | omega) | exact decide_eq_false (by first | assumption | omega) | (simp only [*]; done) | fail) ?_)
      | (refine DW.exit ?_)
      | (refine DW.ret ?_)
      | fail)
  refine DW.adoptBox 12 1 103 4 1 rfl rfl rfl ?_
  refine DW.adoptBox 12 2 104 22 1 rfl rfl rfl ?_
  refine DW.loop (fun i : Nat => ⟨[(13, intD i), (3, .ptr (auC A) 0), (4, .ptr (auC B) 0), (5, .ptr (wh.map boolD) 0), (12, .ref 12 0), (6, .ref 6 0), (10, intD A.final.length), (11, intD B.final.length)], [(12, some (.box [intsD A.ranks, .own 103 (B.final.length * i), .own 104 (0)])), (103, some (.row 4 1 (B.final.length * i) (((List.range (B.final.length * i)).map (prodF A B wh)).map boolD))), (104, some (.row 22 1 (0) (((tablesOf (A.final.length * B.final.length) (prodT A B) A.ranks).take 0).map intsD))), (6, some (.box [.flat (.slice none 0 0), .flat (.slice none 0 0), .flat (.slice none 0 0)]))]⟩) (fun i => i ≤ A.final.length) (fun i => A.final.length - i) 0 (by omega)
    (Sub.of ⟨⟨_, rfl, Vs.pers rfl, Vs.own rfl rfl, Vs.own rfl rfl, trivial⟩, ⟨_, rfl, VsL.eq (by simp) (persL_map (fun _ => rfl) _)⟩, ⟨_, rfl, VsL.eq (by simp) (persL_map (fun _ => rfl) _)⟩, ⟨_, rfl, VsL.pers rfl⟩, trivial⟩ ⟨Vs.int (by simp), Vs.pers rfl, Vs.pers rfl, Vs.pers rfl, Vs.ref rfl, Vs.ref rfl, Vs.pers rfl, Vs.pers rfl, trivial⟩) ?_
  rintro i hi
  by_cases hlt : i < A.final.length
  · repeat (first
        | (refine DW.seq ?_)
        | (refine DW.block ?_)
        | (refine Thn.n ?_)
        | (refine Blk.n ?_)
        | (refine Blk.here ?_)
        | (refine Thn.e ?_)
        | (refine Blk.pass rfl ?_)
        | (refine Thn.r ?_)
        | (refine Blk.r ?_)
        | (refine DW.skip ?_)
        | (refine DW.label ?_)
        | (refine DW.regionC (id := 14) ?_; refine DC.tri (T.move _ _) ⟨rfl, trivial⟩ trivial ?_ (.none rfl) rfl; refine DC.tri (T.move _ _) ⟨rfl, trivial⟩ trivial ?_ (.none rfl) rfl; refine DC.tri (T.lss _ _ _ _) ⟨rfl, rfl, trivial⟩ trivial ?_ (.none rfl) rfl; refine DC.nilN (by first | (dsimp only [evalD, lkF, lkE, updF, Nat.beq, cond_true, cond_false, List.cons_append, List.nil_append, List.append_nil, argF, Nat.reduceAdd, Nat.reduceMul, spliceD, List.take, List.drop, List.length, flats, Value.cells, List.map, List.set]; done) | exact rfl | fail) ?_)
        | (refine DW.regionC (id := 16) ?_; refine DC.tri (T.assign _ _) ⟨rfl, trivial⟩ trivial ?_ (.none rfl) rfl; refine DC.nilN (by first | (dsimp only [evalD, lkF, lkE, updF, Nat.beq, cond_true, cond_false, List.cons_append, List.nil_append, List.append_nil, argF, Nat.reduceAdd, Nat.reduceMul, spliceD, List.take, List.drop, List.length, flats, Value.cells, List.map, List.set]; done) | exact rfl | fail) ?_)
        | (refine DW.condT' rfl (by first | rfl | assumption | exact decide_eq_true (by first | assumption | omega) | exact decide_eq_false (by first | assumption | omega) | (simp only [*]; done) | fail) ?_)
        | (refine DW.condF' rfl (by first | rfl | assumption | exact decide_eq_true (by first | assumption | omega) | exact decide_eq_false (by first | assumption | omega) | (simp only [*]; done) | fail) ?_)
        | (refine DW.exit ?_)
        | (refine DW.ret ?_)
        | fail)
    refine DW.loop (fun k : Nat => ⟨[(14, intD k), (13, intD i), (3, .ptr (auC A) 0), (4, .ptr (auC B) 0), (5, .ptr (wh.map boolD) 0), (12, .ref 12 0), (6, .ref 6 0), (10, intD A.final.length), (11, intD B.final.length)], [(12, some (.box [intsD A.ranks, .own 103 (B.final.length * i + k), .own 104 (0)])), (103, some (.row 4 1 (B.final.length * i + k) (((List.range (B.final.length * i + k)).map (prodF A B wh)).map boolD))), (104, some (.row 22 1 (0) (((tablesOf (A.final.length * B.final.length) (prodT A B) A.ranks).take 0).map intsD))), (6, some (.box [.flat (.slice none 0 0), .flat (.slice none 0 0), .flat (.slice none 0 0)]))]⟩) (fun k => k ≤ B.final.length) (fun k => B.final.length - k) 0 (by omega)
      (Sub.of ⟨⟨_, rfl, Vs.pers rfl, Vs.own rfl rfl, Vs.own rfl rfl, trivial⟩, ⟨_, rfl, VsL.pers (persL_map (fun _ => rfl) _)⟩, ⟨_, rfl, VsL.eq (by simp) (persL_map (fun _ => rfl) _)⟩, ⟨_, rfl, VsL.pers rfl⟩, trivial⟩ ⟨Vs.int (by simp), Vs.pers rfl, Vs.pers rfl, Vs.pers rfl, Vs.pers rfl, Vs.ref rfl, Vs.ref rfl, Vs.pers rfl, Vs.pers rfl, trivial⟩) ?_
    rintro k hk3
    by_cases hlk : k < B.final.length
    · obtain ⟨x, hx⟩ : ∃ x, A.final[i]? = some x := ⟨A.final[i], by simp⟩
      obtain ⟨y, hy⟩ : ∃ y, B.final[k]? = some y := ⟨B.final[k], by simp⟩
      have hp1 := part_map (f := fun x => D.flat (.bool x)) hx
      have hp2 := part_map (f := fun x => D.flat (.bool x)) hy
      have hik : B.final.length * i + k < 262144 := by
        have : B.final.length * (i + 1) ≤ 512 * 512 := Nat.mul_le_mul hb2 (by omega)
        rw [Nat.mul_succ] at this; omega
      have hres : prodF A B wh (B.final.length * i + k) = wh.getD ((if x then 1 else 0) + (if y then 2 else 0)) false := by
        unfold prodF
        rw [show (B.final.length * i + k) / B.final.length = i by rw [Nat.mul_add_div (by omega), Nat.div_eq_of_lt hlk, Nat.add_zero], show (B.final.length * i + k) % B.final.length = k by rw [Nat.mul_add_mod, Nat.mod_eq_of_lt hlk]]
        simp only [List.getD_eq_getElem?_getD, hx, hy, Option.getD_some]
      obtain ⟨w0, w1, w2, w3, hwe⟩ : ∃ w0 w1 w2 w3, wh = [w0, w1, w2, w3] := by
        clear hres hp1 hp2 hx hy heq
        rcases wh with _ | ⟨w0, _ | ⟨w1, _ | ⟨w2, _ | ⟨w3, _ | ⟨w4, r⟩⟩⟩⟩⟩ <;> simp at hw
        exact ⟨w0, w1, w2, w3, rfl⟩
      have hwc : (wh.map boolD) = [boolD w0, boolD w1, boolD w2, boolD w3] := by rw [hwe]; rfl
      refine DW.sub (Sub.slots (f' := [(14, intD k), (13, intD i), (3, .ptr (auC A) 0), (4, .ptr (auC B) 0), (5, .ptr [boolD w0, boolD w1, boolD w2, boolD w3] 0), (12, .ref 12 0), (6, .ref 6 0), (10, intD A.final.length), (11, intD B.final.length)]) ⟨Vs.refl _, Vs.refl _, Vs.refl _, Vs.refl _, Vs.eq (by rw [← hwc]; rfl) rfl, Vs.refl _, Vs.refl _, Vs.refl _, Vs.refl _, trivial⟩) ?_
      unfold auC
      cases x <;> cases y
      all_goals
        repeat (first
            | (refine DW.seq ?_)
            | (refine DW.block ?_)
            | (refine Thn.n ?_)
            | (refine Blk.n ?_)
            | (refine Blk.here ?_)
            | (refine Thn.e ?_)
            | (refine Blk.pass rfl ?_)
            | (refine Thn.r ?_)
            | (refine Blk.r ?_)
            | (refine DW.skip ?_)
            | (refine DW.label ?_)
            | (refine DW.regionC (id := 17) ?_; refine DC.tri (T.move _ _) ⟨rfl, trivial⟩ trivial ?_ (.none rfl) rfl; refine DC.tri (T.move _ _) ⟨rfl, trivial⟩ trivial ?_ (.none rfl) rfl; refine DC.tri (T.lss _ _ _ _) ⟨rfl, rfl, trivial⟩ trivial ?_ (.none rfl) rfl; refine DC.nilN (by first | (dsimp only [evalD, lkF, lkE, updF, Nat.beq, cond_true, cond_false, List.cons_append, List.nil_append, List.append_nil, argF, Nat.reduceAdd, Nat.reduceMul, spliceD, List.take, List.drop, List.length, flats, Value.cells, List.map, List.set]; done) | exact rfl | fail) ?_)
            | (refine DW.regionC (id := 18) ?_; refine DC.tri (T.move _ _) ⟨rfl, trivial⟩ trivial ?_ (.none rfl) rfl; (first | refine DC.tri (T.add (k := .i64) _ _ _ _ (w64 (by omega) (by omega))) ⟨rfl, rfl, trivial⟩ trivial ?_ (.none rfl) rfl | refine DC.tri (T.add (k := .i64) _ _ _ _ (by assumption)) ⟨rfl, rfl, trivial⟩ trivial ?_ (.none rfl) rfl); refine DC.tri (T.assign _ _) ⟨rfl, trivial⟩ trivial ?_ (.none rfl) rfl; refine DC.nilN (by first | (dsimp only [evalD, lkF, lkE, updF, Nat.beq, cond_true, cond_false, List.cons_append, List.nil_append, List.append_nil, argF, Nat.reduceAdd, Nat.reduceMul, spliceD, List.take, List.drop, List.length, flats, Value.cells, List.map, List.set]; done) | exact rfl | fail) ?_)
            | (refine DW.regionC (id := 19) ?_; refine DC.tri (T.assign _ _) ⟨rfl, trivial⟩ trivial ?_ (.none rfl) rfl; refine DC.nilN (by first | (dsimp only [evalD, lkF, lkE, updF, Nat.beq, cond_true, cond_false, List.cons_append, List.nil_append, List.append_nil, argF, Nat.reduceAdd, Nat.reduceMul, spliceD, List.take, List.drop, List.length, flats, Value.cells, List.map, List.set]; done) | exact rfl | fail) ?_)
            | (refine DW.regionC (id := 20) ?_; (first | refine DC.tri (T.fieldRef' 26 _ 1 fd26_1 (by decide)) ⟨rfl, trivial⟩ trivial ?_ (.none rfl) rfl | refine DC.tri (T.fieldPtr' 26 _ 1 fd26_1 (by decide)) ⟨rfl, trivial⟩ trivial ?_ (.none rfl) rfl); (first | refine DC.tri (T.loadRef 23 _ ag23 sz23 (by first | rfl | assumption)) ⟨rfl, trivial⟩ ⟨rfl, trivial⟩ ?_ (.none rfl) rfl | refine DC.tri (T.loadPtr 23 _ ag23 sz23 (by first | rfl | assumption)) ⟨rfl, trivial⟩ trivial ?_ (.none rfl) rfl | refine DC.tri (T.loadElp 23 _ ag23 sz23 (by first | rfl | assumption)) ⟨rfl, trivial⟩ ⟨rfl, trivial⟩ ?_ (.none rfl) rfl); refine DC.tri (T.move _ _) ⟨rfl, trivial⟩ trivial ?_ (.none rfl) rfl; (first | refine DC.tri (T.indexSl 23 _ _ un23 sz4 (by omega) (by omega) (by decide)) ⟨rfl, rfl, trivial⟩ trivial ?_ (.none rfl) rfl | refine DC.tri (T.indexOwn 23 _ _ un23 sz4 (by omega) (by omega)) ⟨rfl, rfl, trivial⟩ ⟨rfl, trivial⟩ ?_ (.none rfl) rfl); (first | refine DC.tri (T.loadRef 4 _ ag4 sz4 (by first | rfl | assumption)) ⟨rfl, trivial⟩ ⟨rfl, trivial⟩ ?_ (.none rfl) rfl | refine DC.tri (T.loadPtr 4 _ ag4 sz4 (by first | rfl | assumption)) ⟨rfl, trivial⟩ trivial ?_ (.none rfl) rfl | refine DC.tri (T.loadElp 4 _ ag4 sz4 (by first | rfl | assumption)) ⟨rfl, trivial⟩ ⟨rfl, trivial⟩ ?_ (.none rfl) rfl); refine DC.nilN (by first | (dsimp only [evalD, lkF, lkE, updF, Nat.beq, cond_true, cond_false, List.cons_append, List.nil_append, List.append_nil, argF, Nat.reduceAdd, Nat.reduceMul, spliceD, List.take, List.drop, List.length, flats, Value.cells, List.map, List.set]; done) | exact rfl | fail) ?_)
            | (refine DW.regionC (id := 21) ?_; refine DC.tri (T.assign _ _) ⟨rfl, trivial⟩ trivial ?_ (.none rfl) rfl; refine DC.nilN (by first | (dsimp only [evalD, lkF, lkE, updF, Nat.beq, cond_true, cond_false, List.cons_append, List.nil_append, List.append_nil, argF, Nat.reduceAdd, Nat.reduceMul, spliceD, List.take, List.drop, List.length, flats, Value.cells, List.map, List.set]; done) | exact rfl | fail) ?_)
            | (refine DW.regionC (id := 22) ?_; (first | refine DC.tri (T.fieldRef' 26 _ 1 fd26_1 (by decide)) ⟨rfl, trivial⟩ trivial ?_ (.none rfl) rfl | refine DC.tri (T.fieldPtr' 26 _ 1 fd26_1 (by decide)) ⟨rfl, trivial⟩ trivial ?_ (.none rfl) rfl); (first | refine DC.tri (T.loadRef 23 _ ag23 sz23 (by first | rfl | assumption)) ⟨rfl, trivial⟩ ⟨rfl, trivial⟩ ?_ (.none rfl) rfl | refine DC.tri (T.loadPtr 23 _ ag23 sz23 (by first | rfl | assumption)) ⟨rfl, trivial⟩ trivial ?_ (.none rfl) rfl | refine DC.tri (T.loadElp 23 _ ag23 sz23 (by first | rfl | assumption)) ⟨rfl, trivial⟩ ⟨rfl, trivial⟩ ?_ (.none rfl) rfl); refine DC.tri (T.move _ _) ⟨rfl, trivial⟩ trivial ?_ (.none rfl) rfl; (first | refine DC.tri (T.indexSl 23 _ _ un23 sz4 (by omega) (by omega) (by decide)) ⟨rfl, rfl, trivial⟩ trivial ?_ (.none rfl) rfl | refine DC.tri (T.indexOwn 23 _ _ un23 sz4 (by omega) (by omega)) ⟨rfl, rfl, trivial⟩ ⟨rfl, trivial⟩ ?_ (.none rfl) rfl); (first | refine DC.tri (T.loadRef 4 _ ag4 sz4 (by first | rfl | assumption)) ⟨rfl, trivial⟩ ⟨rfl, trivial⟩ ?_ (.none rfl) rfl | refine DC.tri (T.loadPtr 4 _ ag4 sz4 (by first | rfl | assumption)) ⟨rfl, trivial⟩ trivial ?_ (.none rfl) rfl | refine DC.tri (T.loadElp 4 _ ag4 sz4 (by first | rfl | assumption)) ⟨rfl, trivial⟩ ⟨rfl, trivial⟩ ?_ (.none rfl) rfl); refine DC.nilN (by first | (dsimp only [evalD, lkF, lkE, updF, Nat.beq, cond_true, cond_false, List.cons_append, List.nil_append, List.append_nil, argF, Nat.reduceAdd, Nat.reduceMul, spliceD, List.take, List.drop, List.length, flats, Value.cells, List.map, List.set]; done) | exact rfl | fail) ?_)
            | (refine DW.regionC (id := 23) ?_; refine DC.tri (T.move _ _) ⟨rfl, trivial⟩ trivial ?_ (.none rfl) rfl; (first | refine DC.tri (T.add (k := .i64) _ _ _ _ (w64 (by omega) (by omega))) ⟨rfl, rfl, trivial⟩ trivial ?_ (.none rfl) rfl | refine DC.tri (T.add (k := .i64) _ _ _ _ (by assumption)) ⟨rfl, rfl, trivial⟩ trivial ?_ (.none rfl) rfl); refine DC.tri (T.assign _ _) ⟨rfl, trivial⟩ trivial ?_ (.none rfl) rfl; refine DC.nilN (by first | (dsimp only [evalD, lkF, lkE, updF, Nat.beq, cond_true, cond_false, List.cons_append, List.nil_append, List.append_nil, argF, Nat.reduceAdd, Nat.reduceMul, spliceD, List.take, List.drop, List.length, flats, Value.cells, List.map, List.set]; done) | exact rfl | fail) ?_)
            | (refine DW.drawnC (id := 24) rfl (by kernel_rfl) ?_; (first | refine DC.tri (T.fieldRef' 26 _ 1 fd26_1 (by decide)) ⟨rfl, trivial⟩ trivial ?_ (.none rfl) rfl | refine DC.tri (T.fieldPtr' 26 _ 1 fd26_1 (by decide)) ⟨rfl, trivial⟩ trivial ?_ (.none rfl) rfl); (first | refine DC.tri (T.loadRef 23 _ ag23 sz23 (by first | rfl | assumption)) ⟨rfl, trivial⟩ ⟨rfl, trivial⟩ ?_ (.none rfl) rfl | refine DC.tri (T.loadPtr 23 _ ag23 sz23 (by first | rfl | assumption)) ⟨rfl, trivial⟩ trivial ?_ (.none rfl) rfl | refine DC.tri (T.loadElp 23 _ ag23 sz23 (by first | rfl | assumption)) ⟨rfl, trivial⟩ ⟨rfl, trivial⟩ ?_ (.none rfl) rfl); refine DC.tri (T.move _ _) ⟨rfl, trivial⟩ trivial ?_ (.none rfl) rfl; (first | refine DC.tri (T.indexArr 62 _ _ un62 sz4 (by omega) (by omega)) ⟨rfl, rfl, trivial⟩ trivial ?_ (.none rfl) rfl | refine DC.tri (T.indexArrPtr 62 _ _ un62 sz4 (by omega) (by omega)) ⟨rfl, rfl, trivial⟩ trivial ?_ (.none rfl) rfl); (first | refine DC.tri (T.loadRef 4 _ ag4 sz4 (by first | rfl | assumption)) ⟨rfl, trivial⟩ ⟨rfl, trivial⟩ ?_ (.none rfl) rfl | refine DC.tri (T.loadPtr 4 _ ag4 sz4 (by first | rfl | assumption)) ⟨rfl, trivial⟩ trivial ?_ (.none rfl) rfl | refine DC.tri (T.loadElp 4 _ ag4 sz4 (by first | rfl | assumption)) ⟨rfl, trivial⟩ ⟨rfl, trivial⟩ ?_ (.none rfl) rfl); refine DC.tri (T.buildSl1 23 _ un23 ze4 sz4 rfl rfl (by decide) rfl) ⟨rfl, trivial⟩ trivial ?_ (.none rfl) rfl; refine DC.tri (T.append 23 _ _ un23 nf4 rfl (by decide) (by decide) (by first | rfl | assumption | exact oneL_map (fun _ => rfl) _) (by omega)) ⟨rfl, rfl, trivial⟩ ⟨rfl, trivial⟩ ?_ (.none rfl) rfl; (first | refine DC.tri (T.fieldRef' 26 _ 1 fd26_1 (by decide)) ⟨rfl, trivial⟩ trivial ?_ (.none rfl) rfl | refine DC.tri (T.fieldPtr' 26 _ 1 fd26_1 (by decide)) ⟨rfl, trivial⟩ trivial ?_ (.none rfl) rfl); (first | refine DC.tri (T.storeRef 23 _ _ sz23 rfl rfl (by first | rfl | simp [oneL, oneD, Value.oneCell']) (by first | decide | (simp; done) | omega | (simp; omega))) ⟨rfl, rfl, trivial⟩ ⟨rfl, trivial⟩ ?_ (.none rfl) rfl | refine DC.tri (T.storeElp 23 _ _ sz23 rfl rfl rfl (by first | decide | (simp; done) | omega | (simp; omega))) ⟨rfl, rfl, trivial⟩ ⟨rfl, trivial⟩ ?_ (.none rfl) rfl); refine DC.nilN (by first | (dsimp only [evalD, lkF, lkE, updF, Nat.beq, cond_true, cond_false, List.cons_append, List.nil_append, List.append_nil, argF, Nat.reduceAdd, Nat.reduceMul, spliceD, List.take, List.drop, List.length, flats, Value.cells, List.map, List.set]; done) | exact rfl | fail) ?_; refine ⟨by kernel_rfl, ?_⟩)
            | (refine DW.condT' rfl (by first | rfl | assumption | exact decide_eq_true (by first | assumption | omega) | exact decide_eq_false (by first | assumption | omega) | (simp only [*]; done) | fail) ?_)
            | (refine DW.condF' rfl (by first | rfl | assumption | exact decide_eq_true (by first | assumption | omega) | exact decide_eq_false (by first | assumption | omega) | (simp only [*]; done) | fail) ?_)
            | (refine DW.exit ?_)
            | (refine DW.ret ?_)
            | fail)
        refine ⟨k + 1, by omega, by omega, Sub.of ⟨⟨_, rfl, Vs.pers rfl, Vs.own rfl rfl, Vs.own rfl rfl, trivial⟩, ⟨_, rfl, VsL.eq ?_ (persL_map (fun _ => rfl) _)⟩, ⟨_, rfl, VsL.eq (by simp) (persL_map (fun _ => rfl) _)⟩, ⟨_, rfl, VsL.pers rfl⟩, trivial⟩ ⟨Vs.int (by simp), Vs.pers rfl, Vs.pers rfl, Vs.pers rfl, Vs.eq (by rw [hwc]; rfl) rfl, Vs.ref rfl, Vs.ref rfl, Vs.pers rfl, Vs.pers rfl, trivial⟩⟩
        rw [← Nat.add_assoc, List.range_succ, List.map_append, List.map_append, List.map_singleton, hres, hwe]
        rfl
    · obtain rfl : k = B.final.length := by omega
      repeat (first
          | (refine DW.seq ?_)
          | (refine DW.block ?_)
          | (refine Thn.n ?_)
          | (refine Blk.n ?_)
          | (refine Blk.here ?_)
          | (refine Thn.e ?_)
          | (refine Blk.pass rfl ?_)
          | (refine Thn.r ?_)
          | (refine Blk.r ?_)
          | (refine DW.skip ?_)
          | (refine DW.label ?_)
          | (refine DW.regionC (id := 15) ?_; refine DC.tri (T.move _ _) ⟨rfl, trivial⟩ trivial ?_ (.none rfl) rfl; (first | refine DC.tri (T.add (k := .i64) _ _ _ _ (w64 (by omega) (by omega))) ⟨rfl, rfl, trivial⟩ trivial ?_ (.none rfl) rfl | refine DC.tri (T.add (k := .i64) _ _ _ _ (by assumption)) ⟨rfl, rfl, trivial⟩ trivial ?_ (.none rfl) rfl); refine DC.tri (T.assign _ _) ⟨rfl, trivial⟩ trivial ?_ (.none rfl) rfl; refine DC.nilN (by first | (dsimp only [evalD, lkF, lkE, updF, Nat.beq, cond_true, cond_false, List.cons_append, List.nil_append, List.append_nil, argF, Nat.reduceAdd, Nat.reduceMul, spliceD, List.take, List.drop, List.length, flats, Value.cells, List.map, List.set]; done) | exact rfl | fail) ?_)
          | (refine DW.regionC (id := 17) ?_; refine DC.tri (T.move _ _) ⟨rfl, trivial⟩ trivial ?_ (.none rfl) rfl; refine DC.tri (T.move _ _) ⟨rfl, trivial⟩ trivial ?_ (.none rfl) rfl; refine DC.tri (T.lss _ _ _ _) ⟨rfl, rfl, trivial⟩ trivial ?_ (.none rfl) rfl; refine DC.nilN (by first | (dsimp only [evalD, lkF, lkE, updF, Nat.beq, cond_true, cond_false, List.cons_append, List.nil_append, List.append_nil, argF, Nat.reduceAdd, Nat.reduceMul, spliceD, List.take, List.drop, List.length, flats, Value.cells, List.map, List.set]; done) | exact rfl | fail) ?_)
          | (refine DW.condT' rfl (by first | rfl | assumption | exact decide_eq_true (by first | assumption | omega) | exact decide_eq_false (by first | assumption | omega) | (simp only [*]; done) | fail) ?_)
          | (refine DW.condF' rfl (by first | rfl | assumption | exact decide_eq_true (by first | assumption | omega) | exact decide_eq_false (by first | assumption | omega) | (simp only [*]; done) | fail) ?_)
          | (refine DW.exit ?_)
          | (refine DW.ret ?_)
          | fail)
      exact ⟨i + 1, by omega, by omega, Sub.of ⟨⟨_, rfl, Vs.pers rfl, Vs.own rfl rfl, Vs.own rfl rfl, trivial⟩, ⟨_, rfl, VsL.pers (persL_map (fun _ => rfl) _)⟩, ⟨_, rfl, VsL.eq (by simp) (persL_map (fun _ => rfl) _)⟩, ⟨_, rfl, VsL.pers rfl⟩, trivial⟩ ⟨Vs.int (by simp), Vs.pers rfl, Vs.pers rfl, Vs.pers rfl, Vs.ref rfl, Vs.ref rfl, Vs.pers rfl, Vs.pers rfl, trivial⟩⟩
  obtain rfl : i = A.final.length := by omega
  repeat (first
      | (refine DW.seq ?_)
      | (refine DW.block ?_)
      | (refine Thn.n ?_)
      | (refine Blk.n ?_)
      | (refine Blk.here ?_)
      | (refine Thn.e ?_)
      | (refine Blk.pass rfl ?_)
      | (refine Thn.r ?_)
      | (refine Blk.r ?_)
      | (refine DW.skip ?_)
      | (refine DW.label ?_)
      | (refine DW.regionC (id := 14) ?_; refine DC.tri (T.move _ _) ⟨rfl, trivial⟩ trivial ?_ (.none rfl) rfl; refine DC.tri (T.move _ _) ⟨rfl, trivial⟩ trivial ?_ (.none rfl) rfl; refine DC.tri (T.lss _ _ _ _) ⟨rfl, rfl, trivial⟩ trivial ?_ (.none rfl) rfl; refine DC.nilN (by first | (dsimp only [evalD, lkF, lkE, updF, Nat.beq, cond_true, cond_false, List.cons_append, List.nil_append, List.append_nil, argF, Nat.reduceAdd, Nat.reduceMul, spliceD, List.take, List.drop, List.length, flats, Value.cells, List.map, List.set]; done) | exact rfl | fail) ?_)
      | (refine DW.regionC (id := 25) ?_; refine DC.tri (T.assign _ _) ⟨rfl, trivial⟩ trivial ?_ (.none rfl) rfl; refine DC.nilN (by first | (dsimp only [evalD, lkF, lkE, updF, Nat.beq, cond_true, cond_false, List.cons_append, List.nil_append, List.append_nil, argF, Nat.reduceAdd, Nat.reduceMul, spliceD, List.take, List.drop, List.length, flats, Value.cells, List.map, List.set]; done) | exact rfl | fail) ?_)
      | (refine DW.condT' rfl (by first | rfl | assumption | exact decide_eq_true (by first | assumption | omega) | exact decide_eq_false (by first | assumption | omega) | (simp only [*]; done) | fail) ?_)
      | (refine DW.condF' rfl (by first | rfl | assumption | exact decide_eq_true (by first | assumption | omega) | exact decide_eq_false (by first | assumption | omega) | (simp only [*]; done) | fail) ?_)
      | (refine DW.exit ?_)
      | (refine DW.ret ?_)
      | fail)
  rw [Nat.mul_comm B.final.length A.final.length]
  generalize hnm : A.final.length * B.final.length = nm at *
  have hpos : 0 < (A.final.length : Int) * (B.final.length : Int) := Int.mul_pos (by omega) (by omega)
  have hnp : 0 < nm := by omega
  have hwl : ((List.range nm).map (prodF A B wh)).length = nm := by simp
  have htl : (tablesOf nm (prodT A B) A.ranks).length = A.ranks.length := by simp [tablesOf]
  refine DW.loop (fun i : Nat => ⟨[(16, intD i), (3, .ptr (auC A) 0), (4, .ptr (auC B) 0), (5, .ptr (wh.map boolD) 0), (12, .ref 12 0), (6, .ref 6 0), (10, intD A.final.length), (11, intD B.final.length)], [(12, some (.box [intsD A.ranks, .own 103 (nm), .own 104 (i)])), (103, some (.row 4 1 (nm) (((List.range (nm)).map (prodF A B wh)).map boolD))), (104, some (.row 22 1 (i) (((tablesOf nm (prodT A B) A.ranks).take i).map intsD))), (6, some (.box [.flat (.slice none 0 0), .flat (.slice none 0 0), .flat (.slice none 0 0)]))]⟩) (fun i => i ≤ A.ranks.length) (fun i => A.ranks.length - i) 0 (by omega)
    (Sub.of ⟨⟨_, rfl, Vs.pers rfl, Vs.own rfl rfl, Vs.own rfl rfl, trivial⟩, ⟨_, rfl, VsL.pers (persL_map (fun _ => rfl) _)⟩, ⟨_, rfl, VsL.eq (by simp) (persL_map (fun _ => rfl) _)⟩, ⟨_, rfl, VsL.pers rfl⟩, trivial⟩ ⟨Vs.int (by simp), Vs.pers rfl, Vs.pers rfl, Vs.pers rfl, Vs.ref rfl, Vs.ref rfl, Vs.pers rfl, Vs.pers rfl, trivial⟩) ?_
  rintro i hi
  by_cases hlt : i < A.ranks.length
  rotate_left
  · obtain rfl : i = A.ranks.length := by omega
    repeat (first
        | (refine DW.seq ?_)
        | (refine DW.block ?_)
        | (refine Thn.n ?_)
        | (refine Blk.n ?_)
        | (refine Blk.here ?_)
        | (refine Thn.e ?_)
        | (refine Blk.pass rfl ?_)
        | (refine Thn.r ?_)
        | (refine Blk.r ?_)
        | (refine DW.skip ?_)
        | (refine DW.label ?_)
        | (refine DW.regionC (id := 26) ?_; refine DC.tri (T.move _ _) ⟨rfl, trivial⟩ trivial ?_ (.none rfl) rfl; (first | refine DC.tri (T.fieldRef' 26 _ 0 fd26_0 (by decide)) ⟨rfl, trivial⟩ trivial ?_ (.none rfl) rfl | refine DC.tri (T.fieldPtr' 26 _ 0 fd26_0 (by decide)) ⟨rfl, trivial⟩ trivial ?_ (.none rfl) rfl); (first | refine DC.tri (T.loadRef 22 _ ag22 sz22 (by first | rfl | assumption)) ⟨rfl, trivial⟩ ⟨rfl, trivial⟩ ?_ (.none rfl) rfl | refine DC.tri (T.loadPtr 22 _ ag22 sz22 (by first | rfl | assumption)) ⟨rfl, trivial⟩ trivial ?_ (.none rfl) rfl | refine DC.tri (T.loadElp 22 _ ag22 sz22 (by first | rfl | assumption)) ⟨rfl, trivial⟩ ⟨rfl, trivial⟩ ?_ (.none rfl) rfl); (first | refine DC.tri (T.lenSl 22 _ un22) ⟨rfl, trivial⟩ trivial ?_ (.none rfl) rfl | refine DC.tri (T.lenOwn 22 _ un22) ⟨rfl, trivial⟩ trivial ?_ (.none rfl) rfl | refine DC.tri (T.lenNil 22 _ un22) ⟨rfl, trivial⟩ trivial ?_ (.none rfl) rfl); refine DC.tri (T.lss _ _ _ _) ⟨rfl, rfl, trivial⟩ trivial ?_ (.none rfl) rfl; refine DC.nilN (by first | (dsimp only [evalD, lkF, lkE, updF, Nat.beq, cond_true, cond_false, List.cons_append, List.nil_append, List.append_nil, argF, Nat.reduceAdd, Nat.reduceMul, spliceD, List.take, List.drop, List.length, flats, Value.cells, List.map, List.set]; done) | exact rfl | fail) ?_)
        | (refine DW.regionC (id := 43) ?_; (first | refine DC.tri (T.loadRef 26 _ ag26 sz26 (by first | rfl | assumption)) ⟨rfl, trivial⟩ ⟨rfl, trivial⟩ ?_ (.none rfl) rfl | refine DC.tri (T.loadPtr 26 _ ag26 sz26 (by first | rfl | assumption)) ⟨rfl, trivial⟩ trivial ?_ (.none rfl) rfl | refine DC.tri (T.loadElp 26 _ ag26 sz26 (by first | rfl | assumption)) ⟨rfl, trivial⟩ ⟨rfl, trivial⟩ ?_ (.none rfl) rfl); (first | refine DC.tri (T.storeRef 26 _ _ sz26 rfl rfl (by first | rfl | simp [oneL, oneD, Value.oneCell']) (by first | decide | (simp; done) | omega | (simp; omega))) ⟨rfl, rfl, trivial⟩ ⟨rfl, trivial⟩ ?_ (.none rfl) rfl | refine DC.tri (T.storeElp 26 _ _ sz26 rfl rfl rfl (by first | decide | (simp; done) | omega | (simp; omega))) ⟨rfl, rfl, trivial⟩ ⟨rfl, trivial⟩ ?_ (.none rfl) rfl); refine DC.tri (T.assign _ _) ⟨rfl, trivial⟩ trivial ?_ (.none rfl) rfl; refine DC.nilN (by first | (dsimp only [evalD, lkF, lkE, updF, Nat.beq, cond_true, cond_false, List.cons_append, List.nil_append, List.append_nil, argF, Nat.reduceAdd, Nat.reduceMul, spliceD, List.take, List.drop, List.length, flats, Value.cells, List.map, List.set]; done) | exact rfl | fail) ?_)
        | (refine DW.condT' rfl (by first | rfl | assumption | exact decide_eq_true (by first | assumption | omega) | exact decide_eq_false (by first | assumption | omega) | (simp only [*]; done) | fail) ?_)
        | (refine DW.condF' rfl (by first | rfl | assumption | exact decide_eq_true (by first | assumption | omega) | exact decide_eq_false (by first | assumption | omega) | (simp only [*]; done) | fail) ?_)
        | (refine DW.exit ?_)
        | (refine DW.ret ?_)
        | fail)
    refine ⟨.inr rfl, ResOk.cellTmpA [(103, some (.row 4 1 nm (((List.range (nm)).map (prodF A B wh)).map boolD))), (104, some (.row 22 1 A.ranks.length (((tablesOf nm (prodT A B) A.ranks).take A.ranks.length).map intsD)))] rfl rfl rfl ag26 sz26 rfl ⟨rfl, rfl, trivial⟩ (.cons (Vw.pers rfl) (.cons (Vw.own (.head _) (VwL.pers (persL_map (fun _ => rfl) _))) (.cons (Vw.own (.tail _ (.head _)) (VwL.pers (persL_map (fun _ => rfl) _))) .nil))) (Le.of_eq ?_) (Vw.pers rfl)⟩
    unfold prodA madeA
    rw [hnm, List.take_of_length_le (by omega)]
    simp [auD, boolsD, boolD, rowsD, htl]
  obtain ⟨k0, hk0⟩ : ∃ k0, A.ranks[i]? = some k0 := ⟨A.ranks[i], by simp⟩
  have hkr := hA.alpha.rng k0 (List.mem_of_getElem? hk0)
  obtain ⟨k, rfl⟩ : ∃ k : Nat, k0 = (k : Int) := ⟨k0.toNat, by omega⟩
  have hk3 : k ≤ 2 := by omega
  have hpt := part_map (f := fun x => D.flat (.int .i64 x)) hk0
  have hwb := wideN_le (k := (k : Int)) (n := nm) (by omega) h4
  have hrow : tableOf nm (prodT A B) i (k : Int) = (List.range (wideN (k : Int) nm)).map fun p => prodT A B i (digs nm k p) := by simp [tableOf]
  have hpl : DFun Try.prog 51 [auD ⟨A.ranks, (List.range nm).map (prodF A B wh), (tablesOf nm (prodT A B) A.ranks).take i⟩, intD i] (intD (wideN (k : Int) nm : Nat)) := by
    have h := places_d ⟨A.ranks, (List.range nm).map (prodF A B wh), (tablesOf nm (prodT A B) A.ranks).take i⟩ i k hk0 hkr (by rw [hwl]; exact h4)
    simp only [hwl] at h
    exact h
  generalize hwd : wideN (k : Int) nm = wd at *
  repeat (first
      | (refine DW.seq ?_)
      | (refine DW.block ?_)
      | (refine Thn.n ?_)
      | (refine Blk.n ?_)
      | (refine Blk.here ?_)
      | (refine Thn.e ?_)
      | (refine Blk.pass rfl ?_)
      | (refine Thn.r ?_)
      | (refine Blk.r ?_)
      | (refine DW.skip ?_)
      | (refine DW.label ?_)
      | (refine DW.regionC (id := 26) ?_; refine DC.tri (T.move _ _) ⟨rfl, trivial⟩ trivial ?_ (.none rfl) rfl; (first | refine DC.tri (T.fieldRef' 26 _ 0 fd26_0 (by decide)) ⟨rfl, trivial⟩ trivial ?_ (.none rfl) rfl | refine DC.tri (T.fieldPtr' 26 _ 0 fd26_0 (by decide)) ⟨rfl, trivial⟩ trivial ?_ (.none rfl) rfl); (first | refine DC.tri (T.loadRef 22 _ ag22 sz22 (by first | rfl | assumption)) ⟨rfl, trivial⟩ ⟨rfl, trivial⟩ ?_ (.none rfl) rfl | refine DC.tri (T.loadPtr 22 _ ag22 sz22 (by first | rfl | assumption)) ⟨rfl, trivial⟩ trivial ?_ (.none rfl) rfl | refine DC.tri (T.loadElp 22 _ ag22 sz22 (by first | rfl | assumption)) ⟨rfl, trivial⟩ ⟨rfl, trivial⟩ ?_ (.none rfl) rfl); (first | refine DC.tri (T.lenSl 22 _ un22) ⟨rfl, trivial⟩ trivial ?_ (.none rfl) rfl | refine DC.tri (T.lenOwn 22 _ un22) ⟨rfl, trivial⟩ trivial ?_ (.none rfl) rfl | refine DC.tri (T.lenNil 22 _ un22) ⟨rfl, trivial⟩ trivial ?_ (.none rfl) rfl); refine DC.tri (T.lss _ _ _ _) ⟨rfl, rfl, trivial⟩ trivial ?_ (.none rfl) rfl; refine DC.nilN (by first | (dsimp only [evalD, lkF, lkE, updF, Nat.beq, cond_true, cond_false, List.cons_append, List.nil_append, List.append_nil, argF, Nat.reduceAdd, Nat.reduceMul, spliceD, List.take, List.drop, List.length, flats, Value.cells, List.map, List.set]; done) | exact rfl | fail) ?_)
      | (refine DW.regionC (id := 28) ?_; refine DC.tri (T.assign _ _) ⟨rfl, trivial⟩ trivial ?_ (.none rfl) rfl; refine DC.nilN (by first | (dsimp only [evalD, lkF, lkE, updF, Nat.beq, cond_true, cond_false, List.cons_append, List.nil_append, List.append_nil, argF, Nat.reduceAdd, Nat.reduceMul, spliceD, List.take, List.drop, List.length, flats, Value.cells, List.map, List.set]; done) | exact rfl | fail) ?_)
      | (refine DW.regionC (id := 29) ?_; refine DC.tri (T.assign _ _) ⟨rfl, trivial⟩ trivial ?_ (.none rfl) rfl; refine DC.nilN (by first | (dsimp only [evalD, lkF, lkE, updF, Nat.beq, cond_true, cond_false, List.cons_append, List.nil_append, List.append_nil, argF, Nat.reduceAdd, Nat.reduceMul, spliceD, List.take, List.drop, List.length, flats, Value.cells, List.map, List.set]; done) | exact rfl | fail) ?_)
      | (refine DW.condT' rfl (by first | rfl | assumption | exact decide_eq_true (by first | assumption | omega) | exact decide_eq_false (by first | assumption | omega) | (simp only [*]; done) | fail) ?_)
      | (refine DW.condF' rfl (by first | rfl | assumption | exact decide_eq_true (by first | assumption | omega) | exact decide_eq_false (by first | assumption | omega) | (simp only [*]; done) | fail) ?_)
      | (refine DW.exit ?_)
      | (refine DW.ret ?_)
      | fail)
  refine DW.adopt 17 105 3 1 rfl rfl ?_
  refine DW.loop (fun p : Nat => ⟨[(18, intD p), (17, .own 105 p), (16, intD i), (3, .ptr (auC A) 0), (4, .ptr (auC B) 0), (5, .ptr (wh.map boolD) 0), (12, .ref 12 0), (6, .ref 6 0), (10, intD A.final.length), (11, intD B.final.length)], [(105, some (.row 3 1 p (((List.range p).map fun q => prodT A B i (digs nm k q)).map fun x => .flat (.int .i64 x)))), (12, some (.box [intsD A.ranks, .own 103 (nm), .own 104 (i)])), (103, some (.row 4 1 (nm) (((List.range (nm)).map (prodF A B wh)).map boolD))), (104, some (.row 22 1 (i) (((tablesOf nm (prodT A B) A.ranks).take i).map intsD))), (6, some (.box [.flat (.slice none 0 0), .flat (.slice none 0 0), .flat (.slice none 0 0)]))]⟩) (fun p => p ≤ wd) (fun p => wd - p) 0 (by omega)
    (Sub.of ⟨⟨_, rfl, trivial⟩, ⟨_, rfl, Vs.pers rfl, Vs.own rfl rfl, Vs.own rfl rfl, trivial⟩, ⟨_, rfl, VsL.pers (persL_map (fun _ => rfl) _)⟩, ⟨_, rfl, VsL.pers (persL_map (fun _ => rfl) _)⟩, ⟨_, rfl, VsL.pers rfl⟩, trivial⟩ ⟨Vs.int (by simp), Vs.own rfl rfl, Vs.int (by simp), Vs.pers rfl, Vs.pers rfl, Vs.pers rfl, Vs.ref rfl, Vs.ref rfl, Vs.pers rfl, Vs.pers rfl, trivial⟩) ?_
  rintro p hp0
  have hvw : VwL [(103, some (.row 4 1 nm (((List.range (nm)).map (prodF A B wh)).map boolD))), (104, some (.row 22 1 i (((tablesOf nm (prodT A B) A.ranks).take i).map intsD)))] [.agg [intsD A.ranks, .own 103 nm, .own 104 i], intD i] [auD ⟨A.ranks, (List.range nm).map (prodF A B wh), (tablesOf nm (prodT A B) A.ranks).take i⟩, intD i] :=
    ⟨Vw.agg ⟨Vw.pers rfl, Vw.le (Vw.own (.head _) (VwL.pers (persL_map (fun _ => rfl) _))) (Le.of_eq (by simp [boolsD, boolD])), Vw.le (Vw.own (.tail _ (.head _)) (VwL.pers (persL_map (fun _ => rfl) _))) (Le.of_eq (by simp [rowsD, htl, Nat.min_eq_left hi])), trivial⟩, Vw.pers rfl, trivial⟩
  by_cases hp : p < wd
  rotate_left
  · obtain rfl : p = wd := by omega
    repeat (first
        | (refine DW.seq ?_)
        | (refine DW.block ?_)
        | (refine Thn.n ?_)
        | (refine Blk.n ?_)
        | (refine Blk.here ?_)
        | (refine Thn.e ?_)
        | (refine Blk.pass rfl ?_)
        | (refine Thn.r ?_)
        | (refine Blk.r ?_)
        | (refine DW.skip ?_)
        | (refine DW.label ?_)
        | (refine DW.regionC (id := 30) ?_; refine DC.tri (T.move _ _) ⟨rfl, trivial⟩ trivial ?_ (.none rfl) rfl; (first | refine DC.tri (T.loadRef 26 _ ag26 sz26 (by first | rfl | assumption)) ⟨rfl, trivial⟩ ⟨rfl, trivial⟩ ?_ (.none rfl) rfl | refine DC.tri (T.loadPtr 26 _ ag26 sz26 (by first | rfl | assumption)) ⟨rfl, trivial⟩ trivial ?_ (.none rfl) rfl | refine DC.tri (T.loadElp 26 _ ag26 sz26 (by first | rfl | assumption)) ⟨rfl, trivial⟩ ⟨rfl, trivial⟩ ?_ (.none rfl) rfl); refine DC.tri (T.move _ _) ⟨rfl, trivial⟩ trivial ?_ (.none rfl) rfl; refine DC.tri (T.callV («as» := [_, _]) (ds' := [_, _]) [(103, some (.row 4 1 nm (((List.range (nm)).map (prodF A B wh)).map boolD))), (104, some (.row 22 1 i (((tablesOf nm (prodT A B) A.ranks).take i).map intsD)))] ent51 hpl rfl hvw rfl) ⟨rfl, rfl, trivial⟩ ⟨rfl, rfl, trivial⟩ ?_ (.none rfl) rfl; refine DC.tri (T.lss _ _ _ _) ⟨rfl, rfl, trivial⟩ trivial ?_ (.none rfl) rfl; refine DC.nilN (by first | (dsimp only [evalD, lkF, lkE, updF, Nat.beq, cond_true, cond_false, List.cons_append, List.nil_append, List.append_nil, argF, Nat.reduceAdd, Nat.reduceMul, spliceD, List.take, List.drop, List.length, flats, Value.cells, List.map, List.set]; done) | exact rfl | fail) ?_)
        | (refine DW.condT' rfl (by first | rfl | assumption | exact decide_eq_true (by first | assumption | omega) | exact decide_eq_false (by first | assumption | omega) | (simp only [*]; done) | fail) ?_)
        | (refine DW.condF' rfl (by first | rfl | assumption | exact decide_eq_true (by first | assumption | omega) | exact decide_eq_false (by first | assumption | omega) | (simp only [*]; done) | fail) ?_)
        | (refine DW.exit ?_)
        | (refine DW.ret ?_)
        | fail)
    refine DW.sub (Sub.of (σ' := [(12, some (.box [intsD A.ranks, .own 103 (nm), .own 104 (i)])), (103, some (.row 4 1 (nm) (((List.range (nm)).map (prodF A B wh)).map boolD))), (104, some (.row 22 1 (i) (((tablesOf nm (prodT A B) A.ranks).take i).map intsD))), (6, some (.box [.flat (.slice none 0 0), .flat (.slice none 0 0), .flat (.slice none 0 0)]))]) (f' := [(17, intsD (tableOf nm (prodT A B) i k)), (16, intD i), (3, .ptr (auC A) 0), (4, .ptr (auC B) 0), (5, .ptr (wh.map boolD) 0), (12, .ref 12 0), (6, .ref 6 0), (10, intD A.final.length), (11, intD B.final.length)])
      ⟨⟨_, rfl, Vs.pers rfl, Vs.own rfl rfl, Vs.own rfl rfl, trivial⟩, ⟨_, rfl, VsL.pers (persL_map (fun _ => rfl) _)⟩, ⟨_, rfl, VsL.pers (persL_map (fun _ => rfl) _)⟩, ⟨_, rfl, VsL.pers rfl⟩, trivial⟩ ⟨Vs.shut (pe := [(105, some (.row 3 1 p (((List.range p).map fun q => prodT A B i (digs nm k q)).map fun x => .flat (.int .i64 x))))]) ⟨rfl, trivial⟩ (Vw.le (Vw.own (.head _) (VwL.pers (persL_map (fun _ => rfl) _))) (Le.of_eq (by simp [intsD, hrow]))) (fun id h => by simp only [keys, List.map_cons, List.map_nil, List.mem_singleton] at h; subst h; rfl), Vs.pers rfl, Vs.pers rfl, Vs.pers rfl, Vs.pers rfl, Vs.ref rfl, Vs.ref rfl, Vs.pers rfl, Vs.pers rfl, trivial⟩) ?_
    repeat (first
        | (refine DW.seq ?_)
        | (refine DW.block ?_)
        | (refine Thn.n ?_)
        | (refine Blk.n ?_)
        | (refine Blk.here ?_)
        | (refine Thn.e ?_)
        | (refine Blk.pass rfl ?_)
        | (refine Thn.r ?_)
        | (refine Blk.r ?_)
        | (refine DW.skip ?_)
        | (refine DW.label ?_)
        | (refine DW.regionC (id := 27) ?_; refine DC.tri (T.move _ _) ⟨rfl, trivial⟩ trivial ?_ (.none rfl) rfl; (first | refine DC.tri (T.add (k := .i64) _ _ _ _ (w64 (by omega) (by omega))) ⟨rfl, rfl, trivial⟩ trivial ?_ (.none rfl) rfl | refine DC.tri (T.add (k := .i64) _ _ _ _ (by assumption)) ⟨rfl, rfl, trivial⟩ trivial ?_ (.none rfl) rfl); refine DC.tri (T.assign _ _) ⟨rfl, trivial⟩ trivial ?_ (.none rfl) rfl; refine DC.nilN (by first | (dsimp only [evalD, lkF, lkE, updF, Nat.beq, cond_true, cond_false, List.cons_append, List.nil_append, List.append_nil, argF, Nat.reduceAdd, Nat.reduceMul, spliceD, List.take, List.drop, List.length, flats, Value.cells, List.map, List.set]; done) | exact rfl | fail) ?_)
        | (refine DW.regionC (id := 42) ?_; (first | refine DC.tri (T.fieldRef' 26 _ 2 fd26_2 (by decide)) ⟨rfl, trivial⟩ trivial ?_ (.none rfl) rfl | refine DC.tri (T.fieldPtr' 26 _ 2 fd26_2 (by decide)) ⟨rfl, trivial⟩ trivial ?_ (.none rfl) rfl); (first | refine DC.tri (T.loadRef 24 _ ag24 sz24 (by first | rfl | assumption)) ⟨rfl, trivial⟩ ⟨rfl, trivial⟩ ?_ (.none rfl) rfl | refine DC.tri (T.loadPtr 24 _ ag24 sz24 (by first | rfl | assumption)) ⟨rfl, trivial⟩ trivial ?_ (.none rfl) rfl | refine DC.tri (T.loadElp 24 _ ag24 sz24 (by first | rfl | assumption)) ⟨rfl, trivial⟩ ⟨rfl, trivial⟩ ?_ (.none rfl) rfl); refine DC.tri (T.move _ _) ⟨rfl, trivial⟩ trivial ?_ (.none rfl) rfl; refine DC.tri (T.buildSl1 24 _ un24 ze22 sz22 rfl rfl (by decide) rfl) ⟨rfl, trivial⟩ trivial ?_ (.none rfl) rfl; refine DC.tri (T.append 24 _ _ un24 nf22 rfl (by decide) (by decide) (by first | rfl | assumption | exact oneL_map (fun _ => rfl) _) (by omega)) ⟨rfl, rfl, trivial⟩ ⟨rfl, trivial⟩ ?_ (.none rfl) rfl; (first | refine DC.tri (T.fieldRef' 26 _ 2 fd26_2 (by decide)) ⟨rfl, trivial⟩ trivial ?_ (.none rfl) rfl | refine DC.tri (T.fieldPtr' 26 _ 2 fd26_2 (by decide)) ⟨rfl, trivial⟩ trivial ?_ (.none rfl) rfl); (first | refine DC.tri (T.storeRef 24 _ _ sz24 rfl rfl (by first | rfl | simp [oneL, oneD, Value.oneCell']) (by first | decide | (simp; done) | omega | (simp; omega))) ⟨rfl, rfl, trivial⟩ ⟨rfl, trivial⟩ ?_ (.none rfl) rfl | refine DC.tri (T.storeElp 24 _ _ sz24 rfl rfl rfl (by first | decide | (simp; done) | omega | (simp; omega))) ⟨rfl, rfl, trivial⟩ ⟨rfl, trivial⟩ ?_ (.none rfl) rfl); refine DC.nilN (by first | (dsimp only [evalD, lkF, lkE, updF, Nat.beq, cond_true, cond_false, List.cons_append, List.nil_append, List.append_nil, argF, Nat.reduceAdd, Nat.reduceMul, spliceD, List.take, List.drop, List.length, flats, Value.cells, List.map, List.set]; done) | exact rfl | fail) ?_)
        | (refine DW.condT' rfl (by first | rfl | assumption | exact decide_eq_true (by first | assumption | omega) | exact decide_eq_false (by first | assumption | omega) | (simp only [*]; done) | fail) ?_)
        | (refine DW.condF' rfl (by first | rfl | assumption | exact decide_eq_true (by first | assumption | omega) | exact decide_eq_false (by first | assumption | omega) | (simp only [*]; done) | fail) ?_)
        | (refine DW.exit ?_)
        | (refine DW.ret ?_)
        | fail)
    refine ⟨i + 1, by omega, by omega, Sub.of ⟨⟨_, rfl, Vs.pers rfl, Vs.own rfl rfl, Vs.own rfl rfl, trivial⟩, ⟨_, rfl, VsL.pers (persL_map (fun _ => rfl) _)⟩, ⟨_, rfl, VsL.eq ?_ (persL_map (fun _ => rfl) _)⟩, ⟨_, rfl, VsL.pers rfl⟩, trivial⟩ ⟨Vs.int (by simp), Vs.pers rfl, Vs.pers rfl, Vs.pers rfl, Vs.ref rfl, Vs.ref rfl, Vs.pers rfl, Vs.pers rfl, trivial⟩⟩
    rw [List.take_add_one, tables_get hk0]; simp; rfl
  obtain ⟨hf1, hf2⟩ : Fits A i ((digs nm k p).map fun d => d / (B.final.length : Int)) ∧ Fits B i ((digs nm k p).map fun d => d % (B.final.length : Int)) := by
    rw [← hnm]; exact prod_digs hA hB hr hk0
  have q1 := atE_bd hA hf1
  have q2 := atE_bd hB hf2
  have q3 : atI A i ((digs nm k p).map fun d => d / (B.final.length : Int)) * (B.final.length : Int) ≤ 512 * 512 := Int.mul_le_mul (by omega) (by omega) (by omega) (by omega)
  have q4 : 0 ≤ atI A i ((digs nm k p).map fun d => d / (B.final.length : Int)) * (B.final.length : Int) := Int.mul_nonneg q1.1 (by omega)
  have q5 : 0 ≤ (p : Int) / ((A.final.length : Int) * (B.final.length : Int)) ∧ (p : Int) / ((A.final.length : Int) * (B.final.length : Int)) ≤ p := ⟨Int.ediv_nonneg (by omega) (by omega), Int.ediv_le_self _ (by omega)⟩
  have q6 : 0 ≤ (p : Int) % ((A.final.length : Int) * (B.final.length : Int)) ∧ (p : Int) % ((A.final.length : Int) * (B.final.length : Int)) < (A.final.length : Int) * (B.final.length : Int) := ⟨Int.emod_nonneg _ (by omega), Int.emod_lt_of_pos _ hpos⟩
  have e1 : k = 1 → (digs nm k p).map (fun d => d / (B.final.length : Int)) = [(p : Int) / (B.final.length : Int)] ∧ (digs nm k p).map (fun d => d % (B.final.length : Int)) = [(p : Int) % (B.final.length : Int)] := fun h => by
    subst h; rw [digs_one (by rw [hwd]; exact hp)]; exact ⟨rfl, rfl⟩
  have e2 : k = 2 → (digs nm k p).map (fun d => d / (B.final.length : Int)) = [(p : Int) / ((A.final.length : Int) * (B.final.length : Int)) / (B.final.length : Int), (p : Int) % ((A.final.length : Int) * (B.final.length : Int)) / (B.final.length : Int)] ∧ (digs nm k p).map (fun d => d % (B.final.length : Int)) = [(p : Int) / ((A.final.length : Int) * (B.final.length : Int)) % (B.final.length : Int), (p : Int) % ((A.final.length : Int) * (B.final.length : Int)) % (B.final.length : Int)] := fun h => by
    subst h; rw [digs_two (by rw [hwd]; exact hp), hmi]; exact ⟨rfl, rfl⟩
  rcases (show k = 0 ∨ k = 1 ∨ k = 2 by omega) with rfl | rfl | rfl
  · repeat (first
        | (refine DW.seq ?_)
        | (refine DW.block ?_)
        | (refine Thn.n ?_)
        | (refine Blk.n ?_)
        | (refine Blk.here ?_)
        | (refine Thn.e ?_)
        | (refine Blk.pass rfl ?_)
        | (refine Thn.r ?_)
        | (refine Blk.r ?_)
        | (refine DW.skip ?_)
        | (refine DW.label ?_)
        | (refine DW.regionC (id := 30) ?_; refine DC.tri (T.move _ _) ⟨rfl, trivial⟩ trivial ?_ (.none rfl) rfl; (first | refine DC.tri (T.loadRef 26 _ ag26 sz26 (by first | rfl | assumption)) ⟨rfl, trivial⟩ ⟨rfl, trivial⟩ ?_ (.none rfl) rfl | refine DC.tri (T.loadPtr 26 _ ag26 sz26 (by first | rfl | assumption)) ⟨rfl, trivial⟩ trivial ?_ (.none rfl) rfl | refine DC.tri (T.loadElp 26 _ ag26 sz26 (by first | rfl | assumption)) ⟨rfl, trivial⟩ ⟨rfl, trivial⟩ ?_ (.none rfl) rfl); refine DC.tri (T.move _ _) ⟨rfl, trivial⟩ trivial ?_ (.none rfl) rfl; refine DC.tri (T.callV («as» := [_, _]) (ds' := [_, _]) [(103, some (.row 4 1 nm (((List.range (nm)).map (prodF A B wh)).map boolD))), (104, some (.row 22 1 i (((tablesOf nm (prodT A B) A.ranks).take i).map intsD)))] ent51 hpl rfl hvw rfl) ⟨rfl, rfl, trivial⟩ ⟨rfl, rfl, trivial⟩ ?_ (.none rfl) rfl; refine DC.tri (T.lss _ _ _ _) ⟨rfl, rfl, trivial⟩ trivial ?_ (.none rfl) rfl; refine DC.nilN (by first | (dsimp only [evalD, lkF, lkE, updF, Nat.beq, cond_true, cond_false, List.cons_append, List.nil_append, List.append_nil, argF, Nat.reduceAdd, Nat.reduceMul, spliceD, List.take, List.drop, List.length, flats, Value.cells, List.map, List.set]; done) | exact rfl | fail) ?_)
        | (refine DW.regionC (id := 31) ?_; refine DC.tri (T.move _ _) ⟨rfl, trivial⟩ trivial ?_ (.none rfl) rfl; (first | refine DC.tri (T.add (k := .i64) _ _ _ _ (w64 (by omega) (by omega))) ⟨rfl, rfl, trivial⟩ trivial ?_ (.none rfl) rfl | refine DC.tri (T.add (k := .i64) _ _ _ _ (by assumption)) ⟨rfl, rfl, trivial⟩ trivial ?_ (.none rfl) rfl); refine DC.tri (T.assign _ _) ⟨rfl, trivial⟩ trivial ?_ (.none rfl) rfl; refine DC.nilN (by first | (dsimp only [evalD, lkF, lkE, updF, Nat.beq, cond_true, cond_false, List.cons_append, List.nil_append, List.append_nil, argF, Nat.reduceAdd, Nat.reduceMul, spliceD, List.take, List.drop, List.length, flats, Value.cells, List.map, List.set]; done) | exact rfl | fail) ?_)
        | (refine DW.regionC (id := 32) ?_; refine DC.tri (T.assign _ _) ⟨rfl, trivial⟩ trivial ?_ (.none rfl) rfl; refine DC.tri (T.assign _ _) ⟨rfl, trivial⟩ trivial ?_ (.none rfl) rfl; refine DC.nilN (by first | (dsimp only [evalD, lkF, lkE, updF, Nat.beq, cond_true, cond_false, List.cons_append, List.nil_append, List.append_nil, argF, Nat.reduceAdd, Nat.reduceMul, spliceD, List.take, List.drop, List.length, flats, Value.cells, List.map, List.set]; done) | exact rfl | fail) ?_)
        | (refine DW.regionC (id := 33) ?_; (first | refine DC.tri (T.fieldRef' 26 _ 0 fd26_0 (by decide)) ⟨rfl, trivial⟩ trivial ?_ (.none rfl) rfl | refine DC.tri (T.fieldPtr' 26 _ 0 fd26_0 (by decide)) ⟨rfl, trivial⟩ trivial ?_ (.none rfl) rfl); (first | refine DC.tri (T.loadRef 22 _ ag22 sz22 (by first | rfl | assumption)) ⟨rfl, trivial⟩ ⟨rfl, trivial⟩ ?_ (.none rfl) rfl | refine DC.tri (T.loadPtr 22 _ ag22 sz22 (by first | rfl | assumption)) ⟨rfl, trivial⟩ trivial ?_ (.none rfl) rfl | refine DC.tri (T.loadElp 22 _ ag22 sz22 (by first | rfl | assumption)) ⟨rfl, trivial⟩ ⟨rfl, trivial⟩ ?_ (.none rfl) rfl); refine DC.tri (T.move _ _) ⟨rfl, trivial⟩ trivial ?_ (.none rfl) rfl; (first | refine DC.tri (T.indexSl 22 _ _ un22 sz3 (by omega) (by omega) (by decide)) ⟨rfl, rfl, trivial⟩ trivial ?_ (.none rfl) rfl | refine DC.tri (T.indexOwn 22 _ _ un22 sz3 (by omega) (by omega)) ⟨rfl, rfl, trivial⟩ ⟨rfl, trivial⟩ ?_ (.none rfl) rfl); (first | refine DC.tri (T.loadRef 3 _ ag3 sz3 (by first | rfl | assumption)) ⟨rfl, trivial⟩ ⟨rfl, trivial⟩ ?_ (.none rfl) rfl | refine DC.tri (T.loadPtr 3 _ ag3 sz3 (by first | rfl | assumption)) ⟨rfl, trivial⟩ trivial ?_ (.none rfl) rfl | refine DC.tri (T.loadElp 3 _ ag3 sz3 (by first | rfl | assumption)) ⟨rfl, trivial⟩ ⟨rfl, trivial⟩ ?_ (.none rfl) rfl); refine DC.nilN (by first | (dsimp only [evalD, lkF, lkE, updF, Nat.beq, cond_true, cond_false, List.cons_append, List.nil_append, List.append_nil, argF, Nat.reduceAdd, Nat.reduceMul, spliceD, List.take, List.drop, List.length, flats, Value.cells, List.map, List.set]; done) | exact rfl | fail) ?_)
        | (refine DW.regionC (id := 34) ?_; refine DC.tri (T.eql _ _ _ _) ⟨rfl, rfl, trivial⟩ trivial ?_ (.none rfl) rfl; refine DC.tri (T.assign _ _) ⟨rfl, trivial⟩ trivial ?_ (.none rfl) rfl; refine DC.nilN (by first | (dsimp only [evalD, lkF, lkE, updF, Nat.beq, cond_true, cond_false, List.cons_append, List.nil_append, List.append_nil, argF, Nat.reduceAdd, Nat.reduceMul, spliceD, List.take, List.drop, List.length, flats, Value.cells, List.map, List.set]; done) | exact rfl | fail) ?_)
        | (refine DW.regionC (id := 36) ?_; refine DC.tri (T.eql _ _ _ _) ⟨rfl, rfl, trivial⟩ trivial ?_ (.none rfl) rfl; refine DC.tri (T.assign _ _) ⟨rfl, trivial⟩ trivial ?_ (.none rfl) rfl; refine DC.nilN (by first | (dsimp only [evalD, lkF, lkE, updF, Nat.beq, cond_true, cond_false, List.cons_append, List.nil_append, List.append_nil, argF, Nat.reduceAdd, Nat.reduceMul, spliceD, List.take, List.drop, List.length, flats, Value.cells, List.map, List.set]; done) | exact rfl | fail) ?_)
        | (refine DW.regionC (id := 39) ?_; (first | refine DC.tri (T.loadRef 26 _ ag26 sz26 (by first | rfl | assumption)) ⟨rfl, trivial⟩ ⟨rfl, trivial⟩ ?_ (.none rfl) rfl | refine DC.tri (T.loadPtr 26 _ ag26 sz26 (by first | rfl | assumption)) ⟨rfl, trivial⟩ trivial ?_ (.none rfl) rfl | refine DC.tri (T.loadElp 26 _ ag26 sz26 (by first | rfl | assumption)) ⟨rfl, trivial⟩ ⟨rfl, trivial⟩ ?_ (.none rfl) rfl); refine DC.tri (T.move _ _) ⟨rfl, trivial⟩ trivial ?_ (.none rfl) rfl; refine DC.tri (T.move _ _) ⟨rfl, trivial⟩ trivial ?_ (.none rfl) rfl; (first | refine DC.tri (T.call («as» := [_, _, _]) (ds' := [_, _, _]) ent24 (rstep_d A hA i _ hf1) rfl rfl (LeL.cons (Le.refl _) (LeL.cons (Le.refl _) (LeL.cons Le.empty .nil)))) ⟨rfl, rfl, rfl, trivial⟩ trivial ?_ (.none rfl) rfl | refine DC.tri (T.call («as» := [_, _, _]) (ds' := [_, _, _]) ent24 (rstep_d B hB i _ hf2) rfl rfl (LeL.cons (Le.refl _) (LeL.cons (Le.refl _) (LeL.cons Le.empty .nil)))) ⟨rfl, rfl, rfl, trivial⟩ trivial ?_ (.none rfl) rfl); refine DC.tri (T.move _ _) ⟨rfl, trivial⟩ trivial ?_ (.none rfl) rfl; refine DC.tri (T.extract _ _ rfl) ⟨rfl, trivial⟩ trivial ?_ (.none rfl) rfl; refine DC.tri (T.extract _ _ rfl) ⟨rfl, trivial⟩ trivial ?_ (.none rfl) rfl; refine DC.tri (T.assign _ _) ⟨rfl, trivial⟩ trivial ?_ (.none rfl) rfl; refine DC.tri (T.assign _ _) ⟨rfl, trivial⟩ trivial ?_ (.none rfl) rfl; refine DC.nilN (by first | (dsimp only [evalD, lkF, lkE, updF, Nat.beq, cond_true, cond_false, List.cons_append, List.nil_append, List.append_nil, argF, Nat.reduceAdd, Nat.reduceMul, spliceD, List.take, List.drop, List.length, flats, Value.cells, List.map, List.set]; done) | exact rfl | fail) ?_)
        | (refine DW.regionC (id := 40) ?_; (first | refine DC.tri (T.loadRef 26 _ ag26 sz26 (by first | rfl | assumption)) ⟨rfl, trivial⟩ ⟨rfl, trivial⟩ ?_ (.none rfl) rfl | refine DC.tri (T.loadPtr 26 _ ag26 sz26 (by first | rfl | assumption)) ⟨rfl, trivial⟩ trivial ?_ (.none rfl) rfl | refine DC.tri (T.loadElp 26 _ ag26 sz26 (by first | rfl | assumption)) ⟨rfl, trivial⟩ ⟨rfl, trivial⟩ ?_ (.none rfl) rfl); refine DC.tri (T.move _ _) ⟨rfl, trivial⟩ trivial ?_ (.none rfl) rfl; refine DC.tri (T.move _ _) ⟨rfl, trivial⟩ trivial ?_ (.none rfl) rfl; (first | refine DC.tri (T.call («as» := [_, _, _]) (ds' := [_, _, _]) ent24 (rstep_d A hA i _ hf1) rfl rfl (LeL.cons (Le.refl _) (LeL.cons (Le.refl _) (LeL.cons Le.empty .nil)))) ⟨rfl, rfl, rfl, trivial⟩ trivial ?_ (.none rfl) rfl | refine DC.tri (T.call («as» := [_, _, _]) (ds' := [_, _, _]) ent24 (rstep_d B hB i _ hf2) rfl rfl (LeL.cons (Le.refl _) (LeL.cons (Le.refl _) (LeL.cons Le.empty .nil)))) ⟨rfl, rfl, rfl, trivial⟩ trivial ?_ (.none rfl) rfl); refine DC.tri (T.move _ _) ⟨rfl, trivial⟩ trivial ?_ (.none rfl) rfl; refine DC.tri (T.extract _ _ rfl) ⟨rfl, trivial⟩ trivial ?_ (.none rfl) rfl; refine DC.tri (T.extract _ _ rfl) ⟨rfl, trivial⟩ trivial ?_ (.none rfl) rfl; refine DC.tri (T.assign _ _) ⟨rfl, trivial⟩ trivial ?_ (.none rfl) rfl; refine DC.tri (T.assign _ _) ⟨rfl, trivial⟩ trivial ?_ (.none rfl) rfl; refine DC.nilN (by first | (dsimp only [evalD, lkF, lkE, updF, Nat.beq, cond_true, cond_false, List.cons_append, List.nil_append, List.append_nil, argF, Nat.reduceAdd, Nat.reduceMul, spliceD, List.take, List.drop, List.length, flats, Value.cells, List.map, List.set]; done) | exact rfl | fail) ?_)
        | (refine DW.regionC (id := 41) ?_; refine DC.tri (T.move _ _) ⟨rfl, trivial⟩ trivial ?_ (.none rfl) rfl; refine DC.tri (T.move _ _) ⟨rfl, trivial⟩ trivial ?_ (.none rfl) rfl; refine DC.tri (T.move _ _) ⟨rfl, trivial⟩ trivial ?_ (.none rfl) rfl; (first | refine DC.tri (T.mul (k := .i64) _ _ _ _ (w64 (by omega) (by omega))) ⟨rfl, rfl, trivial⟩ trivial ?_ (.none rfl) rfl | refine DC.tri (T.mul (k := .i64) _ _ _ _ (by assumption)) ⟨rfl, rfl, trivial⟩ trivial ?_ (.none rfl) rfl); refine DC.tri (T.move _ _) ⟨rfl, trivial⟩ trivial ?_ (.none rfl) rfl; (first | refine DC.tri (T.add (k := .i64) _ _ _ _ (w64 (by omega) (by omega))) ⟨rfl, rfl, trivial⟩ trivial ?_ (.none rfl) rfl | refine DC.tri (T.add (k := .i64) _ _ _ _ (by assumption)) ⟨rfl, rfl, trivial⟩ trivial ?_ (.none rfl) rfl); refine DC.tri (T.buildSl1 22 _ un22 ze3 sz3 rfl rfl (by decide) rfl) ⟨rfl, trivial⟩ trivial ?_ (.none rfl) rfl; refine DC.tri (T.append 22 _ _ un22 nf3 rfl (by decide) (by decide) (by first | rfl | assumption | exact oneL_map (fun _ => rfl) _) (by omega)) ⟨rfl, rfl, trivial⟩ ⟨rfl, trivial⟩ ?_ (.none rfl) rfl; refine DC.tri (T.assign _ _) ⟨rfl, trivial⟩ trivial ?_ (.none rfl) rfl; refine DC.nilN (by first | (dsimp only [evalD, lkF, lkE, updF, Nat.beq, cond_true, cond_false, List.cons_append, List.nil_append, List.append_nil, argF, Nat.reduceAdd, Nat.reduceMul, spliceD, List.take, List.drop, List.length, flats, Value.cells, List.map, List.set]; done) | exact rfl | fail) ?_)
        | (refine DW.condT' rfl (by first | rfl | assumption | exact decide_eq_true (by first | assumption | omega) | exact decide_eq_false (by first | assumption | omega) | (simp only [*]; done) | fail) ?_)
        | (refine DW.condF' rfl (by first | rfl | assumption | exact decide_eq_true (by first | assumption | omega) | exact decide_eq_false (by first | assumption | omega) | (simp only [*]; done) | fail) ?_)
        | (refine DW.exit ?_)
        | (refine DW.ret ?_)
        | fail)
    refine ⟨p + 1, by omega, by omega, Sub.of ⟨⟨_, rfl, VsL.eq ?_ (persL_map (fun _ => rfl) _)⟩, ⟨_, rfl, Vs.pers rfl, Vs.own rfl rfl, Vs.own rfl rfl, trivial⟩, ⟨_, rfl, VsL.pers (persL_map (fun _ => rfl) _)⟩, ⟨_, rfl, VsL.pers (persL_map (fun _ => rfl) _)⟩, ⟨_, rfl, VsL.pers rfl⟩, trivial⟩ ⟨Vs.int (by simp), Vs.own rfl rfl, Vs.pers rfl, Vs.pers rfl, Vs.pers rfl, Vs.pers rfl, Vs.ref rfl, Vs.ref rfl, Vs.pers rfl, Vs.pers rfl, trivial⟩⟩
    rw [List.range_succ, List.map_append, List.map_append]; rfl
  · repeat (first
        | (refine DW.seq ?_)
        | (refine DW.block ?_)
        | (refine Thn.n ?_)
        | (refine Blk.n ?_)
        | (refine Blk.here ?_)
        | (refine Thn.e ?_)
        | (refine Blk.pass rfl ?_)
        | (refine Thn.r ?_)
        | (refine Blk.r ?_)
        | (refine DW.skip ?_)
        | (refine DW.label ?_)
        | (refine DW.regionC (id := 30) ?_; refine DC.tri (T.move _ _) ⟨rfl, trivial⟩ trivial ?_ (.none rfl) rfl; (first | refine DC.tri (T.loadRef 26 _ ag26 sz26 (by first | rfl | assumption)) ⟨rfl, trivial⟩ ⟨rfl, trivial⟩ ?_ (.none rfl) rfl | refine DC.tri (T.loadPtr 26 _ ag26 sz26 (by first | rfl | assumption)) ⟨rfl, trivial⟩ trivial ?_ (.none rfl) rfl | refine DC.tri (T.loadElp 26 _ ag26 sz26 (by first | rfl | assumption)) ⟨rfl, trivial⟩ ⟨rfl, trivial⟩ ?_ (.none rfl) rfl); refine DC.tri (T.move _ _) ⟨rfl, trivial⟩ trivial ?_ (.none rfl) rfl; refine DC.tri (T.callV («as» := [_, _]) (ds' := [_, _]) [(103, some (.row 4 1 nm (((List.range (nm)).map (prodF A B wh)).map boolD))), (104, some (.row 22 1 i (((tablesOf nm (prodT A B) A.ranks).take i).map intsD)))] ent51 hpl rfl hvw rfl) ⟨rfl, rfl, trivial⟩ ⟨rfl, rfl, trivial⟩ ?_ (.none rfl) rfl; refine DC.tri (T.lss _ _ _ _) ⟨rfl, rfl, trivial⟩ trivial ?_ (.none rfl) rfl; refine DC.nilN (by first | (dsimp only [evalD, lkF, lkE, updF, Nat.beq, cond_true, cond_false, List.cons_append, List.nil_append, List.append_nil, argF, Nat.reduceAdd, Nat.reduceMul, spliceD, List.take, List.drop, List.length, flats, Value.cells, List.map, List.set]; done) | exact rfl | fail) ?_)
        | (refine DW.regionC (id := 31) ?_; refine DC.tri (T.move _ _) ⟨rfl, trivial⟩ trivial ?_ (.none rfl) rfl; (first | refine DC.tri (T.add (k := .i64) _ _ _ _ (w64 (by omega) (by omega))) ⟨rfl, rfl, trivial⟩ trivial ?_ (.none rfl) rfl | refine DC.tri (T.add (k := .i64) _ _ _ _ (by assumption)) ⟨rfl, rfl, trivial⟩ trivial ?_ (.none rfl) rfl); refine DC.tri (T.assign _ _) ⟨rfl, trivial⟩ trivial ?_ (.none rfl) rfl; refine DC.nilN (by first | (dsimp only [evalD, lkF, lkE, updF, Nat.beq, cond_true, cond_false, List.cons_append, List.nil_append, List.append_nil, argF, Nat.reduceAdd, Nat.reduceMul, spliceD, List.take, List.drop, List.length, flats, Value.cells, List.map, List.set]; done) | exact rfl | fail) ?_)
        | (refine DW.regionC (id := 32) ?_; refine DC.tri (T.assign _ _) ⟨rfl, trivial⟩ trivial ?_ (.none rfl) rfl; refine DC.tri (T.assign _ _) ⟨rfl, trivial⟩ trivial ?_ (.none rfl) rfl; refine DC.nilN (by first | (dsimp only [evalD, lkF, lkE, updF, Nat.beq, cond_true, cond_false, List.cons_append, List.nil_append, List.append_nil, argF, Nat.reduceAdd, Nat.reduceMul, spliceD, List.take, List.drop, List.length, flats, Value.cells, List.map, List.set]; done) | exact rfl | fail) ?_)
        | (refine DW.regionC (id := 33) ?_; (first | refine DC.tri (T.fieldRef' 26 _ 0 fd26_0 (by decide)) ⟨rfl, trivial⟩ trivial ?_ (.none rfl) rfl | refine DC.tri (T.fieldPtr' 26 _ 0 fd26_0 (by decide)) ⟨rfl, trivial⟩ trivial ?_ (.none rfl) rfl); (first | refine DC.tri (T.loadRef 22 _ ag22 sz22 (by first | rfl | assumption)) ⟨rfl, trivial⟩ ⟨rfl, trivial⟩ ?_ (.none rfl) rfl | refine DC.tri (T.loadPtr 22 _ ag22 sz22 (by first | rfl | assumption)) ⟨rfl, trivial⟩ trivial ?_ (.none rfl) rfl | refine DC.tri (T.loadElp 22 _ ag22 sz22 (by first | rfl | assumption)) ⟨rfl, trivial⟩ ⟨rfl, trivial⟩ ?_ (.none rfl) rfl); refine DC.tri (T.move _ _) ⟨rfl, trivial⟩ trivial ?_ (.none rfl) rfl; (first | refine DC.tri (T.indexSl 22 _ _ un22 sz3 (by omega) (by omega) (by decide)) ⟨rfl, rfl, trivial⟩ trivial ?_ (.none rfl) rfl | refine DC.tri (T.indexOwn 22 _ _ un22 sz3 (by omega) (by omega)) ⟨rfl, rfl, trivial⟩ ⟨rfl, trivial⟩ ?_ (.none rfl) rfl); (first | refine DC.tri (T.loadRef 3 _ ag3 sz3 (by first | rfl | assumption)) ⟨rfl, trivial⟩ ⟨rfl, trivial⟩ ?_ (.none rfl) rfl | refine DC.tri (T.loadPtr 3 _ ag3 sz3 (by first | rfl | assumption)) ⟨rfl, trivial⟩ trivial ?_ (.none rfl) rfl | refine DC.tri (T.loadElp 3 _ ag3 sz3 (by first | rfl | assumption)) ⟨rfl, trivial⟩ ⟨rfl, trivial⟩ ?_ (.none rfl) rfl); refine DC.nilN (by first | (dsimp only [evalD, lkF, lkE, updF, Nat.beq, cond_true, cond_false, List.cons_append, List.nil_append, List.append_nil, argF, Nat.reduceAdd, Nat.reduceMul, spliceD, List.take, List.drop, List.length, flats, Value.cells, List.map, List.set]; done) | exact rfl | fail) ?_)
        | (refine DW.regionC (id := 34) ?_; refine DC.tri (T.eql _ _ _ _) ⟨rfl, rfl, trivial⟩ trivial ?_ (.none rfl) rfl; refine DC.tri (T.assign _ _) ⟨rfl, trivial⟩ trivial ?_ (.none rfl) rfl; refine DC.nilN (by first | (dsimp only [evalD, lkF, lkE, updF, Nat.beq, cond_true, cond_false, List.cons_append, List.nil_append, List.append_nil, argF, Nat.reduceAdd, Nat.reduceMul, spliceD, List.take, List.drop, List.length, flats, Value.cells, List.map, List.set]; done) | exact rfl | fail) ?_)
        | (refine DW.drawnC (id := 35) rfl (by kernel_rfl) ?_; refine DC.tri (T.move _ _) ⟨rfl, trivial⟩ trivial ?_ (.none rfl) rfl; refine DC.tri (T.move _ _) ⟨rfl, trivial⟩ trivial ?_ (.none rfl) rfl; refine DC.tri (T.quo (k := .i64) _ _ _ _ (by omega) (quo64 (by omega) (by omega) (by omega))) ⟨rfl, rfl, trivial⟩ trivial ?_ (.none rfl) rfl; refine DC.tri (T.buildSl1 22 _ un22 ze3 sz3 rfl rfl (by decide) rfl) ⟨rfl, trivial⟩ trivial ?_ (.none rfl) rfl; refine DC.tri (T.move _ _) ⟨rfl, trivial⟩ trivial ?_ (.none rfl) rfl; refine DC.tri (T.move _ _) ⟨rfl, trivial⟩ trivial ?_ (.none rfl) rfl; refine DC.tri (T.rem (k := .i64) _ _ _ _ (by omega) (rem64 (by omega))) ⟨rfl, rfl, trivial⟩ trivial ?_ (.none rfl) rfl; refine DC.tri (T.buildSl1 22 _ un22 ze3 sz3 rfl rfl (by decide) rfl) ⟨rfl, trivial⟩ trivial ?_ (.none rfl) rfl; refine DC.tri (T.assign _ _) ⟨rfl, trivial⟩ trivial ?_ (.none rfl) rfl; refine DC.tri (T.assign _ _) ⟨rfl, trivial⟩ trivial ?_ (.none rfl) rfl; refine DC.nilN (by first | (dsimp only [evalD, lkF, lkE, updF, Nat.beq, cond_true, cond_false, List.cons_append, List.nil_append, List.append_nil, argF, Nat.reduceAdd, Nat.reduceMul, spliceD, List.take, List.drop, List.length, flats, Value.cells, List.map, List.set]; done) | exact rfl | fail) ?_; refine ⟨by kernel_rfl, ?_⟩)
        | (refine DW.regionC (id := 39) ?_; (first | refine DC.tri (T.loadRef 26 _ ag26 sz26 (by first | rfl | assumption)) ⟨rfl, trivial⟩ ⟨rfl, trivial⟩ ?_ (.none rfl) rfl | refine DC.tri (T.loadPtr 26 _ ag26 sz26 (by first | rfl | assumption)) ⟨rfl, trivial⟩ trivial ?_ (.none rfl) rfl | refine DC.tri (T.loadElp 26 _ ag26 sz26 (by first | rfl | assumption)) ⟨rfl, trivial⟩ ⟨rfl, trivial⟩ ?_ (.none rfl) rfl); refine DC.tri (T.move _ _) ⟨rfl, trivial⟩ trivial ?_ (.none rfl) rfl; refine DC.tri (T.move _ _) ⟨rfl, trivial⟩ trivial ?_ (.none rfl) rfl; (first | refine DC.tri (T.call («as» := [_, _, _]) (ds' := [_, _, _]) ent24 (rstep_d A hA i _ hf1) rfl rfl (LeL.cons (Le.refl _) (LeL.cons (Le.refl _) (LeL.cons (Le.trans Le.full (Le.of_eq (by rw [(e1 rfl).1]; rfl))) .nil)))) ⟨rfl, rfl, rfl, trivial⟩ trivial ?_ (.none rfl) rfl | refine DC.tri (T.call («as» := [_, _, _]) (ds' := [_, _, _]) ent24 (rstep_d B hB i _ hf2) rfl rfl (LeL.cons (Le.refl _) (LeL.cons (Le.refl _) (LeL.cons (Le.trans Le.full (Le.of_eq (by rw [(e1 rfl).2]; rfl))) .nil)))) ⟨rfl, rfl, rfl, trivial⟩ trivial ?_ (.none rfl) rfl); refine DC.tri (T.move _ _) ⟨rfl, trivial⟩ trivial ?_ (.none rfl) rfl; refine DC.tri (T.extract _ _ rfl) ⟨rfl, trivial⟩ trivial ?_ (.none rfl) rfl; refine DC.tri (T.extract _ _ rfl) ⟨rfl, trivial⟩ trivial ?_ (.none rfl) rfl; refine DC.tri (T.assign _ _) ⟨rfl, trivial⟩ trivial ?_ (.none rfl) rfl; refine DC.tri (T.assign _ _) ⟨rfl, trivial⟩ trivial ?_ (.none rfl) rfl; refine DC.nilN (by first | (dsimp only [evalD, lkF, lkE, updF, Nat.beq, cond_true, cond_false, List.cons_append, List.nil_append, List.append_nil, argF, Nat.reduceAdd, Nat.reduceMul, spliceD, List.take, List.drop, List.length, flats, Value.cells, List.map, List.set]; done) | exact rfl | fail) ?_)
        | (refine DW.regionC (id := 40) ?_; (first | refine DC.tri (T.loadRef 26 _ ag26 sz26 (by first | rfl | assumption)) ⟨rfl, trivial⟩ ⟨rfl, trivial⟩ ?_ (.none rfl) rfl | refine DC.tri (T.loadPtr 26 _ ag26 sz26 (by first | rfl | assumption)) ⟨rfl, trivial⟩ trivial ?_ (.none rfl) rfl | refine DC.tri (T.loadElp 26 _ ag26 sz26 (by first | rfl | assumption)) ⟨rfl, trivial⟩ ⟨rfl, trivial⟩ ?_ (.none rfl) rfl); refine DC.tri (T.move _ _) ⟨rfl, trivial⟩ trivial ?_ (.none rfl) rfl; refine DC.tri (T.move _ _) ⟨rfl, trivial⟩ trivial ?_ (.none rfl) rfl; (first | refine DC.tri (T.call («as» := [_, _, _]) (ds' := [_, _, _]) ent24 (rstep_d A hA i _ hf1) rfl rfl (LeL.cons (Le.refl _) (LeL.cons (Le.refl _) (LeL.cons (Le.trans Le.full (Le.of_eq (by rw [(e1 rfl).1]; rfl))) .nil)))) ⟨rfl, rfl, rfl, trivial⟩ trivial ?_ (.none rfl) rfl | refine DC.tri (T.call («as» := [_, _, _]) (ds' := [_, _, _]) ent24 (rstep_d B hB i _ hf2) rfl rfl (LeL.cons (Le.refl _) (LeL.cons (Le.refl _) (LeL.cons (Le.trans Le.full (Le.of_eq (by rw [(e1 rfl).2]; rfl))) .nil)))) ⟨rfl, rfl, rfl, trivial⟩ trivial ?_ (.none rfl) rfl); refine DC.tri (T.move _ _) ⟨rfl, trivial⟩ trivial ?_ (.none rfl) rfl; refine DC.tri (T.extract _ _ rfl) ⟨rfl, trivial⟩ trivial ?_ (.none rfl) rfl; refine DC.tri (T.extract _ _ rfl) ⟨rfl, trivial⟩ trivial ?_ (.none rfl) rfl; refine DC.tri (T.assign _ _) ⟨rfl, trivial⟩ trivial ?_ (.none rfl) rfl; refine DC.tri (T.assign _ _) ⟨rfl, trivial⟩ trivial ?_ (.none rfl) rfl; refine DC.nilN (by first | (dsimp only [evalD, lkF, lkE, updF, Nat.beq, cond_true, cond_false, List.cons_append, List.nil_append, List.append_nil, argF, Nat.reduceAdd, Nat.reduceMul, spliceD, List.take, List.drop, List.length, flats, Value.cells, List.map, List.set]; done) | exact rfl | fail) ?_)
        | (refine DW.regionC (id := 41) ?_; refine DC.tri (T.move _ _) ⟨rfl, trivial⟩ trivial ?_ (.none rfl) rfl; refine DC.tri (T.move _ _) ⟨rfl, trivial⟩ trivial ?_ (.none rfl) rfl; refine DC.tri (T.move _ _) ⟨rfl, trivial⟩ trivial ?_ (.none rfl) rfl; (first | refine DC.tri (T.mul (k := .i64) _ _ _ _ (w64 (by omega) (by omega))) ⟨rfl, rfl, trivial⟩ trivial ?_ (.none rfl) rfl | refine DC.tri (T.mul (k := .i64) _ _ _ _ (by assumption)) ⟨rfl, rfl, trivial⟩ trivial ?_ (.none rfl) rfl); refine DC.tri (T.move _ _) ⟨rfl, trivial⟩ trivial ?_ (.none rfl) rfl; (first | refine DC.tri (T.add (k := .i64) _ _ _ _ (w64 (by omega) (by omega))) ⟨rfl, rfl, trivial⟩ trivial ?_ (.none rfl) rfl | refine DC.tri (T.add (k := .i64) _ _ _ _ (by assumption)) ⟨rfl, rfl, trivial⟩ trivial ?_ (.none rfl) rfl); refine DC.tri (T.buildSl1 22 _ un22 ze3 sz3 rfl rfl (by decide) rfl) ⟨rfl, trivial⟩ trivial ?_ (.none rfl) rfl; refine DC.tri (T.append 22 _ _ un22 nf3 rfl (by decide) (by decide) (by first | rfl | assumption | exact oneL_map (fun _ => rfl) _) (by omega)) ⟨rfl, rfl, trivial⟩ ⟨rfl, trivial⟩ ?_ (.none rfl) rfl; refine DC.tri (T.assign _ _) ⟨rfl, trivial⟩ trivial ?_ (.none rfl) rfl; refine DC.nilN (by first | (dsimp only [evalD, lkF, lkE, updF, Nat.beq, cond_true, cond_false, List.cons_append, List.nil_append, List.append_nil, argF, Nat.reduceAdd, Nat.reduceMul, spliceD, List.take, List.drop, List.length, flats, Value.cells, List.map, List.set]; done) | exact rfl | fail) ?_)
        | (refine DW.condT' rfl (by first | rfl | assumption | exact decide_eq_true (by first | assumption | omega) | exact decide_eq_false (by first | assumption | omega) | (simp only [*]; done) | fail) ?_)
        | (refine DW.condF' rfl (by first | rfl | assumption | exact decide_eq_true (by first | assumption | omega) | exact decide_eq_false (by first | assumption | omega) | (simp only [*]; done) | fail) ?_)
        | (refine DW.exit ?_)
        | (refine DW.ret ?_)
        | fail)
    refine ⟨p + 1, by omega, by omega, Sub.of ⟨⟨_, rfl, VsL.eq ?_ (persL_map (fun _ => rfl) _)⟩, ⟨_, rfl, Vs.pers rfl, Vs.own rfl rfl, Vs.own rfl rfl, trivial⟩, ⟨_, rfl, VsL.pers (persL_map (fun _ => rfl) _)⟩, ⟨_, rfl, VsL.pers (persL_map (fun _ => rfl) _)⟩, ⟨_, rfl, VsL.pers rfl⟩, trivial⟩ ⟨Vs.int (by simp), Vs.own rfl rfl, Vs.pers rfl, Vs.pers rfl, Vs.pers rfl, Vs.pers rfl, Vs.ref rfl, Vs.ref rfl, Vs.pers rfl, Vs.pers rfl, trivial⟩⟩
    rw [List.range_succ, List.map_append, List.map_append]; rfl
  · repeat (first
        | (refine DW.seq ?_)
        | (refine DW.block ?_)
        | (refine Thn.n ?_)
        | (refine Blk.n ?_)
        | (refine Blk.here ?_)
        | (refine Thn.e ?_)
        | (refine Blk.pass rfl ?_)
        | (refine Thn.r ?_)
        | (refine Blk.r ?_)
        | (refine DW.skip ?_)
        | (refine DW.label ?_)
        | (refine DW.regionC (id := 30) ?_; refine DC.tri (T.move _ _) ⟨rfl, trivial⟩ trivial ?_ (.none rfl) rfl; (first | refine DC.tri (T.loadRef 26 _ ag26 sz26 (by first | rfl | assumption)) ⟨rfl, trivial⟩ ⟨rfl, trivial⟩ ?_ (.none rfl) rfl | refine DC.tri (T.loadPtr 26 _ ag26 sz26 (by first | rfl | assumption)) ⟨rfl, trivial⟩ trivial ?_ (.none rfl) rfl | refine DC.tri (T.loadElp 26 _ ag26 sz26 (by first | rfl | assumption)) ⟨rfl, trivial⟩ ⟨rfl, trivial⟩ ?_ (.none rfl) rfl); refine DC.tri (T.move _ _) ⟨rfl, trivial⟩ trivial ?_ (.none rfl) rfl; refine DC.tri (T.callV («as» := [_, _]) (ds' := [_, _]) [(103, some (.row 4 1 nm (((List.range (nm)).map (prodF A B wh)).map boolD))), (104, some (.row 22 1 i (((tablesOf nm (prodT A B) A.ranks).take i).map intsD)))] ent51 hpl rfl hvw rfl) ⟨rfl, rfl, trivial⟩ ⟨rfl, rfl, trivial⟩ ?_ (.none rfl) rfl; refine DC.tri (T.lss _ _ _ _) ⟨rfl, rfl, trivial⟩ trivial ?_ (.none rfl) rfl; refine DC.nilN (by first | (dsimp only [evalD, lkF, lkE, updF, Nat.beq, cond_true, cond_false, List.cons_append, List.nil_append, List.append_nil, argF, Nat.reduceAdd, Nat.reduceMul, spliceD, List.take, List.drop, List.length, flats, Value.cells, List.map, List.set]; done) | exact rfl | fail) ?_)
        | (refine DW.regionC (id := 31) ?_; refine DC.tri (T.move _ _) ⟨rfl, trivial⟩ trivial ?_ (.none rfl) rfl; (first | refine DC.tri (T.add (k := .i64) _ _ _ _ (w64 (by omega) (by omega))) ⟨rfl, rfl, trivial⟩ trivial ?_ (.none rfl) rfl | refine DC.tri (T.add (k := .i64) _ _ _ _ (by assumption)) ⟨rfl, rfl, trivial⟩ trivial ?_ (.none rfl) rfl); refine DC.tri (T.assign _ _) ⟨rfl, trivial⟩ trivial ?_ (.none rfl) rfl; refine DC.nilN (by first | (dsimp only [evalD, lkF, lkE, updF, Nat.beq, cond_true, cond_false, List.cons_append, List.nil_append, List.append_nil, argF, Nat.reduceAdd, Nat.reduceMul, spliceD, List.take, List.drop, List.length, flats, Value.cells, List.map, List.set]; done) | exact rfl | fail) ?_)
        | (refine DW.regionC (id := 32) ?_; refine DC.tri (T.assign _ _) ⟨rfl, trivial⟩ trivial ?_ (.none rfl) rfl; refine DC.tri (T.assign _ _) ⟨rfl, trivial⟩ trivial ?_ (.none rfl) rfl; refine DC.nilN (by first | (dsimp only [evalD, lkF, lkE, updF, Nat.beq, cond_true, cond_false, List.cons_append, List.nil_append, List.append_nil, argF, Nat.reduceAdd, Nat.reduceMul, spliceD, List.take, List.drop, List.length, flats, Value.cells, List.map, List.set]; done) | exact rfl | fail) ?_)
        | (refine DW.regionC (id := 33) ?_; (first | refine DC.tri (T.fieldRef' 26 _ 0 fd26_0 (by decide)) ⟨rfl, trivial⟩ trivial ?_ (.none rfl) rfl | refine DC.tri (T.fieldPtr' 26 _ 0 fd26_0 (by decide)) ⟨rfl, trivial⟩ trivial ?_ (.none rfl) rfl); (first | refine DC.tri (T.loadRef 22 _ ag22 sz22 (by first | rfl | assumption)) ⟨rfl, trivial⟩ ⟨rfl, trivial⟩ ?_ (.none rfl) rfl | refine DC.tri (T.loadPtr 22 _ ag22 sz22 (by first | rfl | assumption)) ⟨rfl, trivial⟩ trivial ?_ (.none rfl) rfl | refine DC.tri (T.loadElp 22 _ ag22 sz22 (by first | rfl | assumption)) ⟨rfl, trivial⟩ ⟨rfl, trivial⟩ ?_ (.none rfl) rfl); refine DC.tri (T.move _ _) ⟨rfl, trivial⟩ trivial ?_ (.none rfl) rfl; (first | refine DC.tri (T.indexSl 22 _ _ un22 sz3 (by omega) (by omega) (by decide)) ⟨rfl, rfl, trivial⟩ trivial ?_ (.none rfl) rfl | refine DC.tri (T.indexOwn 22 _ _ un22 sz3 (by omega) (by omega)) ⟨rfl, rfl, trivial⟩ ⟨rfl, trivial⟩ ?_ (.none rfl) rfl); (first | refine DC.tri (T.loadRef 3 _ ag3 sz3 (by first | rfl | assumption)) ⟨rfl, trivial⟩ ⟨rfl, trivial⟩ ?_ (.none rfl) rfl | refine DC.tri (T.loadPtr 3 _ ag3 sz3 (by first | rfl | assumption)) ⟨rfl, trivial⟩ trivial ?_ (.none rfl) rfl | refine DC.tri (T.loadElp 3 _ ag3 sz3 (by first | rfl | assumption)) ⟨rfl, trivial⟩ ⟨rfl, trivial⟩ ?_ (.none rfl) rfl); refine DC.nilN (by first | (dsimp only [evalD, lkF, lkE, updF, Nat.beq, cond_true, cond_false, List.cons_append, List.nil_append, List.append_nil, argF, Nat.reduceAdd, Nat.reduceMul, spliceD, List.take, List.drop, List.length, flats, Value.cells, List.map, List.set]; done) | exact rfl | fail) ?_)
        | (refine DW.regionC (id := 34) ?_; refine DC.tri (T.eql _ _ _ _) ⟨rfl, rfl, trivial⟩ trivial ?_ (.none rfl) rfl; refine DC.tri (T.assign _ _) ⟨rfl, trivial⟩ trivial ?_ (.none rfl) rfl; refine DC.nilN (by first | (dsimp only [evalD, lkF, lkE, updF, Nat.beq, cond_true, cond_false, List.cons_append, List.nil_append, List.append_nil, argF, Nat.reduceAdd, Nat.reduceMul, spliceD, List.take, List.drop, List.length, flats, Value.cells, List.map, List.set]; done) | exact rfl | fail) ?_)
        | (refine DW.regionC (id := 36) ?_; refine DC.tri (T.eql _ _ _ _) ⟨rfl, rfl, trivial⟩ trivial ?_ (.none rfl) rfl; refine DC.tri (T.assign _ _) ⟨rfl, trivial⟩ trivial ?_ (.none rfl) rfl; refine DC.nilN (by first | (dsimp only [evalD, lkF, lkE, updF, Nat.beq, cond_true, cond_false, List.cons_append, List.nil_append, List.append_nil, argF, Nat.reduceAdd, Nat.reduceMul, spliceD, List.take, List.drop, List.length, flats, Value.cells, List.map, List.set]; done) | exact rfl | fail) ?_)
        | (refine DW.drawnC (id := 37) rfl (by kernel_rfl) ?_; refine DC.tri (T.move _ _) ⟨rfl, trivial⟩ trivial ?_ (.none rfl) rfl; refine DC.tri (T.move _ _) ⟨rfl, trivial⟩ trivial ?_ (.none rfl) rfl; refine DC.tri (T.move _ _) ⟨rfl, trivial⟩ trivial ?_ (.none rfl) rfl; (first | refine DC.tri (T.mul (k := .i64) _ _ _ _ (w64 (by omega) (by omega))) ⟨rfl, rfl, trivial⟩ trivial ?_ (.none rfl) rfl | refine DC.tri (T.mul (k := .i64) _ _ _ _ (by assumption)) ⟨rfl, rfl, trivial⟩ trivial ?_ (.none rfl) rfl); refine DC.tri (T.quo (k := .i64) _ _ _ _ (by omega) (quo64 (by omega) (by omega) (by omega))) ⟨rfl, rfl, trivial⟩ trivial ?_ (.none rfl) rfl; refine DC.tri (T.move _ _) ⟨rfl, trivial⟩ trivial ?_ (.none rfl) rfl; refine DC.tri (T.move _ _) ⟨rfl, trivial⟩ trivial ?_ (.none rfl) rfl; refine DC.tri (T.move _ _) ⟨rfl, trivial⟩ trivial ?_ (.none rfl) rfl; (first | refine DC.tri (T.mul (k := .i64) _ _ _ _ (w64 (by omega) (by omega))) ⟨rfl, rfl, trivial⟩ trivial ?_ (.none rfl) rfl | refine DC.tri (T.mul (k := .i64) _ _ _ _ (by assumption)) ⟨rfl, rfl, trivial⟩ trivial ?_ (.none rfl) rfl); refine DC.tri (T.rem (k := .i64) _ _ _ _ (by omega) (rem64 (by omega))) ⟨rfl, rfl, trivial⟩ trivial ?_ (.none rfl) rfl; refine DC.tri (T.assign _ _) ⟨rfl, trivial⟩ trivial ?_ (.none rfl) rfl; refine DC.tri (T.assign _ _) ⟨rfl, trivial⟩ trivial ?_ (.none rfl) rfl; refine DC.nilN (by first | (dsimp only [evalD, lkF, lkE, updF, Nat.beq, cond_true, cond_false, List.cons_append, List.nil_append, List.append_nil, argF, Nat.reduceAdd, Nat.reduceMul, spliceD, List.take, List.drop, List.length, flats, Value.cells, List.map, List.set]; done) | exact rfl | fail) ?_; refine ⟨by kernel_rfl, ?_⟩)
        | (refine DW.drawnC (id := 38) rfl (by kernel_rfl) ?_; refine DC.tri (T.move _ _) ⟨rfl, trivial⟩ trivial ?_ (.none rfl) rfl; refine DC.tri (T.move _ _) ⟨rfl, trivial⟩ trivial ?_ (.none rfl) rfl; refine DC.tri (T.quo (k := .i64) _ _ _ _ (by omega) (quo64 (by omega) (by omega) (by omega))) ⟨rfl, rfl, trivial⟩ trivial ?_ (.none rfl) rfl; refine DC.tri (T.move _ _) ⟨rfl, trivial⟩ trivial ?_ (.none rfl) rfl; refine DC.tri (T.move _ _) ⟨rfl, trivial⟩ trivial ?_ (.none rfl) rfl; refine DC.tri (T.quo (k := .i64) _ _ _ _ (by omega) (quo64 (by omega) (by omega) (by omega))) ⟨rfl, rfl, trivial⟩ trivial ?_ (.none rfl) rfl; refine DC.tri (T.buildSl2 22 _ _ un22 ze3 sz3 rfl rfl rfl rfl (by decide) rfl) ⟨rfl, rfl, trivial⟩ trivial ?_ (.none rfl) rfl; refine DC.tri (T.move _ _) ⟨rfl, trivial⟩ trivial ?_ (.none rfl) rfl; refine DC.tri (T.move _ _) ⟨rfl, trivial⟩ trivial ?_ (.none rfl) rfl; refine DC.tri (T.rem (k := .i64) _ _ _ _ (by omega) (rem64 (by omega))) ⟨rfl, rfl, trivial⟩ trivial ?_ (.none rfl) rfl; refine DC.tri (T.move _ _) ⟨rfl, trivial⟩ trivial ?_ (.none rfl) rfl; refine DC.tri (T.move _ _) ⟨rfl, trivial⟩ trivial ?_ (.none rfl) rfl; refine DC.tri (T.rem (k := .i64) _ _ _ _ (by omega) (rem64 (by omega))) ⟨rfl, rfl, trivial⟩ trivial ?_ (.none rfl) rfl; refine DC.tri (T.buildSl2 22 _ _ un22 ze3 sz3 rfl rfl rfl rfl (by decide) rfl) ⟨rfl, rfl, trivial⟩ trivial ?_ (.none rfl) rfl; refine DC.tri (T.assign _ _) ⟨rfl, trivial⟩ trivial ?_ (.none rfl) rfl; refine DC.tri (T.assign _ _) ⟨rfl, trivial⟩ trivial ?_ (.none rfl) rfl; refine DC.nilN (by first | (dsimp only [evalD, lkF, lkE, updF, Nat.beq, cond_true, cond_false, List.cons_append, List.nil_append, List.append_nil, argF, Nat.reduceAdd, Nat.reduceMul, spliceD, List.take, List.drop, List.length, flats, Value.cells, List.map, List.set]; done) | exact rfl | fail) ?_; refine ⟨by kernel_rfl, ?_⟩)
        | (refine DW.regionC (id := 39) ?_; (first | refine DC.tri (T.loadRef 26 _ ag26 sz26 (by first | rfl | assumption)) ⟨rfl, trivial⟩ ⟨rfl, trivial⟩ ?_ (.none rfl) rfl | refine DC.tri (T.loadPtr 26 _ ag26 sz26 (by first | rfl | assumption)) ⟨rfl, trivial⟩ trivial ?_ (.none rfl) rfl | refine DC.tri (T.loadElp 26 _ ag26 sz26 (by first | rfl | assumption)) ⟨rfl, trivial⟩ ⟨rfl, trivial⟩ ?_ (.none rfl) rfl); refine DC.tri (T.move _ _) ⟨rfl, trivial⟩ trivial ?_ (.none rfl) rfl; refine DC.tri (T.move _ _) ⟨rfl, trivial⟩ trivial ?_ (.none rfl) rfl; (first | refine DC.tri (T.call («as» := [_, _, _]) (ds' := [_, _, _]) ent24 (rstep_d A hA i _ hf1) rfl rfl (LeL.cons (Le.refl _) (LeL.cons (Le.refl _) (LeL.cons (Le.trans Le.full (Le.of_eq (by rw [(e2 rfl).1]; rfl))) .nil)))) ⟨rfl, rfl, rfl, trivial⟩ trivial ?_ (.none rfl) rfl | refine DC.tri (T.call («as» := [_, _, _]) (ds' := [_, _, _]) ent24 (rstep_d B hB i _ hf2) rfl rfl (LeL.cons (Le.refl _) (LeL.cons (Le.refl _) (LeL.cons (Le.trans Le.full (Le.of_eq (by rw [(e2 rfl).2]; rfl))) .nil)))) ⟨rfl, rfl, rfl, trivial⟩ trivial ?_ (.none rfl) rfl); refine DC.tri (T.move _ _) ⟨rfl, trivial⟩ trivial ?_ (.none rfl) rfl; refine DC.tri (T.extract _ _ rfl) ⟨rfl, trivial⟩ trivial ?_ (.none rfl) rfl; refine DC.tri (T.extract _ _ rfl) ⟨rfl, trivial⟩ trivial ?_ (.none rfl) rfl; refine DC.tri (T.assign _ _) ⟨rfl, trivial⟩ trivial ?_ (.none rfl) rfl; refine DC.tri (T.assign _ _) ⟨rfl, trivial⟩ trivial ?_ (.none rfl) rfl; refine DC.nilN (by first | (dsimp only [evalD, lkF, lkE, updF, Nat.beq, cond_true, cond_false, List.cons_append, List.nil_append, List.append_nil, argF, Nat.reduceAdd, Nat.reduceMul, spliceD, List.take, List.drop, List.length, flats, Value.cells, List.map, List.set]; done) | exact rfl | fail) ?_)
        | (refine DW.regionC (id := 40) ?_; (first | refine DC.tri (T.loadRef 26 _ ag26 sz26 (by first | rfl | assumption)) ⟨rfl, trivial⟩ ⟨rfl, trivial⟩ ?_ (.none rfl) rfl | refine DC.tri (T.loadPtr 26 _ ag26 sz26 (by first | rfl | assumption)) ⟨rfl, trivial⟩ trivial ?_ (.none rfl) rfl | refine DC.tri (T.loadElp 26 _ ag26 sz26 (by first | rfl | assumption)) ⟨rfl, trivial⟩ ⟨rfl, trivial⟩ ?_ (.none rfl) rfl); refine DC.tri (T.move _ _) ⟨rfl, trivial⟩ trivial ?_ (.none rfl) rfl; refine DC.tri (T.move _ _) ⟨rfl, trivial⟩ trivial ?_ (.none rfl) rfl; (first | refine DC.tri (T.call («as» := [_, _, _]) (ds' := [_, _, _]) ent24 (rstep_d A hA i _ hf1) rfl rfl (LeL.cons (Le.refl _) (LeL.cons (Le.refl _) (LeL.cons (Le.trans Le.full (Le.of_eq (by rw [(e2 rfl).1]; rfl))) .nil)))) ⟨rfl, rfl, rfl, trivial⟩ trivial ?_ (.none rfl) rfl | refine DC.tri (T.call («as» := [_, _, _]) (ds' := [_, _, _]) ent24 (rstep_d B hB i _ hf2) rfl rfl (LeL.cons (Le.refl _) (LeL.cons (Le.refl _) (LeL.cons (Le.trans Le.full (Le.of_eq (by rw [(e2 rfl).2]; rfl))) .nil)))) ⟨rfl, rfl, rfl, trivial⟩ trivial ?_ (.none rfl) rfl); refine DC.tri (T.move _ _) ⟨rfl, trivial⟩ trivial ?_ (.none rfl) rfl; refine DC.tri (T.extract _ _ rfl) ⟨rfl, trivial⟩ trivial ?_ (.none rfl) rfl; refine DC.tri (T.extract _ _ rfl) ⟨rfl, trivial⟩ trivial ?_ (.none rfl) rfl; refine DC.tri (T.assign _ _) ⟨rfl, trivial⟩ trivial ?_ (.none rfl) rfl; refine DC.tri (T.assign _ _) ⟨rfl, trivial⟩ trivial ?_ (.none rfl) rfl; refine DC.nilN (by first | (dsimp only [evalD, lkF, lkE, updF, Nat.beq, cond_true, cond_false, List.cons_append, List.nil_append, List.append_nil, argF, Nat.reduceAdd, Nat.reduceMul, spliceD, List.take, List.drop, List.length, flats, Value.cells, List.map, List.set]; done) | exact rfl | fail) ?_)
        | (refine DW.regionC (id := 41) ?_; refine DC.tri (T.move _ _) ⟨rfl, trivial⟩ trivial ?_ (.none rfl) rfl; refine DC.tri (T.move _ _) ⟨rfl, trivial⟩ trivial ?_ (.none rfl) rfl; refine DC.tri (T.move _ _) ⟨rfl, trivial⟩ trivial ?_ (.none rfl) rfl; (first | refine DC.tri (T.mul (k := .i64) _ _ _ _ (w64 (by omega) (by omega))) ⟨rfl, rfl, trivial⟩ trivial ?_ (.none rfl) rfl | refine DC.tri (T.mul (k := .i64) _ _ _ _ (by assumption)) ⟨rfl, rfl, trivial⟩ trivial ?_ (.none rfl) rfl); refine DC.tri (T.move _ _) ⟨rfl, trivial⟩ trivial ?_ (.none rfl) rfl; (first | refine DC.tri (T.add (k := .i64) _ _ _ _ (w64 (by omega) (by omega))) ⟨rfl, rfl, trivial⟩ trivial ?_ (.none rfl) rfl | refine DC.tri (T.add (k := .i64) _ _ _ _ (by assumption)) ⟨rfl, rfl, trivial⟩ trivial ?_ (.none rfl) rfl); refine DC.tri (T.buildSl1 22 _ un22 ze3 sz3 rfl rfl (by decide) rfl) ⟨rfl, trivial⟩ trivial ?_ (.none rfl) rfl; refine DC.tri (T.append 22 _ _ un22 nf3 rfl (by decide) (by decide) (by first | rfl | assumption | exact oneL_map (fun _ => rfl) _) (by omega)) ⟨rfl, rfl, trivial⟩ ⟨rfl, trivial⟩ ?_ (.none rfl) rfl; refine DC.tri (T.assign _ _) ⟨rfl, trivial⟩ trivial ?_ (.none rfl) rfl; refine DC.nilN (by first | (dsimp only [evalD, lkF, lkE, updF, Nat.beq, cond_true, cond_false, List.cons_append, List.nil_append, List.append_nil, argF, Nat.reduceAdd, Nat.reduceMul, spliceD, List.take, List.drop, List.length, flats, Value.cells, List.map, List.set]; done) | exact rfl | fail) ?_)
        | (refine DW.condT' rfl (by first | rfl | assumption | exact decide_eq_true (by first | assumption | omega) | exact decide_eq_false (by first | assumption | omega) | (simp only [*]; done) | fail) ?_)
        | (refine DW.condF' rfl (by first | rfl | assumption | exact decide_eq_true (by first | assumption | omega) | exact decide_eq_false (by first | assumption | omega) | (simp only [*]; done) | fail) ?_)
        | (refine DW.exit ?_)
        | (refine DW.ret ?_)
        | fail)
    refine ⟨p + 1, by omega, by omega, Sub.of ⟨⟨_, rfl, VsL.eq ?_ (persL_map (fun _ => rfl) _)⟩, ⟨_, rfl, Vs.pers rfl, Vs.own rfl rfl, Vs.own rfl rfl, trivial⟩, ⟨_, rfl, VsL.pers (persL_map (fun _ => rfl) _)⟩, ⟨_, rfl, VsL.pers (persL_map (fun _ => rfl) _)⟩, ⟨_, rfl, VsL.pers rfl⟩, trivial⟩ ⟨Vs.int (by simp), Vs.own rfl rfl, Vs.pers rfl, Vs.pers rfl, Vs.pers rfl, Vs.pers rfl, Vs.ref rfl, Vs.ref rfl, Vs.pers rfl, Vs.pers rfl, trivial⟩⟩
    rw [List.range_succ, List.map_append, List.map_append]; rfl
end Go.Proofs.Ytdakoccbmeojhaa
/- Contracts over data: From, To, known. No condition. -/
set_option linter.unusedSimpArgs false
set_option linter.unusedVariables false
set_option maxHeartbeats 1000000
set_option maxRecDepth 8000
namespace Go.Proofs.Ytdakoccbmeojhaa
open Go Go.RowKit Go.PP Go.Dm

theorem ent16 : Enters Try.prog 16 := fun args w => by go_simp
theorem ent29 : Enters Try.prog 29 := fun args w => by go_simp
theorem ent15 : Enters Try.prog 15 := fun args w => by go_simp
theorem ent13 : Enters Try.prog 13 := fun args w => by go_simp
theorem ent34 : Enters Try.prog 34 := fun args w => by go_simp
theorem ent26 : Enters Try.prog 26 := fun args w => by go_simp

theorem from_d (A : Au) : DFun Try.prog 16 [auD A] (auD A) := by
  refine DFun.enter Try.func16 rfl Try.ntmps16 (by simp) ?_
  dsimp only [evalD, lkF, lkE, updF, Nat.beq, cond_true, cond_false, List.cons_append, List.nil_append, List.append_nil, argF, Nat.reduceAdd, Nat.reduceMul, spliceD, List.take, List.drop, List.length, flats, Value.cells, List.map, List.set, Thn, Blk, if_true, if_false, reduceIte, Nat.reduceEqDiff]
  repeat (first
      | (refine DW.seq ?_)
      | (refine DW.block ?_)
      | (refine Thn.n ?_)
      | (refine Blk.n ?_)
      | (refine Blk.here ?_)
      | (refine Thn.e ?_)
      | (refine Blk.pass rfl ?_)
      | (refine Thn.r ?_)
      | (refine Blk.r ?_)
      | (refine DW.skip ?_)
      | (refine DW.label ?_)
      | (refine DW.regionC (id := 0) ?_; refine DC.tri (T.box 1 26 _ rfl) ⟨rfl, trivial⟩ ⟨rfl, trivial⟩ ?_ (.none rfl) rfl; refine DC.tri (T.alloc 2 35 ze35) trivial ⟨rfl, trivial⟩ ?_ (.none rfl) rfl; refine DC.nilN (by first | (dsimp only [evalD, lkF, lkE, updF, Nat.beq, cond_true, cond_false, List.cons_append, List.nil_append, List.append_nil, argF, Nat.reduceAdd, Nat.reduceMul, spliceD, List.take, List.drop, List.length, flats, Value.cells, List.map, List.set]; done) | exact rfl | fail) ?_)
      | (refine DW.regionC (id := 1) ?_; (first | refine DC.tri (T.fieldRef' 26 _ 0 fd26_0 (by decide)) ⟨rfl, trivial⟩ trivial ?_ (.none rfl) rfl | refine DC.tri (T.fieldPtr' 26 _ 0 fd26_0 (by decide)) ⟨rfl, trivial⟩ trivial ?_ (.none rfl) rfl); (first | refine DC.tri (T.loadRef 22 _ ag22 sz22 (by first | rfl | assumption)) ⟨rfl, trivial⟩ ⟨rfl, trivial⟩ ?_ (.none rfl) rfl | refine DC.tri (T.loadPtr 22 _ ag22 sz22 (by first | rfl | assumption)) ⟨rfl, trivial⟩ trivial ?_ (.none rfl) rfl | refine DC.tri (T.loadElp 22 _ ag22 sz22 (by first | rfl | assumption)) ⟨rfl, trivial⟩ ⟨rfl, trivial⟩ ?_ (.none rfl) rfl); (first | refine DC.tri (T.fieldRef' 26 _ 1 fd26_1 (by decide)) ⟨rfl, trivial⟩ trivial ?_ (.none rfl) rfl | refine DC.tri (T.fieldPtr' 26 _ 1 fd26_1 (by decide)) ⟨rfl, trivial⟩ trivial ?_ (.none rfl) rfl); (first | refine DC.tri (T.loadRef 23 _ ag23 sz23 (by first | rfl | assumption)) ⟨rfl, trivial⟩ ⟨rfl, trivial⟩ ?_ (.none rfl) rfl | refine DC.tri (T.loadPtr 23 _ ag23 sz23 (by first | rfl | assumption)) ⟨rfl, trivial⟩ trivial ?_ (.none rfl) rfl | refine DC.tri (T.loadElp 23 _ ag23 sz23 (by first | rfl | assumption)) ⟨rfl, trivial⟩ ⟨rfl, trivial⟩ ?_ (.none rfl) rfl); (first | refine DC.tri (T.fieldRef' 26 _ 2 fd26_2 (by decide)) ⟨rfl, trivial⟩ trivial ?_ (.none rfl) rfl | refine DC.tri (T.fieldPtr' 26 _ 2 fd26_2 (by decide)) ⟨rfl, trivial⟩ trivial ?_ (.none rfl) rfl); (first | refine DC.tri (T.loadRef 24 _ ag24 sz24 (by first | rfl | assumption)) ⟨rfl, trivial⟩ ⟨rfl, trivial⟩ ?_ (.none rfl) rfl | refine DC.tri (T.loadPtr 24 _ ag24 sz24 (by first | rfl | assumption)) ⟨rfl, trivial⟩ trivial ?_ (.none rfl) rfl | refine DC.tri (T.loadElp 24 _ ag24 sz24 (by first | rfl | assumption)) ⟨rfl, trivial⟩ ⟨rfl, trivial⟩ ?_ (.none rfl) rfl); refine DC.tri (T.buildS3 35 _ _ _ Try.underlying35 ze35 (pl35 Try.underlying35) rfl) ⟨rfl, rfl, rfl, trivial⟩ trivial ?_ (.none rfl) rfl; (first | refine DC.tri (T.storeRef 35 _ _ sz35 rfl rfl (by first | rfl | simp [oneL, oneD, Value.oneCell']) (by first | decide | (simp; done) | omega | (simp; omega))) ⟨rfl, rfl, trivial⟩ ⟨rfl, trivial⟩ ?_ (.none rfl) rfl | refine DC.tri (T.storeElp 35 _ _ sz35 rfl rfl rfl (by first | decide | (simp; done) | omega | (simp; omega))) ⟨rfl, rfl, trivial⟩ ⟨rfl, trivial⟩ ?_ (.none rfl) rfl); refine DC.nilN (by first | (dsimp only [evalD, lkF, lkE, updF, Nat.beq, cond_true, cond_false, List.cons_append, List.nil_append, List.append_nil, argF, Nat.reduceAdd, Nat.reduceMul, spliceD, List.take, List.drop, List.length, flats, Value.cells, List.map, List.set]; done) | exact rfl | fail) ?_)
      | (refine DW.condT' rfl (by first | rfl | assumption | exact decide_eq_true (by first | assumption | omega) | exact decide_eq_false (by first | assumption | omega) | (simp only [*]; done) | fail) ?_)
      | (refine DW.condF' rfl (by first | rfl | assumption | exact decide_eq_true (by first | assumption | omega) | exact decide_eq_false (by first | assumption | omega) | (simp only [*]; done) | fail) ?_)
      | (refine DW.exit ?_)
      | (refine DW.ret ?_)
      | fail)
  exact ⟨.inr rfl, ResOk.cellA [] rfl rfl rfl ag35 sz35 trivial (VwL.pers rfl) (Le.refl _)⟩
theorem to_d (A : Au) : DFun Try.prog 29 [auD A] (auD A) := by
  refine DFun.enter Try.func29 rfl Try.ntmps29 (by simp) ?_
  dsimp only [evalD, lkF, lkE, updF, Nat.beq, cond_true, cond_false, List.cons_append, List.nil_append, List.append_nil, argF, Nat.reduceAdd, Nat.reduceMul, spliceD, List.take, List.drop, List.length, flats, Value.cells, List.map, List.set, Thn, Blk, if_true, if_false, reduceIte, Nat.reduceEqDiff]
  repeat (first
      | (refine DW.seq ?_)
      | (refine DW.block ?_)
      | (refine Thn.n ?_)
      | (refine Blk.n ?_)
      | (refine Blk.here ?_)
      | (refine Thn.e ?_)
      | (refine Blk.pass rfl ?_)
      | (refine Thn.r ?_)
      | (refine Blk.r ?_)
      | (refine DW.skip ?_)
      | (refine DW.label ?_)
      | (refine DW.regionC (id := 0) ?_; refine DC.tri (T.box 1 35 _ rfl) ⟨rfl, trivial⟩ ⟨rfl, trivial⟩ ?_ (.none rfl) rfl; refine DC.tri (T.alloc 2 26 ze26) trivial ⟨rfl, trivial⟩ ?_ (.none rfl) rfl; refine DC.nilN (by first | (dsimp only [evalD, lkF, lkE, updF, Nat.beq, cond_true, cond_false, List.cons_append, List.nil_append, List.append_nil, argF, Nat.reduceAdd, Nat.reduceMul, spliceD, List.take, List.drop, List.length, flats, Value.cells, List.map, List.set]; done) | exact rfl | fail) ?_)
      | (refine DW.regionC (id := 1) ?_; (first | refine DC.tri (T.fieldRef' 35 _ 0 fd35_0 (by decide)) ⟨rfl, trivial⟩ trivial ?_ (.none rfl) rfl | refine DC.tri (T.fieldPtr' 35 _ 0 fd35_0 (by decide)) ⟨rfl, trivial⟩ trivial ?_ (.none rfl) rfl); (first | refine DC.tri (T.loadRef 33 _ ag33 sz33 (by first | rfl | assumption)) ⟨rfl, trivial⟩ ⟨rfl, trivial⟩ ?_ (.none rfl) rfl | refine DC.tri (T.loadPtr 33 _ ag33 sz33 (by first | rfl | assumption)) ⟨rfl, trivial⟩ trivial ?_ (.none rfl) rfl | refine DC.tri (T.loadElp 33 _ ag33 sz33 (by first | rfl | assumption)) ⟨rfl, trivial⟩ ⟨rfl, trivial⟩ ?_ (.none rfl) rfl); (first | refine DC.tri (T.fieldRef' 35 _ 1 fd35_1 (by decide)) ⟨rfl, trivial⟩ trivial ?_ (.none rfl) rfl | refine DC.tri (T.fieldPtr' 35 _ 1 fd35_1 (by decide)) ⟨rfl, trivial⟩ trivial ?_ (.none rfl) rfl); (first | refine DC.tri (T.loadRef 23 _ ag23 sz23 (by first | rfl | assumption)) ⟨rfl, trivial⟩ ⟨rfl, trivial⟩ ?_ (.none rfl) rfl | refine DC.tri (T.loadPtr 23 _ ag23 sz23 (by first | rfl | assumption)) ⟨rfl, trivial⟩ trivial ?_ (.none rfl) rfl | refine DC.tri (T.loadElp 23 _ ag23 sz23 (by first | rfl | assumption)) ⟨rfl, trivial⟩ ⟨rfl, trivial⟩ ?_ (.none rfl) rfl); (first | refine DC.tri (T.fieldRef' 35 _ 2 fd35_2 (by decide)) ⟨rfl, trivial⟩ trivial ?_ (.none rfl) rfl | refine DC.tri (T.fieldPtr' 35 _ 2 fd35_2 (by decide)) ⟨rfl, trivial⟩ trivial ?_ (.none rfl) rfl); (first | refine DC.tri (T.loadRef 24 _ ag24 sz24 (by first | rfl | assumption)) ⟨rfl, trivial⟩ ⟨rfl, trivial⟩ ?_ (.none rfl) rfl | refine DC.tri (T.loadPtr 24 _ ag24 sz24 (by first | rfl | assumption)) ⟨rfl, trivial⟩ trivial ?_ (.none rfl) rfl | refine DC.tri (T.loadElp 24 _ ag24 sz24 (by first | rfl | assumption)) ⟨rfl, trivial⟩ ⟨rfl, trivial⟩ ?_ (.none rfl) rfl); refine DC.tri (T.buildS3 26 _ _ _ Try.underlying26 ze26 (pl26 Try.underlying26) rfl) ⟨rfl, rfl, rfl, trivial⟩ trivial ?_ (.none rfl) rfl; (first | refine DC.tri (T.storeRef 26 _ _ sz26 rfl rfl (by first | rfl | simp [oneL, oneD, Value.oneCell']) (by first | decide | (simp; done) | omega | (simp; omega))) ⟨rfl, rfl, trivial⟩ ⟨rfl, trivial⟩ ?_ (.none rfl) rfl | refine DC.tri (T.storeElp 26 _ _ sz26 rfl rfl rfl (by first | decide | (simp; done) | omega | (simp; omega))) ⟨rfl, rfl, trivial⟩ ⟨rfl, trivial⟩ ?_ (.none rfl) rfl); refine DC.nilN (by first | (dsimp only [evalD, lkF, lkE, updF, Nat.beq, cond_true, cond_false, List.cons_append, List.nil_append, List.append_nil, argF, Nat.reduceAdd, Nat.reduceMul, spliceD, List.take, List.drop, List.length, flats, Value.cells, List.map, List.set]; done) | exact rfl | fail) ?_)
      | (refine DW.condT' rfl (by first | rfl | assumption | exact decide_eq_true (by first | assumption | omega) | exact decide_eq_false (by first | assumption | omega) | (simp only [*]; done) | fail) ?_)
      | (refine DW.condF' rfl (by first | rfl | assumption | exact decide_eq_true (by first | assumption | omega) | exact decide_eq_false (by first | assumption | omega) | (simp only [*]; done) | fail) ?_)
      | (refine DW.exit ?_)
      | (refine DW.ret ?_)
      | fail)
  exact ⟨.inr rfl, ResOk.cellA [] rfl rfl rfl ag26 sz26 trivial (VwL.pers rfl) (Le.refl _)⟩
theorem known_d : DFun Try.prog 15 [] (boolD true) := fun M w vals hM hv => by
  simp only [RepL] at hv
  subst hv
  exact ret_d (known_any w)
end Go.Proofs.Ytdakoccbmeojhaa
