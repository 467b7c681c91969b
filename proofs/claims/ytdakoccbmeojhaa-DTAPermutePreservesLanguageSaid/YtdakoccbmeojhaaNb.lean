/- Contracts over data: Clone, wide, state, places, at, Step. No condition. -/
import Derived.Test.YtdakoccbmeojhaaNa
import Derived.Test.YtdakoccbmeojhaaMb
set_option linter.unusedSimpArgs false
set_option linter.unusedVariables false
set_option maxHeartbeats 1000000
set_option maxRecDepth 8000
namespace Go.Proofs.Ytdakoccbmeojhaa
open Go Go.RowKit Go.PP Go.Dm

theorem ent46 : Enters Try.prog 46 := fun args w => by go_simp
theorem ent49 : Enters Try.prog 49 := fun args w => by go_simp
theorem ent51 : Enters Try.prog 51 := fun args w => by go_simp
theorem ent53 : Enters Try.prog 53 := fun args w => by go_simp
theorem ent24 : Enters Try.prog 24 := fun args w => by go_simp
theorem ent59 : Enters Try.prog 59 := fun args w => by go_simp

theorem cloneA_d (l : List Int) (hl : l.length ≤ 4096) : DFun Try.prog 59 [intsD l] (intsD l) := by
  refine DFun.enter Try.func59 rfl Try.ntmps59 (by simp) ?_
  dsimp only [evalD, lkF, lkE, updF, Nat.beq, Nat.reduceBEq, cond_true, cond_false, List.cons_append, List.nil_append, List.append_nil, argF, Nat.reduceAdd, Nat.reduceMul, spliceD, List.take, List.drop, List.length, flats, Value.cells, List.map, List.set, Thn, Blk, if_true, if_false, reduceIte, Nat.reduceEqDiff]
  by_cases h0 : l.length = 0
  · obtain rfl := List.eq_nil_of_length_eq_zero h0
    repeat (first
        | (refine DW.seq ?_)
        | (refine DW.block ?_)
        | (refine Thn.n ?_)
        | (refine Blk.n ?_)
        | (refine Blk.here ?_)
        | (refine Thn.e ?_)
        | (refine Blk.pass rfl ?_)
        | (refine Thn.r ?_)
        | (refine Blk.r ?_)
        | (refine DW.skip ?_)
        | (refine DW.label ?_)
        | (refine DW.regionC (id := 0) ?_; refine DC.tri (T.assign _ _) ⟨rfl, trivial⟩ trivial ?_ (.none rfl) rfl; refine DC.nilN (by first | (dsimp only [evalD, lkF, lkE, updF, Nat.beq, Nat.reduceBEq, cond_true, cond_false, List.cons_append, List.nil_append, List.append_nil, argF, Nat.reduceAdd, Nat.reduceMul, spliceD, List.take, List.drop, List.length, flats, Value.cells, List.map, List.set]; done) | exact rfl | fail) ?_)
        | (refine DW.condT' rfl (by first | rfl | assumption | exact decide_eq_true (by first | assumption | omega) | exact decide_eq_false (by first | assumption | omega) | (simp only [*]; done) | fail) ?_)
        | (refine DW.condF' rfl (by first | rfl | assumption | exact decide_eq_true (by first | assumption | omega) | exact decide_eq_false (by first | assumption | omega) | (simp only [*]; done) | fail) ?_)
        | (refine DW.exit ?_)
        | (refine DW.ret ?_)
        | fail)
    refine DW.flatten 0 (q := false) (n := 1) (cs := []) rfl ?_
    intro a cap
    cases a with
    | none =>
      repeat (first
          | (refine DW.seq ?_)
          | (refine DW.block ?_)
          | (refine Thn.n ?_)
          | (refine Blk.n ?_)
          | (refine Blk.here ?_)
          | (refine Thn.e ?_)
          | (refine Blk.pass rfl ?_)
          | (refine Thn.r ?_)
          | (refine Blk.r ?_)
          | (refine DW.skip ?_)
          | (refine DW.label ?_)
          | (refine DW.regionC (id := 1) ?_; refine DC.tri (T.move _ _) ⟨rfl, trivial⟩ trivial ?_ (.none rfl) rfl; (first | refine DC.tri (T.eqNilS (t := 33) _ un33 (by omega) (by decide)) ⟨rfl, rfl, trivial⟩ trivial ?_ (.none rfl) rfl | refine DC.tri (T.eqNilF (t := 33) _ un33) ⟨rfl, rfl, trivial⟩ trivial ?_ (.none rfl) rfl); refine DC.nilN (by first | (dsimp only [evalD, lkF, lkE, updF, Nat.beq, Nat.reduceBEq, cond_true, cond_false, List.cons_append, List.nil_append, List.append_nil, argF, Nat.reduceAdd, Nat.reduceMul, spliceD, List.take, List.drop, List.length, flats, Value.cells, List.map, List.set]; done) | exact rfl | fail) ?_)
          | (refine DW.regionC (id := 2) ?_; refine DC.tri (T.assign _ _) ⟨rfl, trivial⟩ trivial ?_ (.none rfl) rfl; refine DC.nilN (by first | (dsimp only [evalD, lkF, lkE, updF, Nat.beq, Nat.reduceBEq, cond_true, cond_false, List.cons_append, List.nil_append, List.append_nil, argF, Nat.reduceAdd, Nat.reduceMul, spliceD, List.take, List.drop, List.length, flats, Value.cells, List.map, List.set]; done) | exact rfl | fail) ?_)
          | (refine DW.condT' rfl (by first | rfl | assumption | exact decide_eq_true (by first | assumption | omega) | exact decide_eq_false (by first | assumption | omega) | (simp only [*]; done) | fail) ?_)
          | (refine DW.condF' rfl (by first | rfl | assumption | exact decide_eq_true (by first | assumption | omega) | exact decide_eq_false (by first | assumption | omega) | (simp only [*]; done) | fail) ?_)
          | (refine DW.exit ?_)
          | (refine DW.ret ?_)
          | fail)
      exact ⟨.inr rfl, ResOk.one [] rfl (by first | (dsimp only [evalD, lkF, lkE, updF, Nat.beq, Nat.reduceBEq, cond_true, cond_false, List.cons_append, List.nil_append, List.append_nil, argF, Nat.reduceAdd, Nat.reduceMul, spliceD, List.take, List.drop, List.length, flats, Value.cells, List.map, List.set]; done) | exact rfl | fail) trivial (Vw.le (Vw.pers rfl) (Le.nil _ _))⟩
    | some ad =>
      repeat (first
          | (refine DW.seq ?_)
          | (refine DW.block ?_)
          | (refine Thn.n ?_)
          | (refine Blk.n ?_)
          | (refine Blk.here ?_)
          | (refine Thn.e ?_)
          | (refine Blk.pass rfl ?_)
          | (refine Thn.r ?_)
          | (refine Blk.r ?_)
          | (refine DW.skip ?_)
          | (refine DW.label ?_)
          | (refine DW.regionC (id := 1) ?_; refine DC.tri (T.move _ _) ⟨rfl, trivial⟩ trivial ?_ (.none rfl) rfl; (first | refine DC.tri (T.eqNilS (t := 33) _ un33 (by omega) (by decide)) ⟨rfl, rfl, trivial⟩ trivial ?_ (.none rfl) rfl | refine DC.tri (T.eqNilF (t := 33) _ un33) ⟨rfl, rfl, trivial⟩ trivial ?_ (.none rfl) rfl); refine DC.nilN (by first | (dsimp only [evalD, lkF, lkE, updF, Nat.beq, Nat.reduceBEq, cond_true, cond_false, List.cons_append, List.nil_append, List.append_nil, argF, Nat.reduceAdd, Nat.reduceMul, spliceD, List.take, List.drop, List.length, flats, Value.cells, List.map, List.set]; done) | exact rfl | fail) ?_)
          | (refine DW.condT' rfl (by first | rfl | assumption | exact decide_eq_true (by first | assumption | omega) | exact decide_eq_false (by first | assumption | omega) | (simp only [*]; done) | fail) ?_)
          | (refine DW.condF' rfl (by first | rfl | assumption | exact decide_eq_true (by first | assumption | omega) | exact decide_eq_false (by first | assumption | omega) | (simp only [*]; done) | fail) ?_)
          | (refine DW.exit ?_)
          | (refine DW.ret ?_)
          | fail)
      refine DW.sub (Sub.slots (f' := [(0, .sl false 1 0 [])]) ⟨Vs.le (Vs.pers rfl) Le.empty, trivial⟩) ?_
      repeat (first
          | (refine DW.seq ?_)
          | (refine DW.block ?_)
          | (refine Thn.n ?_)
          | (refine Blk.n ?_)
          | (refine Blk.here ?_)
          | (refine Thn.e ?_)
          | (refine Blk.pass rfl ?_)
          | (refine Thn.r ?_)
          | (refine Blk.r ?_)
          | (refine DW.skip ?_)
          | (refine DW.label ?_)
          | (refine DW.regionC (id := 3) ?_; refine DC.tri (T.buildOwn0 5 33 un33 ze3 sz3) trivial ⟨rfl, trivial⟩ ?_ (.none rfl) rfl; refine DC.tri (T.move _ _) ⟨rfl, trivial⟩ trivial ?_ (.none rfl) rfl; refine DC.tri (T.append 33 _ _ un33 nf3 rfl (by decide) (by decide) (by first | rfl | assumption | exact oneL_map (fun _ => rfl) _) (by omega)) ⟨rfl, rfl, trivial⟩ ⟨rfl, trivial⟩ ?_ (.none rfl) rfl; refine DC.tri (T.assign _ _) ⟨rfl, trivial⟩ trivial ?_ (.none rfl) rfl; refine DC.nilN (by first | (dsimp only [evalD, lkF, lkE, updF, Nat.beq, Nat.reduceBEq, cond_true, cond_false, List.cons_append, List.nil_append, List.append_nil, argF, Nat.reduceAdd, Nat.reduceMul, spliceD, List.take, List.drop, List.length, flats, Value.cells, List.map, List.set]; done) | exact rfl | fail) ?_)
          | (refine DW.condT' rfl (by first | rfl | assumption | exact decide_eq_true (by first | assumption | omega) | exact decide_eq_false (by first | assumption | omega) | (simp only [*]; done) | fail) ?_)
          | (refine DW.condF' rfl (by first | rfl | assumption | exact decide_eq_true (by first | assumption | omega) | exact decide_eq_false (by first | assumption | omega) | (simp only [*]; done) | fail) ?_)
          | (refine DW.exit ?_)
          | (refine DW.ret ?_)
          | fail)
      exact ⟨.inr rfl, ResOk.one [(5, some (.row 3 1 (0 + 0) ([] ++ [])))] rfl rfl ⟨rfl, trivial⟩ (Vw.own (.head _) (VwL.pers rfl))⟩
  · repeat (first
        | (refine DW.seq ?_)
        | (refine DW.block ?_)
        | (refine Thn.n ?_)
        | (refine Blk.n ?_)
        | (refine Blk.here ?_)
        | (refine Thn.e ?_)
        | (refine Blk.pass rfl ?_)
        | (refine Thn.r ?_)
        | (refine Blk.r ?_)
        | (refine DW.skip ?_)
        | (refine DW.label ?_)
        | (refine DW.regionC (id := 0) ?_; refine DC.tri (T.assign _ _) ⟨rfl, trivial⟩ trivial ?_ (.none rfl) rfl; refine DC.nilN (by first | (dsimp only [evalD, lkF, lkE, updF, Nat.beq, Nat.reduceBEq, cond_true, cond_false, List.cons_append, List.nil_append, List.append_nil, argF, Nat.reduceAdd, Nat.reduceMul, spliceD, List.take, List.drop, List.length, flats, Value.cells, List.map, List.set]; done) | exact rfl | fail) ?_)
        | (refine DW.regionC (id := 1) ?_; refine DC.tri (T.move _ _) ⟨rfl, trivial⟩ trivial ?_ (.none rfl) rfl; (first | refine DC.tri (T.eqNilS (t := 33) _ un33 (by omega) (by decide)) ⟨rfl, rfl, trivial⟩ trivial ?_ (.none rfl) rfl | refine DC.tri (T.eqNilF (t := 33) _ un33) ⟨rfl, rfl, trivial⟩ trivial ?_ (.none rfl) rfl); refine DC.nilN (by first | (dsimp only [evalD, lkF, lkE, updF, Nat.beq, Nat.reduceBEq, cond_true, cond_false, List.cons_append, List.nil_append, List.append_nil, argF, Nat.reduceAdd, Nat.reduceMul, spliceD, List.take, List.drop, List.length, flats, Value.cells, List.map, List.set]; done) | exact rfl | fail) ?_)
        | (refine DW.regionC (id := 2) ?_; refine DC.tri (T.assign _ _) ⟨rfl, trivial⟩ trivial ?_ (.none rfl) rfl; refine DC.nilN (by first | (dsimp only [evalD, lkF, lkE, updF, Nat.beq, Nat.reduceBEq, cond_true, cond_false, List.cons_append, List.nil_append, List.append_nil, argF, Nat.reduceAdd, Nat.reduceMul, spliceD, List.take, List.drop, List.length, flats, Value.cells, List.map, List.set]; done) | exact rfl | fail) ?_)
        | (refine DW.regionC (id := 3) ?_; refine DC.tri (T.buildOwn0 5 33 un33 ze3 sz3) trivial ⟨rfl, trivial⟩ ?_ (.none rfl) rfl; refine DC.tri (T.move _ _) ⟨rfl, trivial⟩ trivial ?_ (.none rfl) rfl; refine DC.tri (T.append 33 _ _ un33 nf3 rfl (by decide) (by decide) (by first | rfl | assumption | exact oneL_map (fun _ => rfl) _) (by omega)) ⟨rfl, rfl, trivial⟩ ⟨rfl, trivial⟩ ?_ (.none rfl) rfl; refine DC.tri (T.assign _ _) ⟨rfl, trivial⟩ trivial ?_ (.none rfl) rfl; refine DC.nilN (by first | (dsimp only [evalD, lkF, lkE, updF, Nat.beq, Nat.reduceBEq, cond_true, cond_false, List.cons_append, List.nil_append, List.append_nil, argF, Nat.reduceAdd, Nat.reduceMul, spliceD, List.take, List.drop, List.length, flats, Value.cells, List.map, List.set]; done) | exact rfl | fail) ?_)
        | (refine DW.condT' rfl (by first | rfl | assumption | exact decide_eq_true (by first | assumption | omega) | exact decide_eq_false (by first | assumption | omega) | (simp only [*]; done) | fail) ?_)
        | (refine DW.condF' rfl (by first | rfl | assumption | exact decide_eq_true (by first | assumption | omega) | exact decide_eq_false (by first | assumption | omega) | (simp only [*]; done) | fail) ?_)
        | (refine DW.exit ?_)
        | (refine DW.ret ?_)
        | fail)
    refine ⟨.inr rfl, ResOk.one [(5, some (.row 3 1 (0 + l.length) ([] ++ l.map fun x => .flat (.int .i64 x))))] rfl rfl ⟨rfl, trivial⟩ (Vw.le (Vw.own (.head _) (VwL.pers (persL_map (fun _ => rfl) _))) (Le.of_eq ?_))⟩
    simp [intsD]

theorem wide_d (k : Nat) (n : Nat) (hk : k ≤ 2) (hn : n ≤ 512) : DFun Try.prog 46 [intD k, intD n] (intD (wideN k n : Nat)) := by
  refine DFun.enter Try.func46 rfl Try.ntmps46 (by simp) ?_
  dsimp only [evalD, lkF, lkE, updF, Nat.beq, Nat.reduceBEq, cond_true, cond_false, List.cons_append, List.nil_append, List.append_nil, argF, Nat.reduceAdd, Nat.reduceMul, spliceD, List.take, List.drop, List.length, flats, Value.cells, List.map, List.set, Thn, Blk, if_true, if_false, reduceIte, Nat.reduceEqDiff]
  repeat (first
      | (refine DW.seq ?_)
      | (refine DW.block ?_)
      | (refine Thn.n ?_)
      | (refine Blk.n ?_)
      | (refine Blk.here ?_)
      | (refine Thn.e ?_)
      | (refine Blk.pass rfl ?_)
      | (refine Thn.r ?_)
      | (refine Blk.r ?_)
      | (refine DW.skip ?_)
      | (refine DW.label ?_)
      | (refine DW.regionC (id := 0) ?_; refine DC.tri (T.assign _ _) ⟨rfl, trivial⟩ trivial ?_ (.none rfl) rfl; refine DC.nilN (by first | (dsimp only [evalD, lkF, lkE, updF, Nat.beq, Nat.reduceBEq, cond_true, cond_false, List.cons_append, List.nil_append, List.append_nil, argF, Nat.reduceAdd, Nat.reduceMul, spliceD, List.take, List.drop, List.length, flats, Value.cells, List.map, List.set]; done) | exact rfl | fail) ?_)
      | (refine DW.regionC (id := 1) ?_; refine DC.tri (T.assign _ _) ⟨rfl, trivial⟩ trivial ?_ (.none rfl) rfl; refine DC.nilN (by first | (dsimp only [evalD, lkF, lkE, updF, Nat.beq, Nat.reduceBEq, cond_true, cond_false, List.cons_append, List.nil_append, List.append_nil, argF, Nat.reduceAdd, Nat.reduceMul, spliceD, List.take, List.drop, List.length, flats, Value.cells, List.map, List.set]; done) | exact rfl | fail) ?_)
      | (refine DW.regionC (id := 2) ?_; refine DC.tri (T.move _ _) ⟨rfl, trivial⟩ trivial ?_ (.none rfl) rfl; refine DC.tri (T.move _ _) ⟨rfl, trivial⟩ trivial ?_ (.none rfl) rfl; refine DC.nilN (by first | (dsimp only [evalD, lkF, lkE, updF, Nat.beq, Nat.reduceBEq, cond_true, cond_false, List.cons_append, List.nil_append, List.append_nil, argF, Nat.reduceAdd, Nat.reduceMul, spliceD, List.take, List.drop, List.length, flats, Value.cells, List.map, List.set]; done) | exact rfl | fail) ?_)
      | (refine DW.condT' rfl (by first | rfl | assumption | exact decide_eq_true (by first | assumption | omega) | exact decide_eq_false (by first | assumption | omega) | (simp only [*]; done) | fail) ?_)
      | (refine DW.condF' rfl (by first | rfl | assumption | exact decide_eq_true (by first | assumption | omega) | exact decide_eq_false (by first | assumption | omega) | (simp only [*]; done) | fail) ?_)
      | (refine DW.exit ?_)
      | (refine DW.ret ?_)
      | fail)
  refine DW.loop (fun j : Nat => ⟨[(7, intD j), (6, intD k), (5, intD (n ^ j : Nat)), (1, intD n)], []⟩) (fun j => j ≤ k) (fun j => k - j) 0 (by omega) (Sub.slots ⟨Vs.int (by simp), Vs.pers rfl, Vs.int (by simp), Vs.pers rfl, trivial⟩) ?_
  rintro j hj
  have hb : (n ^ (j + 1) : Nat) ≤ 134217728 := Nat.le_trans (Nat.pow_le_pow_left hn _) (by rcases (show j = 0 ∨ j = 1 ∨ j = 2 by omega) with rfl | rfl | rfl <;> decide)
  have hm : IntKind.i64.wrap (((n ^ j : Nat) : Int) * (n : Int)) = ((n ^ (j + 1) : Nat) : Int) := by
    have e : n ^ j * n = n ^ (j + 1) := (Nat.pow_succ ..).symm
    rw [← Int.natCast_mul, e]; exact w64 (by omega) (by omega)
  by_cases hlt : j < k
  · repeat (first
        | (refine DW.seq ?_)
        | (refine DW.block ?_)
        | (refine Thn.n ?_)
        | (refine Blk.n ?_)
        | (refine Blk.here ?_)
        | (refine Thn.e ?_)
        | (refine Blk.pass rfl ?_)
        | (refine Thn.r ?_)
        | (refine Blk.r ?_)
        | (refine DW.skip ?_)
        | (refine DW.label ?_)
        | (refine DW.regionC (id := 3) ?_; refine DC.tri (T.lss _ _ _ _) ⟨rfl, rfl, trivial⟩ trivial ?_ (.none rfl) rfl; refine DC.nilN (by first | (dsimp only [evalD, lkF, lkE, updF, Nat.beq, Nat.reduceBEq, cond_true, cond_false, List.cons_append, List.nil_append, List.append_nil, argF, Nat.reduceAdd, Nat.reduceMul, spliceD, List.take, List.drop, List.length, flats, Value.cells, List.map, List.set]; done) | exact rfl | fail) ?_)
        | (refine DW.regionC (id := 4) ?_; refine DC.tri (T.move _ _) ⟨rfl, trivial⟩ trivial ?_ (.none rfl) rfl; refine DC.tri (T.move _ _) ⟨rfl, trivial⟩ trivial ?_ (.none rfl) rfl; (first | refine DC.tri (T.mul (k := .i64) _ _ _ _ (w64 (by omega) (by omega))) ⟨rfl, rfl, trivial⟩ trivial ?_ (.none rfl) rfl | refine DC.tri (T.mul (k := .i64) _ _ _ _ (by assumption)) ⟨rfl, rfl, trivial⟩ trivial ?_ (.none rfl) rfl); refine DC.tri (T.assign _ _) ⟨rfl, trivial⟩ trivial ?_ (.none rfl) rfl; refine DC.nilN (by first | (dsimp only [evalD, lkF, lkE, updF, Nat.beq, Nat.reduceBEq, cond_true, cond_false, List.cons_append, List.nil_append, List.append_nil, argF, Nat.reduceAdd, Nat.reduceMul, spliceD, List.take, List.drop, List.length, flats, Value.cells, List.map, List.set]; done) | exact rfl | fail) ?_)
        | (refine DW.regionC (id := 5) ?_; (first | refine DC.tri (T.add (k := .i64) _ _ _ _ (w64 (by omega) (by omega))) ⟨rfl, rfl, trivial⟩ trivial ?_ (.none rfl) rfl | refine DC.tri (T.add (k := .i64) _ _ _ _ (by assumption)) ⟨rfl, rfl, trivial⟩ trivial ?_ (.none rfl) rfl); refine DC.tri (T.move _ _) ⟨rfl, trivial⟩ trivial ?_ (.none rfl) rfl; refine DC.nilN (by first | (dsimp only [evalD, lkF, lkE, updF, Nat.beq, Nat.reduceBEq, cond_true, cond_false, List.cons_append, List.nil_append, List.append_nil, argF, Nat.reduceAdd, Nat.reduceMul, spliceD, List.take, List.drop, List.length, flats, Value.cells, List.map, List.set]; done) | exact rfl | fail) ?_)
        | (refine DW.condT' rfl (by first | rfl | assumption | exact decide_eq_true (by first | assumption | omega) | exact decide_eq_false (by first | assumption | omega) | (simp only [*]; done) | fail) ?_)
        | (refine DW.condF' rfl (by first | rfl | assumption | exact decide_eq_true (by first | assumption | omega) | exact decide_eq_false (by first | assumption | omega) | (simp only [*]; done) | fail) ?_)
        | (refine DW.exit ?_)
        | (refine DW.ret ?_)
        | fail)
    exact ⟨j + 1, by omega, by omega, Sub.slots ⟨Vs.int (by simp), Vs.pers rfl, Vs.pers rfl, Vs.pers rfl, trivial⟩⟩
  · obtain rfl : j = k := by omega
    repeat (first
        | (refine DW.seq ?_)
        | (refine DW.block ?_)
        | (refine Thn.n ?_)
        | (refine Blk.n ?_)
        | (refine Blk.here ?_)
        | (refine Thn.e ?_)
        | (refine Blk.pass rfl ?_)
        | (refine Thn.r ?_)
        | (refine Blk.r ?_)
        | (refine DW.skip ?_)
        | (refine DW.label ?_)
        | (refine DW.regionC (id := 3) ?_; refine DC.tri (T.lss _ _ _ _) ⟨rfl, rfl, trivial⟩ trivial ?_ (.none rfl) rfl; refine DC.nilN (by first | (dsimp only [evalD, lkF, lkE, updF, Nat.beq, Nat.reduceBEq, cond_true, cond_false, List.cons_append, List.nil_append, List.append_nil, argF, Nat.reduceAdd, Nat.reduceMul, spliceD, List.take, List.drop, List.length, flats, Value.cells, List.map, List.set]; done) | exact rfl | fail) ?_)
        | (refine DW.regionC (id := 6) ?_; refine DC.tri (T.move _ _) ⟨rfl, trivial⟩ trivial ?_ (.none rfl) rfl; refine DC.tri (T.assign _ _) ⟨rfl, trivial⟩ trivial ?_ (.none rfl) rfl; refine DC.nilN (by first | (dsimp only [evalD, lkF, lkE, updF, Nat.beq, Nat.reduceBEq, cond_true, cond_false, List.cons_append, List.nil_append, List.append_nil, argF, Nat.reduceAdd, Nat.reduceMul, spliceD, List.take, List.drop, List.length, flats, Value.cells, List.map, List.set]; done) | exact rfl | fail) ?_)
        | (refine DW.condT' rfl (by first | rfl | assumption | exact decide_eq_true (by first | assumption | omega) | exact decide_eq_false (by first | assumption | omega) | (simp only [*]; done) | fail) ?_)
        | (refine DW.condF' rfl (by first | rfl | assumption | exact decide_eq_true (by first | assumption | omega) | exact decide_eq_false (by first | assumption | omega) | (simp only [*]; done) | fail) ?_)
        | (refine DW.exit ?_)
        | (refine DW.ret ?_)
        | fail)
    exact ⟨.inr rfl, ResOk.one [] rfl (by first | (dsimp only [evalD, lkF, lkE, updF, Nat.beq, Nat.reduceBEq, cond_true, cond_false, List.cons_append, List.nil_append, List.append_nil, argF, Nat.reduceAdd, Nat.reduceMul, spliceD, List.take, List.drop, List.length, flats, Value.cells, List.map, List.set]; done) | exact rfl | fail) trivial (Vw.le (Vw.pers rfl) (Le.of_eq (by simp [intD, wideN])))⟩

theorem state_d (A : Au) (s : Int) : DFun Try.prog 49 [auD A, intD s] (boolD (decide (0 ≤ s ∧ s < (A.final.length : Int)))) := by
  refine DFun.enter Try.func49 rfl Try.ntmps49 (by simp) ?_
  dsimp only [evalD, lkF, lkE, updF, Nat.beq, Nat.reduceBEq, cond_true, cond_false, List.cons_append, List.nil_append, List.append_nil, argF, Nat.reduceAdd, Nat.reduceMul, spliceD, List.take, List.drop, List.length, flats, Value.cells, List.map, List.set, Thn, Blk, if_true, if_false, reduceIte, Nat.reduceEqDiff]
  by_cases h0 : 0 ≤ s
  · repeat (first
        | (refine DW.seq ?_)
        | (refine DW.block ?_)
        | (refine Thn.n ?_)
        | (refine Blk.n ?_)
        | (refine Blk.here ?_)
        | (refine Thn.e ?_)
        | (refine Blk.pass rfl ?_)
        | (refine Thn.r ?_)
        | (refine Blk.r ?_)
        | (refine DW.skip ?_)
        | (refine DW.label ?_)
        | (refine DW.regionC (id := 0) ?_; refine DC.tri (T.box 2 35 _ rfl) ⟨rfl, trivial⟩ ⟨rfl, trivial⟩ ?_ (.none rfl) rfl; refine DC.tri (T.assign _ _) ⟨rfl, trivial⟩ trivial ?_ (.none rfl) rfl; refine DC.nilN (by first | (dsimp only [evalD, lkF, lkE, updF, Nat.beq, Nat.reduceBEq, cond_true, cond_false, List.cons_append, List.nil_append, List.append_nil, argF, Nat.reduceAdd, Nat.reduceMul, spliceD, List.take, List.drop, List.length, flats, Value.cells, List.map, List.set]; done) | exact rfl | fail) ?_)
        | (refine DW.regionC (id := 1) ?_; refine DC.tri (T.move _ _) ⟨rfl, trivial⟩ trivial ?_ (.none rfl) rfl; refine DC.tri (T.geq _ _ _ _) ⟨rfl, rfl, trivial⟩ trivial ?_ (.none rfl) rfl; refine DC.tri (T.move _ _) ⟨rfl, trivial⟩ trivial ?_ (.none rfl) rfl; (first | refine DC.off rfl rfl rfl rfl (by decide) ?_ rfl | refine DC.offB rfl rfl rfl (by first | rfl | assumption | exact decide_eq_true (by first | assumption | omega) | exact decide_eq_false (by first | assumption | omega) | (simp only [*]; done) | fail) (by decide) ?_ rfl | refine DC.tri (T.move _ _) ⟨rfl, trivial⟩ trivial ?_ (by first | exact .none rfl | exact .on rfl rfl rfl (by first | rfl | assumption | exact decide_eq_true (by first | assumption | omega) | exact decide_eq_false (by first | assumption | omega) | (simp only [*]; done) | fail) | fail) rfl); (first | refine DC.off rfl rfl rfl rfl (by decide) ?_ rfl | refine DC.offB rfl rfl rfl (by first | rfl | assumption | exact decide_eq_true (by first | assumption | omega) | exact decide_eq_false (by first | assumption | omega) | (simp only [*]; done) | fail) (by decide) ?_ rfl | refine DC.tri (T.fieldRef' 35 _ 1 fd35_1 (by decide)) ⟨rfl, trivial⟩ trivial ?_ (by first | exact .none rfl | exact .on rfl rfl rfl (by first | rfl | assumption | exact decide_eq_true (by first | assumption | omega) | exact decide_eq_false (by first | assumption | omega) | (simp only [*]; done) | fail) | fail) rfl | refine DC.tri (T.fieldPtr' 35 _ 1 fd35_1 (by decide)) ⟨rfl, trivial⟩ trivial ?_ (by first | exact .none rfl | exact .on rfl rfl rfl (by first | rfl | assumption | exact decide_eq_true (by first | assumption | omega) | exact decide_eq_false (by first | assumption | omega) | (simp only [*]; done) | fail) | fail) rfl); (first | refine DC.off rfl rfl rfl rfl (by decide) ?_ rfl | refine DC.offB rfl rfl rfl (by first | rfl | assumption | exact decide_eq_true (by first | assumption | omega) | exact decide_eq_false (by first | assumption | omega) | (simp only [*]; done) | fail) (by decide) ?_ rfl | refine DC.tri (T.loadRef 23 _ ag23 sz23 (by first | rfl | assumption)) ⟨rfl, trivial⟩ ⟨rfl, trivial⟩ ?_ (by first | exact .none rfl | exact .on rfl rfl rfl (by first | rfl | assumption | exact decide_eq_true (by first | assumption | omega) | exact decide_eq_false (by first | assumption | omega) | (simp only [*]; done) | fail) | fail) rfl | refine DC.tri (T.loadPtr 23 _ ag23 sz23 (by first | rfl | assumption)) ⟨rfl, trivial⟩ trivial ?_ (by first | exact .none rfl | exact .on rfl rfl rfl (by first | rfl | assumption | exact decide_eq_true (by first | assumption | omega) | exact decide_eq_false (by first | assumption | omega) | (simp only [*]; done) | fail) | fail) rfl | refine DC.tri (T.loadElp 23 _ ag23 sz23 (by first | rfl | assumption)) ⟨rfl, trivial⟩ ⟨rfl, trivial⟩ ?_ (by first | exact .none rfl | exact .on rfl rfl rfl (by first | rfl | assumption | exact decide_eq_true (by first | assumption | omega) | exact decide_eq_false (by first | assumption | omega) | (simp only [*]; done) | fail) | fail) rfl); (first | refine DC.off rfl rfl rfl rfl (by decide) ?_ rfl | refine DC.offB rfl rfl rfl (by first | rfl | assumption | exact decide_eq_true (by first | assumption | omega) | exact decide_eq_false (by first | assumption | omega) | (simp only [*]; done) | fail) (by decide) ?_ rfl | refine DC.tri (T.lenSl 23 _ un23) ⟨rfl, trivial⟩ trivial ?_ (by first | exact .none rfl | exact .on rfl rfl rfl (by first | rfl | assumption | exact decide_eq_true (by first | assumption | omega) | exact decide_eq_false (by first | assumption | omega) | (simp only [*]; done) | fail) | fail) rfl | refine DC.tri (T.lenOwn 23 _ un23) ⟨rfl, trivial⟩ trivial ?_ (by first | exact .none rfl | exact .on rfl rfl rfl (by first | rfl | assumption | exact decide_eq_true (by first | assumption | omega) | exact decide_eq_false (by first | assumption | omega) | (simp only [*]; done) | fail) | fail) rfl | refine DC.tri (T.lenNil 23 _ un23) ⟨rfl, trivial⟩ trivial ?_ (by first | exact .none rfl | exact .on rfl rfl rfl (by first | rfl | assumption | exact decide_eq_true (by first | assumption | omega) | exact decide_eq_false (by first | assumption | omega) | (simp only [*]; done) | fail) | fail) rfl); (first | refine DC.off rfl rfl rfl rfl (by decide) ?_ rfl | refine DC.offB rfl rfl rfl (by first | rfl | assumption | exact decide_eq_true (by first | assumption | omega) | exact decide_eq_false (by first | assumption | omega) | (simp only [*]; done) | fail) (by decide) ?_ rfl | refine DC.tri (T.lss _ _ _ _) ⟨rfl, rfl, trivial⟩ trivial ?_ (by first | exact .none rfl | exact .on rfl rfl rfl (by first | rfl | assumption | exact decide_eq_true (by first | assumption | omega) | exact decide_eq_false (by first | assumption | omega) | (simp only [*]; done) | fail) | fail) rfl); (first | refine DC.tri (T.pickT' _ _ _ (by first | rfl | assumption | exact decide_eq_true (by first | assumption | omega) | exact decide_eq_false (by first | assumption | omega) | (simp only [*]; done) | fail)) ⟨rfl, rfl, trivial⟩ trivial ?_ (.none rfl) rfl | refine DC.tri (T.pickF' _ _ _ (by first | rfl | assumption | exact decide_eq_true (by first | assumption | omega) | exact decide_eq_false (by first | assumption | omega) | (simp only [*]; done) | fail)) ⟨rfl, rfl, trivial⟩ trivial ?_ (.none rfl) rfl); refine DC.tri (T.assign _ _) ⟨rfl, trivial⟩ trivial ?_ (.none rfl) rfl; refine DC.nilN (by first | (dsimp only [evalD, lkF, lkE, updF, Nat.beq, Nat.reduceBEq, cond_true, cond_false, List.cons_append, List.nil_append, List.append_nil, argF, Nat.reduceAdd, Nat.reduceMul, spliceD, List.take, List.drop, List.length, flats, Value.cells, List.map, List.set]; done) | exact rfl | fail) ?_)
        | (refine DW.condT' rfl (by first | rfl | assumption | exact decide_eq_true (by first | assumption | omega) | exact decide_eq_false (by first | assumption | omega) | (simp only [*]; done) | fail) ?_)
        | (refine DW.condF' rfl (by first | rfl | assumption | exact decide_eq_true (by first | assumption | omega) | exact decide_eq_false (by first | assumption | omega) | (simp only [*]; done) | fail) ?_)
        | (refine DW.exit ?_)
        | (refine DW.ret ?_)
        | fail)
    exact ⟨.inr rfl, ResOk.one [] rfl (by first | (dsimp only [evalD, lkF, lkE, updF, Nat.beq, Nat.reduceBEq, cond_true, cond_false, List.cons_append, List.nil_append, List.append_nil, argF, Nat.reduceAdd, Nat.reduceMul, spliceD, List.take, List.drop, List.length, flats, Value.cells, List.map, List.set]; done) | exact rfl | fail) trivial (Vw.le (Vw.pers rfl) (Le.of_eq (by simp [boolD, h0])))⟩
  · repeat (first
        | (refine DW.seq ?_)
        | (refine DW.block ?_)
        | (refine Thn.n ?_)
        | (refine Blk.n ?_)
        | (refine Blk.here ?_)
        | (refine Thn.e ?_)
        | (refine Blk.pass rfl ?_)
        | (refine Thn.r ?_)
        | (refine Blk.r ?_)
        | (refine DW.skip ?_)
        | (refine DW.label ?_)
        | (refine DW.regionC (id := 0) ?_; refine DC.tri (T.box 2 35 _ rfl) ⟨rfl, trivial⟩ ⟨rfl, trivial⟩ ?_ (.none rfl) rfl; refine DC.tri (T.assign _ _) ⟨rfl, trivial⟩ trivial ?_ (.none rfl) rfl; refine DC.nilN (by first | (dsimp only [evalD, lkF, lkE, updF, Nat.beq, Nat.reduceBEq, cond_true, cond_false, List.cons_append, List.nil_append, List.append_nil, argF, Nat.reduceAdd, Nat.reduceMul, spliceD, List.take, List.drop, List.length, flats, Value.cells, List.map, List.set]; done) | exact rfl | fail) ?_)
        | (refine DW.regionC (id := 1) ?_; refine DC.tri (T.move _ _) ⟨rfl, trivial⟩ trivial ?_ (.none rfl) rfl; refine DC.tri (T.geq _ _ _ _) ⟨rfl, rfl, trivial⟩ trivial ?_ (.none rfl) rfl; refine DC.tri (T.move _ _) ⟨rfl, trivial⟩ trivial ?_ (.none rfl) rfl; (first | refine DC.off rfl rfl rfl rfl (by decide) ?_ rfl | refine DC.offB rfl rfl rfl (by first | rfl | assumption | exact decide_eq_true (by first | assumption | omega) | exact decide_eq_false (by first | assumption | omega) | (simp only [*]; done) | fail) (by decide) ?_ rfl | refine DC.tri (T.move _ _) ⟨rfl, trivial⟩ trivial ?_ (by first | exact .none rfl | exact .on rfl rfl rfl (by first | rfl | assumption | exact decide_eq_true (by first | assumption | omega) | exact decide_eq_false (by first | assumption | omega) | (simp only [*]; done) | fail) | fail) rfl); (first | refine DC.off rfl rfl rfl rfl (by decide) ?_ rfl | refine DC.offB rfl rfl rfl (by first | rfl | assumption | exact decide_eq_true (by first | assumption | omega) | exact decide_eq_false (by first | assumption | omega) | (simp only [*]; done) | fail) (by decide) ?_ rfl | refine DC.tri (T.fieldRef' 35 _ 1 fd35_1 (by decide)) ⟨rfl, trivial⟩ trivial ?_ (by first | exact .none rfl | exact .on rfl rfl rfl (by first | rfl | assumption | exact decide_eq_true (by first | assumption | omega) | exact decide_eq_false (by first | assumption | omega) | (simp only [*]; done) | fail) | fail) rfl | refine DC.tri (T.fieldPtr' 35 _ 1 fd35_1 (by decide)) ⟨rfl, trivial⟩ trivial ?_ (by first | exact .none rfl | exact .on rfl rfl rfl (by first | rfl | assumption | exact decide_eq_true (by first | assumption | omega) | exact decide_eq_false (by first | assumption | omega) | (simp only [*]; done) | fail) | fail) rfl); (first | refine DC.off rfl rfl rfl rfl (by decide) ?_ rfl | refine DC.offB rfl rfl rfl (by first | rfl | assumption | exact decide_eq_true (by first | assumption | omega) | exact decide_eq_false (by first | assumption | omega) | (simp only [*]; done) | fail) (by decide) ?_ rfl | refine DC.tri (T.loadRef 23 _ ag23 sz23 (by first | rfl | assumption)) ⟨rfl, trivial⟩ ⟨rfl, trivial⟩ ?_ (by first | exact .none rfl | exact .on rfl rfl rfl (by first | rfl | assumption | exact decide_eq_true (by first | assumption | omega) | exact decide_eq_false (by first | assumption | omega) | (simp only [*]; done) | fail) | fail) rfl | refine DC.tri (T.loadPtr 23 _ ag23 sz23 (by first | rfl | assumption)) ⟨rfl, trivial⟩ trivial ?_ (by first | exact .none rfl | exact .on rfl rfl rfl (by first | rfl | assumption | exact decide_eq_true (by first | assumption | omega) | exact decide_eq_false (by first | assumption | omega) | (simp only [*]; done) | fail) | fail) rfl | refine DC.tri (T.loadElp 23 _ ag23 sz23 (by first | rfl | assumption)) ⟨rfl, trivial⟩ ⟨rfl, trivial⟩ ?_ (by first | exact .none rfl | exact .on rfl rfl rfl (by first | rfl | assumption | exact decide_eq_true (by first | assumption | omega) | exact decide_eq_false (by first | assumption | omega) | (simp only [*]; done) | fail) | fail) rfl); (first | refine DC.off rfl rfl rfl rfl (by decide) ?_ rfl | refine DC.offB rfl rfl rfl (by first | rfl | assumption | exact decide_eq_true (by first | assumption | omega) | exact decide_eq_false (by first | assumption | omega) | (simp only [*]; done) | fail) (by decide) ?_ rfl | refine DC.tri (T.lenSl 23 _ un23) ⟨rfl, trivial⟩ trivial ?_ (by first | exact .none rfl | exact .on rfl rfl rfl (by first | rfl | assumption | exact decide_eq_true (by first | assumption | omega) | exact decide_eq_false (by first | assumption | omega) | (simp only [*]; done) | fail) | fail) rfl | refine DC.tri (T.lenOwn 23 _ un23) ⟨rfl, trivial⟩ trivial ?_ (by first | exact .none rfl | exact .on rfl rfl rfl (by first | rfl | assumption | exact decide_eq_true (by first | assumption | omega) | exact decide_eq_false (by first | assumption | omega) | (simp only [*]; done) | fail) | fail) rfl | refine DC.tri (T.lenNil 23 _ un23) ⟨rfl, trivial⟩ trivial ?_ (by first | exact .none rfl | exact .on rfl rfl rfl (by first | rfl | assumption | exact decide_eq_true (by first | assumption | omega) | exact decide_eq_false (by first | assumption | omega) | (simp only [*]; done) | fail) | fail) rfl); (first | refine DC.off rfl rfl rfl rfl (by decide) ?_ rfl | refine DC.offB rfl rfl rfl (by first | rfl | assumption | exact decide_eq_true (by first | assumption | omega) | exact decide_eq_false (by first | assumption | omega) | (simp only [*]; done) | fail) (by decide) ?_ rfl | refine DC.tri (T.lss _ _ _ _) ⟨rfl, rfl, trivial⟩ trivial ?_ (by first | exact .none rfl | exact .on rfl rfl rfl (by first | rfl | assumption | exact decide_eq_true (by first | assumption | omega) | exact decide_eq_false (by first | assumption | omega) | (simp only [*]; done) | fail) | fail) rfl); (first | refine DC.tri (T.pickT' _ _ _ (by first | rfl | assumption | exact decide_eq_true (by first | assumption | omega) | exact decide_eq_false (by first | assumption | omega) | (simp only [*]; done) | fail)) ⟨rfl, rfl, trivial⟩ trivial ?_ (.none rfl) rfl | refine DC.tri (T.pickF' _ _ _ (by first | rfl | assumption | exact decide_eq_true (by first | assumption | omega) | exact decide_eq_false (by first | assumption | omega) | (simp only [*]; done) | fail)) ⟨rfl, rfl, trivial⟩ trivial ?_ (.none rfl) rfl); refine DC.tri (T.assign _ _) ⟨rfl, trivial⟩ trivial ?_ (.none rfl) rfl; refine DC.nilN (by first | (dsimp only [evalD, lkF, lkE, updF, Nat.beq, Nat.reduceBEq, cond_true, cond_false, List.cons_append, List.nil_append, List.append_nil, argF, Nat.reduceAdd, Nat.reduceMul, spliceD, List.take, List.drop, List.length, flats, Value.cells, List.map, List.set]; done) | exact rfl | fail) ?_)
        | (refine DW.condT' rfl (by first | rfl | assumption | exact decide_eq_true (by first | assumption | omega) | exact decide_eq_false (by first | assumption | omega) | (simp only [*]; done) | fail) ?_)
        | (refine DW.condF' rfl (by first | rfl | assumption | exact decide_eq_true (by first | assumption | omega) | exact decide_eq_false (by first | assumption | omega) | (simp only [*]; done) | fail) ?_)
        | (refine DW.exit ?_)
        | (refine DW.ret ?_)
        | fail)
    exact ⟨.inr rfl, ResOk.one [] rfl (by first | (dsimp only [evalD, lkF, lkE, updF, Nat.beq, Nat.reduceBEq, cond_true, cond_false, List.cons_append, List.nil_append, List.append_nil, argF, Nat.reduceAdd, Nat.reduceMul, spliceD, List.take, List.drop, List.length, flats, Value.cells, List.map, List.set]; done) | exact rfl | fail) trivial (Vw.le (Vw.pers rfl) (Le.of_eq (by simp [boolD, h0])))⟩

theorem places_d (A : Au) (q : Nat) (k : Int) (hk : A.ranks[q]? = some k) (hr : 0 ≤ k ∧ k ≤ 2) (hn : A.final.length ≤ 512) : DFun Try.prog 51 [auD A, intD q] (intD (wideN k A.final.length : Nat)) := by
  have hp := part_map (f := fun x => D.flat (.int .i64 x)) hk
  have hq : q < A.ranks.length := (List.getElem?_eq_some_iff.1 hk).1
  have hm : IntKind.i64.wrap ((A.final.length : Int) * (A.final.length : Int)) = ((A.final.length * A.final.length : Nat) : Int) := by
    have : A.final.length * A.final.length ≤ 512 * 512 := Nat.mul_le_mul hn hn
    rw [← Int.natCast_mul]; exact w64 (by omega) (by omega)
  rcases (show k = 0 ∨ k = 1 ∨ k = 2 by omega) with rfl | rfl | rfl
  all_goals
    refine DFun.enter Try.func51 rfl Try.ntmps51 (by simp) ?_
    dsimp only [evalD, lkF, lkE, updF, Nat.beq, Nat.reduceBEq, cond_true, cond_false, List.cons_append, List.nil_append, List.append_nil, argF, Nat.reduceAdd, Nat.reduceMul, spliceD, List.take, List.drop, List.length, flats, Value.cells, List.map, List.set, Thn, Blk, if_true, if_false, reduceIte, Nat.reduceEqDiff]
    repeat (first
        | (refine DW.seq ?_)
        | (refine DW.block ?_)
        | (refine Thn.n ?_)
        | (refine Blk.n ?_)
        | (refine Blk.here ?_)
        | (refine Thn.e ?_)
        | (refine Blk.pass rfl ?_)
        | (refine Thn.r ?_)
        | (refine Blk.r ?_)
        | (refine DW.skip ?_)
        | (refine DW.label ?_)
        | (refine DW.regionC (id := 0) ?_; refine DC.tri (T.box 2 26 _ rfl) ⟨rfl, trivial⟩ ⟨rfl, trivial⟩ ?_ (.none rfl) rfl; refine DC.tri (T.assign _ _) ⟨rfl, trivial⟩ trivial ?_ (.none rfl) rfl; refine DC.nilN (by first | (dsimp only [evalD, lkF, lkE, updF, Nat.beq, Nat.reduceBEq, cond_true, cond_false, List.cons_append, List.nil_append, List.append_nil, argF, Nat.reduceAdd, Nat.reduceMul, spliceD, List.take, List.drop, List.length, flats, Value.cells, List.map, List.set]; done) | exact rfl | fail) ?_)
        | (refine DW.regionC (id := 1) ?_; (first | refine DC.tri (T.fieldRef' 26 _ 1 fd26_1 (by decide)) ⟨rfl, trivial⟩ trivial ?_ (.none rfl) rfl | refine DC.tri (T.fieldPtr' 26 _ 1 fd26_1 (by decide)) ⟨rfl, trivial⟩ trivial ?_ (.none rfl) rfl); (first | refine DC.tri (T.loadRef 23 _ ag23 sz23 (by first | rfl | assumption)) ⟨rfl, trivial⟩ ⟨rfl, trivial⟩ ?_ (.none rfl) rfl | refine DC.tri (T.loadPtr 23 _ ag23 sz23 (by first | rfl | assumption)) ⟨rfl, trivial⟩ trivial ?_ (.none rfl) rfl | refine DC.tri (T.loadElp 23 _ ag23 sz23 (by first | rfl | assumption)) ⟨rfl, trivial⟩ ⟨rfl, trivial⟩ ?_ (.none rfl) rfl); (first | refine DC.tri (T.lenSl 23 _ un23) ⟨rfl, trivial⟩ trivial ?_ (.none rfl) rfl | refine DC.tri (T.lenOwn 23 _ un23) ⟨rfl, trivial⟩ trivial ?_ (.none rfl) rfl | refine DC.tri (T.lenNil 23 _ un23) ⟨rfl, trivial⟩ trivial ?_ (.none rfl) rfl); refine DC.tri (T.assign _ _) ⟨rfl, trivial⟩ trivial ?_ (.none rfl) rfl; refine DC.nilN (by first | (dsimp only [evalD, lkF, lkE, updF, Nat.beq, Nat.reduceBEq, cond_true, cond_false, List.cons_append, List.nil_append, List.append_nil, argF, Nat.reduceAdd, Nat.reduceMul, spliceD, List.take, List.drop, List.length, flats, Value.cells, List.map, List.set]; done) | exact rfl | fail) ?_)
        | (refine DW.regionC (id := 2) ?_; (first | refine DC.tri (T.fieldRef' 26 _ 0 fd26_0 (by decide)) ⟨rfl, trivial⟩ trivial ?_ (.none rfl) rfl | refine DC.tri (T.fieldPtr' 26 _ 0 fd26_0 (by decide)) ⟨rfl, trivial⟩ trivial ?_ (.none rfl) rfl); (first | refine DC.tri (T.loadRef 22 _ ag22 sz22 (by first | rfl | assumption)) ⟨rfl, trivial⟩ ⟨rfl, trivial⟩ ?_ (.none rfl) rfl | refine DC.tri (T.loadPtr 22 _ ag22 sz22 (by first | rfl | assumption)) ⟨rfl, trivial⟩ trivial ?_ (.none rfl) rfl | refine DC.tri (T.loadElp 22 _ ag22 sz22 (by first | rfl | assumption)) ⟨rfl, trivial⟩ ⟨rfl, trivial⟩ ?_ (.none rfl) rfl); refine DC.tri (T.move _ _) ⟨rfl, trivial⟩ trivial ?_ (.none rfl) rfl; (first | refine DC.tri (T.indexSl 22 _ _ un22 sz3 (by omega) (by omega) (by decide)) ⟨rfl, rfl, trivial⟩ trivial ?_ (.none rfl) rfl | refine DC.tri (T.indexOwn 22 _ _ un22 sz3 (by omega) (by omega)) ⟨rfl, rfl, trivial⟩ ⟨rfl, trivial⟩ ?_ (.none rfl) rfl); (first | refine DC.tri (T.loadRef 3 _ ag3 sz3 (by first | rfl | assumption)) ⟨rfl, trivial⟩ ⟨rfl, trivial⟩ ?_ (.none rfl) rfl | refine DC.tri (T.loadPtr 3 _ ag3 sz3 (by first | rfl | assumption)) ⟨rfl, trivial⟩ trivial ?_ (.none rfl) rfl | refine DC.tri (T.loadElp 3 _ ag3 sz3 (by first | rfl | assumption)) ⟨rfl, trivial⟩ ⟨rfl, trivial⟩ ?_ (.none rfl) rfl); refine DC.nilN (by first | (dsimp only [evalD, lkF, lkE, updF, Nat.beq, Nat.reduceBEq, cond_true, cond_false, List.cons_append, List.nil_append, List.append_nil, argF, Nat.reduceAdd, Nat.reduceMul, spliceD, List.take, List.drop, List.length, flats, Value.cells, List.map, List.set]; done) | exact rfl | fail) ?_)
        | (refine DW.regionC (id := 3) ?_; refine DC.tri (T.eql _ _ _ _) ⟨rfl, rfl, trivial⟩ trivial ?_ (.none rfl) rfl; refine DC.tri (T.assign _ _) ⟨rfl, trivial⟩ trivial ?_ (.none rfl) rfl; refine DC.nilN (by first | (dsimp only [evalD, lkF, lkE, updF, Nat.beq, Nat.reduceBEq, cond_true, cond_false, List.cons_append, List.nil_append, List.append_nil, argF, Nat.reduceAdd, Nat.reduceMul, spliceD, List.take, List.drop, List.length, flats, Value.cells, List.map, List.set]; done) | exact rfl | fail) ?_)
        | (refine DW.regionC (id := 4) ?_; refine DC.tri (T.assign _ _) ⟨rfl, trivial⟩ trivial ?_ (.none rfl) rfl; refine DC.nilN (by first | (dsimp only [evalD, lkF, lkE, updF, Nat.beq, Nat.reduceBEq, cond_true, cond_false, List.cons_append, List.nil_append, List.append_nil, argF, Nat.reduceAdd, Nat.reduceMul, spliceD, List.take, List.drop, List.length, flats, Value.cells, List.map, List.set]; done) | exact rfl | fail) ?_)
        | (refine DW.regionC (id := 5) ?_; refine DC.tri (T.eql _ _ _ _) ⟨rfl, rfl, trivial⟩ trivial ?_ (.none rfl) rfl; refine DC.tri (T.assign _ _) ⟨rfl, trivial⟩ trivial ?_ (.none rfl) rfl; refine DC.nilN (by first | (dsimp only [evalD, lkF, lkE, updF, Nat.beq, Nat.reduceBEq, cond_true, cond_false, List.cons_append, List.nil_append, List.append_nil, argF, Nat.reduceAdd, Nat.reduceMul, spliceD, List.take, List.drop, List.length, flats, Value.cells, List.map, List.set]; done) | exact rfl | fail) ?_)
        | (refine DW.regionC (id := 6) ?_; refine DC.tri (T.move _ _) ⟨rfl, trivial⟩ trivial ?_ (.none rfl) rfl; refine DC.tri (T.assign _ _) ⟨rfl, trivial⟩ trivial ?_ (.none rfl) rfl; refine DC.nilN (by first | (dsimp only [evalD, lkF, lkE, updF, Nat.beq, Nat.reduceBEq, cond_true, cond_false, List.cons_append, List.nil_append, List.append_nil, argF, Nat.reduceAdd, Nat.reduceMul, spliceD, List.take, List.drop, List.length, flats, Value.cells, List.map, List.set]; done) | exact rfl | fail) ?_)
        | (refine DW.regionC (id := 7) ?_; refine DC.tri (T.move _ _) ⟨rfl, trivial⟩ trivial ?_ (.none rfl) rfl; refine DC.tri (T.move _ _) ⟨rfl, trivial⟩ trivial ?_ (.none rfl) rfl; (first | refine DC.tri (T.mul (k := .i64) _ _ _ _ (w64 (by omega) (by omega))) ⟨rfl, rfl, trivial⟩ trivial ?_ (.none rfl) rfl | refine DC.tri (T.mul (k := .i64) _ _ _ _ (by assumption)) ⟨rfl, rfl, trivial⟩ trivial ?_ (.none rfl) rfl); refine DC.tri (T.assign _ _) ⟨rfl, trivial⟩ trivial ?_ (.none rfl) rfl; refine DC.nilN (by first | (dsimp only [evalD, lkF, lkE, updF, Nat.beq, Nat.reduceBEq, cond_true, cond_false, List.cons_append, List.nil_append, List.append_nil, argF, Nat.reduceAdd, Nat.reduceMul, spliceD, List.take, List.drop, List.length, flats, Value.cells, List.map, List.set]; done) | exact rfl | fail) ?_)
        | (refine DW.condT' rfl (by first | rfl | assumption | exact decide_eq_true (by first | assumption | omega) | exact decide_eq_false (by first | assumption | omega) | (simp only [*]; done) | fail) ?_)
        | (refine DW.condF' rfl (by first | rfl | assumption | exact decide_eq_true (by first | assumption | omega) | exact decide_eq_false (by first | assumption | omega) | (simp only [*]; done) | fail) ?_)
        | (refine DW.exit ?_)
        | (refine DW.ret ?_)
        | fail)
    exact ⟨.inr rfl, ResOk.one [] rfl (by first | (dsimp only [evalD, lkF, lkE, updF, Nat.beq, Nat.reduceBEq, cond_true, cond_false, List.cons_append, List.nil_append, List.append_nil, argF, Nat.reduceAdd, Nat.reduceMul, spliceD, List.take, List.drop, List.length, flats, Value.cells, List.map, List.set]; done) | exact rfl | fail) trivial (Vw.le (Vw.pers rfl) (Le.of_eq (by simp [intD, wideN, Nat.pow_succ])))⟩

theorem at_d (A : Au) (hok : AuOk A) (s : Int) (l : List Int) (hf : Fits A s l) : DFun Try.prog 53 [auD A, intD s, intsD l] (intD (atI A s l)) := by
  obtain ⟨i, p, row, q, rfl, hi, hrow, hp, hpl, hq, hat, hq0, hq1, hl2⟩ := hf.at hok
  rw [hat]
  have hn := hok.hi
  have hr1 := part_map (f := intsD) hrow
  have hr2 := part_map (f := fun x => D.flat (.int .i64 x)) hq
  refine DFun.enter Try.func53 rfl Try.ntmps53 (by simp) ?_
  dsimp only [evalD, lkF, lkE, updF, Nat.beq, Nat.reduceBEq, cond_true, cond_false, List.cons_append, List.nil_append, List.append_nil, argF, Nat.reduceAdd, Nat.reduceMul, spliceD, List.take, List.drop, List.length, flats, Value.cells, List.map, List.set, Thn, Blk, if_true, if_false, reduceIte, Nat.reduceEqDiff]
  repeat (first
      | (refine DW.seq ?_)
      | (refine DW.block ?_)
      | (refine Thn.n ?_)
      | (refine Blk.n ?_)
      | (refine Blk.here ?_)
      | (refine Thn.e ?_)
      | (refine Blk.pass rfl ?_)
      | (refine Thn.r ?_)
      | (refine Blk.r ?_)
      | (refine DW.skip ?_)
      | (refine DW.label ?_)
      | (refine DW.regionC (id := 0) ?_; refine DC.tri (T.box 3 35 _ rfl) ⟨rfl, trivial⟩ ⟨rfl, trivial⟩ ?_ (.none rfl) rfl; refine DC.tri (T.assign _ _) ⟨rfl, trivial⟩ trivial ?_ (.none rfl) rfl; refine DC.nilN (by first | (dsimp only [evalD, lkF, lkE, updF, Nat.beq, Nat.reduceBEq, cond_true, cond_false, List.cons_append, List.nil_append, List.append_nil, argF, Nat.reduceAdd, Nat.reduceMul, spliceD, List.take, List.drop, List.length, flats, Value.cells, List.map, List.set]; done) | exact rfl | fail) ?_)
      | (refine DW.regionC (id := 1) ?_; refine DC.tri (T.assign _ _) ⟨rfl, trivial⟩ trivial ?_ (.none rfl) rfl; refine DC.nilN (by first | (dsimp only [evalD, lkF, lkE, updF, Nat.beq, Nat.reduceBEq, cond_true, cond_false, List.cons_append, List.nil_append, List.append_nil, argF, Nat.reduceAdd, Nat.reduceMul, spliceD, List.take, List.drop, List.length, flats, Value.cells, List.map, List.set]; done) | exact rfl | fail) ?_)
      | (refine DW.regionC (id := 2) ?_; refine DC.tri (T.move _ _) ⟨rfl, trivial⟩ trivial ?_ (.none rfl) rfl; (first | refine DC.tri (T.lenSl 22 _ un22) ⟨rfl, trivial⟩ trivial ?_ (.none rfl) rfl | refine DC.tri (T.lenOwn 22 _ un22) ⟨rfl, trivial⟩ trivial ?_ (.none rfl) rfl | refine DC.tri (T.lenNil 22 _ un22) ⟨rfl, trivial⟩ trivial ?_ (.none rfl) rfl); refine DC.tri (T.move _ _) ⟨rfl, trivial⟩ trivial ?_ (.none rfl) rfl; refine DC.nilN (by first | (dsimp only [evalD, lkF, lkE, updF, Nat.beq, Nat.reduceBEq, cond_true, cond_false, List.cons_append, List.nil_append, List.append_nil, argF, Nat.reduceAdd, Nat.reduceMul, spliceD, List.take, List.drop, List.length, flats, Value.cells, List.map, List.set]; done) | exact rfl | fail) ?_)
      | (refine DW.condT' rfl (by first | rfl | assumption | exact decide_eq_true (by first | assumption | omega) | exact decide_eq_false (by first | assumption | omega) | (simp only [*]; done) | fail) ?_)
      | (refine DW.condF' rfl (by first | rfl | assumption | exact decide_eq_true (by first | assumption | omega) | exact decide_eq_false (by first | assumption | omega) | (simp only [*]; done) | fail) ?_)
      | (refine DW.exit ?_)
      | (refine DW.ret ?_)
      | fail)
  refine DW.loop (fun j : Nat => ⟨[(12, intD j), (11, intD l.length), (10, intsD l), (7, intD (placeOf A.final.length (l.take j))), (3, .ref 3 0), (1, intD i)], [(3, some (.box [intsD A.ranks, boolsD A.final, rowsD A.to]))]⟩) (fun j => j ≤ l.length) (fun j => l.length - j) 0 (by omega) (Sub.slots ⟨Vs.int (by simp), Vs.pers rfl, Vs.pers rfl, Vs.int (by simp [placeOf]), Vs.refl _, Vs.pers rfl, trivial⟩) ?_
  rintro j hj
  by_cases hlt : j < l.length
  · obtain ⟨y, hy⟩ : ∃ y, l[j]? = some y := ⟨l[j], by simp⟩
    have hrg := hf.rng y (List.mem_of_getElem? hy)
    obtain ⟨b1, b2, b3, b4⟩ := place_bd hn hf.rng hl2 hlt
    have hpt := placeOf_take (n := A.final.length) hy
    have hp1 := part_map (f := fun x => D.flat (.int .i64 x)) hy
    have hm : IntKind.i64.wrap (placeOf A.final.length (l.take j) * (A.final.length : Int)) = placeOf A.final.length (l.take j) * (A.final.length : Int) := w64 (by omega) (by omega)
    repeat (first
        | (refine DW.seq ?_)
        | (refine DW.block ?_)
        | (refine Thn.n ?_)
        | (refine Blk.n ?_)
        | (refine Blk.here ?_)
        | (refine Thn.e ?_)
        | (refine Blk.pass rfl ?_)
        | (refine Thn.r ?_)
        | (refine Blk.r ?_)
        | (refine DW.skip ?_)
        | (refine DW.label ?_)
        | (refine DW.regionC (id := 3) ?_; refine DC.tri (T.lss _ _ _ _) ⟨rfl, rfl, trivial⟩ trivial ?_ (.none rfl) rfl; refine DC.nilN (by first | (dsimp only [evalD, lkF, lkE, updF, Nat.beq, Nat.reduceBEq, cond_true, cond_false, List.cons_append, List.nil_append, List.append_nil, argF, Nat.reduceAdd, Nat.reduceMul, spliceD, List.take, List.drop, List.length, flats, Value.cells, List.map, List.set]; done) | exact rfl | fail) ?_)
        | (refine DW.regionC (id := 4) ?_; (first | refine DC.tri (T.indexSl 22 _ _ un22 sz3 (by omega) (by omega) (by decide)) ⟨rfl, rfl, trivial⟩ trivial ?_ (.none rfl) rfl | refine DC.tri (T.indexOwn 22 _ _ un22 sz3 (by omega) (by omega)) ⟨rfl, rfl, trivial⟩ ⟨rfl, trivial⟩ ?_ (.none rfl) rfl); (first | refine DC.tri (T.loadRef 3 _ ag3 sz3 (by first | rfl | assumption)) ⟨rfl, trivial⟩ ⟨rfl, trivial⟩ ?_ (.none rfl) rfl | refine DC.tri (T.loadPtr 3 _ ag3 sz3 (by first | rfl | assumption)) ⟨rfl, trivial⟩ trivial ?_ (.none rfl) rfl | refine DC.tri (T.loadElp 3 _ ag3 sz3 (by first | rfl | assumption)) ⟨rfl, trivial⟩ ⟨rfl, trivial⟩ ?_ (.none rfl) rfl); refine DC.tri (T.assign _ _) ⟨rfl, trivial⟩ trivial ?_ (.none rfl) rfl; refine DC.nilN (by first | (dsimp only [evalD, lkF, lkE, updF, Nat.beq, Nat.reduceBEq, cond_true, cond_false, List.cons_append, List.nil_append, List.append_nil, argF, Nat.reduceAdd, Nat.reduceMul, spliceD, List.take, List.drop, List.length, flats, Value.cells, List.map, List.set]; done) | exact rfl | fail) ?_)
        | (refine DW.regionC (id := 5) ?_; refine DC.tri (T.move _ _) ⟨rfl, trivial⟩ trivial ?_ (.none rfl) rfl; (first | refine DC.tri (T.fieldRef' 35 _ 1 fd35_1 (by decide)) ⟨rfl, trivial⟩ trivial ?_ (.none rfl) rfl | refine DC.tri (T.fieldPtr' 35 _ 1 fd35_1 (by decide)) ⟨rfl, trivial⟩ trivial ?_ (.none rfl) rfl); (first | refine DC.tri (T.loadRef 23 _ ag23 sz23 (by first | rfl | assumption)) ⟨rfl, trivial⟩ ⟨rfl, trivial⟩ ?_ (.none rfl) rfl | refine DC.tri (T.loadPtr 23 _ ag23 sz23 (by first | rfl | assumption)) ⟨rfl, trivial⟩ trivial ?_ (.none rfl) rfl | refine DC.tri (T.loadElp 23 _ ag23 sz23 (by first | rfl | assumption)) ⟨rfl, trivial⟩ ⟨rfl, trivial⟩ ?_ (.none rfl) rfl); (first | refine DC.tri (T.lenSl 23 _ un23) ⟨rfl, trivial⟩ trivial ?_ (.none rfl) rfl | refine DC.tri (T.lenOwn 23 _ un23) ⟨rfl, trivial⟩ trivial ?_ (.none rfl) rfl | refine DC.tri (T.lenNil 23 _ un23) ⟨rfl, trivial⟩ trivial ?_ (.none rfl) rfl); (first | refine DC.tri (T.mul (k := .i64) _ _ _ _ (w64 (by omega) (by omega))) ⟨rfl, rfl, trivial⟩ trivial ?_ (.none rfl) rfl | refine DC.tri (T.mul (k := .i64) _ _ _ _ (by assumption)) ⟨rfl, rfl, trivial⟩ trivial ?_ (.none rfl) rfl); refine DC.tri (T.move _ _) ⟨rfl, trivial⟩ trivial ?_ (.none rfl) rfl; (first | refine DC.tri (T.add (k := .i64) _ _ _ _ (w64 (by omega) (by omega))) ⟨rfl, rfl, trivial⟩ trivial ?_ (.none rfl) rfl | refine DC.tri (T.add (k := .i64) _ _ _ _ (by assumption)) ⟨rfl, rfl, trivial⟩ trivial ?_ (.none rfl) rfl); refine DC.tri (T.assign _ _) ⟨rfl, trivial⟩ trivial ?_ (.none rfl) rfl; refine DC.nilN (by first | (dsimp only [evalD, lkF, lkE, updF, Nat.beq, Nat.reduceBEq, cond_true, cond_false, List.cons_append, List.nil_append, List.append_nil, argF, Nat.reduceAdd, Nat.reduceMul, spliceD, List.take, List.drop, List.length, flats, Value.cells, List.map, List.set]; done) | exact rfl | fail) ?_)
        | (refine DW.regionC (id := 6) ?_; (first | refine DC.tri (T.add (k := .i64) _ _ _ _ (w64 (by omega) (by omega))) ⟨rfl, rfl, trivial⟩ trivial ?_ (.none rfl) rfl | refine DC.tri (T.add (k := .i64) _ _ _ _ (by assumption)) ⟨rfl, rfl, trivial⟩ trivial ?_ (.none rfl) rfl); refine DC.tri (T.move _ _) ⟨rfl, trivial⟩ trivial ?_ (.none rfl) rfl; refine DC.nilN (by first | (dsimp only [evalD, lkF, lkE, updF, Nat.beq, Nat.reduceBEq, cond_true, cond_false, List.cons_append, List.nil_append, List.append_nil, argF, Nat.reduceAdd, Nat.reduceMul, spliceD, List.take, List.drop, List.length, flats, Value.cells, List.map, List.set]; done) | exact rfl | fail) ?_)
        | (refine DW.condT' rfl (by first | rfl | assumption | exact decide_eq_true (by first | assumption | omega) | exact decide_eq_false (by first | assumption | omega) | (simp only [*]; done) | fail) ?_)
        | (refine DW.condF' rfl (by first | rfl | assumption | exact decide_eq_true (by first | assumption | omega) | exact decide_eq_false (by first | assumption | omega) | (simp only [*]; done) | fail) ?_)
        | (refine DW.exit ?_)
        | (refine DW.ret ?_)
        | fail)
    exact ⟨j + 1, by omega, by omega, Sub.slots ⟨Vs.int (by simp), Vs.pers rfl, Vs.pers rfl, Vs.int (by rw [hpt]), Vs.refl _, Vs.pers rfl, trivial⟩⟩
  · obtain rfl : j = l.length := by omega
    rw [List.take_of_length_le (Nat.le_refl _), hp]
    repeat (first
        | (refine DW.seq ?_)
        | (refine DW.block ?_)
        | (refine Thn.n ?_)
        | (refine Blk.n ?_)
        | (refine Blk.here ?_)
        | (refine Thn.e ?_)
        | (refine Blk.pass rfl ?_)
        | (refine Thn.r ?_)
        | (refine Blk.r ?_)
        | (refine DW.skip ?_)
        | (refine DW.label ?_)
        | (refine DW.regionC (id := 3) ?_; refine DC.tri (T.lss _ _ _ _) ⟨rfl, rfl, trivial⟩ trivial ?_ (.none rfl) rfl; refine DC.nilN (by first | (dsimp only [evalD, lkF, lkE, updF, Nat.beq, Nat.reduceBEq, cond_true, cond_false, List.cons_append, List.nil_append, List.append_nil, argF, Nat.reduceAdd, Nat.reduceMul, spliceD, List.take, List.drop, List.length, flats, Value.cells, List.map, List.set]; done) | exact rfl | fail) ?_)
        | (refine DW.regionC (id := 7) ?_; (first | refine DC.tri (T.fieldRef' 35 _ 2 fd35_2 (by decide)) ⟨rfl, trivial⟩ trivial ?_ (.none rfl) rfl | refine DC.tri (T.fieldPtr' 35 _ 2 fd35_2 (by decide)) ⟨rfl, trivial⟩ trivial ?_ (.none rfl) rfl); (first | refine DC.tri (T.loadRef 24 _ ag24 sz24 (by first | rfl | assumption)) ⟨rfl, trivial⟩ ⟨rfl, trivial⟩ ?_ (.none rfl) rfl | refine DC.tri (T.loadPtr 24 _ ag24 sz24 (by first | rfl | assumption)) ⟨rfl, trivial⟩ trivial ?_ (.none rfl) rfl | refine DC.tri (T.loadElp 24 _ ag24 sz24 (by first | rfl | assumption)) ⟨rfl, trivial⟩ ⟨rfl, trivial⟩ ?_ (.none rfl) rfl); refine DC.tri (T.move _ _) ⟨rfl, trivial⟩ trivial ?_ (.none rfl) rfl; (first | refine DC.tri (T.indexSl 24 _ _ un24 sz22 (by omega) (by omega) (by decide)) ⟨rfl, rfl, trivial⟩ trivial ?_ (.none rfl) rfl | refine DC.tri (T.indexOwn 24 _ _ un24 sz22 (by omega) (by omega)) ⟨rfl, rfl, trivial⟩ ⟨rfl, trivial⟩ ?_ (.none rfl) rfl); (first | refine DC.tri (T.loadRef 22 _ ag22 sz22 (by first | rfl | assumption)) ⟨rfl, trivial⟩ ⟨rfl, trivial⟩ ?_ (.none rfl) rfl | refine DC.tri (T.loadPtr 22 _ ag22 sz22 (by first | rfl | assumption)) ⟨rfl, trivial⟩ trivial ?_ (.none rfl) rfl | refine DC.tri (T.loadElp 22 _ ag22 sz22 (by first | rfl | assumption)) ⟨rfl, trivial⟩ ⟨rfl, trivial⟩ ?_ (.none rfl) rfl); refine DC.tri (T.move _ _) ⟨rfl, trivial⟩ trivial ?_ (.none rfl) rfl; (first | refine DC.tri (T.indexSl 22 _ _ un22 sz3 (by omega) (by omega) (by decide)) ⟨rfl, rfl, trivial⟩ trivial ?_ (.none rfl) rfl | refine DC.tri (T.indexOwn 22 _ _ un22 sz3 (by omega) (by omega)) ⟨rfl, rfl, trivial⟩ ⟨rfl, trivial⟩ ?_ (.none rfl) rfl); (first | refine DC.tri (T.loadRef 3 _ ag3 sz3 (by first | rfl | assumption)) ⟨rfl, trivial⟩ ⟨rfl, trivial⟩ ?_ (.none rfl) rfl | refine DC.tri (T.loadPtr 3 _ ag3 sz3 (by first | rfl | assumption)) ⟨rfl, trivial⟩ trivial ?_ (.none rfl) rfl | refine DC.tri (T.loadElp 3 _ ag3 sz3 (by first | rfl | assumption)) ⟨rfl, trivial⟩ ⟨rfl, trivial⟩ ?_ (.none rfl) rfl); refine DC.tri (T.assign _ _) ⟨rfl, trivial⟩ trivial ?_ (.none rfl) rfl; refine DC.nilN (by first | (dsimp only [evalD, lkF, lkE, updF, Nat.beq, Nat.reduceBEq, cond_true, cond_false, List.cons_append, List.nil_append, List.append_nil, argF, Nat.reduceAdd, Nat.reduceMul, spliceD, List.take, List.drop, List.length, flats, Value.cells, List.map, List.set]; done) | exact rfl | fail) ?_)
        | (refine DW.condT' rfl (by first | rfl | assumption | exact decide_eq_true (by first | assumption | omega) | exact decide_eq_false (by first | assumption | omega) | (simp only [*]; done) | fail) ?_)
        | (refine DW.condF' rfl (by first | rfl | assumption | exact decide_eq_true (by first | assumption | omega) | exact decide_eq_false (by first | assumption | omega) | (simp only [*]; done) | fail) ?_)
        | (refine DW.exit ?_)
        | (refine DW.ret ?_)
        | fail)
    exact ⟨.inr rfl, ResOk.one [] rfl (by first | (dsimp only [evalD, lkF, lkE, updF, Nat.beq, Nat.reduceBEq, cond_true, cond_false, List.cons_append, List.nil_append, List.append_nil, argF, Nat.reduceAdd, Nat.reduceMul, spliceD, List.take, List.drop, List.length, flats, Value.cells, List.map, List.set]; done) | exact rfl | fail) trivial (Vw.pers rfl)⟩

theorem rstep_d (A : Au) (hok : AuOk A) (s : Int) (l : List Int) (hf : Fits A s l) : DFun Try.prog 24 [auD A, intD s, intsD l] (.tup [intD (atI A s l), intD 0]) := by
  obtain ⟨i, p, row, q, rfl, hi, hrow, hp, hpl, hq, hat, hq0, hq1, hl2⟩ := hf.at hok
  rw [hat]
  have hn := hok.hi
  have hil := hf.s1
  obtain ⟨k, hk⟩ : ∃ k, A.ranks[i]? = some k := ⟨A.ranks[i]'(by omega), by simp⟩
  have hkl : (l.length : Int) = k := by have := hf.len; simpa [List.getD, hk] using this
  subst hkl
  have hr0 := part_map (f := fun x => D.flat (.int .i64 x)) hk
  have hr1 := part_map (f := intsD) hrow
  have hr2 := part_map (f := fun x => D.flat (.int .i64 x)) hq
  refine DFun.enter Try.func24 rfl Try.ntmps24 (by simp) ?_
  dsimp only [evalD, lkF, lkE, updF, Nat.beq, Nat.reduceBEq, cond_true, cond_false, List.cons_append, List.nil_append, List.append_nil, argF, Nat.reduceAdd, Nat.reduceMul, spliceD, List.take, List.drop, List.length, flats, Value.cells, List.map, List.set, Thn, Blk, if_true, if_false, reduceIte, Nat.reduceEqDiff]
  repeat (first
      | (refine DW.seq ?_)
      | (refine DW.block ?_)
      | (refine Thn.n ?_)
      | (refine Blk.n ?_)
      | (refine Blk.here ?_)
      | (refine Thn.e ?_)
      | (refine Blk.pass rfl ?_)
      | (refine Thn.r ?_)
      | (refine Blk.r ?_)
      | (refine DW.skip ?_)
      | (refine DW.label ?_)
      | (refine DW.regionC (id := 0) ?_; refine DC.tri (T.box 3 26 _ rfl) ⟨rfl, trivial⟩ ⟨rfl, trivial⟩ ?_ (.none rfl) rfl; refine DC.tri (T.assign _ _) ⟨rfl, trivial⟩ trivial ?_ (.none rfl) rfl; refine DC.tri (T.assign _ _) ⟨rfl, trivial⟩ trivial ?_ (.none rfl) rfl; refine DC.nilN (by first | (dsimp only [evalD, lkF, lkE, updF, Nat.beq, Nat.reduceBEq, cond_true, cond_false, List.cons_append, List.nil_append, List.append_nil, argF, Nat.reduceAdd, Nat.reduceMul, spliceD, List.take, List.drop, List.length, flats, Value.cells, List.map, List.set]; done) | exact rfl | fail) ?_)
      | (refine DW.regionC (id := 1) ?_; refine DC.tri (T.move _ _) ⟨rfl, trivial⟩ trivial ?_ (.none rfl) rfl; refine DC.tri (T.lss _ _ _ _) ⟨rfl, rfl, trivial⟩ trivial ?_ (.none rfl) rfl; refine DC.tri (T.move _ _) ⟨rfl, trivial⟩ trivial ?_ (.none rfl) rfl; (first | refine DC.off rfl rfl rfl rfl (by decide) ?_ rfl | refine DC.offB rfl rfl rfl (by first | rfl | assumption | exact decide_eq_true (by first | assumption | omega) | exact decide_eq_false (by first | assumption | omega) | (simp only [*]; done) | fail) (by decide) ?_ rfl | refine DC.tri (T.move _ _) ⟨rfl, trivial⟩ trivial ?_ (by first | exact .none rfl | exact .on rfl rfl rfl (by first | rfl | assumption | exact decide_eq_true (by first | assumption | omega) | exact decide_eq_false (by first | assumption | omega) | (simp only [*]; done) | fail) | fail) rfl); (first | refine DC.off rfl rfl rfl rfl (by decide) ?_ rfl | refine DC.offB rfl rfl rfl (by first | rfl | assumption | exact decide_eq_true (by first | assumption | omega) | exact decide_eq_false (by first | assumption | omega) | (simp only [*]; done) | fail) (by decide) ?_ rfl | refine DC.tri (T.fieldRef' 26 _ 0 fd26_0 (by decide)) ⟨rfl, trivial⟩ trivial ?_ (by first | exact .none rfl | exact .on rfl rfl rfl (by first | rfl | assumption | exact decide_eq_true (by first | assumption | omega) | exact decide_eq_false (by first | assumption | omega) | (simp only [*]; done) | fail) | fail) rfl | refine DC.tri (T.fieldPtr' 26 _ 0 fd26_0 (by decide)) ⟨rfl, trivial⟩ trivial ?_ (by first | exact .none rfl | exact .on rfl rfl rfl (by first | rfl | assumption | exact decide_eq_true (by first | assumption | omega) | exact decide_eq_false (by first | assumption | omega) | (simp only [*]; done) | fail) | fail) rfl); (first | refine DC.off rfl rfl rfl rfl (by decide) ?_ rfl | refine DC.offB rfl rfl rfl (by first | rfl | assumption | exact decide_eq_true (by first | assumption | omega) | exact decide_eq_false (by first | assumption | omega) | (simp only [*]; done) | fail) (by decide) ?_ rfl | refine DC.tri (T.loadRef 22 _ ag22 sz22 (by first | rfl | assumption)) ⟨rfl, trivial⟩ ⟨rfl, trivial⟩ ?_ (by first | exact .none rfl | exact .on rfl rfl rfl (by first | rfl | assumption | exact decide_eq_true (by first | assumption | omega) | exact decide_eq_false (by first | assumption | omega) | (simp only [*]; done) | fail) | fail) rfl | refine DC.tri (T.loadPtr 22 _ ag22 sz22 (by first | rfl | assumption)) ⟨rfl, trivial⟩ trivial ?_ (by first | exact .none rfl | exact .on rfl rfl rfl (by first | rfl | assumption | exact decide_eq_true (by first | assumption | omega) | exact decide_eq_false (by first | assumption | omega) | (simp only [*]; done) | fail) | fail) rfl | refine DC.tri (T.loadElp 22 _ ag22 sz22 (by first | rfl | assumption)) ⟨rfl, trivial⟩ ⟨rfl, trivial⟩ ?_ (by first | exact .none rfl | exact .on rfl rfl rfl (by first | rfl | assumption | exact decide_eq_true (by first | assumption | omega) | exact decide_eq_false (by first | assumption | omega) | (simp only [*]; done) | fail) | fail) rfl); (first | refine DC.off rfl rfl rfl rfl (by decide) ?_ rfl | refine DC.offB rfl rfl rfl (by first | rfl | assumption | exact decide_eq_true (by first | assumption | omega) | exact decide_eq_false (by first | assumption | omega) | (simp only [*]; done) | fail) (by decide) ?_ rfl | refine DC.tri (T.lenSl 22 _ un22) ⟨rfl, trivial⟩ trivial ?_ (by first | exact .none rfl | exact .on rfl rfl rfl (by first | rfl | assumption | exact decide_eq_true (by first | assumption | omega) | exact decide_eq_false (by first | assumption | omega) | (simp only [*]; done) | fail) | fail) rfl | refine DC.tri (T.lenOwn 22 _ un22) ⟨rfl, trivial⟩ trivial ?_ (by first | exact .none rfl | exact .on rfl rfl rfl (by first | rfl | assumption | exact decide_eq_true (by first | assumption | omega) | exact decide_eq_false (by first | assumption | omega) | (simp only [*]; done) | fail) | fail) rfl | refine DC.tri (T.lenNil 22 _ un22) ⟨rfl, trivial⟩ trivial ?_ (by first | exact .none rfl | exact .on rfl rfl rfl (by first | rfl | assumption | exact decide_eq_true (by first | assumption | omega) | exact decide_eq_false (by first | assumption | omega) | (simp only [*]; done) | fail) | fail) rfl); (first | refine DC.off rfl rfl rfl rfl (by decide) ?_ rfl | refine DC.offB rfl rfl rfl (by first | rfl | assumption | exact decide_eq_true (by first | assumption | omega) | exact decide_eq_false (by first | assumption | omega) | (simp only [*]; done) | fail) (by decide) ?_ rfl | refine DC.tri (T.geq _ _ _ _) ⟨rfl, rfl, trivial⟩ trivial ?_ (by first | exact .none rfl | exact .on rfl rfl rfl (by first | rfl | assumption | exact decide_eq_true (by first | assumption | omega) | exact decide_eq_false (by first | assumption | omega) | (simp only [*]; done) | fail) | fail) rfl); (first | refine DC.tri (T.pickT' _ _ _ (by first | rfl | assumption | exact decide_eq_true (by first | assumption | omega) | exact decide_eq_false (by first | assumption | omega) | (simp only [*]; done) | fail)) ⟨rfl, rfl, trivial⟩ trivial ?_ (.none rfl) rfl | refine DC.tri (T.pickF' _ _ _ (by first | rfl | assumption | exact decide_eq_true (by first | assumption | omega) | exact decide_eq_false (by first | assumption | omega) | (simp only [*]; done) | fail)) ⟨rfl, rfl, trivial⟩ trivial ?_ (.none rfl) rfl); refine DC.nilN (by first | (dsimp only [evalD, lkF, lkE, updF, Nat.beq, Nat.reduceBEq, cond_true, cond_false, List.cons_append, List.nil_append, List.append_nil, argF, Nat.reduceAdd, Nat.reduceMul, spliceD, List.take, List.drop, List.length, flats, Value.cells, List.map, List.set]; done) | exact rfl | fail) ?_)
      | (refine DW.regionC (id := 3) ?_; refine DC.tri (T.move _ _) ⟨rfl, trivial⟩ trivial ?_ (.none rfl) rfl; (first | refine DC.tri (T.lenSl 22 _ un22) ⟨rfl, trivial⟩ trivial ?_ (.none rfl) rfl | refine DC.tri (T.lenOwn 22 _ un22) ⟨rfl, trivial⟩ trivial ?_ (.none rfl) rfl | refine DC.tri (T.lenNil 22 _ un22) ⟨rfl, trivial⟩ trivial ?_ (.none rfl) rfl); (first | refine DC.tri (T.fieldRef' 26 _ 0 fd26_0 (by decide)) ⟨rfl, trivial⟩ trivial ?_ (.none rfl) rfl | refine DC.tri (T.fieldPtr' 26 _ 0 fd26_0 (by decide)) ⟨rfl, trivial⟩ trivial ?_ (.none rfl) rfl); (first | refine DC.tri (T.loadRef 22 _ ag22 sz22 (by first | rfl | assumption)) ⟨rfl, trivial⟩ ⟨rfl, trivial⟩ ?_ (.none rfl) rfl | refine DC.tri (T.loadPtr 22 _ ag22 sz22 (by first | rfl | assumption)) ⟨rfl, trivial⟩ trivial ?_ (.none rfl) rfl | refine DC.tri (T.loadElp 22 _ ag22 sz22 (by first | rfl | assumption)) ⟨rfl, trivial⟩ ⟨rfl, trivial⟩ ?_ (.none rfl) rfl); refine DC.tri (T.move _ _) ⟨rfl, trivial⟩ trivial ?_ (.none rfl) rfl; (first | refine DC.tri (T.indexSl 22 _ _ un22 sz3 (by omega) (by omega) (by decide)) ⟨rfl, rfl, trivial⟩ trivial ?_ (.none rfl) rfl | refine DC.tri (T.indexOwn 22 _ _ un22 sz3 (by omega) (by omega)) ⟨rfl, rfl, trivial⟩ ⟨rfl, trivial⟩ ?_ (.none rfl) rfl); (first | refine DC.tri (T.loadRef 3 _ ag3 sz3 (by first | rfl | assumption)) ⟨rfl, trivial⟩ ⟨rfl, trivial⟩ ?_ (.none rfl) rfl | refine DC.tri (T.loadPtr 3 _ ag3 sz3 (by first | rfl | assumption)) ⟨rfl, trivial⟩ trivial ?_ (.none rfl) rfl | refine DC.tri (T.loadElp 3 _ ag3 sz3 (by first | rfl | assumption)) ⟨rfl, trivial⟩ ⟨rfl, trivial⟩ ?_ (.none rfl) rfl); refine DC.tri (T.neq _ _ _ _) ⟨rfl, rfl, trivial⟩ trivial ?_ (.none rfl) rfl; refine DC.nilN (by first | (dsimp only [evalD, lkF, lkE, updF, Nat.beq, Nat.reduceBEq, cond_true, cond_false, List.cons_append, List.nil_append, List.append_nil, argF, Nat.reduceAdd, Nat.reduceMul, spliceD, List.take, List.drop, List.length, flats, Value.cells, List.map, List.set]; done) | exact rfl | fail) ?_)
      | (refine DW.regionC (id := 5) ?_; refine DC.tri (T.assign _ _) ⟨rfl, trivial⟩ trivial ?_ (.none rfl) rfl; refine DC.nilN (by first | (dsimp only [evalD, lkF, lkE, updF, Nat.beq, Nat.reduceBEq, cond_true, cond_false, List.cons_append, List.nil_append, List.append_nil, argF, Nat.reduceAdd, Nat.reduceMul, spliceD, List.take, List.drop, List.length, flats, Value.cells, List.map, List.set]; done) | exact rfl | fail) ?_)
      | (refine DW.regionC (id := 6) ?_; refine DC.tri (T.assign _ _) ⟨rfl, trivial⟩ trivial ?_ (.none rfl) rfl; refine DC.nilN (by first | (dsimp only [evalD, lkF, lkE, updF, Nat.beq, Nat.reduceBEq, cond_true, cond_false, List.cons_append, List.nil_append, List.append_nil, argF, Nat.reduceAdd, Nat.reduceMul, spliceD, List.take, List.drop, List.length, flats, Value.cells, List.map, List.set]; done) | exact rfl | fail) ?_)
      | (refine DW.condT' rfl (by first | rfl | assumption | exact decide_eq_true (by first | assumption | omega) | exact decide_eq_false (by first | assumption | omega) | (simp only [*]; done) | fail) ?_)
      | (refine DW.condF' rfl (by first | rfl | assumption | exact decide_eq_true (by first | assumption | omega) | exact decide_eq_false (by first | assumption | omega) | (simp only [*]; done) | fail) ?_)
      | (refine DW.exit ?_)
      | (refine DW.ret ?_)
      | fail)
  refine DW.loop (fun j : Nat => ⟨[(9, intD j), (8, intD (placeOf A.final.length (l.take j))), (3, .ref 3 0), (2, intsD l), (1, intD i)], [(3, some (.box [intsD A.ranks, boolsD A.final, rowsD A.to]))]⟩) (fun j => j ≤ l.length) (fun j => l.length - j) 0 (by omega) (Sub.slots ⟨Vs.int (by simp), Vs.int (by simp [placeOf]), Vs.refl _, Vs.pers rfl, Vs.pers rfl, trivial⟩) ?_
  rintro j hj
  by_cases hlt : j < l.length
  · obtain ⟨y, hy⟩ : ∃ y, l[j]? = some y := ⟨l[j], by simp⟩
    have hrg := hf.rng y (List.mem_of_getElem? hy)
    obtain ⟨b1, b2, b3, b4⟩ := place_bd hn hf.rng hl2 hlt
    have hpt := placeOf_take (n := A.final.length) hy
    have hp1 := part_map (f := fun x => D.flat (.int .i64 x)) hy
    have hm : IntKind.i64.wrap (placeOf A.final.length (l.take j) * (A.final.length : Int)) = placeOf A.final.length (l.take j) * (A.final.length : Int) := w64 (by omega) (by omega)
    repeat (first
        | (refine DW.seq ?_)
        | (refine DW.block ?_)
        | (refine Thn.n ?_)
        | (refine Blk.n ?_)
        | (refine Blk.here ?_)
        | (refine Thn.e ?_)
        | (refine Blk.pass rfl ?_)
        | (refine Thn.r ?_)
        | (refine Blk.r ?_)
        | (refine DW.skip ?_)
        | (refine DW.label ?_)
        | (refine DW.regionC (id := 7) ?_; refine DC.tri (T.move _ _) ⟨rfl, trivial⟩ trivial ?_ (.none rfl) rfl; refine DC.tri (T.move _ _) ⟨rfl, trivial⟩ trivial ?_ (.none rfl) rfl; (first | refine DC.tri (T.lenSl 22 _ un22) ⟨rfl, trivial⟩ trivial ?_ (.none rfl) rfl | refine DC.tri (T.lenOwn 22 _ un22) ⟨rfl, trivial⟩ trivial ?_ (.none rfl) rfl | refine DC.tri (T.lenNil 22 _ un22) ⟨rfl, trivial⟩ trivial ?_ (.none rfl) rfl); refine DC.tri (T.lss _ _ _ _) ⟨rfl, rfl, trivial⟩ trivial ?_ (.none rfl) rfl; refine DC.nilN (by first | (dsimp only [evalD, lkF, lkE, updF, Nat.beq, Nat.reduceBEq, cond_true, cond_false, List.cons_append, List.nil_append, List.append_nil, argF, Nat.reduceAdd, Nat.reduceMul, spliceD, List.take, List.drop, List.length, flats, Value.cells, List.map, List.set]; done) | exact rfl | fail) ?_)
        | (refine DW.regionC (id := 8) ?_; refine DC.tri (T.move _ _) ⟨rfl, trivial⟩ trivial ?_ (.none rfl) rfl; (first | refine DC.tri (T.add (k := .i64) _ _ _ _ (w64 (by omega) (by omega))) ⟨rfl, rfl, trivial⟩ trivial ?_ (.none rfl) rfl | refine DC.tri (T.add (k := .i64) _ _ _ _ (by assumption)) ⟨rfl, rfl, trivial⟩ trivial ?_ (.none rfl) rfl); refine DC.tri (T.assign _ _) ⟨rfl, trivial⟩ trivial ?_ (.none rfl) rfl; refine DC.nilN (by first | (dsimp only [evalD, lkF, lkE, updF, Nat.beq, Nat.reduceBEq, cond_true, cond_false, List.cons_append, List.nil_append, List.append_nil, argF, Nat.reduceAdd, Nat.reduceMul, spliceD, List.take, List.drop, List.length, flats, Value.cells, List.map, List.set]; done) | exact rfl | fail) ?_)
        | (refine DW.drawnC (id := 9) rfl (by kernel_rfl) ?_; refine DC.tri (T.move _ _) ⟨rfl, trivial⟩ trivial ?_ (.none rfl) rfl; refine DC.tri (T.move _ _) ⟨rfl, trivial⟩ trivial ?_ (.none rfl) rfl; (first | refine DC.tri (T.indexSl 22 _ _ un22 sz3 (by omega) (by omega) (by decide)) ⟨rfl, rfl, trivial⟩ trivial ?_ (.none rfl) rfl | refine DC.tri (T.indexOwn 22 _ _ un22 sz3 (by omega) (by omega)) ⟨rfl, rfl, trivial⟩ ⟨rfl, trivial⟩ ?_ (.none rfl) rfl); (first | refine DC.tri (T.loadRef 3 _ ag3 sz3 (by first | rfl | assumption)) ⟨rfl, trivial⟩ ⟨rfl, trivial⟩ ?_ (.none rfl) rfl | refine DC.tri (T.loadPtr 3 _ ag3 sz3 (by first | rfl | assumption)) ⟨rfl, trivial⟩ trivial ?_ (.none rfl) rfl | refine DC.tri (T.loadElp 3 _ ag3 sz3 (by first | rfl | assumption)) ⟨rfl, trivial⟩ ⟨rfl, trivial⟩ ?_ (.none rfl) rfl); refine DC.tri (T.lss _ _ _ _) ⟨rfl, rfl, trivial⟩ trivial ?_ (.none rfl) rfl; refine DC.tri (T.move _ _) ⟨rfl, trivial⟩ trivial ?_ (.none rfl) rfl; (first | refine DC.off rfl rfl rfl rfl (by decide) ?_ rfl | refine DC.offB rfl rfl rfl (by first | rfl | assumption | exact decide_eq_true (by first | assumption | omega) | exact decide_eq_false (by first | assumption | omega) | (simp only [*]; done) | fail) (by decide) ?_ rfl | refine DC.tri (T.move _ _) ⟨rfl, trivial⟩ trivial ?_ (by first | exact .none rfl | exact .on rfl rfl rfl (by first | rfl | assumption | exact decide_eq_true (by first | assumption | omega) | exact decide_eq_false (by first | assumption | omega) | (simp only [*]; done) | fail) | fail) rfl); (first | refine DC.off rfl rfl rfl rfl (by decide) ?_ rfl | refine DC.offB rfl rfl rfl (by first | rfl | assumption | exact decide_eq_true (by first | assumption | omega) | exact decide_eq_false (by first | assumption | omega) | (simp only [*]; done) | fail) (by decide) ?_ rfl | refine DC.tri (T.move _ _) ⟨rfl, trivial⟩ trivial ?_ (by first | exact .none rfl | exact .on rfl rfl rfl (by first | rfl | assumption | exact decide_eq_true (by first | assumption | omega) | exact decide_eq_false (by first | assumption | omega) | (simp only [*]; done) | fail) | fail) rfl); (first | refine DC.off rfl rfl rfl rfl (by decide) ?_ rfl | refine DC.offB rfl rfl rfl (by first | rfl | assumption | exact decide_eq_true (by first | assumption | omega) | exact decide_eq_false (by first | assumption | omega) | (simp only [*]; done) | fail) (by decide) ?_ rfl | refine DC.tri (T.indexSl 22 _ _ un22 sz3 (by omega) (by omega) (by decide)) ⟨rfl, rfl, trivial⟩ trivial ?_ (by first | exact .none rfl | exact .on rfl rfl rfl (by first | rfl | assumption | exact decide_eq_true (by first | assumption | omega) | exact decide_eq_false (by first | assumption | omega) | (simp only [*]; done) | fail) | fail) rfl | refine DC.tri (T.indexOwn 22 _ _ un22 sz3 (by omega) (by omega)) ⟨rfl, rfl, trivial⟩ ⟨rfl, trivial⟩ ?_ (by first | exact .none rfl | exact .on rfl rfl rfl (by first | rfl | assumption | exact decide_eq_true (by first | assumption | omega) | exact decide_eq_false (by first | assumption | omega) | (simp only [*]; done) | fail) | fail) rfl); (first | refine DC.off rfl rfl rfl rfl (by decide) ?_ rfl | refine DC.offB rfl rfl rfl (by first | rfl | assumption | exact decide_eq_true (by first | assumption | omega) | exact decide_eq_false (by first | assumption | omega) | (simp only [*]; done) | fail) (by decide) ?_ rfl | refine DC.tri (T.loadRef 3 _ ag3 sz3 (by first | rfl | assumption)) ⟨rfl, trivial⟩ ⟨rfl, trivial⟩ ?_ (by first | exact .none rfl | exact .on rfl rfl rfl (by first | rfl | assumption | exact decide_eq_true (by first | assumption | omega) | exact decide_eq_false (by first | assumption | omega) | (simp only [*]; done) | fail) | fail) rfl | refine DC.tri (T.loadPtr 3 _ ag3 sz3 (by first | rfl | assumption)) ⟨rfl, trivial⟩ trivial ?_ (by first | exact .none rfl | exact .on rfl rfl rfl (by first | rfl | assumption | exact decide_eq_true (by first | assumption | omega) | exact decide_eq_false (by first | assumption | omega) | (simp only [*]; done) | fail) | fail) rfl | refine DC.tri (T.loadElp 3 _ ag3 sz3 (by first | rfl | assumption)) ⟨rfl, trivial⟩ ⟨rfl, trivial⟩ ?_ (by first | exact .none rfl | exact .on rfl rfl rfl (by first | rfl | assumption | exact decide_eq_true (by first | assumption | omega) | exact decide_eq_false (by first | assumption | omega) | (simp only [*]; done) | fail) | fail) rfl); (first | refine DC.off rfl rfl rfl rfl (by decide) ?_ rfl | refine DC.offB rfl rfl rfl (by first | rfl | assumption | exact decide_eq_true (by first | assumption | omega) | exact decide_eq_false (by first | assumption | omega) | (simp only [*]; done) | fail) (by decide) ?_ rfl | refine DC.tri (T.fieldRef' 26 _ 1 fd26_1 (by decide)) ⟨rfl, trivial⟩ trivial ?_ (by first | exact .none rfl | exact .on rfl rfl rfl (by first | rfl | assumption | exact decide_eq_true (by first | assumption | omega) | exact decide_eq_false (by first | assumption | omega) | (simp only [*]; done) | fail) | fail) rfl | refine DC.tri (T.fieldPtr' 26 _ 1 fd26_1 (by decide)) ⟨rfl, trivial⟩ trivial ?_ (by first | exact .none rfl | exact .on rfl rfl rfl (by first | rfl | assumption | exact decide_eq_true (by first | assumption | omega) | exact decide_eq_false (by first | assumption | omega) | (simp only [*]; done) | fail) | fail) rfl); (first | refine DC.off rfl rfl rfl rfl (by decide) ?_ rfl | refine DC.offB rfl rfl rfl (by first | rfl | assumption | exact decide_eq_true (by first | assumption | omega) | exact decide_eq_false (by first | assumption | omega) | (simp only [*]; done) | fail) (by decide) ?_ rfl | refine DC.tri (T.loadRef 23 _ ag23 sz23 (by first | rfl | assumption)) ⟨rfl, trivial⟩ ⟨rfl, trivial⟩ ?_ (by first | exact .none rfl | exact .on rfl rfl rfl (by first | rfl | assumption | exact decide_eq_true (by first | assumption | omega) | exact decide_eq_false (by first | assumption | omega) | (simp only [*]; done) | fail) | fail) rfl | refine DC.tri (T.loadPtr 23 _ ag23 sz23 (by first | rfl | assumption)) ⟨rfl, trivial⟩ trivial ?_ (by first | exact .none rfl | exact .on rfl rfl rfl (by first | rfl | assumption | exact decide_eq_true (by first | assumption | omega) | exact decide_eq_false (by first | assumption | omega) | (simp only [*]; done) | fail) | fail) rfl | refine DC.tri (T.loadElp 23 _ ag23 sz23 (by first | rfl | assumption)) ⟨rfl, trivial⟩ ⟨rfl, trivial⟩ ?_ (by first | exact .none rfl | exact .on rfl rfl rfl (by first | rfl | assumption | exact decide_eq_true (by first | assumption | omega) | exact decide_eq_false (by first | assumption | omega) | (simp only [*]; done) | fail) | fail) rfl); (first | refine DC.off rfl rfl rfl rfl (by decide) ?_ rfl | refine DC.offB rfl rfl rfl (by first | rfl | assumption | exact decide_eq_true (by first | assumption | omega) | exact decide_eq_false (by first | assumption | omega) | (simp only [*]; done) | fail) (by decide) ?_ rfl | refine DC.tri (T.lenSl 23 _ un23) ⟨rfl, trivial⟩ trivial ?_ (by first | exact .none rfl | exact .on rfl rfl rfl (by first | rfl | assumption | exact decide_eq_true (by first | assumption | omega) | exact decide_eq_false (by first | assumption | omega) | (simp only [*]; done) | fail) | fail) rfl | refine DC.tri (T.lenOwn 23 _ un23) ⟨rfl, trivial⟩ trivial ?_ (by first | exact .none rfl | exact .on rfl rfl rfl (by first | rfl | assumption | exact decide_eq_true (by first | assumption | omega) | exact decide_eq_false (by first | assumption | omega) | (simp only [*]; done) | fail) | fail) rfl | refine DC.tri (T.lenNil 23 _ un23) ⟨rfl, trivial⟩ trivial ?_ (by first | exact .none rfl | exact .on rfl rfl rfl (by first | rfl | assumption | exact decide_eq_true (by first | assumption | omega) | exact decide_eq_false (by first | assumption | omega) | (simp only [*]; done) | fail) | fail) rfl); (first | refine DC.off rfl rfl rfl rfl (by decide) ?_ rfl | refine DC.offB rfl rfl rfl (by first | rfl | assumption | exact decide_eq_true (by first | assumption | omega) | exact decide_eq_false (by first | assumption | omega) | (simp only [*]; done) | fail) (by decide) ?_ rfl | refine DC.tri (T.geq _ _ _ _) ⟨rfl, rfl, trivial⟩ trivial ?_ (by first | exact .none rfl | exact .on rfl rfl rfl (by first | rfl | assumption | exact decide_eq_true (by first | assumption | omega) | exact decide_eq_false (by first | assumption | omega) | (simp only [*]; done) | fail) | fail) rfl); (first | refine DC.tri (T.pickT' _ _ _ (by first | rfl | assumption | exact decide_eq_true (by first | assumption | omega) | exact decide_eq_false (by first | assumption | omega) | (simp only [*]; done) | fail)) ⟨rfl, rfl, trivial⟩ trivial ?_ (.none rfl) rfl | refine DC.tri (T.pickF' _ _ _ (by first | rfl | assumption | exact decide_eq_true (by first | assumption | omega) | exact decide_eq_false (by first | assumption | omega) | (simp only [*]; done) | fail)) ⟨rfl, rfl, trivial⟩ trivial ?_ (.none rfl) rfl); refine DC.nilN (by first | (dsimp only [evalD, lkF, lkE, updF, Nat.beq, Nat.reduceBEq, cond_true, cond_false, List.cons_append, List.nil_append, List.append_nil, argF, Nat.reduceAdd, Nat.reduceMul, spliceD, List.take, List.drop, List.length, flats, Value.cells, List.map, List.set]; done) | exact rfl | fail) ?_; refine ⟨by kernel_rfl, ?_⟩)
        | (refine DW.drawnC (id := 11) rfl (by kernel_rfl) ?_; refine DC.tri (T.move _ _) ⟨rfl, trivial⟩ trivial ?_ (.none rfl) rfl; (first | refine DC.tri (T.fieldRef' 26 _ 1 fd26_1 (by decide)) ⟨rfl, trivial⟩ trivial ?_ (.none rfl) rfl | refine DC.tri (T.fieldPtr' 26 _ 1 fd26_1 (by decide)) ⟨rfl, trivial⟩ trivial ?_ (.none rfl) rfl); (first | refine DC.tri (T.loadRef 23 _ ag23 sz23 (by first | rfl | assumption)) ⟨rfl, trivial⟩ ⟨rfl, trivial⟩ ?_ (.none rfl) rfl | refine DC.tri (T.loadPtr 23 _ ag23 sz23 (by first | rfl | assumption)) ⟨rfl, trivial⟩ trivial ?_ (.none rfl) rfl | refine DC.tri (T.loadElp 23 _ ag23 sz23 (by first | rfl | assumption)) ⟨rfl, trivial⟩ ⟨rfl, trivial⟩ ?_ (.none rfl) rfl); (first | refine DC.tri (T.lenSl 23 _ un23) ⟨rfl, trivial⟩ trivial ?_ (.none rfl) rfl | refine DC.tri (T.lenOwn 23 _ un23) ⟨rfl, trivial⟩ trivial ?_ (.none rfl) rfl | refine DC.tri (T.lenNil 23 _ un23) ⟨rfl, trivial⟩ trivial ?_ (.none rfl) rfl); (first | refine DC.tri (T.mul (k := .i64) _ _ _ _ (w64 (by omega) (by omega))) ⟨rfl, rfl, trivial⟩ trivial ?_ (.none rfl) rfl | refine DC.tri (T.mul (k := .i64) _ _ _ _ (by assumption)) ⟨rfl, rfl, trivial⟩ trivial ?_ (.none rfl) rfl); refine DC.tri (T.move _ _) ⟨rfl, trivial⟩ trivial ?_ (.none rfl) rfl; refine DC.tri (T.move _ _) ⟨rfl, trivial⟩ trivial ?_ (.none rfl) rfl; (first | refine DC.tri (T.indexSl 22 _ _ un22 sz3 (by omega) (by omega) (by decide)) ⟨rfl, rfl, trivial⟩ trivial ?_ (.none rfl) rfl | refine DC.tri (T.indexOwn 22 _ _ un22 sz3 (by omega) (by omega)) ⟨rfl, rfl, trivial⟩ ⟨rfl, trivial⟩ ?_ (.none rfl) rfl); (first | refine DC.tri (T.loadRef 3 _ ag3 sz3 (by first | rfl | assumption)) ⟨rfl, trivial⟩ ⟨rfl, trivial⟩ ?_ (.none rfl) rfl | refine DC.tri (T.loadPtr 3 _ ag3 sz3 (by first | rfl | assumption)) ⟨rfl, trivial⟩ trivial ?_ (.none rfl) rfl | refine DC.tri (T.loadElp 3 _ ag3 sz3 (by first | rfl | assumption)) ⟨rfl, trivial⟩ ⟨rfl, trivial⟩ ?_ (.none rfl) rfl); (first | refine DC.tri (T.add (k := .i64) _ _ _ _ (w64 (by omega) (by omega))) ⟨rfl, rfl, trivial⟩ trivial ?_ (.none rfl) rfl | refine DC.tri (T.add (k := .i64) _ _ _ _ (by assumption)) ⟨rfl, rfl, trivial⟩ trivial ?_ (.none rfl) rfl); refine DC.tri (T.assign _ _) ⟨rfl, trivial⟩ trivial ?_ (.none rfl) rfl; refine DC.nilN (by first | (dsimp only [evalD, lkF, lkE, updF, Nat.beq, Nat.reduceBEq, cond_true, cond_false, List.cons_append, List.nil_append, List.append_nil, argF, Nat.reduceAdd, Nat.reduceMul, spliceD, List.take, List.drop, List.length, flats, Value.cells, List.map, List.set]; done) | exact rfl | fail) ?_; refine ⟨by kernel_rfl, ?_⟩)
        | (refine DW.condT' rfl (by first | rfl | assumption | exact decide_eq_true (by first | assumption | omega) | exact decide_eq_false (by first | assumption | omega) | (simp only [*]; done) | fail) ?_)
        | (refine DW.condF' rfl (by first | rfl | assumption | exact decide_eq_true (by first | assumption | omega) | exact decide_eq_false (by first | assumption | omega) | (simp only [*]; done) | fail) ?_)
        | (refine DW.exit ?_)
        | (refine DW.ret ?_)
        | fail)
    exact ⟨j + 1, by omega, by omega, Sub.slots ⟨Vs.int (by simp), Vs.int (by rw [hpt]), Vs.refl _, Vs.pers rfl, Vs.pers rfl, trivial⟩⟩
  · obtain rfl : j = l.length := by omega
    rw [List.take_of_length_le (Nat.le_refl _), hp]
    repeat (first
        | (refine DW.seq ?_)
        | (refine DW.block ?_)
        | (refine Thn.n ?_)
        | (refine Blk.n ?_)
        | (refine Blk.here ?_)
        | (refine Thn.e ?_)
        | (refine Blk.pass rfl ?_)
        | (refine Thn.r ?_)
        | (refine Blk.r ?_)
        | (refine DW.skip ?_)
        | (refine DW.label ?_)
        | (refine DW.regionC (id := 7) ?_; refine DC.tri (T.move _ _) ⟨rfl, trivial⟩ trivial ?_ (.none rfl) rfl; refine DC.tri (T.move _ _) ⟨rfl, trivial⟩ trivial ?_ (.none rfl) rfl; (first | refine DC.tri (T.lenSl 22 _ un22) ⟨rfl, trivial⟩ trivial ?_ (.none rfl) rfl | refine DC.tri (T.lenOwn 22 _ un22) ⟨rfl, trivial⟩ trivial ?_ (.none rfl) rfl | refine DC.tri (T.lenNil 22 _ un22) ⟨rfl, trivial⟩ trivial ?_ (.none rfl) rfl); refine DC.tri (T.lss _ _ _ _) ⟨rfl, rfl, trivial⟩ trivial ?_ (.none rfl) rfl; refine DC.nilN (by first | (dsimp only [evalD, lkF, lkE, updF, Nat.beq, Nat.reduceBEq, cond_true, cond_false, List.cons_append, List.nil_append, List.append_nil, argF, Nat.reduceAdd, Nat.reduceMul, spliceD, List.take, List.drop, List.length, flats, Value.cells, List.map, List.set]; done) | exact rfl | fail) ?_)
        | (refine DW.regionC (id := 12) ?_; (first | refine DC.tri (T.fieldRef' 26 _ 2 fd26_2 (by decide)) ⟨rfl, trivial⟩ trivial ?_ (.none rfl) rfl | refine DC.tri (T.fieldPtr' 26 _ 2 fd26_2 (by decide)) ⟨rfl, trivial⟩ trivial ?_ (.none rfl) rfl); (first | refine DC.tri (T.loadRef 24 _ ag24 sz24 (by first | rfl | assumption)) ⟨rfl, trivial⟩ ⟨rfl, trivial⟩ ?_ (.none rfl) rfl | refine DC.tri (T.loadPtr 24 _ ag24 sz24 (by first | rfl | assumption)) ⟨rfl, trivial⟩ trivial ?_ (.none rfl) rfl | refine DC.tri (T.loadElp 24 _ ag24 sz24 (by first | rfl | assumption)) ⟨rfl, trivial⟩ ⟨rfl, trivial⟩ ?_ (.none rfl) rfl); refine DC.tri (T.move _ _) ⟨rfl, trivial⟩ trivial ?_ (.none rfl) rfl; (first | refine DC.tri (T.indexSl 24 _ _ un24 sz22 (by omega) (by omega) (by decide)) ⟨rfl, rfl, trivial⟩ trivial ?_ (.none rfl) rfl | refine DC.tri (T.indexOwn 24 _ _ un24 sz22 (by omega) (by omega)) ⟨rfl, rfl, trivial⟩ ⟨rfl, trivial⟩ ?_ (.none rfl) rfl); (first | refine DC.tri (T.loadRef 22 _ ag22 sz22 (by first | rfl | assumption)) ⟨rfl, trivial⟩ ⟨rfl, trivial⟩ ?_ (.none rfl) rfl | refine DC.tri (T.loadPtr 22 _ ag22 sz22 (by first | rfl | assumption)) ⟨rfl, trivial⟩ trivial ?_ (.none rfl) rfl | refine DC.tri (T.loadElp 22 _ ag22 sz22 (by first | rfl | assumption)) ⟨rfl, trivial⟩ ⟨rfl, trivial⟩ ?_ (.none rfl) rfl); refine DC.tri (T.move _ _) ⟨rfl, trivial⟩ trivial ?_ (.none rfl) rfl; (first | refine DC.tri (T.indexSl 22 _ _ un22 sz3 (by omega) (by omega) (by decide)) ⟨rfl, rfl, trivial⟩ trivial ?_ (.none rfl) rfl | refine DC.tri (T.indexOwn 22 _ _ un22 sz3 (by omega) (by omega)) ⟨rfl, rfl, trivial⟩ ⟨rfl, trivial⟩ ?_ (.none rfl) rfl); (first | refine DC.tri (T.loadRef 3 _ ag3 sz3 (by first | rfl | assumption)) ⟨rfl, trivial⟩ ⟨rfl, trivial⟩ ?_ (.none rfl) rfl | refine DC.tri (T.loadPtr 3 _ ag3 sz3 (by first | rfl | assumption)) ⟨rfl, trivial⟩ trivial ?_ (.none rfl) rfl | refine DC.tri (T.loadElp 3 _ ag3 sz3 (by first | rfl | assumption)) ⟨rfl, trivial⟩ ⟨rfl, trivial⟩ ?_ (.none rfl) rfl); refine DC.tri (T.assign _ _) ⟨rfl, trivial⟩ trivial ?_ (.none rfl) rfl; refine DC.tri (T.assign _ _) ⟨rfl, trivial⟩ trivial ?_ (.none rfl) rfl; refine DC.nilN (by first | (dsimp only [evalD, lkF, lkE, updF, Nat.beq, Nat.reduceBEq, cond_true, cond_false, List.cons_append, List.nil_append, List.append_nil, argF, Nat.reduceAdd, Nat.reduceMul, spliceD, List.take, List.drop, List.length, flats, Value.cells, List.map, List.set]; done) | exact rfl | fail) ?_)
        | (refine DW.condT' rfl (by first | rfl | assumption | exact decide_eq_true (by first | assumption | omega) | exact decide_eq_false (by first | assumption | omega) | (simp only [*]; done) | fail) ?_)
        | (refine DW.condF' rfl (by first | rfl | assumption | exact decide_eq_true (by first | assumption | omega) | exact decide_eq_false (by first | assumption | omega) | (simp only [*]; done) | fail) ?_)
        | (refine DW.exit ?_)
        | (refine DW.ret ?_)
        | fail)
    exact ⟨.inr rfl, ResOk.two [] rfl (by first | (dsimp only [evalD, lkF, lkE, updF, Nat.beq, Nat.reduceBEq, cond_true, cond_false, List.cons_append, List.nil_append, List.append_nil, argF, Nat.reduceAdd, Nat.reduceMul, spliceD, List.take, List.drop, List.length, flats, Value.cells, List.map, List.set]; done) | exact rfl | fail) (by first | (dsimp only [evalD, lkF, lkE, updF, Nat.beq, Nat.reduceBEq, cond_true, cond_false, List.cons_append, List.nil_append, List.append_nil, argF, Nat.reduceAdd, Nat.reduceMul, spliceD, List.take, List.drop, List.length, flats, Value.cells, List.map, List.set]; done) | exact rfl | fail) trivial (Vw.pers rfl) (Vw.pers rfl)⟩
end Go.Proofs.Ytdakoccbmeojhaa
/- Contracts over data: made automata, with any closures. No condition. -/
set_option linter.unusedSimpArgs false
set_option linter.unusedVariables false
set_option maxHeartbeats 1000000
set_option maxRecDepth 8000
namespace Go.Proofs.Ytdakoccbmeojhaa
open Go Go.RowKit Go.PP Go.Dm


theorem digs_cons (n : Nat) : ∀ j p, digs n (j + 1) p = ((p / n ^ j % n : Nat) : Int) :: digs n j p
  | 0, p => by simp [digs]
  | j + 1, p => by
    rw [digs, digs_cons n j (p / n)]
    have h : p / n / n ^ j = p / n ^ (j + 1) := by rw [Nat.div_div_eq_div_mul, Nat.pow_succ, Nat.mul_comm n]
    rw [h]
    show _ :: digs n j (p / n) ++ [_] = _
    rw [List.cons_append]
    rfl
theorem tables_get {n : Nat} {T : Int → List Int → Int} {rs : List Int} {i : Nat} {k : Int} (h : rs[i]? = some k) : (tablesOf n T rs)[i]? = some (tableOf n T i k) := by
  have hi := (List.getElem?_eq_some_iff.1 h).1
  unfold tablesOf
  rw [List.getElem?_map, List.getElem?_range hi]
  simp [List.getD, h]
theorem set_dig (m : Nat) (x : D) (z : D) (l : List D) : spliceD (List.replicate (m + 1) z ++ l) m [x] = List.replicate m z ++ x :: l := by
  unfold spliceD
  rw [List.replicate_succ']
  simp [List.take_append, List.drop_append]

theorem ent66 : Enters Try.prog 66 := fun args w => by go_simp

theorem made_d (rs : List Int) (n : Nat) (Tt : Int → List Int → Int) (Ff : Nat → Bool) (kt kf : FuncId) (ft ct ff cf : List D)
    (hrs : rs.length ≤ 4096) (hr : ∀ k ∈ rs, 0 ≤ k ∧ k ≤ 2) (hn : n ≤ 512) (hn0 : 0 < n) (hkT : Enters Try.prog kt) (hkF : Enters Try.prog kf)
    (pcT : pers (.clo (.func kt) ft ct) = true) (pcF : pers (.clo (.func kf) ff cf) = true)
    (hvT : ∀ (i : Nat) (l : List Int) (k : Nat) (pe : Sg), l.length = k → VwL ((48, some (.row 3 1 k (l.map fun x => .flat (.int .i64 x)))) :: pe) (ft ++ [intD i, .own 48 k] ++ ct) (ft ++ [intD i, intsD l] ++ ct))
    (hpF : ∀ s : Nat, persL (ff ++ [intD s] ++ cf) = true)
    (hT : ∀ (i k p : Nat), rs[i]? = some ((k : Nat) : Int) → p < wideN k n → DFun Try.prog kt (ft ++ [intD i, intsD (digs n k p)] ++ ct) (intD (Tt i (digs n k p))))
    (hF : ∀ s : Nat, s < n → DFun Try.prog kf (ff ++ [intD s] ++ cf) (boolD (Ff s))) :
    DFun Try.prog 66 [intsD rs, intD n, .clo (.func kt) ft ct, .clo (.func kf) ff cf] (auD (madeA rs n Tt Ff)) := by
  refine DFun.enter Try.func66 rfl Try.ntmps66 (by simp) ?_
  dsimp only [evalD, lkF, lkE, updF, Nat.beq, Nat.reduceBEq, cond_true, cond_false, List.cons_append, List.nil_append, List.append_nil, argF, Nat.reduceAdd, Nat.reduceMul, spliceD, List.take, List.drop, List.length, flats, Value.cells, List.map, List.set, Thn, Blk, if_true, if_false, reduceIte, Nat.reduceEqDiff]
  repeat (first
      | (refine DW.seq ?_)
      | (refine DW.block ?_)
      | (refine Thn.n ?_)
      | (refine Blk.n ?_)
      | (refine Blk.here ?_)
      | (refine Thn.e ?_)
      | (refine Blk.pass rfl ?_)
      | (refine Thn.r ?_)
      | (refine Blk.r ?_)
      | (refine DW.skip ?_)
      | (refine DW.label ?_)
      | (refine DW.regionC (id := 0) ?_; refine DC.tri (T.alloc 8 35 ze35) trivial ⟨rfl, trivial⟩ ?_ (.none rfl) rfl; refine DC.nilN (by first | (dsimp only [evalD, lkF, lkE, updF, Nat.beq, Nat.reduceBEq, cond_true, cond_false, List.cons_append, List.nil_append, List.append_nil, argF, Nat.reduceAdd, Nat.reduceMul, spliceD, List.take, List.drop, List.length, flats, Value.cells, List.map, List.set]; done) | exact rfl | fail) ?_)
      | (refine DW.regionC (id := 1) ?_; refine DC.tri (T.move _ _) ⟨rfl, trivial⟩ trivial ?_ (.none rfl) rfl; refine DC.tri (T.call («as» := [_]) (ds' := [_]) ent59 (cloneA_d rs hrs) rfl rfl (LeL.refl _)) ⟨rfl, trivial⟩ trivial ?_ (.none rfl) rfl; refine DC.tri (T.buildS1 35 _ Try.underlying35 ze35 (pl35 Try.underlying35) rfl) ⟨rfl, trivial⟩ trivial ?_ (.none rfl) rfl; refine DC.tri (T.alloc 9 35 ze35) trivial ⟨rfl, trivial⟩ ?_ (.none rfl) rfl; (first | refine DC.tri (T.storeRef 35 _ _ sz35 rfl rfl (by first | rfl | simp [oneL, oneD, Value.oneCell']) (by first | decide | (simp; done) | omega | (simp; omega))) ⟨rfl, rfl, trivial⟩ ⟨rfl, trivial⟩ ?_ (.none rfl) rfl | refine DC.tri (T.storeElp 35 _ _ sz35 rfl rfl rfl (by first | decide | (simp; done) | omega | (simp; omega))) ⟨rfl, rfl, trivial⟩ ⟨rfl, trivial⟩ ?_ (.none rfl) rfl); refine DC.nilN (by first | (dsimp only [evalD, lkF, lkE, updF, Nat.beq, Nat.reduceBEq, cond_true, cond_false, List.cons_append, List.nil_append, List.append_nil, argF, Nat.reduceAdd, Nat.reduceMul, spliceD, List.take, List.drop, List.length, flats, Value.cells, List.map, List.set]; done) | exact rfl | fail) ?_)
      | (refine DW.regionC (id := 2) ?_; refine DC.tri (T.move _ _) ⟨rfl, trivial⟩ trivial ?_ (.none rfl) rfl; refine DC.tri (T.move _ _) ⟨rfl, trivial⟩ trivial ?_ (.none rfl) rfl; refine DC.nilN (by first | (dsimp only [evalD, lkF, lkE, updF, Nat.beq, Nat.reduceBEq, cond_true, cond_false, List.cons_append, List.nil_append, List.append_nil, argF, Nat.reduceAdd, Nat.reduceMul, spliceD, List.take, List.drop, List.length, flats, Value.cells, List.map, List.set]; done) | exact rfl | fail) ?_)
      | (refine DW.condT' rfl (by first | rfl | assumption | exact decide_eq_true (by first | assumption | omega) | exact decide_eq_false (by first | assumption | omega) | (simp only [*]; done) | fail) ?_)
      | (refine DW.condF' rfl (by first | rfl | assumption | exact decide_eq_true (by first | assumption | omega) | exact decide_eq_false (by first | assumption | omega) | (simp only [*]; done) | fail) ?_)
      | (refine DW.exit ?_)
      | (refine DW.ret ?_)
      | fail)
  refine DW.adoptBox 9 1 103 4 1 rfl rfl rfl ?_
  refine DW.adoptBox 9 2 104 22 1 rfl rfl rfl ?_
  refine DW.loop (fun j : Nat => ⟨[(22, intD j), (21, intD n), (9, .ref 9 0), (8, .ref 8 0), (0, intsD rs), (1, intD n), (2, .clo (.func kt) ft ct), (3, .clo (.func kf) ff cf)], [(9, some (.box [intsD rs, .own 103 j, .own 104 0])), (103, some (.row 4 1 j (((List.range j).map Ff).map boolD))), (104, some (.row 22 1 0 [])), (8, some (.box [.flat (.slice none 0 0), .flat (.slice none 0 0), .flat (.slice none 0 0)]))]⟩) (fun j => j ≤ n) (fun j => n - j) 0 (by omega)
    (Sub.of ⟨⟨_, rfl, Vs.pers rfl, Vs.own rfl rfl, Vs.own rfl rfl, trivial⟩, ⟨_, rfl, trivial⟩, ⟨_, rfl, trivial⟩, ⟨_, rfl, VsL.pers rfl⟩, trivial⟩ ⟨Vs.int (by simp), Vs.pers rfl, Vs.ref rfl, Vs.ref rfl, Vs.pers rfl, Vs.pers rfl, Vs.pers pcT, Vs.pers pcF, trivial⟩) ?_
  rintro j hj
  by_cases hlt : j < n
  · repeat (first
        | (refine DW.seq ?_)
        | (refine DW.block ?_)
        | (refine Thn.n ?_)
        | (refine Blk.n ?_)
        | (refine Blk.here ?_)
        | (refine Thn.e ?_)
        | (refine Blk.pass rfl ?_)
        | (refine Thn.r ?_)
        | (refine Blk.r ?_)
        | (refine DW.skip ?_)
        | (refine DW.label ?_)
        | (refine DW.regionC (id := 3) ?_; refine DC.tri (T.lss _ _ _ _) ⟨rfl, rfl, trivial⟩ trivial ?_ (.none rfl) rfl; refine DC.nilN (by first | (dsimp only [evalD, lkF, lkE, updF, Nat.beq, Nat.reduceBEq, cond_true, cond_false, List.cons_append, List.nil_append, List.append_nil, argF, Nat.reduceAdd, Nat.reduceMul, spliceD, List.take, List.drop, List.length, flats, Value.cells, List.map, List.set]; done) | exact rfl | fail) ?_)
        | (refine DW.regionC (id := 4) ?_; refine DC.tri (T.move _ _) ⟨rfl, trivial⟩ trivial ?_ (.none rfl) rfl; refine DC.tri (T.assign _ _) ⟨rfl, trivial⟩ trivial ?_ (.none rfl) rfl; refine DC.nilN (by first | (dsimp only [evalD, lkF, lkE, updF, Nat.beq, Nat.reduceBEq, cond_true, cond_false, List.cons_append, List.nil_append, List.append_nil, argF, Nat.reduceAdd, Nat.reduceMul, spliceD, List.take, List.drop, List.length, flats, Value.cells, List.map, List.set]; done) | exact rfl | fail) ?_)
        | (refine DW.drawnC (id := 5) rfl (by kernel_rfl) ?_; (first | refine DC.tri (T.fieldRef' 35 _ 1 fd35_1 (by decide)) ⟨rfl, trivial⟩ trivial ?_ (.none rfl) rfl | refine DC.tri (T.fieldPtr' 35 _ 1 fd35_1 (by decide)) ⟨rfl, trivial⟩ trivial ?_ (.none rfl) rfl); (first | refine DC.tri (T.loadRef 23 _ ag23 sz23 (by first | rfl | assumption)) ⟨rfl, trivial⟩ ⟨rfl, trivial⟩ ?_ (.none rfl) rfl | refine DC.tri (T.loadPtr 23 _ ag23 sz23 (by first | rfl | assumption)) ⟨rfl, trivial⟩ trivial ?_ (.none rfl) rfl | refine DC.tri (T.loadElp 23 _ ag23 sz23 (by first | rfl | assumption)) ⟨rfl, trivial⟩ ⟨rfl, trivial⟩ ?_ (.none rfl) rfl); refine DC.tri (T.move _ _) ⟨rfl, trivial⟩ trivial ?_ (.none rfl) rfl; refine DC.tri (T.move _ _) ⟨rfl, trivial⟩ trivial ?_ (.none rfl) rfl; refine DC.tri (T.callC (k := kf) («as» := [_]) (ds' := [_]) (first := ff) (cap := cf) [] hkF (hF j hlt) rfl (VwL.pers (hpF j)) rfl) ⟨rfl, rfl, trivial⟩ trivial ?_ (.none rfl) rfl; refine DC.tri (T.buildSl1 23 _ un23 ze4 sz4 rfl rfl (by decide) rfl) ⟨rfl, trivial⟩ trivial ?_ (.none rfl) rfl; refine DC.tri (T.append 23 _ _ un23 nf4 rfl (by decide) (by decide) (by first | rfl | assumption | exact oneL_map (fun _ => rfl) _) (by omega)) ⟨rfl, rfl, trivial⟩ ⟨rfl, trivial⟩ ?_ (.none rfl) rfl; (first | refine DC.tri (T.fieldRef' 35 _ 1 fd35_1 (by decide)) ⟨rfl, trivial⟩ trivial ?_ (.none rfl) rfl | refine DC.tri (T.fieldPtr' 35 _ 1 fd35_1 (by decide)) ⟨rfl, trivial⟩ trivial ?_ (.none rfl) rfl); (first | refine DC.tri (T.storeRef 23 _ _ sz23 rfl rfl (by first | rfl | simp [oneL, oneD, Value.oneCell']) (by first | decide | (simp; done) | omega | (simp; omega))) ⟨rfl, rfl, trivial⟩ ⟨rfl, trivial⟩ ?_ (.none rfl) rfl | refine DC.tri (T.storeElp 23 _ _ sz23 rfl rfl rfl (by first | decide | (simp; done) | omega | (simp; omega))) ⟨rfl, rfl, trivial⟩ ⟨rfl, trivial⟩ ?_ (.none rfl) rfl); refine DC.nilN (by first | (dsimp only [evalD, lkF, lkE, updF, Nat.beq, Nat.reduceBEq, cond_true, cond_false, List.cons_append, List.nil_append, List.append_nil, argF, Nat.reduceAdd, Nat.reduceMul, spliceD, List.take, List.drop, List.length, flats, Value.cells, List.map, List.set]; done) | exact rfl | fail) ?_; refine ⟨by kernel_rfl, ?_⟩)
        | (refine DW.regionC (id := 6) ?_; (first | refine DC.tri (T.add (k := .i64) _ _ _ _ (w64 (by omega) (by omega))) ⟨rfl, rfl, trivial⟩ trivial ?_ (.none rfl) rfl | refine DC.tri (T.add (k := .i64) _ _ _ _ (by assumption)) ⟨rfl, rfl, trivial⟩ trivial ?_ (.none rfl) rfl); refine DC.tri (T.move _ _) ⟨rfl, trivial⟩ trivial ?_ (.none rfl) rfl; refine DC.nilN (by first | (dsimp only [evalD, lkF, lkE, updF, Nat.beq, Nat.reduceBEq, cond_true, cond_false, List.cons_append, List.nil_append, List.append_nil, argF, Nat.reduceAdd, Nat.reduceMul, spliceD, List.take, List.drop, List.length, flats, Value.cells, List.map, List.set]; done) | exact rfl | fail) ?_)
        | (refine DW.condT' rfl (by first | rfl | assumption | exact decide_eq_true (by first | assumption | omega) | exact decide_eq_false (by first | assumption | omega) | (simp only [*]; done) | fail) ?_)
        | (refine DW.condF' rfl (by first | rfl | assumption | exact decide_eq_true (by first | assumption | omega) | exact decide_eq_false (by first | assumption | omega) | (simp only [*]; done) | fail) ?_)
        | (refine DW.exit ?_)
        | (refine DW.ret ?_)
        | fail)
    refine ⟨j + 1, by omega, by omega, Sub.of ⟨⟨_, rfl, Vs.pers rfl, Vs.own rfl rfl, Vs.own rfl rfl, trivial⟩, ⟨_, rfl, VsL.eq ?_ (persL_map (fun _ => rfl) _)⟩, ⟨_, rfl, trivial⟩, ⟨_, rfl, VsL.pers rfl⟩, trivial⟩ ⟨Vs.int (by simp), Vs.pers rfl, Vs.ref rfl, Vs.ref rfl, Vs.pers rfl, Vs.pers rfl, Vs.pers pcT, Vs.pers pcF, trivial⟩⟩
    simp [List.range_succ, boolD]
  obtain rfl : j = n := by omega
  clear hlt hj
  repeat (first
      | (refine DW.seq ?_)
      | (refine DW.block ?_)
      | (refine Thn.n ?_)
      | (refine Blk.n ?_)
      | (refine Blk.here ?_)
      | (refine Thn.e ?_)
      | (refine Blk.pass rfl ?_)
      | (refine Thn.r ?_)
      | (refine Blk.r ?_)
      | (refine DW.skip ?_)
      | (refine DW.label ?_)
      | (refine DW.regionC (id := 3) ?_; refine DC.tri (T.lss _ _ _ _) ⟨rfl, rfl, trivial⟩ trivial ?_ (.none rfl) rfl; refine DC.nilN (by first | (dsimp only [evalD, lkF, lkE, updF, Nat.beq, Nat.reduceBEq, cond_true, cond_false, List.cons_append, List.nil_append, List.append_nil, argF, Nat.reduceAdd, Nat.reduceMul, spliceD, List.take, List.drop, List.length, flats, Value.cells, List.map, List.set]; done) | exact rfl | fail) ?_)
      | (refine DW.regionC (id := 7) ?_; refine DC.tri (T.move _ _) ⟨rfl, trivial⟩ trivial ?_ (.none rfl) rfl; (first | refine DC.tri (T.lenSl 33 _ un33) ⟨rfl, trivial⟩ trivial ?_ (.none rfl) rfl | refine DC.tri (T.lenOwn 33 _ un33) ⟨rfl, trivial⟩ trivial ?_ (.none rfl) rfl | refine DC.tri (T.lenNil 33 _ un33) ⟨rfl, trivial⟩ trivial ?_ (.none rfl) rfl); refine DC.tri (T.move _ _) ⟨rfl, trivial⟩ trivial ?_ (.none rfl) rfl; refine DC.nilN (by first | (dsimp only [evalD, lkF, lkE, updF, Nat.beq, Nat.reduceBEq, cond_true, cond_false, List.cons_append, List.nil_append, List.append_nil, argF, Nat.reduceAdd, Nat.reduceMul, spliceD, List.take, List.drop, List.length, flats, Value.cells, List.map, List.set]; done) | exact rfl | fail) ?_)
      | (refine DW.condT' rfl (by first | rfl | assumption | exact decide_eq_true (by first | assumption | omega) | exact decide_eq_false (by first | assumption | omega) | (simp only [*]; done) | fail) ?_)
      | (refine DW.condF' rfl (by first | rfl | assumption | exact decide_eq_true (by first | assumption | omega) | exact decide_eq_false (by first | assumption | omega) | (simp only [*]; done) | fail) ?_)
      | (refine DW.exit ?_)
      | (refine DW.ret ?_)
      | fail)
  refine DW.loop (fun i : Nat => ⟨[(36, intD i), (35, intD rs.length), (34, intsD rs), (9, .ref 9 0), (8, .ref 8 0), (1, intD j), (2, .clo (.func kt) ft ct)], [(9, some (.box [intsD rs, .own 103 j, .own 104 i])), (103, some (.row 4 1 j (((List.range j).map Ff).map boolD))), (104, some (.row 22 1 i (((tablesOf j Tt rs).take i).map intsD))), (8, some (.box [.flat (.slice none 0 0), .flat (.slice none 0 0), .flat (.slice none 0 0)]))]⟩) (fun i => i ≤ rs.length) (fun i => rs.length - i) 0 (by omega)
    (Sub.of ⟨⟨_, rfl, Vs.pers rfl, Vs.own rfl rfl, Vs.own rfl rfl, trivial⟩, ⟨_, rfl, VsL.pers (persL_map (fun _ => rfl) _)⟩, ⟨_, rfl, trivial⟩, ⟨_, rfl, VsL.pers rfl⟩, trivial⟩ ⟨Vs.int (by simp), Vs.pers rfl, Vs.pers rfl, Vs.ref rfl, Vs.ref rfl, Vs.pers rfl, Vs.pers pcT, trivial⟩) ?_
  rintro i hi
  by_cases hlt : i < rs.length
  rotate_left
  · obtain rfl : i = rs.length := by omega
    repeat (first
        | (refine DW.seq ?_)
        | (refine DW.block ?_)
        | (refine Thn.n ?_)
        | (refine Blk.n ?_)
        | (refine Blk.here ?_)
        | (refine Thn.e ?_)
        | (refine Blk.pass rfl ?_)
        | (refine Thn.r ?_)
        | (refine Blk.r ?_)
        | (refine DW.skip ?_)
        | (refine DW.label ?_)
        | (refine DW.regionC (id := 8) ?_; refine DC.tri (T.lss _ _ _ _) ⟨rfl, rfl, trivial⟩ trivial ?_ (.none rfl) rfl; refine DC.nilN (by first | (dsimp only [evalD, lkF, lkE, updF, Nat.beq, Nat.reduceBEq, cond_true, cond_false, List.cons_append, List.nil_append, List.append_nil, argF, Nat.reduceAdd, Nat.reduceMul, spliceD, List.take, List.drop, List.length, flats, Value.cells, List.map, List.set]; done) | exact rfl | fail) ?_)
        | (refine DW.regionC (id := 23) ?_; (first | refine DC.tri (T.loadRef 35 _ ag35 sz35 (by first | rfl | assumption)) ⟨rfl, trivial⟩ ⟨rfl, trivial⟩ ?_ (.none rfl) rfl | refine DC.tri (T.loadPtr 35 _ ag35 sz35 (by first | rfl | assumption)) ⟨rfl, trivial⟩ trivial ?_ (.none rfl) rfl | refine DC.tri (T.loadElp 35 _ ag35 sz35 (by first | rfl | assumption)) ⟨rfl, trivial⟩ ⟨rfl, trivial⟩ ?_ (.none rfl) rfl); (first | refine DC.tri (T.storeRef 35 _ _ sz35 rfl rfl (by first | rfl | simp [oneL, oneD, Value.oneCell']) (by first | decide | (simp; done) | omega | (simp; omega))) ⟨rfl, rfl, trivial⟩ ⟨rfl, trivial⟩ ?_ (.none rfl) rfl | refine DC.tri (T.storeElp 35 _ _ sz35 rfl rfl rfl (by first | decide | (simp; done) | omega | (simp; omega))) ⟨rfl, rfl, trivial⟩ ⟨rfl, trivial⟩ ?_ (.none rfl) rfl); refine DC.nilN (by first | (dsimp only [evalD, lkF, lkE, updF, Nat.beq, Nat.reduceBEq, cond_true, cond_false, List.cons_append, List.nil_append, List.append_nil, argF, Nat.reduceAdd, Nat.reduceMul, spliceD, List.take, List.drop, List.length, flats, Value.cells, List.map, List.set]; done) | exact rfl | fail) ?_)
        | (refine DW.condT' rfl (by first | rfl | assumption | exact decide_eq_true (by first | assumption | omega) | exact decide_eq_false (by first | assumption | omega) | (simp only [*]; done) | fail) ?_)
        | (refine DW.condF' rfl (by first | rfl | assumption | exact decide_eq_true (by first | assumption | omega) | exact decide_eq_false (by first | assumption | omega) | (simp only [*]; done) | fail) ?_)
        | (refine DW.exit ?_)
        | (refine DW.ret ?_)
        | fail)
    refine ⟨.inr rfl, ResOk.cellA [(103, some (.row 4 1 j (((List.range j).map Ff).map boolD))), (104, some (.row 22 1 rs.length (((tablesOf j Tt rs).take rs.length).map intsD)))] rfl rfl rfl ag35 sz35 ⟨rfl, rfl, trivial⟩ (.cons (Vw.pers rfl) (.cons (Vw.own (.head _) (VwL.pers (persL_map (fun _ => rfl) _))) (.cons (Vw.own (.tail _ (.head _)) (VwL.pers (persL_map (fun _ => rfl) _))) .nil))) (Le.of_eq ?_)⟩
    have ht : (tablesOf j Tt rs).length = rs.length := by simp [tablesOf]
    rw [List.take_of_length_le (by omega)]
    simp [auD, madeA, boolsD, boolD, rowsD, ht]
  obtain ⟨k0, hk0⟩ : ∃ k0, rs[i]? = some k0 := ⟨rs[i], by simp⟩
  have hkr := hr k0 (List.mem_of_getElem? hk0)
  obtain ⟨k, rfl⟩ : ∃ k : Nat, k0 = (k : Int) := ⟨k0.toNat, by omega⟩
  have hk2 : k ≤ 2 := by omega
  have hpt := part_map (f := fun x => D.flat (.int .i64 x)) hk0
  have hwb := wideN_le (k := (k : Int)) (n := j) (by omega) hn
  have hrow : tableOf j Tt i (k : Int) = (List.range (wideN (k : Int) j)).map fun p => Tt i (digs j k p) := by simp [tableOf]
  repeat (first
      | (refine DW.seq ?_)
      | (refine DW.block ?_)
      | (refine Thn.n ?_)
      | (refine Blk.n ?_)
      | (refine Blk.here ?_)
      | (refine Thn.e ?_)
      | (refine Blk.pass rfl ?_)
      | (refine Thn.r ?_)
      | (refine Blk.r ?_)
      | (refine DW.skip ?_)
      | (refine DW.label ?_)
      | (refine DW.regionC (id := 8) ?_; refine DC.tri (T.lss _ _ _ _) ⟨rfl, rfl, trivial⟩ trivial ?_ (.none rfl) rfl; refine DC.nilN (by first | (dsimp only [evalD, lkF, lkE, updF, Nat.beq, Nat.reduceBEq, cond_true, cond_false, List.cons_append, List.nil_append, List.append_nil, argF, Nat.reduceAdd, Nat.reduceMul, spliceD, List.take, List.drop, List.length, flats, Value.cells, List.map, List.set]; done) | exact rfl | fail) ?_)
      | (refine DW.regionC (id := 9) ?_; refine DC.tri (T.move _ _) ⟨rfl, trivial⟩ trivial ?_ (.none rfl) rfl; (first | refine DC.tri (T.indexSl 33 _ _ un33 sz3 (by omega) (by omega) (by decide)) ⟨rfl, rfl, trivial⟩ trivial ?_ (.none rfl) rfl | refine DC.tri (T.indexOwn 33 _ _ un33 sz3 (by omega) (by omega)) ⟨rfl, rfl, trivial⟩ ⟨rfl, trivial⟩ ?_ (.none rfl) rfl); (first | refine DC.tri (T.loadRef 3 _ ag3 sz3 (by first | rfl | assumption)) ⟨rfl, trivial⟩ ⟨rfl, trivial⟩ ?_ (.none rfl) rfl | refine DC.tri (T.loadPtr 3 _ ag3 sz3 (by first | rfl | assumption)) ⟨rfl, trivial⟩ trivial ?_ (.none rfl) rfl | refine DC.tri (T.loadElp 3 _ ag3 sz3 (by first | rfl | assumption)) ⟨rfl, trivial⟩ ⟨rfl, trivial⟩ ?_ (.none rfl) rfl); refine DC.tri (T.assign _ _) ⟨rfl, trivial⟩ trivial ?_ (.none rfl) rfl; refine DC.tri (T.assign _ _) ⟨rfl, trivial⟩ trivial ?_ (.none rfl) rfl; refine DC.nilN (by first | (dsimp only [evalD, lkF, lkE, updF, Nat.beq, Nat.reduceBEq, cond_true, cond_false, List.cons_append, List.nil_append, List.append_nil, argF, Nat.reduceAdd, Nat.reduceMul, spliceD, List.take, List.drop, List.length, flats, Value.cells, List.map, List.set]; done) | exact rfl | fail) ?_)
      | (refine DW.regionC (id := 10) ?_; refine DC.tri (T.assign _ _) ⟨rfl, trivial⟩ trivial ?_ (.none rfl) rfl; refine DC.nilN (by first | (dsimp only [evalD, lkF, lkE, updF, Nat.beq, Nat.reduceBEq, cond_true, cond_false, List.cons_append, List.nil_append, List.append_nil, argF, Nat.reduceAdd, Nat.reduceMul, spliceD, List.take, List.drop, List.length, flats, Value.cells, List.map, List.set]; done) | exact rfl | fail) ?_)
      | (refine DW.regionC (id := 11) ?_; refine DC.tri (T.move _ _) ⟨rfl, trivial⟩ trivial ?_ (.none rfl) rfl; refine DC.tri (T.move _ _) ⟨rfl, trivial⟩ trivial ?_ (.none rfl) rfl; refine DC.tri (T.call («as» := [_, _]) (ds' := [_, _]) ent46 (wide_d k j hk2 hn) rfl rfl (LeL.refl _)) ⟨rfl, rfl, trivial⟩ trivial ?_ (.none rfl) rfl; refine DC.tri (T.move _ _) ⟨rfl, trivial⟩ trivial ?_ (.none rfl) rfl; refine DC.nilN (by first | (dsimp only [evalD, lkF, lkE, updF, Nat.beq, Nat.reduceBEq, cond_true, cond_false, List.cons_append, List.nil_append, List.append_nil, argF, Nat.reduceAdd, Nat.reduceMul, spliceD, List.take, List.drop, List.length, flats, Value.cells, List.map, List.set]; done) | exact rfl | fail) ?_)
      | (refine DW.condT' rfl (by first | rfl | assumption | exact decide_eq_true (by first | assumption | omega) | exact decide_eq_false (by first | assumption | omega) | (simp only [*]; done) | fail) ?_)
      | (refine DW.condF' rfl (by first | rfl | assumption | exact decide_eq_true (by first | assumption | omega) | exact decide_eq_false (by first | assumption | omega) | (simp only [*]; done) | fail) ?_)
      | (refine DW.exit ?_)
      | (refine DW.ret ?_)
      | fail)
  refine DW.adopt 13 105 3 1 rfl rfl ?_
  generalize hwd : wideN (k : Int) j = wd at *
  refine DW.loop (fun p : Nat => ⟨[(44, intD p), (43, intD wd), (13, .own 105 p), (12, intD k), (11, intD i), (36, intD i), (35, intD rs.length), (34, intsD rs), (9, .ref 9 0), (8, .ref 8 0), (1, intD j), (2, .clo (.func kt) ft ct)], [(105, some (.row 3 1 p (((List.range p).map fun q => Tt i (digs j k q)).map fun x => .flat (.int .i64 x)))), (9, some (.box [intsD rs, .own 103 j, .own 104 i])), (103, some (.row 4 1 j (((List.range j).map Ff).map boolD))), (104, some (.row 22 1 i (((tablesOf j Tt rs).take i).map intsD))), (8, some (.box [.flat (.slice none 0 0), .flat (.slice none 0 0), .flat (.slice none 0 0)]))]⟩) (fun p => p ≤ wd) (fun p => wd - p) 0 (by omega)
    (Sub.of ⟨⟨_, rfl, trivial⟩, ⟨_, rfl, Vs.pers rfl, Vs.own rfl rfl, Vs.own rfl rfl, trivial⟩, ⟨_, rfl, VsL.pers (persL_map (fun _ => rfl) _)⟩, ⟨_, rfl, VsL.pers (persL_map (fun _ => rfl) _)⟩, ⟨_, rfl, VsL.pers rfl⟩, trivial⟩ ⟨Vs.int (by simp), Vs.pers rfl, Vs.own rfl rfl, Vs.int (by simp), Vs.int (by simp), Vs.pers rfl, Vs.pers rfl, Vs.pers rfl, Vs.ref rfl, Vs.ref rfl, Vs.pers rfl, Vs.pers pcT, trivial⟩) ?_
  rintro p hp0
  by_cases hp : p < wd
  rotate_left
  · obtain rfl : p = wd := by omega
    repeat (first
        | (refine DW.seq ?_)
        | (refine DW.block ?_)
        | (refine Thn.n ?_)
        | (refine Blk.n ?_)
        | (refine Blk.here ?_)
        | (refine Thn.e ?_)
        | (refine Blk.pass rfl ?_)
        | (refine Thn.r ?_)
        | (refine Blk.r ?_)
        | (refine DW.skip ?_)
        | (refine DW.label ?_)
        | (refine DW.regionC (id := 12) ?_; refine DC.tri (T.lss _ _ _ _) ⟨rfl, rfl, trivial⟩ trivial ?_ (.none rfl) rfl; refine DC.nilN (by first | (dsimp only [evalD, lkF, lkE, updF, Nat.beq, Nat.reduceBEq, cond_true, cond_false, List.cons_append, List.nil_append, List.append_nil, argF, Nat.reduceAdd, Nat.reduceMul, spliceD, List.take, List.drop, List.length, flats, Value.cells, List.map, List.set]; done) | exact rfl | fail) ?_)
        | (refine DW.condT' rfl (by first | rfl | assumption | exact decide_eq_true (by first | assumption | omega) | exact decide_eq_false (by first | assumption | omega) | (simp only [*]; done) | fail) ?_)
        | (refine DW.condF' rfl (by first | rfl | assumption | exact decide_eq_true (by first | assumption | omega) | exact decide_eq_false (by first | assumption | omega) | (simp only [*]; done) | fail) ?_)
        | (refine DW.exit ?_)
        | (refine DW.ret ?_)
        | fail)
    refine DW.sub (Sub.of (σ' := [(9, some (.box [intsD rs, .own 103 j, .own 104 i])), (103, some (.row 4 1 j (((List.range j).map Ff).map boolD))), (104, some (.row 22 1 i (((tablesOf j Tt rs).take i).map intsD))), (8, some (.box [.flat (.slice none 0 0), .flat (.slice none 0 0), .flat (.slice none 0 0)]))]) (f' := [(13, intsD (tableOf j Tt i k)), (36, intD i), (35, intD rs.length), (34, intsD rs), (9, .ref 9 0), (8, .ref 8 0), (1, intD j), (2, .clo (.func kt) ft ct)])
      ⟨⟨_, rfl, Vs.pers rfl, Vs.own rfl rfl, Vs.own rfl rfl, trivial⟩, ⟨_, rfl, VsL.pers (persL_map (fun _ => rfl) _)⟩, ⟨_, rfl, VsL.pers (persL_map (fun _ => rfl) _)⟩, ⟨_, rfl, VsL.pers rfl⟩, trivial⟩ ⟨Vs.shut (pe := [(105, some (.row 3 1 p (((List.range p).map fun q => Tt i (digs j k q)).map fun x => .flat (.int .i64 x))))]) ⟨rfl, trivial⟩ (Vw.le (Vw.own (.head _) (VwL.pers (persL_map (fun _ => rfl) _))) (Le.of_eq (by simp [intsD, hrow]))) (fun id h => by simp only [keys, List.map_cons, List.map_nil, List.mem_singleton] at h; subst h; rfl), Vs.pers rfl, Vs.pers rfl, Vs.pers rfl, Vs.ref rfl, Vs.ref rfl, Vs.pers rfl, Vs.pers pcT, trivial⟩) ?_
    repeat (first
        | (refine DW.seq ?_)
        | (refine DW.block ?_)
        | (refine Thn.n ?_)
        | (refine Blk.n ?_)
        | (refine Blk.here ?_)
        | (refine Thn.e ?_)
        | (refine Blk.pass rfl ?_)
        | (refine Thn.r ?_)
        | (refine Blk.r ?_)
        | (refine DW.skip ?_)
        | (refine DW.label ?_)
        | (refine DW.regionC (id := 21) ?_; (first | refine DC.tri (T.fieldRef' 35 _ 2 fd35_2 (by decide)) ⟨rfl, trivial⟩ trivial ?_ (.none rfl) rfl | refine DC.tri (T.fieldPtr' 35 _ 2 fd35_2 (by decide)) ⟨rfl, trivial⟩ trivial ?_ (.none rfl) rfl); (first | refine DC.tri (T.loadRef 24 _ ag24 sz24 (by first | rfl | assumption)) ⟨rfl, trivial⟩ ⟨rfl, trivial⟩ ?_ (.none rfl) rfl | refine DC.tri (T.loadPtr 24 _ ag24 sz24 (by first | rfl | assumption)) ⟨rfl, trivial⟩ trivial ?_ (.none rfl) rfl | refine DC.tri (T.loadElp 24 _ ag24 sz24 (by first | rfl | assumption)) ⟨rfl, trivial⟩ ⟨rfl, trivial⟩ ?_ (.none rfl) rfl); refine DC.tri (T.move _ _) ⟨rfl, trivial⟩ trivial ?_ (.none rfl) rfl; refine DC.tri (T.buildSl1 24 _ un24 ze22 sz22 rfl rfl (by decide) rfl) ⟨rfl, trivial⟩ trivial ?_ (.none rfl) rfl; refine DC.tri (T.append 24 _ _ un24 nf22 rfl (by decide) (by decide) (by first | rfl | assumption | exact oneL_map (fun _ => rfl) _) (by omega)) ⟨rfl, rfl, trivial⟩ ⟨rfl, trivial⟩ ?_ (.none rfl) rfl; (first | refine DC.tri (T.fieldRef' 35 _ 2 fd35_2 (by decide)) ⟨rfl, trivial⟩ trivial ?_ (.none rfl) rfl | refine DC.tri (T.fieldPtr' 35 _ 2 fd35_2 (by decide)) ⟨rfl, trivial⟩ trivial ?_ (.none rfl) rfl); (first | refine DC.tri (T.storeRef 24 _ _ sz24 rfl rfl (by first | rfl | simp [oneL, oneD, Value.oneCell']) (by first | decide | (simp; done) | omega | (simp; omega))) ⟨rfl, rfl, trivial⟩ ⟨rfl, trivial⟩ ?_ (.none rfl) rfl | refine DC.tri (T.storeElp 24 _ _ sz24 rfl rfl rfl (by first | decide | (simp; done) | omega | (simp; omega))) ⟨rfl, rfl, trivial⟩ ⟨rfl, trivial⟩ ?_ (.none rfl) rfl); refine DC.nilN (by first | (dsimp only [evalD, lkF, lkE, updF, Nat.beq, Nat.reduceBEq, cond_true, cond_false, List.cons_append, List.nil_append, List.append_nil, argF, Nat.reduceAdd, Nat.reduceMul, spliceD, List.take, List.drop, List.length, flats, Value.cells, List.map, List.set]; done) | exact rfl | fail) ?_)
        | (refine DW.regionC (id := 22) ?_; (first | refine DC.tri (T.add (k := .i64) _ _ _ _ (w64 (by omega) (by omega))) ⟨rfl, rfl, trivial⟩ trivial ?_ (.none rfl) rfl | refine DC.tri (T.add (k := .i64) _ _ _ _ (by assumption)) ⟨rfl, rfl, trivial⟩ trivial ?_ (.none rfl) rfl); refine DC.tri (T.move _ _) ⟨rfl, trivial⟩ trivial ?_ (.none rfl) rfl; refine DC.nilN (by first | (dsimp only [evalD, lkF, lkE, updF, Nat.beq, Nat.reduceBEq, cond_true, cond_false, List.cons_append, List.nil_append, List.append_nil, argF, Nat.reduceAdd, Nat.reduceMul, spliceD, List.take, List.drop, List.length, flats, Value.cells, List.map, List.set]; done) | exact rfl | fail) ?_)
        | (refine DW.condT' rfl (by first | rfl | assumption | exact decide_eq_true (by first | assumption | omega) | exact decide_eq_false (by first | assumption | omega) | (simp only [*]; done) | fail) ?_)
        | (refine DW.condF' rfl (by first | rfl | assumption | exact decide_eq_true (by first | assumption | omega) | exact decide_eq_false (by first | assumption | omega) | (simp only [*]; done) | fail) ?_)
        | (refine DW.exit ?_)
        | (refine DW.ret ?_)
        | fail)
    refine ⟨i + 1, by omega, by omega, Sub.of ⟨⟨_, rfl, Vs.pers rfl, Vs.own rfl rfl, Vs.own rfl rfl, trivial⟩, ⟨_, rfl, VsL.pers (persL_map (fun _ => rfl) _)⟩, ⟨_, rfl, VsL.eq ?_ (persL_map (fun _ => rfl) _)⟩, ⟨_, rfl, VsL.pers rfl⟩, trivial⟩ ⟨Vs.int (by simp), Vs.pers rfl, Vs.pers rfl, Vs.ref rfl, Vs.ref rfl, Vs.pers rfl, Vs.pers pcT, trivial⟩⟩
    rw [List.take_add_one, tables_get hk0]; simp; rfl
  repeat (first
      | (refine DW.seq ?_)
      | (refine DW.block ?_)
      | (refine Thn.n ?_)
      | (refine Blk.n ?_)
      | (refine Blk.here ?_)
      | (refine Thn.e ?_)
      | (refine Blk.pass rfl ?_)
      | (refine Thn.r ?_)
      | (refine Blk.r ?_)
      | (refine DW.skip ?_)
      | (refine DW.label ?_)
      | (refine DW.regionC (id := 12) ?_; refine DC.tri (T.lss _ _ _ _) ⟨rfl, rfl, trivial⟩ trivial ?_ (.none rfl) rfl; refine DC.nilN (by first | (dsimp only [evalD, lkF, lkE, updF, Nat.beq, Nat.reduceBEq, cond_true, cond_false, List.cons_append, List.nil_append, List.append_nil, argF, Nat.reduceAdd, Nat.reduceMul, spliceD, List.take, List.drop, List.length, flats, Value.cells, List.map, List.set]; done) | exact rfl | fail) ?_)
      | (refine DW.regionC (id := 13) ?_; refine DC.tri (T.move _ _) ⟨rfl, trivial⟩ trivial ?_ (.none rfl) rfl; refine DC.tri (T.assign _ _) ⟨rfl, trivial⟩ trivial ?_ (.none rfl) rfl; refine DC.nilN (by first | (dsimp only [evalD, lkF, lkE, updF, Nat.beq, Nat.reduceBEq, cond_true, cond_false, List.cons_append, List.nil_append, List.append_nil, argF, Nat.reduceAdd, Nat.reduceMul, spliceD, List.take, List.drop, List.length, flats, Value.cells, List.map, List.set]; done) | exact rfl | fail) ?_)
      | (refine DW.regionC (id := 14) ?_; refine DC.tri (T.move _ _) ⟨rfl, trivial⟩ trivial ?_ (.none rfl) rfl; refine DC.tri (T.makeSl 48 22 _ _ un22 nf3 rfl (by omega) (by unfold maxLen; omega)) ⟨rfl, rfl, trivial⟩ ⟨rfl, trivial⟩ ?_ (.none rfl) rfl; refine DC.tri (T.assign _ _) ⟨rfl, trivial⟩ trivial ?_ (.none rfl) rfl; refine DC.nilN (by first | (dsimp only [evalD, lkF, lkE, updF, Nat.beq, Nat.reduceBEq, cond_true, cond_false, List.cons_append, List.nil_append, List.append_nil, argF, Nat.reduceAdd, Nat.reduceMul, spliceD, List.take, List.drop, List.length, flats, Value.cells, List.map, List.set]; done) | exact rfl | fail) ?_)
      | (refine DW.regionC (id := 15) ?_; refine DC.tri (T.move _ _) ⟨rfl, trivial⟩ trivial ?_ (.none rfl) rfl; (first | refine DC.tri (T.sub (k := .i64) _ _ _ _ (w64 (by omega) (by omega))) ⟨rfl, rfl, trivial⟩ trivial ?_ (.none rfl) rfl | refine DC.tri (T.sub (k := .i64) _ _ _ _ (by assumption)) ⟨rfl, rfl, trivial⟩ trivial ?_ (.none rfl) rfl); refine DC.tri (T.move _ _) ⟨rfl, trivial⟩ trivial ?_ (.none rfl) rfl; refine DC.tri (T.assign _ _) ⟨rfl, trivial⟩ trivial ?_ (.none rfl) rfl; refine DC.tri (T.assign _ _) ⟨rfl, trivial⟩ trivial ?_ (.none rfl) rfl; refine DC.nilN (by first | (dsimp only [evalD, lkF, lkE, updF, Nat.beq, Nat.reduceBEq, cond_true, cond_false, List.cons_append, List.nil_append, List.append_nil, argF, Nat.reduceAdd, Nat.reduceMul, spliceD, List.take, List.drop, List.length, flats, Value.cells, List.map, List.set]; done) | exact rfl | fail) ?_)
      | (refine DW.condT' rfl (by first | rfl | assumption | exact decide_eq_true (by first | assumption | omega) | exact decide_eq_false (by first | assumption | omega) | (simp only [*]; done) | fail) ?_)
      | (refine DW.condF' rfl (by first | rfl | assumption | exact decide_eq_true (by first | assumption | omega) | exact decide_eq_false (by first | assumption | omega) | (simp only [*]; done) | fail) ?_)
      | (refine DW.exit ?_)
      | (refine DW.ret ?_)
      | fail)
  refine DW.loop (fun q : Nat => ⟨[(17, intD (p / j ^ q : Nat)), (16, intD ((k : Int) - 1 - q)), (15, .own 48 k), (14, intD p), (44, intD p), (43, intD wd), (13, .own 105 p), (12, intD k), (11, intD i), (36, intD i), (35, intD rs.length), (34, intsD rs), (9, .ref 9 0), (8, .ref 8 0), (1, intD j), (2, .clo (.func kt) ft ct)], [(48, some (.row 3 1 k (List.replicate (k - q) (.flat (.int .i64 0)) ++ (digs j q p).map fun x => .flat (.int .i64 x)))), (105, some (.row 3 1 p (((List.range p).map fun q => Tt i (digs j k q)).map fun x => .flat (.int .i64 x)))), (9, some (.box [intsD rs, .own 103 j, .own 104 i])), (103, some (.row 4 1 j (((List.range j).map Ff).map boolD))), (104, some (.row 22 1 i (((tablesOf j Tt rs).take i).map intsD))), (8, some (.box [.flat (.slice none 0 0), .flat (.slice none 0 0), .flat (.slice none 0 0)]))]⟩) (fun q => q ≤ k) (fun q => k - q) 0 (by omega)
    (Sub.of ⟨⟨_, rfl, VsL.eq (by simp [digs]) (persL_append (persL_rep rfl) (persL_map (fun _ => rfl) _))⟩, ⟨_, rfl, VsL.pers (persL_map (fun _ => rfl) _)⟩, ⟨_, rfl, Vs.pers rfl, Vs.own rfl rfl, Vs.own rfl rfl, trivial⟩, ⟨_, rfl, VsL.pers (persL_map (fun _ => rfl) _)⟩, ⟨_, rfl, VsL.pers (persL_map (fun _ => rfl) _)⟩, ⟨_, rfl, VsL.pers rfl⟩, trivial⟩ ⟨Vs.int (by simp), Vs.int (by simp), Vs.own rfl rfl, Vs.pers rfl, Vs.pers rfl, Vs.pers rfl, Vs.own rfl rfl, Vs.pers rfl, Vs.pers rfl, Vs.pers rfl, Vs.pers rfl, Vs.pers rfl, Vs.ref rfl, Vs.ref rfl, Vs.pers rfl, Vs.pers pcT, trivial⟩) ?_
  rintro q hq
  have hpq : p / j ^ q ≤ 262144 := Nat.le_trans (Nat.div_le_self _ _) (by omega)
  by_cases hqk : q < k
  rotate_left
  · obtain rfl : q = k := by omega
    simp only [Nat.sub_self, List.replicate_zero, List.nil_append]
    repeat (first
        | (refine DW.seq ?_)
        | (refine DW.block ?_)
        | (refine Thn.n ?_)
        | (refine Blk.n ?_)
        | (refine Blk.here ?_)
        | (refine Thn.e ?_)
        | (refine Blk.pass rfl ?_)
        | (refine Thn.r ?_)
        | (refine Blk.r ?_)
        | (refine DW.skip ?_)
        | (refine DW.label ?_)
        | (refine DW.regionC (id := 16) ?_; refine DC.tri (T.move _ _) ⟨rfl, trivial⟩ trivial ?_ (.none rfl) rfl; refine DC.tri (T.geq _ _ _ _) ⟨rfl, rfl, trivial⟩ trivial ?_ (.none rfl) rfl; refine DC.nilN (by first | (dsimp only [evalD, lkF, lkE, updF, Nat.beq, Nat.reduceBEq, cond_true, cond_false, List.cons_append, List.nil_append, List.append_nil, argF, Nat.reduceAdd, Nat.reduceMul, spliceD, List.take, List.drop, List.length, flats, Value.cells, List.map, List.set]; done) | exact rfl | fail) ?_)
        | (refine DW.regionC (id := 19) ?_; refine DC.tri (T.move _ _) ⟨rfl, trivial⟩ trivial ?_ (.none rfl) rfl; refine DC.tri (T.move _ _) ⟨rfl, trivial⟩ trivial ?_ (.none rfl) rfl; refine DC.tri (T.move _ _) ⟨rfl, trivial⟩ trivial ?_ (.none rfl) rfl; refine DC.tri (T.move _ _) ⟨rfl, trivial⟩ trivial ?_ (.none rfl) rfl; refine DC.tri (T.callC (k := kt) («as» := [_, _]) (ds' := [_, _]) (first := ft) (cap := ct) [(48, some (.row 3 1 q ((digs j q p).map fun x => .flat (.int .i64 x))))] hkT (hT i q p hk0 (by rw [hwd]; exact hp)) rfl (hvT i (digs j q p) q _ (digs_len j q p)) rfl) ⟨rfl, rfl, rfl, trivial⟩ ⟨rfl, trivial⟩ ?_ (.none rfl) rfl; refine DC.tri (T.buildSl1 22 _ un22 ze3 sz3 rfl rfl (by decide) rfl) ⟨rfl, trivial⟩ trivial ?_ (.none rfl) rfl; refine DC.tri (T.append 22 _ _ un22 nf3 rfl (by decide) (by decide) (by first | rfl | assumption | exact oneL_map (fun _ => rfl) _) (by omega)) ⟨rfl, rfl, trivial⟩ ⟨rfl, trivial⟩ ?_ (.none rfl) rfl; refine DC.tri (T.assign _ _) ⟨rfl, trivial⟩ trivial ?_ (.none rfl) rfl; refine DC.nilN (by first | (dsimp only [evalD, lkF, lkE, updF, Nat.beq, Nat.reduceBEq, cond_true, cond_false, List.cons_append, List.nil_append, List.append_nil, argF, Nat.reduceAdd, Nat.reduceMul, spliceD, List.take, List.drop, List.length, flats, Value.cells, List.map, List.set]; done) | exact rfl | fail) ?_)
        | (refine DW.regionC (id := 20) ?_; (first | refine DC.tri (T.add (k := .i64) _ _ _ _ (w64 (by omega) (by omega))) ⟨rfl, rfl, trivial⟩ trivial ?_ (.none rfl) rfl | refine DC.tri (T.add (k := .i64) _ _ _ _ (by assumption)) ⟨rfl, rfl, trivial⟩ trivial ?_ (.none rfl) rfl); refine DC.tri (T.move _ _) ⟨rfl, trivial⟩ trivial ?_ (.none rfl) rfl; refine DC.nilN (by first | (dsimp only [evalD, lkF, lkE, updF, Nat.beq, Nat.reduceBEq, cond_true, cond_false, List.cons_append, List.nil_append, List.append_nil, argF, Nat.reduceAdd, Nat.reduceMul, spliceD, List.take, List.drop, List.length, flats, Value.cells, List.map, List.set]; done) | exact rfl | fail) ?_)
        | (refine DW.condT' rfl (by first | rfl | assumption | exact decide_eq_true (by first | assumption | omega) | exact decide_eq_false (by first | assumption | omega) | (simp only [*]; done) | fail) ?_)
        | (refine DW.condF' rfl (by first | rfl | assumption | exact decide_eq_true (by first | assumption | omega) | exact decide_eq_false (by first | assumption | omega) | (simp only [*]; done) | fail) ?_)
        | (refine DW.exit ?_)
        | (refine DW.ret ?_)
        | fail)
    refine ⟨p + 1, by omega, by omega, Sub.of ⟨⟨_, rfl, VsL.eq ?_ (persL_map (fun _ => rfl) _)⟩, ⟨_, rfl, Vs.pers rfl, Vs.own rfl rfl, Vs.own rfl rfl, trivial⟩, ⟨_, rfl, VsL.pers (persL_map (fun _ => rfl) _)⟩, ⟨_, rfl, VsL.pers (persL_map (fun _ => rfl) _)⟩, ⟨_, rfl, VsL.pers rfl⟩, trivial⟩ ⟨Vs.int (by simp), Vs.pers rfl, Vs.own rfl rfl, Vs.pers rfl, Vs.pers rfl, Vs.pers rfl, Vs.pers rfl, Vs.pers rfl, Vs.ref rfl, Vs.ref rfl, Vs.pers rfl, Vs.pers pcT, trivial⟩⟩
    simp [List.range_succ, intD]
  have hdd : p / j ^ (q + 1) = p / j ^ q / j := by rw [Nat.pow_succ, Nat.div_div_eq_div_mul]
  have hdc := digs_cons j q p
  have hst := set_dig (k - q - 1) (.flat (.int .i64 ((p / j ^ q % j : Nat) : Int))) (.flat (.int .i64 0)) ((digs j q p).map fun x => .flat (.int .i64 x))
  rw [show k - q - 1 + 1 = k - q by omega] at hst
  generalize p / j ^ q = pq at *
  have hdl := digs_len j q p
  repeat (first
      | (refine DW.seq ?_)
      | (refine DW.block ?_)
      | (refine Thn.n ?_)
      | (refine Blk.n ?_)
      | (refine Blk.here ?_)
      | (refine Thn.e ?_)
      | (refine Blk.pass rfl ?_)
      | (refine Thn.r ?_)
      | (refine Blk.r ?_)
      | (refine DW.skip ?_)
      | (refine DW.label ?_)
      | (refine DW.regionC (id := 16) ?_; refine DC.tri (T.move _ _) ⟨rfl, trivial⟩ trivial ?_ (.none rfl) rfl; refine DC.tri (T.geq _ _ _ _) ⟨rfl, rfl, trivial⟩ trivial ?_ (.none rfl) rfl; refine DC.nilN (by first | (dsimp only [evalD, lkF, lkE, updF, Nat.beq, Nat.reduceBEq, cond_true, cond_false, List.cons_append, List.nil_append, List.append_nil, argF, Nat.reduceAdd, Nat.reduceMul, spliceD, List.take, List.drop, List.length, flats, Value.cells, List.map, List.set]; done) | exact rfl | fail) ?_)
      | (refine DW.drawnC (id := 17) rfl (by kernel_rfl) ?_; refine DC.tri (T.move _ _) ⟨rfl, trivial⟩ trivial ?_ (.none rfl) rfl; (first | refine DC.tri (T.sub (k := .i64) _ _ _ _ (w64 (by omega) (by omega))) ⟨rfl, rfl, trivial⟩ trivial ?_ (.none rfl) rfl | refine DC.tri (T.sub (k := .i64) _ _ _ _ (by assumption)) ⟨rfl, rfl, trivial⟩ trivial ?_ (.none rfl) rfl); refine DC.tri (T.move _ _) ⟨rfl, trivial⟩ trivial ?_ (.none rfl) rfl; refine DC.tri (T.move _ _) ⟨rfl, trivial⟩ trivial ?_ (.none rfl) rfl; refine DC.tri (T.quo (k := .i64) _ _ _ _ (by omega) (quo64 (by omega) (by omega) (by omega))) ⟨rfl, rfl, trivial⟩ trivial ?_ (.none rfl) rfl; refine DC.tri (T.assign _ _) ⟨rfl, trivial⟩ trivial ?_ (.none rfl) rfl; refine DC.tri (T.assign _ _) ⟨rfl, trivial⟩ trivial ?_ (.none rfl) rfl; refine DC.nilN (by first | (dsimp only [evalD, lkF, lkE, updF, Nat.beq, Nat.reduceBEq, cond_true, cond_false, List.cons_append, List.nil_append, List.append_nil, argF, Nat.reduceAdd, Nat.reduceMul, spliceD, List.take, List.drop, List.length, flats, Value.cells, List.map, List.set]; done) | exact rfl | fail) ?_; refine ⟨by kernel_rfl, ?_⟩)
      | (refine DW.regionC (id := 18) ?_; refine DC.tri (T.move _ _) ⟨rfl, trivial⟩ trivial ?_ (.none rfl) rfl; refine DC.tri (T.move _ _) ⟨rfl, trivial⟩ trivial ?_ (.none rfl) rfl; refine DC.tri (T.move _ _) ⟨rfl, trivial⟩ trivial ?_ (.none rfl) rfl; refine DC.tri (T.move _ _) ⟨rfl, trivial⟩ trivial ?_ (.none rfl) rfl; refine DC.tri (T.rem (k := .i64) _ _ _ _ (by omega) (rem64 (by omega))) ⟨rfl, rfl, trivial⟩ trivial ?_ (.none rfl) rfl; (first | refine DC.tri (T.indexSl 22 _ _ un22 sz3 (by omega) (by omega) (by decide)) ⟨rfl, rfl, trivial⟩ trivial ?_ (.none rfl) rfl | refine DC.tri (T.indexOwn 22 _ _ un22 sz3 (by omega) (by omega)) ⟨rfl, rfl, trivial⟩ ⟨rfl, trivial⟩ ?_ (.none rfl) rfl); (first | refine DC.tri (T.storeRef 3 _ _ sz3 rfl rfl (by first | rfl | simp [oneL, oneD, Value.oneCell']) (by first | decide | (simp; done) | omega | (simp; omega))) ⟨rfl, rfl, trivial⟩ ⟨rfl, trivial⟩ ?_ (.none rfl) rfl | refine DC.tri (T.storeElp 3 _ _ sz3 rfl rfl rfl (by first | decide | (simp; done) | omega | (simp; omega))) ⟨rfl, rfl, trivial⟩ ⟨rfl, trivial⟩ ?_ (.none rfl) rfl); refine DC.nilN (by first | (dsimp only [evalD, lkF, lkE, updF, Nat.beq, Nat.reduceBEq, cond_true, cond_false, List.cons_append, List.nil_append, List.append_nil, argF, Nat.reduceAdd, Nat.reduceMul, spliceD, List.take, List.drop, List.length, flats, Value.cells, List.map, List.set]; done) | exact rfl | fail) ?_)
      | (refine DW.condT' rfl (by first | rfl | assumption | exact decide_eq_true (by first | assumption | omega) | exact decide_eq_false (by first | assumption | omega) | (simp only [*]; done) | fail) ?_)
      | (refine DW.condF' rfl (by first | rfl | assumption | exact decide_eq_true (by first | assumption | omega) | exact decide_eq_false (by first | assumption | omega) | (simp only [*]; done) | fail) ?_)
      | (refine DW.exit ?_)
      | (refine DW.ret ?_)
      | fail)
  refine ⟨q + 1, by omega, by omega, Sub.of ⟨⟨_, rfl, VsL.eq ?_ (persL_append (persL_rep rfl) (persL_map (fun _ => rfl) _))⟩, ⟨_, rfl, VsL.pers (persL_map (fun _ => rfl) _)⟩, ⟨_, rfl, Vs.pers rfl, Vs.own rfl rfl, Vs.own rfl rfl, trivial⟩, ⟨_, rfl, VsL.pers (persL_map (fun _ => rfl) _)⟩, ⟨_, rfl, VsL.pers (persL_map (fun _ => rfl) _)⟩, ⟨_, rfl, VsL.pers rfl⟩, trivial⟩ ⟨Vs.int ?_, Vs.int (by omega), Vs.own rfl rfl, Vs.pers rfl, Vs.pers rfl, Vs.pers rfl, Vs.own rfl rfl, Vs.pers rfl, Vs.pers rfl, Vs.pers rfl, Vs.pers rfl, Vs.pers rfl, Vs.ref rfl, Vs.ref rfl, Vs.pers rfl, Vs.pers pcT, trivial⟩⟩
  · have e1 : (((k : Int) - 1 - (q : Int)).toNat * 1) = k - q - 1 := by omega
    rw [show k - (q + 1) = k - q - 1 by omega, hdc, List.map_cons, ← hst, e1]
    unfold spliceD
    simp
  · rw [hdd]; simp
end Go.Proofs.Ytdakoccbmeojhaa
