/- Contracts over data: Complement, Product. No condition. -/
import Derived.Test.YtdakoccbmeojhaaNe
set_option linter.unusedSimpArgs false
set_option linter.unusedVariables false
set_option maxHeartbeats 1000000
set_option maxRecDepth 8000
namespace Go.Proofs.Ytdakoccbmeojhaa
open Go Go.RowKit Go.PP Go.Dm

theorem ent67 : Enters Try.prog 67 := fun args w => by go_simp
theorem ent33 : Enters Try.prog 33 := fun args w => by go_simp
theorem ent64 : Enters Try.prog 64 := fun args w => by go_simp
theorem ent65 : Enters Try.prog 65 := fun args w => by go_simp
theorem ent31 : Enters Try.prog 31 := fun args w => by go_simp
theorem ent20 : Enters Try.prog 20 := fun args w => by go_simp
theorem ent54 : Enters Try.prog 54 := fun args w => by go_simp

def auC (A : Au) : List D := [intsD A.ranks, boolsD A.final, rowsD A.to]
theorem comp1_d (A : Au) (s : Nat) (hs : s < A.final.length) (hl : A.final.length ≤ 512) : DFun Try.prog 67 [intD s, .ptr (auC A) 0] (boolD (!(A.final.getD s false))) := by
  obtain ⟨b, hb⟩ : ∃ b, A.final[s]? = some b := ⟨A.final[s], by simp⟩
  have hp := part_map (f := fun x => D.flat (.bool x)) hb
  refine DFun.enter Try.func67 rfl Try.ntmps67 (by simp) ?_
  dsimp only [evalD, lkF, lkE, updF, Nat.beq, cond_true, cond_false, List.cons_append, List.nil_append, List.append_nil, argF, Nat.reduceAdd, Nat.reduceMul, spliceD, List.take, List.drop, List.length, flats, Value.cells, List.map, List.set, Thn, Blk, if_true, if_false, reduceIte, Nat.reduceEqDiff]
  unfold auC
  repeat (first
      | (refine DW.seq ?_)
      | (refine DW.block ?_)
      | (refine Thn.n ?_)
      | (refine Blk.n ?_)
      | (refine Blk.here ?_)
      | (refine Thn.e ?_)
      | (refine Blk.pass rfl ?_)
      | (refine Thn.r ?_)
      | (refine Blk.r ?_)
      | (refine DW.skip ?_)
      | (refine DW.label ?_)
      | (refine DW.regionC (id := 0) ?_; refine DC.tri (T.assign _ _) ⟨rfl, trivial⟩ trivial ?_ (.none rfl) rfl; refine DC.nilN (by first | (dsimp only [evalD, lkF, lkE, updF, Nat.beq, cond_true, cond_false, List.cons_append, List.nil_append, List.append_nil, argF, Nat.reduceAdd, Nat.reduceMul, spliceD, List.take, List.drop, List.length, flats, Value.cells, List.map, List.set]; done) | exact rfl | fail) ?_)
      | (refine DW.regionC (id := 1) ?_; (first | refine DC.tri (T.fieldRef' 35 _ 1 fd35_1 (by decide)) ⟨rfl, trivial⟩ trivial ?_ (.none rfl) rfl | refine DC.tri (T.fieldPtr' 35 _ 1 fd35_1 (by decide)) ⟨rfl, trivial⟩ trivial ?_ (.none rfl) rfl); (first | refine DC.tri (T.loadRef 23 _ ag23 sz23 (by first | rfl | assumption)) ⟨rfl, trivial⟩ ⟨rfl, trivial⟩ ?_ (.none rfl) rfl | refine DC.tri (T.loadPtr 23 _ ag23 sz23 (by first | rfl | assumption)) ⟨rfl, trivial⟩ trivial ?_ (.none rfl) rfl | refine DC.tri (T.loadElp 23 _ ag23 sz23 (by first | rfl | assumption)) ⟨rfl, trivial⟩ ⟨rfl, trivial⟩ ?_ (.none rfl) rfl); refine DC.tri (T.move _ _) ⟨rfl, trivial⟩ trivial ?_ (.none rfl) rfl; (first | refine DC.tri (T.indexSl 23 _ _ un23 sz4 (by omega) (by omega) (by decide)) ⟨rfl, rfl, trivial⟩ trivial ?_ (.none rfl) rfl | refine DC.tri (T.indexOwn 23 _ _ un23 sz4 (by omega) (by omega)) ⟨rfl, rfl, trivial⟩ ⟨rfl, trivial⟩ ?_ (.none rfl) rfl); (first | refine DC.tri (T.loadRef 4 _ ag4 sz4 (by first | rfl | assumption)) ⟨rfl, trivial⟩ ⟨rfl, trivial⟩ ?_ (.none rfl) rfl | refine DC.tri (T.loadPtr 4 _ ag4 sz4 (by first | rfl | assumption)) ⟨rfl, trivial⟩ trivial ?_ (.none rfl) rfl | refine DC.tri (T.loadElp 4 _ ag4 sz4 (by first | rfl | assumption)) ⟨rfl, trivial⟩ ⟨rfl, trivial⟩ ?_ (.none rfl) rfl); refine DC.tri (T.not _ _) ⟨rfl, trivial⟩ trivial ?_ (.none rfl) rfl; refine DC.tri (T.assign _ _) ⟨rfl, trivial⟩ trivial ?_ (.none rfl) rfl; refine DC.nilN (by first | (dsimp only [evalD, lkF, lkE, updF, Nat.beq, cond_true, cond_false, List.cons_append, List.nil_append, List.append_nil, argF, Nat.reduceAdd, Nat.reduceMul, spliceD, List.take, List.drop, List.length, flats, Value.cells, List.map, List.set]; done) | exact rfl | fail) ?_)
      | (refine DW.condT' rfl (by first | rfl | assumption | exact decide_eq_true (by first | assumption | omega) | exact decide_eq_false (by first | assumption | omega) | (simp only [*]; done) | fail) ?_)
      | (refine DW.condF' rfl (by first | rfl | assumption | exact decide_eq_true (by first | assumption | omega) | exact decide_eq_false (by first | assumption | omega) | (simp only [*]; done) | fail) ?_)
      | (refine DW.exit ?_)
      | (refine DW.ret ?_)
      | fail)
  exact ⟨.inr rfl, ResOk.one [] rfl (by first | (dsimp only [evalD, lkF, lkE, updF, Nat.beq, cond_true, cond_false, List.cons_append, List.nil_append, List.append_nil, argF, Nat.reduceAdd, Nat.reduceMul, spliceD, List.take, List.drop, List.length, flats, Value.cells, List.map, List.set]; done) | exact rfl | fail) trivial (Vw.le (Vw.pers rfl) (Le.of_eq (by simp [boolD, List.getD, hb])))⟩

theorem atE_bd {A : Au} (hok : AuOk A) {s : Int} {l : List Int} (hf : Fits A s l) : 0 ≤ atI A s l ∧ atI A s l < (A.final.length : Int) := by
  obtain ⟨i, p, row, q, rfl, hi, hrow, hp, hpl, hq, hat, hq0, hq1, hl2⟩ := hf.at hok
  rw [hat]
  exact ⟨hq0, hq1⟩
theorem digs_fits {A : Au} (hok : AuOk A) {i k p : Nat} (hk : A.ranks[i]? = some ((k : Nat) : Int)) : Fits A i (digs A.final.length k p) := by
  have hi := (List.getElem?_eq_some_iff.1 hk).1
  have := hok.lo
  exact ⟨by omega, by omega, by simp [List.getD, hk, digs_len], fun x hx => digs_rng (by omega) k p x hx⟩

theorem complement_d (A : Au) : DFun Try.prog 33 [auD A] (.tup [auD (compE A).1, intD ((compE A).2 : Nat)]) := by
  refine DFun.enter Try.func33 rfl Try.ntmps33 (by simp) ?_
  dsimp only [evalD, lkF, lkE, updF, Nat.beq, cond_true, cond_false, List.cons_append, List.nil_append, List.append_nil, argF, Nat.reduceAdd, Nat.reduceMul, spliceD, List.take, List.drop, List.length, flats, Value.cells, List.map, List.set, Thn, Blk, if_true, if_false, reduceIte, Nat.reduceEqDiff]
  repeat (first
      | (refine DW.seq ?_)
      | (refine DW.block ?_)
      | (refine Thn.n ?_)
      | (refine Blk.n ?_)
      | (refine Blk.here ?_)
      | (refine Thn.e ?_)
      | (refine Blk.pass rfl ?_)
      | (refine Thn.r ?_)
      | (refine Blk.r ?_)
      | (refine DW.skip ?_)
      | (refine DW.label ?_)
      | (refine DW.regionC (id := 0) ?_; refine DC.tri (T.box 1 35 _ rfl) ⟨rfl, trivial⟩ ⟨rfl, trivial⟩ ?_ (.none rfl) rfl; refine DC.tri (T.alloc 2 35 ze35) trivial ⟨rfl, trivial⟩ ?_ (.none rfl) rfl; refine DC.tri (T.assign _ _) ⟨rfl, trivial⟩ trivial ?_ (.none rfl) rfl; refine DC.nilN (by first | (dsimp only [evalD, lkF, lkE, updF, Nat.beq, cond_true, cond_false, List.cons_append, List.nil_append, List.append_nil, argF, Nat.reduceAdd, Nat.reduceMul, spliceD, List.take, List.drop, List.length, flats, Value.cells, List.map, List.set]; done) | exact rfl | fail) ?_)
      | (refine DW.regionC (id := 1) ?_; (first | refine DC.tri (T.loadRef 35 _ ag35 sz35 (by first | rfl | assumption)) ⟨rfl, trivial⟩ ⟨rfl, trivial⟩ ?_ (.none rfl) rfl | refine DC.tri (T.loadPtr 35 _ ag35 sz35 (by first | rfl | assumption)) ⟨rfl, trivial⟩ trivial ?_ (.none rfl) rfl | refine DC.tri (T.loadElp 35 _ ag35 sz35 (by first | rfl | assumption)) ⟨rfl, trivial⟩ ⟨rfl, trivial⟩ ?_ (.none rfl) rfl); refine DC.tri (T.call («as» := [_]) (ds' := [_]) ent20 (check_d A) rfl rfl (LeL.refl _)) ⟨rfl, trivial⟩ trivial ?_ (.none rfl) rfl; refine DC.tri (T.assign _ _) ⟨rfl, trivial⟩ trivial ?_ (.none rfl) rfl; refine DC.nilN (by first | (dsimp only [evalD, lkF, lkE, updF, Nat.beq, cond_true, cond_false, List.cons_append, List.nil_append, List.append_nil, argF, Nat.reduceAdd, Nat.reduceMul, spliceD, List.take, List.drop, List.length, flats, Value.cells, List.map, List.set]; done) | exact rfl | fail) ?_)
      | (refine DW.condT' rfl (by first | rfl | assumption | exact decide_eq_true (by first | assumption | omega) | exact decide_eq_false (by first | assumption | omega) | (simp only [*]; done) | fail) ?_)
      | (refine DW.condF' rfl (by first | rfl | assumption | exact decide_eq_true (by first | assumption | omega) | exact decide_eq_false (by first | assumption | omega) | (simp only [*]; done) | fail) ?_)
      | (refine DW.exit ?_)
      | (refine DW.ret ?_)
      | fail)
  by_cases hk : chk A = 0
  · have hok := chk_ok hk
    have hlo := hok.lo
    have hhi := hok.hi
    have hal := hok.alpha
    rw [compE_ok hk, hk]
    refine DW.sub (Sub.of (f' := [(1, .ptr (auC A) 0), (2, .ref 2 0), (4, intD (0 : Nat))]) (σ' := [(2, some (.box [.flat (.slice none 0 0), .flat (.slice none 0 0), .flat (.slice none 0 0)]))])
      ⟨⟨_, rfl, VsL.pers rfl⟩, trivial⟩ ⟨Vs.shut (pe := [(1, some (.box (auC A)))]) ⟨rfl, trivial⟩ (Vw.ref (.head _) (VwL.pers rfl) (by simp [auC])) (fun id h => by simp only [keys, List.map_cons, List.map_nil, List.mem_singleton] at h; subst h; rfl), Vs.ref rfl, Vs.pers rfl, trivial⟩) ?_
    unfold auC
    repeat (first
        | (refine DW.seq ?_)
        | (refine DW.block ?_)
        | (refine Thn.n ?_)
        | (refine Blk.n ?_)
        | (refine Blk.here ?_)
        | (refine Thn.e ?_)
        | (refine Blk.pass rfl ?_)
        | (refine Thn.r ?_)
        | (refine Blk.r ?_)
        | (refine DW.skip ?_)
        | (refine DW.label ?_)
        | (refine DW.regionC (id := 2) ?_; refine DC.tri (T.move _ _) ⟨rfl, trivial⟩ trivial ?_ (.none rfl) rfl; refine DC.tri (T.neq _ _ _ _) ⟨rfl, rfl, trivial⟩ trivial ?_ (.none rfl) rfl; refine DC.nilN (by first | (dsimp only [evalD, lkF, lkE, updF, Nat.beq, cond_true, cond_false, List.cons_append, List.nil_append, List.append_nil, argF, Nat.reduceAdd, Nat.reduceMul, spliceD, List.take, List.drop, List.length, flats, Value.cells, List.map, List.set]; done) | exact rfl | fail) ?_)
        | (refine DW.regionC (id := 4) ?_; (first | refine DC.tri (T.fieldRef' 35 _ 0 fd35_0 (by decide)) ⟨rfl, trivial⟩ trivial ?_ (.none rfl) rfl | refine DC.tri (T.fieldPtr' 35 _ 0 fd35_0 (by decide)) ⟨rfl, trivial⟩ trivial ?_ (.none rfl) rfl); (first | refine DC.tri (T.loadRef 33 _ ag33 sz33 (by first | rfl | assumption)) ⟨rfl, trivial⟩ ⟨rfl, trivial⟩ ?_ (.none rfl) rfl | refine DC.tri (T.loadPtr 33 _ ag33 sz33 (by first | rfl | assumption)) ⟨rfl, trivial⟩ trivial ?_ (.none rfl) rfl | refine DC.tri (T.loadElp 33 _ ag33 sz33 (by first | rfl | assumption)) ⟨rfl, trivial⟩ ⟨rfl, trivial⟩ ?_ (.none rfl) rfl); (first | refine DC.tri (T.fieldRef' 35 _ 1 fd35_1 (by decide)) ⟨rfl, trivial⟩ trivial ?_ (.none rfl) rfl | refine DC.tri (T.fieldPtr' 35 _ 1 fd35_1 (by decide)) ⟨rfl, trivial⟩ trivial ?_ (.none rfl) rfl); (first | refine DC.tri (T.loadRef 23 _ ag23 sz23 (by first | rfl | assumption)) ⟨rfl, trivial⟩ ⟨rfl, trivial⟩ ?_ (.none rfl) rfl | refine DC.tri (T.loadPtr 23 _ ag23 sz23 (by first | rfl | assumption)) ⟨rfl, trivial⟩ trivial ?_ (.none rfl) rfl | refine DC.tri (T.loadElp 23 _ ag23 sz23 (by first | rfl | assumption)) ⟨rfl, trivial⟩ ⟨rfl, trivial⟩ ?_ (.none rfl) rfl); (first | refine DC.tri (T.lenSl 23 _ un23) ⟨rfl, trivial⟩ trivial ?_ (.none rfl) rfl | refine DC.tri (T.lenOwn 23 _ un23) ⟨rfl, trivial⟩ trivial ?_ (.none rfl) rfl | refine DC.tri (T.lenNil 23 _ un23) ⟨rfl, trivial⟩ trivial ?_ (.none rfl) rfl); (first | refine DC.tri (T.loadRef 35 _ ag35 sz35 (by first | rfl | assumption)) ⟨rfl, trivial⟩ ⟨rfl, trivial⟩ ?_ (.none rfl) rfl | refine DC.tri (T.loadPtr 35 _ ag35 sz35 (by first | rfl | assumption)) ⟨rfl, trivial⟩ trivial ?_ (.none rfl) rfl | refine DC.tri (T.loadElp 35 _ ag35 sz35 (by first | rfl | assumption)) ⟨rfl, trivial⟩ ⟨rfl, trivial⟩ ?_ (.none rfl) rfl); refine DC.tri (T.makeFunc (fd := [_]) (cd := []) rfl rfl) ⟨rfl, trivial⟩ trivial ?_ (.none rfl) rfl; refine DC.tri (T.makeFunc (fd := []) (cd := [_]) rfl rfl) ⟨rfl, trivial⟩ trivial ?_ (.none rfl) rfl; refine DC.tri (T.call («as» := [_, _, _, _]) (ds' := [_, _, _, _]) ent66 (made_d A.ranks A.final.length (atI A) (fun s => !(A.final.getD s false)) 53 67 [auD A] [] [] [.ptr (auC A) 0] hal.hi hal.rng hhi (by omega) ent53 ent67 rfl rfl (fun i l k pe hl => ⟨Vw.pers rfl, Vw.pers rfl, by subst hl; exact Vw.own (.head _) (VwL.pers (persL_map (fun _ => rfl) _)), trivial⟩) (fun _ => rfl) (fun i k p hk hp => at_d A hok i _ (digs_fits hok hk)) (fun s hs => comp1_d A s hs hhi)) rfl rfl (LeL.refl _)) ⟨rfl, rfl, rfl, rfl, trivial⟩ trivial ?_ (.none rfl) rfl; (first | refine DC.tri (T.storeRef 35 _ _ sz35 rfl rfl (by first | rfl | simp [oneL, oneD, Value.oneCell']) (by first | decide | (simp; done) | omega | (simp; omega))) ⟨rfl, rfl, trivial⟩ ⟨rfl, trivial⟩ ?_ (.none rfl) rfl | refine DC.tri (T.storeElp 35 _ _ sz35 rfl rfl rfl (by first | decide | (simp; done) | omega | (simp; omega))) ⟨rfl, rfl, trivial⟩ ⟨rfl, trivial⟩ ?_ (.none rfl) rfl); refine DC.tri (T.assign _ _) ⟨rfl, trivial⟩ trivial ?_ (.none rfl) rfl; refine DC.nilN (by first | (dsimp only [evalD, lkF, lkE, updF, Nat.beq, cond_true, cond_false, List.cons_append, List.nil_append, List.append_nil, argF, Nat.reduceAdd, Nat.reduceMul, spliceD, List.take, List.drop, List.length, flats, Value.cells, List.map, List.set]; done) | exact rfl | fail) ?_)
        | (refine DW.condT' rfl (by first | rfl | assumption | exact decide_eq_true (by first | assumption | omega) | exact decide_eq_false (by first | assumption | omega) | (simp only [*]; done) | fail) ?_)
        | (refine DW.condF' rfl (by first | rfl | assumption | exact decide_eq_true (by first | assumption | omega) | exact decide_eq_false (by first | assumption | omega) | (simp only [*]; done) | fail) ?_)
        | (refine DW.exit ?_)
        | (refine DW.ret ?_)
        | fail)
    rw [made_not hok]
    exact ⟨.inr rfl, ResOk.cellTmpA [] rfl rfl rfl ag35 sz35 rfl trivial (VwL.pers rfl) (Le.refl _) (Vw.pers rfl)⟩
  · have hne : ((chk A : Nat) : Int) ≠ 0 := by omega
    rw [compE_bad hk]
    repeat (first
        | (refine DW.seq ?_)
        | (refine DW.block ?_)
        | (refine Thn.n ?_)
        | (refine Blk.n ?_)
        | (refine Blk.here ?_)
        | (refine Thn.e ?_)
        | (refine Blk.pass rfl ?_)
        | (refine Thn.r ?_)
        | (refine Blk.r ?_)
        | (refine DW.skip ?_)
        | (refine DW.label ?_)
        | (refine DW.regionC (id := 2) ?_; refine DC.tri (T.move _ _) ⟨rfl, trivial⟩ trivial ?_ (.none rfl) rfl; refine DC.tri (T.neq _ _ _ _) ⟨rfl, rfl, trivial⟩ trivial ?_ (.none rfl) rfl; refine DC.nilN (by first | (dsimp only [evalD, lkF, lkE, updF, Nat.beq, cond_true, cond_false, List.cons_append, List.nil_append, List.append_nil, argF, Nat.reduceAdd, Nat.reduceMul, spliceD, List.take, List.drop, List.length, flats, Value.cells, List.map, List.set]; done) | exact rfl | fail) ?_)
        | (refine DW.regionC (id := 3) ?_; refine DC.tri (T.buildS0 35 Try.underlying35 ze35 (pl35 Try.underlying35)) trivial trivial ?_ (.none rfl) rfl; refine DC.tri (T.move _ _) ⟨rfl, trivial⟩ trivial ?_ (.none rfl) rfl; (first | refine DC.tri (T.storeRef 35 _ _ sz35 rfl rfl (by first | rfl | simp [oneL, oneD, Value.oneCell']) (by first | decide | (simp; done) | omega | (simp; omega))) ⟨rfl, rfl, trivial⟩ ⟨rfl, trivial⟩ ?_ (.none rfl) rfl | refine DC.tri (T.storeElp 35 _ _ sz35 rfl rfl rfl (by first | decide | (simp; done) | omega | (simp; omega))) ⟨rfl, rfl, trivial⟩ ⟨rfl, trivial⟩ ?_ (.none rfl) rfl); refine DC.tri (T.assign _ _) ⟨rfl, trivial⟩ trivial ?_ (.none rfl) rfl; refine DC.nilN (by first | (dsimp only [evalD, lkF, lkE, updF, Nat.beq, cond_true, cond_false, List.cons_append, List.nil_append, List.append_nil, argF, Nat.reduceAdd, Nat.reduceMul, spliceD, List.take, List.drop, List.length, flats, Value.cells, List.map, List.set]; done) | exact rfl | fail) ?_)
        | (refine DW.condT' rfl (by first | rfl | assumption | exact decide_eq_true (by first | assumption | omega) | exact decide_eq_false (by first | assumption | omega) | (simp only [*]; done) | fail) ?_)
        | (refine DW.condF' rfl (by first | rfl | assumption | exact decide_eq_true (by first | assumption | omega) | exact decide_eq_false (by first | assumption | omega) | (simp only [*]; done) | fail) ?_)
        | (refine DW.exit ?_)
        | (refine DW.ret ?_)
        | fail)
    exact ⟨.inr rfl, ResOk.cellTmpA [] rfl rfl rfl ag35 sz35 rfl trivial (.cons (Vw.p rfl Le.empty) (.cons (Vw.p rfl Le.empty) (.cons (Vw.p rfl Le.empty) .nil))) (Le.refl _) (Vw.pers rfl)⟩
end Go.Proofs.Ytdakoccbmeojhaa
