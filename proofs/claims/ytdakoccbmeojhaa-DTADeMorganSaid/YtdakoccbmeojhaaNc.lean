/- Contracts over data from contracts that stand: Check, Equal, Same and their like. No condition. -/
import Derived.Test.YtdakoccbmeojhaaNb
import Derived.Test.YtdakoccbmeojhaaWa
import Derived.Test.YtdakoccbmeojhaaWb
import Derived.Test.YtdakoccbmeojhaaWc
import Derived.Test.YtdakoccbmeojhaaWm
import Derived.Test.YtdakoccbmeojhaaWn
set_option linter.unusedSimpArgs false
set_option linter.unusedVariables false
set_option maxHeartbeats 1000000
set_option maxRecDepth 8000
namespace Go.Proofs.Ytdakoccbmeojhaa
open Go Go.RowKit Go.PP Go.Dm

theorem au_in {M : Nat → Prop} {w : World} {v : Value} {A : Au} (h : Rep M w none (auD A) v) : ∃ v1 v2 v3, v = .agg #[v1, v2, v3] ∧ AuIn M w v1 v2 v3 A := by
  unfold auD at h
  simp only [Rep, RepL] at h
  obtain ⟨vs, rfl, u1, us1, rfl, h1, u2, us2, rfl, h2, u3, us3, rfl, h3, rfl⟩ := h
  exact ⟨u1, u2, u3, rfl, ints_of_rep h1, bools_of_rep h2, rows_of_rep h3⟩
theorem au_in0 {M : Nat → Prop} {w : World} {v : Value} {A : Au} (h : Rep M w none (auD A) v) : ∃ v1 v2 v3, v = .agg #[v1, v2, v3] ∧ AuIn (fun _ => False) w v1 v2 v3 A := by
  obtain ⟨v1, v2, v3, e, h1⟩ := au_in h
  exact ⟨v1, v2, v3, e, h1.mono (fun _ _ h => h.elim)⟩
theorem repl1 {M : Nat → Prop} {w : World} {d : D} {vals : List Value} (h : RepL M w none [d] vals) : ∃ v, vals = [v] ∧ Rep M w none d v := by
  simp only [RepL] at h
  obtain ⟨u, us, rfl, h1, rfl⟩ := h
  exact ⟨u, rfl, h1⟩
theorem repl2 {M : Nat → Prop} {w : World} {d e : D} {vals : List Value} (h : RepL M w none [d, e] vals) : ∃ v u, vals = [v, u] ∧ Rep M w none d v ∧ Rep M w none e u := by
  simp only [RepL] at h
  obtain ⟨u, us, rfl, h1, u2, us2, rfl, h2, rfl⟩ := h
  exact ⟨u, u2, rfl, h1, h2⟩
theorem ret_d {k : FuncId} {M : Nat → Prop} {w : World} {vals : Array Value} {v : Value} (h : Calls Try.prog k vals w (RetPost w v)) : Calls Try.prog k vals w (fun e w' => ∃ u, e = .returned u ∧ Rep M w' none (.flat v) u ∧ Fix w w') :=
  h.mono fun e w' ⟨h1, h2⟩ => ⟨v, h1, by simp only [Rep], h2⟩
theorem check_d (A : Au) : DFun Try.prog 20 [auD A] (.flat (.int .i64 (chk A : Nat))) := fun M w vals hM hv => by
  obtain ⟨v, rfl, h1⟩ := repl1 hv
  obtain ⟨v1, v2, v3, rfl, h2⟩ := au_in0 h1
  exact ret_d (check_any v1 v2 v3 A w h2)
theorem rcheck_d (A : Au) : DFun Try.prog 21 [auD A] (.flat (.int .i64 (chk A : Nat))) := fun M w vals hM hv => by
  obtain ⟨v, rfl, h1⟩ := repl1 hv
  obtain ⟨v1, v2, v3, rfl, h2⟩ := au_in0 h1
  exact ret_d (rcheck_any v1 v2 v3 A w h2)
theorem few_d (A : Au) : DFun Try.prog 13 [auD A] (boolD (fewB A)) := fun M w vals hM hv => by
  obtain ⟨v, rfl, h1⟩ := repl1 hv
  obtain ⟨v1, v2, v3, rfl, h2⟩ := au_in0 h1
  exact ret_d (few_any w v1 v2 v3 A h2)
theorem same_d (A B : Au) : DFun Try.prog 26 [auD A, auD B] (boolD (eqAu A B)) := fun M w vals hM hv => by
  obtain ⟨v, u, rfl, h1, h2⟩ := repl2 hv
  obtain ⟨v1, v2, v3, rfl, h3⟩ := au_in0 h1
  obtain ⟨u1, u2, u3, rfl, h4⟩ := au_in0 h2
  exact ret_d (same_any A B v1 v2 v3 u1 u2 u3 w h3 h4)
theorem equal_d (A B : Au) : DFun Try.prog 25 [auD A, auD B] (boolD (eqAu A B)) := fun M w vals hM hv => by
  obtain ⟨v, u, rfl, h1, h2⟩ := repl2 hv
  obtain ⟨v1, v2, v3, rfl, h3⟩ := au_in0 h1
  obtain ⟨u1, u2, u3, rfl, h4⟩ := au_in0 h2
  exact ret_d (equal_any A B v1 v2 v3 u1 u2 u3 w h3 h4)
theorem eqA_d (l r : List Int) : DFun Try.prog 54 [intsD l, intsD r] (boolD (decide (l = r))) := fun M w vals hM hv => by
  obtain ⟨v, u, rfl, h1, h2⟩ := repl2 hv
  exact ret_d ((eq54 v u l r w ((ints_of_rep h1).mono (fun _ _ h => h.elim)) ((ints_of_rep h2).mono (fun _ _ h => h.elim))).mono fun e w' h => h.ret)
theorem eqR_d (l r : List Int) : DFun Try.prog 58 [intsD l, intsD r] (boolD (decide (l = r))) := fun M w vals hM hv => by
  obtain ⟨v, u, rfl, h1, h2⟩ := repl2 hv
  exact ret_d ((eq58 v u l r w ((ints_of_rep h1).mono (fun _ _ h => h.elim)) ((ints_of_rep h2).mono (fun _ _ h => h.elim))).mono fun e w' h => h.ret)
end Go.Proofs.Ytdakoccbmeojhaa
/- Contracts over data: Complement, Product. No condition. -/
set_option linter.unusedSimpArgs false
set_option linter.unusedVariables false
set_option maxHeartbeats 1000000
set_option maxRecDepth 8000
namespace Go.Proofs.Ytdakoccbmeojhaa
open Go Go.RowKit Go.PP Go.Dm

theorem ent67 : Enters Try.prog 67 := fun args w => by go_simp
theorem ent33 : Enters Try.prog 33 := fun args w => by go_simp
theorem ent64 : Enters Try.prog 64 := fun args w => by go_simp
theorem ent65 : Enters Try.prog 65 := fun args w => by go_simp
theorem ent31 : Enters Try.prog 31 := fun args w => by go_simp
theorem ent20 : Enters Try.prog 20 := fun args w => by go_simp
theorem ent54 : Enters Try.prog 54 := fun args w => by go_simp

def auC (A : Au) : List D := [intsD A.ranks, boolsD A.final, rowsD A.to]
theorem comp1_d (A : Au) (s : Nat) (hs : s < A.final.length) (hl : A.final.length ≤ 512) : DFun Try.prog 67 [intD s, .ptr (auC A) 0] (boolD (!(A.final.getD s false))) := by
  obtain ⟨b, hb⟩ : ∃ b, A.final[s]? = some b := ⟨A.final[s], by simp⟩
  have hp := part_map (f := fun x => D.flat (.bool x)) hb
  refine DFun.enter Try.func67 rfl Try.ntmps67 (by simp) ?_
  dsimp only [evalD, lkF, lkE, updF, Nat.beq, cond_true, cond_false, List.cons_append, List.nil_append, List.append_nil, argF, Nat.reduceAdd, Nat.reduceMul, spliceD, List.take, List.drop, List.length, flats, Value.cells, List.map, List.set, Thn, Blk, if_true, if_false, reduceIte, Nat.reduceEqDiff]
  unfold auC
  repeat (first
      | (refine DW.seq ?_)
      | (refine DW.block ?_)
      | (refine Thn.n ?_)
      | (refine Blk.n ?_)
      | (refine Blk.here ?_)
      | (refine Thn.e ?_)
      | (refine Blk.pass rfl ?_)
      | (refine Thn.r ?_)
      | (refine Blk.r ?_)
      | (refine DW.skip ?_)
      | (refine DW.label ?_)
      | (refine DW.regionC (id := 0) ?_; refine DC.tri (T.assign _ _) ⟨rfl, trivial⟩ trivial ?_ (.none rfl) rfl; refine DC.nilN (by first | (dsimp only [evalD, lkF, lkE, updF, Nat.beq, cond_true, cond_false, List.cons_append, List.nil_append, List.append_nil, argF, Nat.reduceAdd, Nat.reduceMul, spliceD, List.take, List.drop, List.length, flats, Value.cells, List.map, List.set]; done) | exact rfl | fail) ?_)
      | (refine DW.regionC (id := 1) ?_; (first | refine DC.tri (T.fieldRef' 35 _ 1 fd35_1 (by decide)) ⟨rfl, trivial⟩ trivial ?_ (.none rfl) rfl | refine DC.tri (T.fieldPtr' 35 _ 1 fd35_1 (by decide)) ⟨rfl, trivial⟩ trivial ?_ (.none rfl) rfl); (first | refine DC.tri (T.loadRef 23 _ ag23 sz23 (by first | rfl | assumption)) ⟨rfl, trivial⟩ ⟨rfl, trivial⟩ ?_ (.none rfl) rfl | refine DC.tri (T.loadPtr 23 _ ag23 sz23 (by first | rfl | assumption)) ⟨rfl, trivial⟩ trivial ?_ (.none rfl) rfl | refine DC.tri (T.loadElp 23 _ ag23 sz23 (by first | rfl | assumption)) ⟨rfl, trivial⟩ ⟨rfl, trivial⟩ ?_ (.none rfl) rfl); refine DC.tri (T.move _ _) ⟨rfl, trivial⟩ trivial ?_ (.none rfl) rfl; (first | refine DC.tri (T.indexSl 23 _ _ un23 sz4 (by omega) (by omega) (by decide)) ⟨rfl, rfl, trivial⟩ trivial ?_ (.none rfl) rfl | refine DC.tri (T.indexOwn 23 _ _ un23 sz4 (by omega) (by omega)) ⟨rfl, rfl, trivial⟩ ⟨rfl, trivial⟩ ?_ (.none rfl) rfl); (first | refine DC.tri (T.loadRef 4 _ ag4 sz4 (by first | rfl | assumption)) ⟨rfl, trivial⟩ ⟨rfl, trivial⟩ ?_ (.none rfl) rfl | refine DC.tri (T.loadPtr 4 _ ag4 sz4 (by first | rfl | assumption)) ⟨rfl, trivial⟩ trivial ?_ (.none rfl) rfl | refine DC.tri (T.loadElp 4 _ ag4 sz4 (by first | rfl | assumption)) ⟨rfl, trivial⟩ ⟨rfl, trivial⟩ ?_ (.none rfl) rfl); refine DC.tri (T.not _ _) ⟨rfl, trivial⟩ trivial ?_ (.none rfl) rfl; refine DC.tri (T.assign _ _) ⟨rfl, trivial⟩ trivial ?_ (.none rfl) rfl; refine DC.nilN (by first | (dsimp only [evalD, lkF, lkE, updF, Nat.beq, cond_true, cond_false, List.cons_append, List.nil_append, List.append_nil, argF, Nat.reduceAdd, Nat.reduceMul, spliceD, List.take, List.drop, List.length, flats, Value.cells, List.map, List.set]; done) | exact rfl | fail) ?_)
      | (refine DW.condT' rfl (by first | rfl | assumption | exact decide_eq_true (by first | assumption | omega) | exact decide_eq_false (by first | assumption | omega) | (simp only [*]; done) | fail) ?_)
      | (refine DW.condF' rfl (by first | rfl | assumption | exact decide_eq_true (by first | assumption | omega) | exact decide_eq_false (by first | assumption | omega) | (simp only [*]; done) | fail) ?_)
      | (refine DW.exit ?_)
      | (refine DW.ret ?_)
      | fail)
  exact ⟨.inr rfl, ResOk.one [] rfl (by first | (dsimp only [evalD, lkF, lkE, updF, Nat.beq, cond_true, cond_false, List.cons_append, List.nil_append, List.append_nil, argF, Nat.reduceAdd, Nat.reduceMul, spliceD, List.take, List.drop, List.length, flats, Value.cells, List.map, List.set]; done) | exact rfl | fail) trivial (Vw.le (Vw.pers rfl) (Le.of_eq (by simp [boolD, List.getD, hb])))⟩

theorem atE_bd {A : Au} (hok : AuOk A) {s : Int} {l : List Int} (hf : Fits A s l) : 0 ≤ atI A s l ∧ atI A s l < (A.final.length : Int) := by
  obtain ⟨i, p, row, q, rfl, hi, hrow, hp, hpl, hq, hat, hq0, hq1, hl2⟩ := hf.at hok
  rw [hat]
  exact ⟨hq0, hq1⟩
theorem digs_fits {A : Au} (hok : AuOk A) {i k p : Nat} (hk : A.ranks[i]? = some ((k : Nat) : Int)) : Fits A i (digs A.final.length k p) := by
  have hi := (List.getElem?_eq_some_iff.1 hk).1
  have := hok.lo
  exact ⟨by omega, by omega, by simp [List.getD, hk, digs_len], fun x hx => digs_rng (by omega) k p x hx⟩

theorem complement_d (A : Au) : DFun Try.prog 33 [auD A] (.tup [auD (compE A).1, intD ((compE A).2 : Nat)]) := by
  refine DFun.enter Try.func33 rfl Try.ntmps33 (by simp) ?_
  dsimp only [evalD, lkF, lkE, updF, Nat.beq, cond_true, cond_false, List.cons_append, List.nil_append, List.append_nil, argF, Nat.reduceAdd, Nat.reduceMul, spliceD, List.take, List.drop, List.length, flats, Value.cells, List.map, List.set, Thn, Blk, if_true, if_false, reduceIte, Nat.reduceEqDiff]
  repeat (first
      | (refine DW.seq ?_)
      | (refine DW.block ?_)
      | (refine Thn.n ?_)
      | (refine Blk.n ?_)
      | (refine Blk.here ?_)
      | (refine Thn.e ?_)
      | (refine Blk.pass rfl ?_)
      | (refine Thn.r ?_)
      | (refine Blk.r ?_)
      | (refine DW.skip ?_)
      | (refine DW.label ?_)
      | (refine DW.regionC (id := 0) ?_; refine DC.tri (T.box 1 35 _ rfl) ⟨rfl, trivial⟩ ⟨rfl, trivial⟩ ?_ (.none rfl) rfl; refine DC.tri (T.alloc 2 35 ze35) trivial ⟨rfl, trivial⟩ ?_ (.none rfl) rfl; refine DC.tri (T.assign _ _) ⟨rfl, trivial⟩ trivial ?_ (.none rfl) rfl; refine DC.nilN (by first | (dsimp only [evalD, lkF, lkE, updF, Nat.beq, cond_true, cond_false, List.cons_append, List.nil_append, List.append_nil, argF, Nat.reduceAdd, Nat.reduceMul, spliceD, List.take, List.drop, List.length, flats, Value.cells, List.map, List.set]; done) | exact rfl | fail) ?_)
      | (refine DW.regionC (id := 1) ?_; (first | refine DC.tri (T.loadRef 35 _ ag35 sz35 (by first | rfl | assumption)) ⟨rfl, trivial⟩ ⟨rfl, trivial⟩ ?_ (.none rfl) rfl | refine DC.tri (T.loadPtr 35 _ ag35 sz35 (by first | rfl | assumption)) ⟨rfl, trivial⟩ trivial ?_ (.none rfl) rfl | refine DC.tri (T.loadElp 35 _ ag35 sz35 (by first | rfl | assumption)) ⟨rfl, trivial⟩ ⟨rfl, trivial⟩ ?_ (.none rfl) rfl); refine DC.tri (T.call («as» := [_]) (ds' := [_]) ent20 (check_d A) rfl rfl (LeL.refl _)) ⟨rfl, trivial⟩ trivial ?_ (.none rfl) rfl; refine DC.tri (T.assign _ _) ⟨rfl, trivial⟩ trivial ?_ (.none rfl) rfl; refine DC.nilN (by first | (dsimp only [evalD, lkF, lkE, updF, Nat.beq, cond_true, cond_false, List.cons_append, List.nil_append, List.append_nil, argF, Nat.reduceAdd, Nat.reduceMul, spliceD, List.take, List.drop, List.length, flats, Value.cells, List.map, List.set]; done) | exact rfl | fail) ?_)
      | (refine DW.condT' rfl (by first | rfl | assumption | exact decide_eq_true (by first | assumption | omega) | exact decide_eq_false (by first | assumption | omega) | (simp only [*]; done) | fail) ?_)
      | (refine DW.condF' rfl (by first | rfl | assumption | exact decide_eq_true (by first | assumption | omega) | exact decide_eq_false (by first | assumption | omega) | (simp only [*]; done) | fail) ?_)
      | (refine DW.exit ?_)
      | (refine DW.ret ?_)
      | fail)
  by_cases hk : chk A = 0
  · have hok := chk_ok hk
    have hlo := hok.lo
    have hhi := hok.hi
    have hal := hok.alpha
    rw [compE_ok hk, hk]
    refine DW.sub (Sub.of (f' := [(1, .ptr (auC A) 0), (2, .ref 2 0), (4, intD (0 : Nat))]) (σ' := [(2, some (.box [.flat (.slice none 0 0), .flat (.slice none 0 0), .flat (.slice none 0 0)]))])
      ⟨⟨_, rfl, VsL.pers rfl⟩, trivial⟩ ⟨Vs.shut (pe := [(1, some (.box (auC A)))]) ⟨rfl, trivial⟩ (Vw.ref (.head _) (VwL.pers rfl) (by simp [auC])) (fun id h => by simp only [keys, List.map_cons, List.map_nil, List.mem_singleton] at h; subst h; rfl), Vs.ref rfl, Vs.pers rfl, trivial⟩) ?_
    unfold auC
    repeat (first
        | (refine DW.seq ?_)
        | (refine DW.block ?_)
        | (refine Thn.n ?_)
        | (refine Blk.n ?_)
        | (refine Blk.here ?_)
        | (refine Thn.e ?_)
        | (refine Blk.pass rfl ?_)
        | (refine Thn.r ?_)
        | (refine Blk.r ?_)
        | (refine DW.skip ?_)
        | (refine DW.label ?_)
        | (refine DW.regionC (id := 2) ?_; refine DC.tri (T.move _ _) ⟨rfl, trivial⟩ trivial ?_ (.none rfl) rfl; refine DC.tri (T.neq _ _ _ _) ⟨rfl, rfl, trivial⟩ trivial ?_ (.none rfl) rfl; refine DC.nilN (by first | (dsimp only [evalD, lkF, lkE, updF, Nat.beq, cond_true, cond_false, List.cons_append, List.nil_append, List.append_nil, argF, Nat.reduceAdd, Nat.reduceMul, spliceD, List.take, List.drop, List.length, flats, Value.cells, List.map, List.set]; done) | exact rfl | fail) ?_)
        | (refine DW.regionC (id := 4) ?_; (first | refine DC.tri (T.fieldRef' 35 _ 0 fd35_0 (by decide)) ⟨rfl, trivial⟩ trivial ?_ (.none rfl) rfl | refine DC.tri (T.fieldPtr' 35 _ 0 fd35_0 (by decide)) ⟨rfl, trivial⟩ trivial ?_ (.none rfl) rfl); (first | refine DC.tri (T.loadRef 33 _ ag33 sz33 (by first | rfl | assumption)) ⟨rfl, trivial⟩ ⟨rfl, trivial⟩ ?_ (.none rfl) rfl | refine DC.tri (T.loadPtr 33 _ ag33 sz33 (by first | rfl | assumption)) ⟨rfl, trivial⟩ trivial ?_ (.none rfl) rfl | refine DC.tri (T.loadElp 33 _ ag33 sz33 (by first | rfl | assumption)) ⟨rfl, trivial⟩ ⟨rfl, trivial⟩ ?_ (.none rfl) rfl); (first | refine DC.tri (T.fieldRef' 35 _ 1 fd35_1 (by decide)) ⟨rfl, trivial⟩ trivial ?_ (.none rfl) rfl | refine DC.tri (T.fieldPtr' 35 _ 1 fd35_1 (by decide)) ⟨rfl, trivial⟩ trivial ?_ (.none rfl) rfl); (first | refine DC.tri (T.loadRef 23 _ ag23 sz23 (by first | rfl | assumption)) ⟨rfl, trivial⟩ ⟨rfl, trivial⟩ ?_ (.none rfl) rfl | refine DC.tri (T.loadPtr 23 _ ag23 sz23 (by first | rfl | assumption)) ⟨rfl, trivial⟩ trivial ?_ (.none rfl) rfl | refine DC.tri (T.loadElp 23 _ ag23 sz23 (by first | rfl | assumption)) ⟨rfl, trivial⟩ ⟨rfl, trivial⟩ ?_ (.none rfl) rfl); (first | refine DC.tri (T.lenSl 23 _ un23) ⟨rfl, trivial⟩ trivial ?_ (.none rfl) rfl | refine DC.tri (T.lenOwn 23 _ un23) ⟨rfl, trivial⟩ trivial ?_ (.none rfl) rfl | refine DC.tri (T.lenNil 23 _ un23) ⟨rfl, trivial⟩ trivial ?_ (.none rfl) rfl); (first | refine DC.tri (T.loadRef 35 _ ag35 sz35 (by first | rfl | assumption)) ⟨rfl, trivial⟩ ⟨rfl, trivial⟩ ?_ (.none rfl) rfl | refine DC.tri (T.loadPtr 35 _ ag35 sz35 (by first | rfl | assumption)) ⟨rfl, trivial⟩ trivial ?_ (.none rfl) rfl | refine DC.tri (T.loadElp 35 _ ag35 sz35 (by first | rfl | assumption)) ⟨rfl, trivial⟩ ⟨rfl, trivial⟩ ?_ (.none rfl) rfl); refine DC.tri (T.makeFunc (fd := [_]) (cd := []) rfl rfl) ⟨rfl, trivial⟩ trivial ?_ (.none rfl) rfl; refine DC.tri (T.makeFunc (fd := []) (cd := [_]) rfl rfl) ⟨rfl, trivial⟩ trivial ?_ (.none rfl) rfl; refine DC.tri (T.call («as» := [_, _, _, _]) (ds' := [_, _, _, _]) ent66 (made_d A.ranks A.final.length (atI A) (fun s => !(A.final.getD s false)) 53 67 [auD A] [] [] [.ptr (auC A) 0] hal.hi hal.rng hhi (by omega) ent53 ent67 rfl rfl (fun i l k pe hl => ⟨Vw.pers rfl, Vw.pers rfl, by subst hl; exact Vw.own (.head _) (VwL.pers (persL_map (fun _ => rfl) _)), trivial⟩) (fun _ => rfl) (fun i k p hk hp => at_d A hok i _ (digs_fits hok hk)) (fun s hs => comp1_d A s hs hhi)) rfl rfl (LeL.refl _)) ⟨rfl, rfl, rfl, rfl, trivial⟩ trivial ?_ (.none rfl) rfl; (first | refine DC.tri (T.storeRef 35 _ _ sz35 rfl rfl (by first | rfl | simp [oneL, oneD, Value.oneCell']) (by first | decide | (simp; done) | omega | (simp; omega))) ⟨rfl, rfl, trivial⟩ ⟨rfl, trivial⟩ ?_ (.none rfl) rfl | refine DC.tri (T.storeElp 35 _ _ sz35 rfl rfl rfl (by first | decide | (simp; done) | omega | (simp; omega))) ⟨rfl, rfl, trivial⟩ ⟨rfl, trivial⟩ ?_ (.none rfl) rfl); refine DC.tri (T.assign _ _) ⟨rfl, trivial⟩ trivial ?_ (.none rfl) rfl; refine DC.nilN (by first | (dsimp only [evalD, lkF, lkE, updF, Nat.beq, cond_true, cond_false, List.cons_append, List.nil_append, List.append_nil, argF, Nat.reduceAdd, Nat.reduceMul, spliceD, List.take, List.drop, List.length, flats, Value.cells, List.map, List.set]; done) | exact rfl | fail) ?_)
        | (refine DW.condT' rfl (by first | rfl | assumption | exact decide_eq_true (by first | assumption | omega) | exact decide_eq_false (by first | assumption | omega) | (simp only [*]; done) | fail) ?_)
        | (refine DW.condF' rfl (by first | rfl | assumption | exact decide_eq_true (by first | assumption | omega) | exact decide_eq_false (by first | assumption | omega) | (simp only [*]; done) | fail) ?_)
        | (refine DW.exit ?_)
        | (refine DW.ret ?_)
        | fail)
    rw [made_not hok]
    exact ⟨.inr rfl, ResOk.cellTmpA [] rfl rfl rfl ag35 sz35 rfl trivial (VwL.pers rfl) (Le.refl _) (Vw.pers rfl)⟩
  · have hne : ((chk A : Nat) : Int) ≠ 0 := by omega
    rw [compE_bad hk]
    repeat (first
        | (refine DW.seq ?_)
        | (refine DW.block ?_)
        | (refine Thn.n ?_)
        | (refine Blk.n ?_)
        | (refine Blk.here ?_)
        | (refine Thn.e ?_)
        | (refine Blk.pass rfl ?_)
        | (refine Thn.r ?_)
        | (refine Blk.r ?_)
        | (refine DW.skip ?_)
        | (refine DW.label ?_)
        | (refine DW.regionC (id := 2) ?_; refine DC.tri (T.move _ _) ⟨rfl, trivial⟩ trivial ?_ (.none rfl) rfl; refine DC.tri (T.neq _ _ _ _) ⟨rfl, rfl, trivial⟩ trivial ?_ (.none rfl) rfl; refine DC.nilN (by first | (dsimp only [evalD, lkF, lkE, updF, Nat.beq, cond_true, cond_false, List.cons_append, List.nil_append, List.append_nil, argF, Nat.reduceAdd, Nat.reduceMul, spliceD, List.take, List.drop, List.length, flats, Value.cells, List.map, List.set]; done) | exact rfl | fail) ?_)
        | (refine DW.regionC (id := 3) ?_; refine DC.tri (T.buildS0 35 Try.underlying35 ze35 (pl35 Try.underlying35)) trivial trivial ?_ (.none rfl) rfl; refine DC.tri (T.move _ _) ⟨rfl, trivial⟩ trivial ?_ (.none rfl) rfl; (first | refine DC.tri (T.storeRef 35 _ _ sz35 rfl rfl (by first | rfl | simp [oneL, oneD, Value.oneCell']) (by first | decide | (simp; done) | omega | (simp; omega))) ⟨rfl, rfl, trivial⟩ ⟨rfl, trivial⟩ ?_ (.none rfl) rfl | refine DC.tri (T.storeElp 35 _ _ sz35 rfl rfl rfl (by first | decide | (simp; done) | omega | (simp; omega))) ⟨rfl, rfl, trivial⟩ ⟨rfl, trivial⟩ ?_ (.none rfl) rfl); refine DC.tri (T.assign _ _) ⟨rfl, trivial⟩ trivial ?_ (.none rfl) rfl; refine DC.nilN (by first | (dsimp only [evalD, lkF, lkE, updF, Nat.beq, cond_true, cond_false, List.cons_append, List.nil_append, List.append_nil, argF, Nat.reduceAdd, Nat.reduceMul, spliceD, List.take, List.drop, List.length, flats, Value.cells, List.map, List.set]; done) | exact rfl | fail) ?_)
        | (refine DW.condT' rfl (by first | rfl | assumption | exact decide_eq_true (by first | assumption | omega) | exact decide_eq_false (by first | assumption | omega) | (simp only [*]; done) | fail) ?_)
        | (refine DW.condF' rfl (by first | rfl | assumption | exact decide_eq_true (by first | assumption | omega) | exact decide_eq_false (by first | assumption | omega) | (simp only [*]; done) | fail) ?_)
        | (refine DW.exit ?_)
        | (refine DW.ret ?_)
        | fail)
    exact ⟨.inr rfl, ResOk.cellTmpA [] rfl rfl rfl ag35 sz35 rfl trivial (.cons (Vw.p rfl Le.empty) (.cons (Vw.p rfl Le.empty) (.cons (Vw.p rfl Le.empty) .nil))) (Le.refl _) (Vw.pers rfl)⟩
end Go.Proofs.Ytdakoccbmeojhaa
/- Contracts over data: Product. No condition. -/
set_option linter.unusedSimpArgs false
set_option linter.unusedVariables false
set_option maxHeartbeats 1000000
set_option maxRecDepth 8000
namespace Go.Proofs.Ytdakoccbmeojhaa
open Go Go.RowKit Go.PP Go.Dm


theorem prod1_d (A B : Au) (hA : AuOk A) (hB : AuOk B) (s : Nat) (l : List Int) (hfA : Fits A s (l.map fun d => d / (B.final.length : Int))) (hfB : Fits B s (l.map fun d => d % (B.final.length : Int)))
    (hr : ∀ d ∈ l, 0 ≤ d ∧ d ≤ 512) (hl : l.length ≤ 2) : DFun Try.prog 64 [intD s, intsD l, .ptr [intD B.final.length] 0, .ptr (auC A) 0, .ptr (auC B) 0] (intD (prodT A B s l)) := by
  have hb1 := hB.lo
  have hb2 := hB.hi
  have ha2 := hA.hi
  refine DFun.enter Try.func64 rfl Try.ntmps64 (by simp) ?_
  dsimp only [evalD, lkF, lkE, updF, Nat.beq, cond_true, cond_false, List.cons_append, List.nil_append, List.append_nil, argF, Nat.reduceAdd, Nat.reduceMul, spliceD, List.take, List.drop, List.length, flats, Value.cells, List.map, List.set, Thn, Blk, if_true, if_false, reduceIte, Nat.reduceEqDiff]
  unfold auC
  repeat (first
      | (refine DW.seq ?_)
      | (refine DW.block ?_)
      | (refine Thn.n ?_)
      | (refine Blk.n ?_)
      | (refine Blk.here ?_)
      | (refine Thn.e ?_)
      | (refine Blk.pass rfl ?_)
      | (refine Thn.r ?_)
      | (refine Blk.r ?_)
      | (refine DW.skip ?_)
      | (refine DW.label ?_)
      | (refine DW.regionC (id := 0) ?_; refine DC.tri (T.assign _ _) ⟨rfl, trivial⟩ trivial ?_ (.none rfl) rfl; refine DC.nilN (by first | (dsimp only [evalD, lkF, lkE, updF, Nat.beq, cond_true, cond_false, List.cons_append, List.nil_append, List.append_nil, argF, Nat.reduceAdd, Nat.reduceMul, spliceD, List.take, List.drop, List.length, flats, Value.cells, List.map, List.set]; done) | exact rfl | fail) ?_)
      | (refine DW.regionC (id := 1) ?_; refine DC.tri (T.assign _ _) ⟨rfl, trivial⟩ trivial ?_ (.none rfl) rfl; refine DC.tri (T.assign _ _) ⟨rfl, trivial⟩ trivial ?_ (.none rfl) rfl; refine DC.nilN (by first | (dsimp only [evalD, lkF, lkE, updF, Nat.beq, cond_true, cond_false, List.cons_append, List.nil_append, List.append_nil, argF, Nat.reduceAdd, Nat.reduceMul, spliceD, List.take, List.drop, List.length, flats, Value.cells, List.map, List.set]; done) | exact rfl | fail) ?_)
      | (refine DW.regionC (id := 2) ?_; refine DC.tri (T.move _ _) ⟨rfl, trivial⟩ trivial ?_ (.none rfl) rfl; (first | refine DC.tri (T.lenSl 22 _ un22) ⟨rfl, trivial⟩ trivial ?_ (.none rfl) rfl | refine DC.tri (T.lenOwn 22 _ un22) ⟨rfl, trivial⟩ trivial ?_ (.none rfl) rfl | refine DC.tri (T.lenNil 22 _ un22) ⟨rfl, trivial⟩ trivial ?_ (.none rfl) rfl); refine DC.tri (T.move _ _) ⟨rfl, trivial⟩ trivial ?_ (.none rfl) rfl; refine DC.nilN (by first | (dsimp only [evalD, lkF, lkE, updF, Nat.beq, cond_true, cond_false, List.cons_append, List.nil_append, List.append_nil, argF, Nat.reduceAdd, Nat.reduceMul, spliceD, List.take, List.drop, List.length, flats, Value.cells, List.map, List.set]; done) | exact rfl | fail) ?_)
      | (refine DW.condT' rfl (by first | rfl | assumption | exact decide_eq_true (by first | assumption | omega) | exact decide_eq_false (by first | assumption | omega) | (simp only [*]; done) | fail) ?_)
      | (refine DW.condF' rfl (by first | rfl | assumption | exact decide_eq_true (by first | assumption | omega) | exact decide_eq_false (by first | assumption | omega) | (simp only [*]; done) | fail) ?_)
      | (refine DW.exit ?_)
      | (refine DW.ret ?_)
      | fail)
  refine DW.adopt 8 108 3 1 rfl rfl ?_
  refine DW.adopt 9 109 3 1 rfl rfl ?_
  refine DW.loop (fun j : Nat => ⟨[(14, intD j), (13, intD l.length), (12, intsD l), (9, .own 109 j), (8, .own 108 j), (0, intD s), (2, .ptr [intD B.final.length] 0), (3, .ptr (auC A) 0), (4, .ptr (auC B) 0)], [(108, some (.row 3 1 j (((l.take j).map fun d => d / (B.final.length : Int)).map fun x => .flat (.int .i64 x)))), (109, some (.row 3 1 j (((l.take j).map fun d => d % (B.final.length : Int)).map fun x => .flat (.int .i64 x))))]⟩) (fun j => j ≤ l.length) (fun j => l.length - j) 0 (by omega)
    (Sub.of ⟨⟨_, rfl, trivial⟩, ⟨_, rfl, trivial⟩, trivial⟩ ⟨Vs.int (by simp), Vs.pers rfl, Vs.pers rfl, Vs.own rfl rfl, Vs.own rfl rfl, Vs.pers rfl, Vs.pers rfl, Vs.pers rfl, Vs.pers rfl, trivial⟩) ?_
  rintro j hj
  by_cases hlt : j < l.length
  · obtain ⟨y, hy⟩ : ∃ y, l[j]? = some y := ⟨l[j], by simp⟩
    have hyr := hr y (List.mem_of_getElem? hy)
    have hp := part_map (f := fun x => D.flat (.int .i64 x)) hy
    repeat (first
        | (refine DW.seq ?_)
        | (refine DW.block ?_)
        | (refine Thn.n ?_)
        | (refine Blk.n ?_)
        | (refine Blk.here ?_)
        | (refine Thn.e ?_)
        | (refine Blk.pass rfl ?_)
        | (refine Thn.r ?_)
        | (refine Blk.r ?_)
        | (refine DW.skip ?_)
        | (refine DW.label ?_)
        | (refine DW.regionC (id := 3) ?_; refine DC.tri (T.lss _ _ _ _) ⟨rfl, rfl, trivial⟩ trivial ?_ (.none rfl) rfl; refine DC.nilN (by first | (dsimp only [evalD, lkF, lkE, updF, Nat.beq, cond_true, cond_false, List.cons_append, List.nil_append, List.append_nil, argF, Nat.reduceAdd, Nat.reduceMul, spliceD, List.take, List.drop, List.length, flats, Value.cells, List.map, List.set]; done) | exact rfl | fail) ?_)
        | (refine DW.regionC (id := 4) ?_; (first | refine DC.tri (T.indexSl 22 _ _ un22 sz3 (by omega) (by omega) (by decide)) ⟨rfl, rfl, trivial⟩ trivial ?_ (.none rfl) rfl | refine DC.tri (T.indexOwn 22 _ _ un22 sz3 (by omega) (by omega)) ⟨rfl, rfl, trivial⟩ ⟨rfl, trivial⟩ ?_ (.none rfl) rfl); (first | refine DC.tri (T.loadRef 3 _ ag3 sz3 (by first | rfl | assumption)) ⟨rfl, trivial⟩ ⟨rfl, trivial⟩ ?_ (.none rfl) rfl | refine DC.tri (T.loadPtr 3 _ ag3 sz3 (by first | rfl | assumption)) ⟨rfl, trivial⟩ trivial ?_ (.none rfl) rfl | refine DC.tri (T.loadElp 3 _ ag3 sz3 (by first | rfl | assumption)) ⟨rfl, trivial⟩ ⟨rfl, trivial⟩ ?_ (.none rfl) rfl); refine DC.tri (T.assign _ _) ⟨rfl, trivial⟩ trivial ?_ (.none rfl) rfl; refine DC.nilN (by first | (dsimp only [evalD, lkF, lkE, updF, Nat.beq, cond_true, cond_false, List.cons_append, List.nil_append, List.append_nil, argF, Nat.reduceAdd, Nat.reduceMul, spliceD, List.take, List.drop, List.length, flats, Value.cells, List.map, List.set]; done) | exact rfl | fail) ?_)
        | (refine DW.drawnC (id := 5) rfl (by kernel_rfl) ?_; refine DC.tri (T.move _ _) ⟨rfl, trivial⟩ trivial ?_ (.none rfl) rfl; refine DC.tri (T.move _ _) ⟨rfl, trivial⟩ trivial ?_ (.none rfl) rfl; (first | refine DC.tri (T.loadRef 3 _ ag3 sz3 (by first | rfl | assumption)) ⟨rfl, trivial⟩ ⟨rfl, trivial⟩ ?_ (.none rfl) rfl | refine DC.tri (T.loadPtr 3 _ ag3 sz3 (by first | rfl | assumption)) ⟨rfl, trivial⟩ trivial ?_ (.none rfl) rfl | refine DC.tri (T.loadElp 3 _ ag3 sz3 (by first | rfl | assumption)) ⟨rfl, trivial⟩ ⟨rfl, trivial⟩ ?_ (.none rfl) rfl); refine DC.tri (T.quo (k := .i64) _ _ _ _ (by omega) (quo64 (by omega) (by omega) (by omega))) ⟨rfl, rfl, trivial⟩ trivial ?_ (.none rfl) rfl; refine DC.tri (T.buildSl1 22 _ un22 ze3 sz3 rfl rfl (by decide) rfl) ⟨rfl, trivial⟩ trivial ?_ (.none rfl) rfl; refine DC.tri (T.append 22 _ _ un22 nf3 rfl (by decide) (by decide) (by first | rfl | assumption | exact oneL_map (fun _ => rfl) _) (by omega)) ⟨rfl, rfl, trivial⟩ ⟨rfl, trivial⟩ ?_ (.none rfl) rfl; refine DC.tri (T.move _ _) ⟨rfl, trivial⟩ trivial ?_ (.none rfl) rfl; refine DC.tri (T.move _ _) ⟨rfl, trivial⟩ trivial ?_ (.none rfl) rfl; (first | refine DC.tri (T.loadRef 3 _ ag3 sz3 (by first | rfl | assumption)) ⟨rfl, trivial⟩ ⟨rfl, trivial⟩ ?_ (.none rfl) rfl | refine DC.tri (T.loadPtr 3 _ ag3 sz3 (by first | rfl | assumption)) ⟨rfl, trivial⟩ trivial ?_ (.none rfl) rfl | refine DC.tri (T.loadElp 3 _ ag3 sz3 (by first | rfl | assumption)) ⟨rfl, trivial⟩ ⟨rfl, trivial⟩ ?_ (.none rfl) rfl); refine DC.tri (T.rem (k := .i64) _ _ _ _ (by omega) (rem64 (by omega))) ⟨rfl, rfl, trivial⟩ trivial ?_ (.none rfl) rfl; refine DC.tri (T.buildSl1 22 _ un22 ze3 sz3 rfl rfl (by decide) rfl) ⟨rfl, trivial⟩ trivial ?_ (.none rfl) rfl; refine DC.tri (T.append 22 _ _ un22 nf3 rfl (by decide) (by decide) (by first | rfl | assumption | exact oneL_map (fun _ => rfl) _) (by omega)) ⟨rfl, rfl, trivial⟩ ⟨rfl, trivial⟩ ?_ (.none rfl) rfl; refine DC.tri (T.assign _ _) ⟨rfl, trivial⟩ trivial ?_ (.none rfl) rfl; refine DC.tri (T.assign _ _) ⟨rfl, trivial⟩ trivial ?_ (.none rfl) rfl; refine DC.nilN (by first | (dsimp only [evalD, lkF, lkE, updF, Nat.beq, cond_true, cond_false, List.cons_append, List.nil_append, List.append_nil, argF, Nat.reduceAdd, Nat.reduceMul, spliceD, List.take, List.drop, List.length, flats, Value.cells, List.map, List.set]; done) | exact rfl | fail) ?_; refine ⟨by kernel_rfl, ?_⟩)
        | (refine DW.regionC (id := 6) ?_; (first | refine DC.tri (T.add (k := .i64) _ _ _ _ (w64 (by omega) (by omega))) ⟨rfl, rfl, trivial⟩ trivial ?_ (.none rfl) rfl | refine DC.tri (T.add (k := .i64) _ _ _ _ (by assumption)) ⟨rfl, rfl, trivial⟩ trivial ?_ (.none rfl) rfl); refine DC.tri (T.move _ _) ⟨rfl, trivial⟩ trivial ?_ (.none rfl) rfl; refine DC.nilN (by first | (dsimp only [evalD, lkF, lkE, updF, Nat.beq, cond_true, cond_false, List.cons_append, List.nil_append, List.append_nil, argF, Nat.reduceAdd, Nat.reduceMul, spliceD, List.take, List.drop, List.length, flats, Value.cells, List.map, List.set]; done) | exact rfl | fail) ?_)
        | (refine DW.condT' rfl (by first | rfl | assumption | exact decide_eq_true (by first | assumption | omega) | exact decide_eq_false (by first | assumption | omega) | (simp only [*]; done) | fail) ?_)
        | (refine DW.condF' rfl (by first | rfl | assumption | exact decide_eq_true (by first | assumption | omega) | exact decide_eq_false (by first | assumption | omega) | (simp only [*]; done) | fail) ?_)
        | (refine DW.exit ?_)
        | (refine DW.ret ?_)
        | fail)
    refine ⟨j + 1, by omega, by omega, Sub.of ⟨⟨_, rfl, VsL.eq ?_ (persL_map (fun _ => rfl) _)⟩, ⟨_, rfl, VsL.eq ?_ (persL_map (fun _ => rfl) _)⟩, trivial⟩ ⟨Vs.int (by simp), Vs.pers rfl, Vs.pers rfl, Vs.own rfl rfl, Vs.own rfl rfl, Vs.pers rfl, Vs.pers rfl, Vs.pers rfl, Vs.pers rfl, trivial⟩⟩
    · rw [List.take_add_one, hy]; simp
    · rw [List.take_add_one, hy]; simp
  obtain rfl : j = l.length := by omega
  repeat (first
      | (refine DW.seq ?_)
      | (refine DW.block ?_)
      | (refine Thn.n ?_)
      | (refine Blk.n ?_)
      | (refine Blk.here ?_)
      | (refine Thn.e ?_)
      | (refine Blk.pass rfl ?_)
      | (refine Thn.r ?_)
      | (refine Blk.r ?_)
      | (refine DW.skip ?_)
      | (refine DW.label ?_)
      | (refine DW.regionC (id := 3) ?_; refine DC.tri (T.lss _ _ _ _) ⟨rfl, rfl, trivial⟩ trivial ?_ (.none rfl) rfl; refine DC.nilN (by first | (dsimp only [evalD, lkF, lkE, updF, Nat.beq, cond_true, cond_false, List.cons_append, List.nil_append, List.append_nil, argF, Nat.reduceAdd, Nat.reduceMul, spliceD, List.take, List.drop, List.length, flats, Value.cells, List.map, List.set]; done) | exact rfl | fail) ?_)
      | (refine DW.condT' rfl (by first | rfl | assumption | exact decide_eq_true (by first | assumption | omega) | exact decide_eq_false (by first | assumption | omega) | (simp only [*]; done) | fail) ?_)
      | (refine DW.condF' rfl (by first | rfl | assumption | exact decide_eq_true (by first | assumption | omega) | exact decide_eq_false (by first | assumption | omega) | (simp only [*]; done) | fail) ?_)
      | (refine DW.exit ?_)
      | (refine DW.ret ?_)
      | fail)
  refine DW.sub (Sub.of (f' := [(8, intsD (l.map fun d => d / (B.final.length : Int))), (9, intsD (l.map fun d => d % (B.final.length : Int))), (0, intD s), (2, .ptr [intD B.final.length] 0), (3, .ptr (auC A) 0), (4, .ptr (auC B) 0)]) (σ' := []) trivial
    ⟨Vs.shut (pe := [(108, some (.row 3 1 l.length (((l.take l.length).map fun d => d / (B.final.length : Int)).map fun x => .flat (.int .i64 x))))]) ⟨rfl, trivial⟩ (Vw.le (Vw.own (.head _) (VwL.pers (persL_map (fun _ => rfl) _))) (Le.of_eq (by simp [intsD]))) (fun id h => by simp only [keys, List.map_cons, List.map_nil, List.mem_singleton] at h; subst h; rfl), Vs.shut (pe := [(109, some (.row 3 1 l.length (((l.take l.length).map fun d => d % (B.final.length : Int)).map fun x => .flat (.int .i64 x))))]) ⟨rfl, trivial⟩ (Vw.le (Vw.own (.head _) (VwL.pers (persL_map (fun _ => rfl) _))) (Le.of_eq (by simp [intsD]))) (fun id h => by simp only [keys, List.map_cons, List.map_nil, List.mem_singleton] at h; subst h; rfl), Vs.pers rfl, Vs.pers rfl, Vs.pers rfl, Vs.pers rfl, trivial⟩) ?_
  have q1 := atE_bd hA hfA
  have q2 := atE_bd hB hfB
  have q3 : atI A s (l.map fun d => d / (B.final.length : Int)) * (B.final.length : Int) ≤ 512 * 512 := Int.mul_le_mul (by omega) (by omega) (by omega) (by omega)
  have q4 : 0 ≤ atI A s (l.map fun d => d / (B.final.length : Int)) * (B.final.length : Int) := Int.mul_nonneg q1.1 (by omega)
  unfold auC
  repeat (first
      | (refine DW.seq ?_)
      | (refine DW.block ?_)
      | (refine Thn.n ?_)
      | (refine Blk.n ?_)
      | (refine Blk.here ?_)
      | (refine Thn.e ?_)
      | (refine Blk.pass rfl ?_)
      | (refine Thn.r ?_)
      | (refine Blk.r ?_)
      | (refine DW.skip ?_)
      | (refine DW.label ?_)
      | (refine DW.drawnC (id := 7) rfl (by kernel_rfl) ?_; (first | refine DC.tri (T.loadRef 35 _ ag35 sz35 (by first | rfl | assumption)) ⟨rfl, trivial⟩ ⟨rfl, trivial⟩ ?_ (.none rfl) rfl | refine DC.tri (T.loadPtr 35 _ ag35 sz35 (by first | rfl | assumption)) ⟨rfl, trivial⟩ trivial ?_ (.none rfl) rfl | refine DC.tri (T.loadElp 35 _ ag35 sz35 (by first | rfl | assumption)) ⟨rfl, trivial⟩ ⟨rfl, trivial⟩ ?_ (.none rfl) rfl); refine DC.tri (T.move _ _) ⟨rfl, trivial⟩ trivial ?_ (.none rfl) rfl; refine DC.tri (T.move _ _) ⟨rfl, trivial⟩ trivial ?_ (.none rfl) rfl; (first | refine DC.tri (T.call («as» := [_, _, _]) (ds' := [_, _, _]) ent53 (at_d A hA s _ hfA) rfl rfl (LeL.refl _)) ⟨rfl, rfl, rfl, trivial⟩ trivial ?_ (.none rfl) rfl | refine DC.tri (T.call («as» := [_, _, _]) (ds' := [_, _, _]) ent53 (at_d B hB s _ hfB) rfl rfl (LeL.refl _)) ⟨rfl, rfl, rfl, trivial⟩ trivial ?_ (.none rfl) rfl); (first | refine DC.tri (T.loadRef 3 _ ag3 sz3 (by first | rfl | assumption)) ⟨rfl, trivial⟩ ⟨rfl, trivial⟩ ?_ (.none rfl) rfl | refine DC.tri (T.loadPtr 3 _ ag3 sz3 (by first | rfl | assumption)) ⟨rfl, trivial⟩ trivial ?_ (.none rfl) rfl | refine DC.tri (T.loadElp 3 _ ag3 sz3 (by first | rfl | assumption)) ⟨rfl, trivial⟩ ⟨rfl, trivial⟩ ?_ (.none rfl) rfl); (first | refine DC.tri (T.mul (k := .i64) _ _ _ _ (w64 (by omega) (by omega))) ⟨rfl, rfl, trivial⟩ trivial ?_ (.none rfl) rfl | refine DC.tri (T.mul (k := .i64) _ _ _ _ (by assumption)) ⟨rfl, rfl, trivial⟩ trivial ?_ (.none rfl) rfl); (first | refine DC.tri (T.loadRef 35 _ ag35 sz35 (by first | rfl | assumption)) ⟨rfl, trivial⟩ ⟨rfl, trivial⟩ ?_ (.none rfl) rfl | refine DC.tri (T.loadPtr 35 _ ag35 sz35 (by first | rfl | assumption)) ⟨rfl, trivial⟩ trivial ?_ (.none rfl) rfl | refine DC.tri (T.loadElp 35 _ ag35 sz35 (by first | rfl | assumption)) ⟨rfl, trivial⟩ ⟨rfl, trivial⟩ ?_ (.none rfl) rfl); refine DC.tri (T.move _ _) ⟨rfl, trivial⟩ trivial ?_ (.none rfl) rfl; refine DC.tri (T.move _ _) ⟨rfl, trivial⟩ trivial ?_ (.none rfl) rfl; (first | refine DC.tri (T.call («as» := [_, _, _]) (ds' := [_, _, _]) ent53 (at_d A hA s _ hfA) rfl rfl (LeL.refl _)) ⟨rfl, rfl, rfl, trivial⟩ trivial ?_ (.none rfl) rfl | refine DC.tri (T.call («as» := [_, _, _]) (ds' := [_, _, _]) ent53 (at_d B hB s _ hfB) rfl rfl (LeL.refl _)) ⟨rfl, rfl, rfl, trivial⟩ trivial ?_ (.none rfl) rfl); (first | refine DC.tri (T.add (k := .i64) _ _ _ _ (w64 (by omega) (by omega))) ⟨rfl, rfl, trivial⟩ trivial ?_ (.none rfl) rfl | refine DC.tri (T.add (k := .i64) _ _ _ _ (by assumption)) ⟨rfl, rfl, trivial⟩ trivial ?_ (.none rfl) rfl); refine DC.tri (T.assign _ _) ⟨rfl, trivial⟩ trivial ?_ (.none rfl) rfl; refine DC.nilN (by first | (dsimp only [evalD, lkF, lkE, updF, Nat.beq, cond_true, cond_false, List.cons_append, List.nil_append, List.append_nil, argF, Nat.reduceAdd, Nat.reduceMul, spliceD, List.take, List.drop, List.length, flats, Value.cells, List.map, List.set]; done) | exact rfl | fail) ?_; refine ⟨by kernel_rfl, ?_⟩)
      | (refine DW.condT' rfl (by first | rfl | assumption | exact decide_eq_true (by first | assumption | omega) | exact decide_eq_false (by first | assumption | omega) | (simp only [*]; done) | fail) ?_)
      | (refine DW.condF' rfl (by first | rfl | assumption | exact decide_eq_true (by first | assumption | omega) | exact decide_eq_false (by first | assumption | omega) | (simp only [*]; done) | fail) ?_)
      | (refine DW.exit ?_)
      | (refine DW.ret ?_)
      | fail)
  exact ⟨.inr rfl, ResOk.one [] rfl (by first | (dsimp only [evalD, lkF, lkE, updF, Nat.beq, cond_true, cond_false, List.cons_append, List.nil_append, List.append_nil, argF, Nat.reduceAdd, Nat.reduceMul, spliceD, List.take, List.drop, List.length, flats, Value.cells, List.map, List.set]; done) | exact rfl | fail) trivial (Vw.le (Vw.pers rfl) (Le.of_eq rfl))⟩

theorem prod2_d (A B : Au) (wh : List Bool) (hw : wh.length = 4) (s : Nat) (hs : s < A.final.length * B.final.length) (hA : A.final.length ≤ 512) (hB : B.final.length ≤ 512) : DFun Try.prog 65 [intD s, .ptr (auC A) 0, .ptr [intD B.final.length] 0, .ptr (auC B) 0, .ptr (wh.map boolD) 0] (boolD (prodF A B wh s)) := by
  have hbl : 0 < B.final.length := Nat.pos_of_ne_zero fun h => by rw [h, Nat.mul_zero] at hs; omega
  have hmul : A.final.length * B.final.length ≤ 512 * 512 := Nat.mul_le_mul hA hB
  have h1 : s / B.final.length < A.final.length := Nat.div_lt_of_lt_mul (by rw [Nat.mul_comm]; exact hs)
  have h2 : s % B.final.length < B.final.length := Nat.mod_lt _ hbl
  obtain ⟨x, hx⟩ : ∃ x, A.final[s / B.final.length]? = some x := ⟨A.final[s / B.final.length], by simp⟩
  obtain ⟨y, hy⟩ : ∃ y, B.final[s % B.final.length]? = some y := ⟨B.final[s % B.final.length], by simp⟩
  have hp1 := part_map (f := fun x => D.flat (.bool x)) hx
  have hp2 := part_map (f := fun x => D.flat (.bool x)) hy
  have e1 : ((s / B.final.length : Nat) : Int) = (s : Int) / (B.final.length : Int) := Int.natCast_ediv _ _
  have e2 : ((s % B.final.length : Nat) : Int) = (s : Int) % (B.final.length : Int) := Int.natCast_emod _ _
  rw [e1] at hp1
  rw [e2] at hp2
  have g1 : (s : Int) / (B.final.length : Int) < (A.final.length : Int) := by rw [← e1]; omega
  have g2 : (s : Int) % (B.final.length : Int) < (B.final.length : Int) := by rw [← e2]; omega
  have g3 : 0 ≤ (s : Int) / (B.final.length : Int) := Int.ediv_nonneg (by omega) (by omega)
  have g4 : 0 ≤ (s : Int) % (B.final.length : Int) := Int.emod_nonneg _ (by omega)
  have hres : prodF A B wh s = wh.getD ((if x then 1 else 0) + (if y then 2 else 0)) false := by
    unfold prodF
    simp only [List.getD_eq_getElem?_getD, hx, hy, Option.getD_some]
  rw [hres]
  clear hres e1 e2 hx hy
  obtain ⟨w0, w1, w2, w3, rfl⟩ : ∃ w0 w1 w2 w3, wh = [w0, w1, w2, w3] := by
    rcases wh with _ | ⟨w0, _ | ⟨w1, _ | ⟨w2, _ | ⟨w3, _ | ⟨w4, r⟩⟩⟩⟩⟩ <;> simp at hw
    exact ⟨w0, w1, w2, w3, rfl⟩
  cases x <;> cases y
  all_goals
    refine DFun.enter Try.func65 rfl Try.ntmps65 (by simp) ?_
    dsimp only [evalD, lkF, lkE, updF, Nat.beq, cond_true, cond_false, List.cons_append, List.nil_append, List.append_nil, argF, Nat.reduceAdd, Nat.reduceMul, spliceD, List.take, List.drop, List.length, flats, Value.cells, List.map, List.set, Thn, Blk, if_true, if_false, reduceIte, Nat.reduceEqDiff]
    unfold auC
    repeat (first
        | (refine DW.seq ?_)
        | (refine DW.block ?_)
        | (refine Thn.n ?_)
        | (refine Blk.n ?_)
        | (refine Blk.here ?_)
        | (refine Thn.e ?_)
        | (refine Blk.pass rfl ?_)
        | (refine Thn.r ?_)
        | (refine Blk.r ?_)
        | (refine DW.skip ?_)
        | (refine DW.label ?_)
        | (refine DW.regionC (id := 0) ?_; refine DC.tri (T.assign _ _) ⟨rfl, trivial⟩ trivial ?_ (.none rfl) rfl; refine DC.nilN (by first | (dsimp only [evalD, lkF, lkE, updF, Nat.beq, cond_true, cond_false, List.cons_append, List.nil_append, List.append_nil, argF, Nat.reduceAdd, Nat.reduceMul, spliceD, List.take, List.drop, List.length, flats, Value.cells, List.map, List.set]; done) | exact rfl | fail) ?_)
        | (refine DW.regionC (id := 1) ?_; refine DC.tri (T.assign _ _) ⟨rfl, trivial⟩ trivial ?_ (.none rfl) rfl; refine DC.nilN (by first | (dsimp only [evalD, lkF, lkE, updF, Nat.beq, cond_true, cond_false, List.cons_append, List.nil_append, List.append_nil, argF, Nat.reduceAdd, Nat.reduceMul, spliceD, List.take, List.drop, List.length, flats, Value.cells, List.map, List.set]; done) | exact rfl | fail) ?_)
        | (refine DW.drawnC (id := 2) rfl (by kernel_rfl) ?_; (first | refine DC.tri (T.fieldRef' 35 _ 1 fd35_1 (by decide)) ⟨rfl, trivial⟩ trivial ?_ (.none rfl) rfl | refine DC.tri (T.fieldPtr' 35 _ 1 fd35_1 (by decide)) ⟨rfl, trivial⟩ trivial ?_ (.none rfl) rfl); (first | refine DC.tri (T.loadRef 23 _ ag23 sz23 (by first | rfl | assumption)) ⟨rfl, trivial⟩ ⟨rfl, trivial⟩ ?_ (.none rfl) rfl | refine DC.tri (T.loadPtr 23 _ ag23 sz23 (by first | rfl | assumption)) ⟨rfl, trivial⟩ trivial ?_ (.none rfl) rfl | refine DC.tri (T.loadElp 23 _ ag23 sz23 (by first | rfl | assumption)) ⟨rfl, trivial⟩ ⟨rfl, trivial⟩ ?_ (.none rfl) rfl); refine DC.tri (T.move _ _) ⟨rfl, trivial⟩ trivial ?_ (.none rfl) rfl; (first | refine DC.tri (T.loadRef 3 _ ag3 sz3 (by first | rfl | assumption)) ⟨rfl, trivial⟩ ⟨rfl, trivial⟩ ?_ (.none rfl) rfl | refine DC.tri (T.loadPtr 3 _ ag3 sz3 (by first | rfl | assumption)) ⟨rfl, trivial⟩ trivial ?_ (.none rfl) rfl | refine DC.tri (T.loadElp 3 _ ag3 sz3 (by first | rfl | assumption)) ⟨rfl, trivial⟩ ⟨rfl, trivial⟩ ?_ (.none rfl) rfl); refine DC.tri (T.quo (k := .i64) _ _ _ _ (by omega) (quo64 (by omega) (by omega) (by omega))) ⟨rfl, rfl, trivial⟩ trivial ?_ (.none rfl) rfl; (first | refine DC.tri (T.indexSl 23 _ _ un23 sz4 (by omega) (by omega) (by decide)) ⟨rfl, rfl, trivial⟩ trivial ?_ (.none rfl) rfl | refine DC.tri (T.indexOwn 23 _ _ un23 sz4 (by omega) (by omega)) ⟨rfl, rfl, trivial⟩ ⟨rfl, trivial⟩ ?_ (.none rfl) rfl); (first | refine DC.tri (T.loadRef 4 _ ag4 sz4 (by first | rfl | assumption)) ⟨rfl, trivial⟩ ⟨rfl, trivial⟩ ?_ (.none rfl) rfl | refine DC.tri (T.loadPtr 4 _ ag4 sz4 (by first | rfl | assumption)) ⟨rfl, trivial⟩ trivial ?_ (.none rfl) rfl | refine DC.tri (T.loadElp 4 _ ag4 sz4 (by first | rfl | assumption)) ⟨rfl, trivial⟩ ⟨rfl, trivial⟩ ?_ (.none rfl) rfl); refine DC.nilN (by first | (dsimp only [evalD, lkF, lkE, updF, Nat.beq, cond_true, cond_false, List.cons_append, List.nil_append, List.append_nil, argF, Nat.reduceAdd, Nat.reduceMul, spliceD, List.take, List.drop, List.length, flats, Value.cells, List.map, List.set]; done) | exact rfl | fail) ?_; refine ⟨by kernel_rfl, ?_⟩)
        | (refine DW.regionC (id := 3) ?_; refine DC.tri (T.move _ _) ⟨rfl, trivial⟩ trivial ?_ (.none rfl) rfl; (first | refine DC.tri (T.add (k := .i64) _ _ _ _ (w64 (by omega) (by omega))) ⟨rfl, rfl, trivial⟩ trivial ?_ (.none rfl) rfl | refine DC.tri (T.add (k := .i64) _ _ _ _ (by assumption)) ⟨rfl, rfl, trivial⟩ trivial ?_ (.none rfl) rfl); refine DC.tri (T.assign _ _) ⟨rfl, trivial⟩ trivial ?_ (.none rfl) rfl; refine DC.nilN (by first | (dsimp only [evalD, lkF, lkE, updF, Nat.beq, cond_true, cond_false, List.cons_append, List.nil_append, List.append_nil, argF, Nat.reduceAdd, Nat.reduceMul, spliceD, List.take, List.drop, List.length, flats, Value.cells, List.map, List.set]; done) | exact rfl | fail) ?_)
        | (refine DW.drawnC (id := 4) rfl (by kernel_rfl) ?_; (first | refine DC.tri (T.fieldRef' 35 _ 1 fd35_1 (by decide)) ⟨rfl, trivial⟩ trivial ?_ (.none rfl) rfl | refine DC.tri (T.fieldPtr' 35 _ 1 fd35_1 (by decide)) ⟨rfl, trivial⟩ trivial ?_ (.none rfl) rfl); (first | refine DC.tri (T.loadRef 23 _ ag23 sz23 (by first | rfl | assumption)) ⟨rfl, trivial⟩ ⟨rfl, trivial⟩ ?_ (.none rfl) rfl | refine DC.tri (T.loadPtr 23 _ ag23 sz23 (by first | rfl | assumption)) ⟨rfl, trivial⟩ trivial ?_ (.none rfl) rfl | refine DC.tri (T.loadElp 23 _ ag23 sz23 (by first | rfl | assumption)) ⟨rfl, trivial⟩ ⟨rfl, trivial⟩ ?_ (.none rfl) rfl); refine DC.tri (T.move _ _) ⟨rfl, trivial⟩ trivial ?_ (.none rfl) rfl; (first | refine DC.tri (T.loadRef 3 _ ag3 sz3 (by first | rfl | assumption)) ⟨rfl, trivial⟩ ⟨rfl, trivial⟩ ?_ (.none rfl) rfl | refine DC.tri (T.loadPtr 3 _ ag3 sz3 (by first | rfl | assumption)) ⟨rfl, trivial⟩ trivial ?_ (.none rfl) rfl | refine DC.tri (T.loadElp 3 _ ag3 sz3 (by first | rfl | assumption)) ⟨rfl, trivial⟩ ⟨rfl, trivial⟩ ?_ (.none rfl) rfl); refine DC.tri (T.rem (k := .i64) _ _ _ _ (by omega) (rem64 (by omega))) ⟨rfl, rfl, trivial⟩ trivial ?_ (.none rfl) rfl; (first | refine DC.tri (T.indexSl 23 _ _ un23 sz4 (by omega) (by omega) (by decide)) ⟨rfl, rfl, trivial⟩ trivial ?_ (.none rfl) rfl | refine DC.tri (T.indexOwn 23 _ _ un23 sz4 (by omega) (by omega)) ⟨rfl, rfl, trivial⟩ ⟨rfl, trivial⟩ ?_ (.none rfl) rfl); (first | refine DC.tri (T.loadRef 4 _ ag4 sz4 (by first | rfl | assumption)) ⟨rfl, trivial⟩ ⟨rfl, trivial⟩ ?_ (.none rfl) rfl | refine DC.tri (T.loadPtr 4 _ ag4 sz4 (by first | rfl | assumption)) ⟨rfl, trivial⟩ trivial ?_ (.none rfl) rfl | refine DC.tri (T.loadElp 4 _ ag4 sz4 (by first | rfl | assumption)) ⟨rfl, trivial⟩ ⟨rfl, trivial⟩ ?_ (.none rfl) rfl); refine DC.nilN (by first | (dsimp only [evalD, lkF, lkE, updF, Nat.beq, cond_true, cond_false, List.cons_append, List.nil_append, List.append_nil, argF, Nat.reduceAdd, Nat.reduceMul, spliceD, List.take, List.drop, List.length, flats, Value.cells, List.map, List.set]; done) | exact rfl | fail) ?_; refine ⟨by kernel_rfl, ?_⟩)
        | (refine DW.regionC (id := 5) ?_; refine DC.tri (T.move _ _) ⟨rfl, trivial⟩ trivial ?_ (.none rfl) rfl; (first | refine DC.tri (T.add (k := .i64) _ _ _ _ (w64 (by omega) (by omega))) ⟨rfl, rfl, trivial⟩ trivial ?_ (.none rfl) rfl | refine DC.tri (T.add (k := .i64) _ _ _ _ (by assumption)) ⟨rfl, rfl, trivial⟩ trivial ?_ (.none rfl) rfl); refine DC.tri (T.assign _ _) ⟨rfl, trivial⟩ trivial ?_ (.none rfl) rfl; refine DC.nilN (by first | (dsimp only [evalD, lkF, lkE, updF, Nat.beq, cond_true, cond_false, List.cons_append, List.nil_append, List.append_nil, argF, Nat.reduceAdd, Nat.reduceMul, spliceD, List.take, List.drop, List.length, flats, Value.cells, List.map, List.set]; done) | exact rfl | fail) ?_)
        | (refine DW.regionC (id := 6) ?_; refine DC.tri (T.move _ _) ⟨rfl, trivial⟩ trivial ?_ (.none rfl) rfl; (first | refine DC.tri (T.indexArr 62 _ _ un62 sz4 (by omega) (by omega)) ⟨rfl, rfl, trivial⟩ trivial ?_ (.none rfl) rfl | refine DC.tri (T.indexArrPtr 62 _ _ un62 sz4 (by omega) (by omega)) ⟨rfl, rfl, trivial⟩ trivial ?_ (.none rfl) rfl); (first | refine DC.tri (T.loadRef 4 _ ag4 sz4 (by first | rfl | assumption)) ⟨rfl, trivial⟩ ⟨rfl, trivial⟩ ?_ (.none rfl) rfl | refine DC.tri (T.loadPtr 4 _ ag4 sz4 (by first | rfl | assumption)) ⟨rfl, trivial⟩ trivial ?_ (.none rfl) rfl | refine DC.tri (T.loadElp 4 _ ag4 sz4 (by first | rfl | assumption)) ⟨rfl, trivial⟩ ⟨rfl, trivial⟩ ?_ (.none rfl) rfl); refine DC.tri (T.assign _ _) ⟨rfl, trivial⟩ trivial ?_ (.none rfl) rfl; refine DC.nilN (by first | (dsimp only [evalD, lkF, lkE, updF, Nat.beq, cond_true, cond_false, List.cons_append, List.nil_append, List.append_nil, argF, Nat.reduceAdd, Nat.reduceMul, spliceD, List.take, List.drop, List.length, flats, Value.cells, List.map, List.set]; done) | exact rfl | fail) ?_)
        | (refine DW.condT' rfl (by first | rfl | assumption | exact decide_eq_true (by first | assumption | omega) | exact decide_eq_false (by first | assumption | omega) | (simp only [*]; done) | fail) ?_)
        | (refine DW.condF' rfl (by first | rfl | assumption | exact decide_eq_true (by first | assumption | omega) | exact decide_eq_false (by first | assumption | omega) | (simp only [*]; done) | fail) ?_)
        | (refine DW.exit ?_)
        | (refine DW.ret ?_)
        | fail)
    exact ⟨.inr rfl, ResOk.one [] rfl (by first | (dsimp only [evalD, lkF, lkE, updF, Nat.beq, cond_true, cond_false, List.cons_append, List.nil_append, List.append_nil, argF, Nat.reduceAdd, Nat.reduceMul, spliceD, List.take, List.drop, List.length, flats, Value.cells, List.map, List.set]; done) | exact rfl | fail) trivial (Vw.le (Vw.pers rfl) (Le.of_eq rfl))⟩
end Go.Proofs.Ytdakoccbmeojhaa
/- Contracts over data: Product. No condition. -/
set_option linter.unusedSimpArgs false
set_option linter.unusedVariables false
set_option maxHeartbeats 1000000
set_option maxRecDepth 8000
namespace Go.Proofs.Ytdakoccbmeojhaa
open Go Go.RowKit Go.PP Go.Dm


theorem pairE_a {A B : Au} {wh : List Bool} (h : chk A ≠ 0) : pairE A B wh = (A00, chk A) := if_pos h
theorem pairE_b {A B : Au} {wh : List Bool} (h : chk A = 0) (h2 : chk B ≠ 0) : pairE A B wh = (A00, chk B) := by unfold pairE; rw [if_neg (by simp [h]), if_pos h2]
theorem pairE_k {A B : Au} {wh : List Bool} (h : chk A = 0) (h2 : chk B = 0) (h3 : A.ranks ≠ B.ranks) : pairE A B wh = (A00, 11) := by unfold pairE; rw [if_neg (by simp [h]), if_neg (by simp [h2]), if_pos h3]
theorem pairE_l {A B : Au} {wh : List Bool} (h : chk A = 0) (h2 : chk B = 0) (h3 : A.ranks = B.ranks) (h4 : 512 < A.final.length * B.final.length) : pairE A B wh = (A00, 8) := by unfold pairE; rw [if_neg (by simp [h]), if_neg (by simp [h2]), if_neg (by simp [h3]), if_pos h4]
theorem pairE_ok {A B : Au} {wh : List Bool} (h : chk A = 0) (h2 : chk B = 0) (h3 : A.ranks = B.ranks) (h4 : A.final.length * B.final.length ≤ 512) : pairE A B wh = (prodA A B wh, 0) := by
  unfold pairE; rw [if_neg (by simp [h]), if_neg (by simp [h2]), if_neg (by simp [h3]), if_neg (by omega)]
def arrD (wh : List Bool) : D := .agg (wh.map boolD)
theorem prod_digs {A B : Au} (hA : AuOk A) (hB : AuOk B) (hr : A.ranks = B.ranks) {i k p : Nat} (hk : A.ranks[i]? = some ((k : Nat) : Int)) :
    Fits A i ((digs (A.final.length * B.final.length) k p).map fun d => d / (B.final.length : Int)) ∧ Fits B i ((digs (A.final.length * B.final.length) k p).map fun d => d % (B.final.length : Int)) :=
  prod_fits hA hB hr hk (by simp [digs_len]) (fun d hd => digs_rng (Nat.mul_pos hA.lo hB.lo) k p d hd)

theorem product_d (A B : Au) (wh : List Bool) (hw : wh.length = 4) : DFun Try.prog 31 [auD A, auD B, arrD wh] (.tup [auD (pairE A B wh).1, intD ((pairE A B wh).2 : Nat)]) := by
  refine DFun.enter Try.func31 rfl Try.ntmps31 (by simp) ?_
  dsimp only [evalD, lkF, lkE, updF, Nat.beq, cond_true, cond_false, List.cons_append, List.nil_append, List.append_nil, argF, Nat.reduceAdd, Nat.reduceMul, spliceD, List.take, List.drop, List.length, flats, Value.cells, List.map, List.set, Thn, Blk, if_true, if_false, reduceIte, Nat.reduceEqDiff]
  repeat (first
      | (refine DW.seq ?_)
      | (refine DW.block ?_)
      | (refine Thn.n ?_)
      | (refine Blk.n ?_)
      | (refine Blk.here ?_)
      | (refine Thn.e ?_)
      | (refine Blk.pass rfl ?_)
      | (refine Thn.r ?_)
      | (refine Blk.r ?_)
      | (refine DW.skip ?_)
      | (refine DW.label ?_)
      | (refine DW.regionC (id := 0) ?_; refine DC.tri (T.box 3 35 _ rfl) ⟨rfl, trivial⟩ ⟨rfl, trivial⟩ ?_ (.none rfl) rfl; refine DC.tri (T.box 4 35 _ rfl) ⟨rfl, trivial⟩ ⟨rfl, trivial⟩ ?_ (.none rfl) rfl; refine DC.tri (T.box 5 62 _ rfl) ⟨rfl, trivial⟩ ⟨rfl, trivial⟩ ?_ (.none rfl) rfl; refine DC.tri (T.alloc 6 35 ze35) trivial ⟨rfl, trivial⟩ ?_ (.none rfl) rfl; refine DC.tri (T.assign _ _) ⟨rfl, trivial⟩ trivial ?_ (.none rfl) rfl; refine DC.nilN (by first | (dsimp only [evalD, lkF, lkE, updF, Nat.beq, cond_true, cond_false, List.cons_append, List.nil_append, List.append_nil, argF, Nat.reduceAdd, Nat.reduceMul, spliceD, List.take, List.drop, List.length, flats, Value.cells, List.map, List.set]; done) | exact rfl | fail) ?_)
      | (refine DW.regionC (id := 1) ?_; (first | refine DC.tri (T.loadRef 35 _ ag35 sz35 (by first | rfl | assumption)) ⟨rfl, trivial⟩ ⟨rfl, trivial⟩ ?_ (.none rfl) rfl | refine DC.tri (T.loadPtr 35 _ ag35 sz35 (by first | rfl | assumption)) ⟨rfl, trivial⟩ trivial ?_ (.none rfl) rfl | refine DC.tri (T.loadElp 35 _ ag35 sz35 (by first | rfl | assumption)) ⟨rfl, trivial⟩ ⟨rfl, trivial⟩ ?_ (.none rfl) rfl); (first | refine DC.tri (T.call («as» := [_]) (ds' := [_]) ent20 (check_d A) rfl rfl (LeL.refl _)) ⟨rfl, trivial⟩ trivial ?_ (.none rfl) rfl | refine DC.tri (T.call («as» := [_]) (ds' := [_]) ent20 (check_d B) rfl rfl (LeL.refl _)) ⟨rfl, trivial⟩ trivial ?_ (.none rfl) rfl); refine DC.tri (T.assign _ _) ⟨rfl, trivial⟩ trivial ?_ (.none rfl) rfl; refine DC.nilN (by first | (dsimp only [evalD, lkF, lkE, updF, Nat.beq, cond_true, cond_false, List.cons_append, List.nil_append, List.append_nil, argF, Nat.reduceAdd, Nat.reduceMul, spliceD, List.take, List.drop, List.length, flats, Value.cells, List.map, List.set]; done) | exact rfl | fail) ?_)
      | (refine DW.condT' rfl (by first | rfl | assumption | exact decide_eq_true (by first | assumption | omega) | exact decide_eq_false (by first | assumption | omega) | (simp only [*]; done) | fail) ?_)
      | (refine DW.condF' rfl (by first | rfl | assumption | exact decide_eq_true (by first | assumption | omega) | exact decide_eq_false (by first | assumption | omega) | (simp only [*]; done) | fail) ?_)
      | (refine DW.exit ?_)
      | (refine DW.ret ?_)
      | fail)
  by_cases hk : chk A = 0
  rotate_left
  · have hne : ((chk A : Nat) : Int) ≠ 0 := by omega
    rw [pairE_a hk]
    repeat (first
        | (refine DW.seq ?_)
        | (refine DW.block ?_)
        | (refine Thn.n ?_)
        | (refine Blk.n ?_)
        | (refine Blk.here ?_)
        | (refine Thn.e ?_)
        | (refine Blk.pass rfl ?_)
        | (refine Thn.r ?_)
        | (refine Blk.r ?_)
        | (refine DW.skip ?_)
        | (refine DW.label ?_)
        | (refine DW.regionC (id := 2) ?_; refine DC.tri (T.move _ _) ⟨rfl, trivial⟩ trivial ?_ (.none rfl) rfl; refine DC.tri (T.neq _ _ _ _) ⟨rfl, rfl, trivial⟩ trivial ?_ (.none rfl) rfl; refine DC.nilN (by first | (dsimp only [evalD, lkF, lkE, updF, Nat.beq, cond_true, cond_false, List.cons_append, List.nil_append, List.append_nil, argF, Nat.reduceAdd, Nat.reduceMul, spliceD, List.take, List.drop, List.length, flats, Value.cells, List.map, List.set]; done) | exact rfl | fail) ?_)
        | (refine DW.regionC (id := 3) ?_; refine DC.tri (T.buildS0 35 Try.underlying35 ze35 (pl35 Try.underlying35)) trivial trivial ?_ (.none rfl) rfl; refine DC.tri (T.move _ _) ⟨rfl, trivial⟩ trivial ?_ (.none rfl) rfl; (first | refine DC.tri (T.storeRef 35 _ _ sz35 rfl rfl (by first | rfl | simp [oneL, oneD, Value.oneCell']) (by first | decide | (simp; done) | omega | (simp; omega))) ⟨rfl, rfl, trivial⟩ ⟨rfl, trivial⟩ ?_ (.none rfl) rfl | refine DC.tri (T.storeElp 35 _ _ sz35 rfl rfl rfl (by first | decide | (simp; done) | omega | (simp; omega))) ⟨rfl, rfl, trivial⟩ ⟨rfl, trivial⟩ ?_ (.none rfl) rfl); refine DC.tri (T.assign _ _) ⟨rfl, trivial⟩ trivial ?_ (.none rfl) rfl; refine DC.nilN (by first | (dsimp only [evalD, lkF, lkE, updF, Nat.beq, cond_true, cond_false, List.cons_append, List.nil_append, List.append_nil, argF, Nat.reduceAdd, Nat.reduceMul, spliceD, List.take, List.drop, List.length, flats, Value.cells, List.map, List.set]; done) | exact rfl | fail) ?_)
        | (refine DW.condT' rfl (by first | rfl | assumption | exact decide_eq_true (by first | assumption | omega) | exact decide_eq_false (by first | assumption | omega) | (simp only [*]; done) | fail) ?_)
        | (refine DW.condF' rfl (by first | rfl | assumption | exact decide_eq_true (by first | assumption | omega) | exact decide_eq_false (by first | assumption | omega) | (simp only [*]; done) | fail) ?_)
        | (refine DW.exit ?_)
        | (refine DW.ret ?_)
        | fail)
    exact ⟨.inr rfl, ResOk.cellTmpA [] rfl rfl rfl ag35 sz35 rfl trivial (.cons (Vw.p rfl Le.empty) (.cons (Vw.p rfl Le.empty) (.cons (Vw.p rfl Le.empty) .nil))) (Le.refl _) (Vw.pers rfl)⟩
  have hne : ¬ ((chk A : Nat) : Int) ≠ 0 := by omega
  repeat (first
      | (refine DW.seq ?_)
      | (refine DW.block ?_)
      | (refine Thn.n ?_)
      | (refine Blk.n ?_)
      | (refine Blk.here ?_)
      | (refine Thn.e ?_)
      | (refine Blk.pass rfl ?_)
      | (refine Thn.r ?_)
      | (refine Blk.r ?_)
      | (refine DW.skip ?_)
      | (refine DW.label ?_)
      | (refine DW.regionC (id := 2) ?_; refine DC.tri (T.move _ _) ⟨rfl, trivial⟩ trivial ?_ (.none rfl) rfl; refine DC.tri (T.neq _ _ _ _) ⟨rfl, rfl, trivial⟩ trivial ?_ (.none rfl) rfl; refine DC.nilN (by first | (dsimp only [evalD, lkF, lkE, updF, Nat.beq, cond_true, cond_false, List.cons_append, List.nil_append, List.append_nil, argF, Nat.reduceAdd, Nat.reduceMul, spliceD, List.take, List.drop, List.length, flats, Value.cells, List.map, List.set]; done) | exact rfl | fail) ?_)
      | (refine DW.regionC (id := 4) ?_; (first | refine DC.tri (T.loadRef 35 _ ag35 sz35 (by first | rfl | assumption)) ⟨rfl, trivial⟩ ⟨rfl, trivial⟩ ?_ (.none rfl) rfl | refine DC.tri (T.loadPtr 35 _ ag35 sz35 (by first | rfl | assumption)) ⟨rfl, trivial⟩ trivial ?_ (.none rfl) rfl | refine DC.tri (T.loadElp 35 _ ag35 sz35 (by first | rfl | assumption)) ⟨rfl, trivial⟩ ⟨rfl, trivial⟩ ?_ (.none rfl) rfl); refine DC.tri (T.call («as» := [_]) (ds' := [_]) ent20 (check_d B) rfl rfl (LeL.refl _)) ⟨rfl, trivial⟩ trivial ?_ (.none rfl) rfl; refine DC.tri (T.assign _ _) ⟨rfl, trivial⟩ trivial ?_ (.none rfl) rfl; refine DC.nilN (by first | (dsimp only [evalD, lkF, lkE, updF, Nat.beq, cond_true, cond_false, List.cons_append, List.nil_append, List.append_nil, argF, Nat.reduceAdd, Nat.reduceMul, spliceD, List.take, List.drop, List.length, flats, Value.cells, List.map, List.set]; done) | exact rfl | fail) ?_)
      | (refine DW.condT' rfl (by first | rfl | assumption | exact decide_eq_true (by first | assumption | omega) | exact decide_eq_false (by first | assumption | omega) | (simp only [*]; done) | fail) ?_)
      | (refine DW.condF' rfl (by first | rfl | assumption | exact decide_eq_true (by first | assumption | omega) | exact decide_eq_false (by first | assumption | omega) | (simp only [*]; done) | fail) ?_)
      | (refine DW.exit ?_)
      | (refine DW.ret ?_)
      | fail)
  by_cases hk2 : chk B = 0
  rotate_left
  · have hne : ((chk B : Nat) : Int) ≠ 0 := by omega
    rw [pairE_b hk hk2]
    repeat (first
        | (refine DW.seq ?_)
        | (refine DW.block ?_)
        | (refine Thn.n ?_)
        | (refine Blk.n ?_)
        | (refine Blk.here ?_)
        | (refine Thn.e ?_)
        | (refine Blk.pass rfl ?_)
        | (refine Thn.r ?_)
        | (refine Blk.r ?_)
        | (refine DW.skip ?_)
        | (refine DW.label ?_)
        | (refine DW.regionC (id := 5) ?_; refine DC.tri (T.move _ _) ⟨rfl, trivial⟩ trivial ?_ (.none rfl) rfl; refine DC.tri (T.neq _ _ _ _) ⟨rfl, rfl, trivial⟩ trivial ?_ (.none rfl) rfl; refine DC.nilN (by first | (dsimp only [evalD, lkF, lkE, updF, Nat.beq, cond_true, cond_false, List.cons_append, List.nil_append, List.append_nil, argF, Nat.reduceAdd, Nat.reduceMul, spliceD, List.take, List.drop, List.length, flats, Value.cells, List.map, List.set]; done) | exact rfl | fail) ?_)
        | (refine DW.regionC (id := 6) ?_; refine DC.tri (T.buildS0 35 Try.underlying35 ze35 (pl35 Try.underlying35)) trivial trivial ?_ (.none rfl) rfl; refine DC.tri (T.move _ _) ⟨rfl, trivial⟩ trivial ?_ (.none rfl) rfl; (first | refine DC.tri (T.storeRef 35 _ _ sz35 rfl rfl (by first | rfl | simp [oneL, oneD, Value.oneCell']) (by first | decide | (simp; done) | omega | (simp; omega))) ⟨rfl, rfl, trivial⟩ ⟨rfl, trivial⟩ ?_ (.none rfl) rfl | refine DC.tri (T.storeElp 35 _ _ sz35 rfl rfl rfl (by first | decide | (simp; done) | omega | (simp; omega))) ⟨rfl, rfl, trivial⟩ ⟨rfl, trivial⟩ ?_ (.none rfl) rfl); refine DC.tri (T.assign _ _) ⟨rfl, trivial⟩ trivial ?_ (.none rfl) rfl; refine DC.nilN (by first | (dsimp only [evalD, lkF, lkE, updF, Nat.beq, cond_true, cond_false, List.cons_append, List.nil_append, List.append_nil, argF, Nat.reduceAdd, Nat.reduceMul, spliceD, List.take, List.drop, List.length, flats, Value.cells, List.map, List.set]; done) | exact rfl | fail) ?_)
        | (refine DW.condT' rfl (by first | rfl | assumption | exact decide_eq_true (by first | assumption | omega) | exact decide_eq_false (by first | assumption | omega) | (simp only [*]; done) | fail) ?_)
        | (refine DW.condF' rfl (by first | rfl | assumption | exact decide_eq_true (by first | assumption | omega) | exact decide_eq_false (by first | assumption | omega) | (simp only [*]; done) | fail) ?_)
        | (refine DW.exit ?_)
        | (refine DW.ret ?_)
        | fail)
    exact ⟨.inr rfl, ResOk.cellTmpA [] rfl rfl rfl ag35 sz35 rfl trivial (.cons (Vw.p rfl Le.empty) (.cons (Vw.p rfl Le.empty) (.cons (Vw.p rfl Le.empty) .nil))) (Le.refl _) (Vw.pers rfl)⟩
  have hne2 : ¬ ((chk B : Nat) : Int) ≠ 0 := by omega
  by_cases hr : A.ranks = B.ranks
  rotate_left
  · have heq : DFun Try.prog 54 [intsD A.ranks, intsD B.ranks] (boolD false) := by simpa [hr] using eqA_d A.ranks B.ranks
    rw [pairE_k hk hk2 hr]
    repeat (first
        | (refine DW.seq ?_)
        | (refine DW.block ?_)
        | (refine Thn.n ?_)
        | (refine Blk.n ?_)
        | (refine Blk.here ?_)
        | (refine Thn.e ?_)
        | (refine Blk.pass rfl ?_)
        | (refine Thn.r ?_)
        | (refine Blk.r ?_)
        | (refine DW.skip ?_)
        | (refine DW.label ?_)
        | (refine DW.regionC (id := 5) ?_; refine DC.tri (T.move _ _) ⟨rfl, trivial⟩ trivial ?_ (.none rfl) rfl; refine DC.tri (T.neq _ _ _ _) ⟨rfl, rfl, trivial⟩ trivial ?_ (.none rfl) rfl; refine DC.nilN (by first | (dsimp only [evalD, lkF, lkE, updF, Nat.beq, cond_true, cond_false, List.cons_append, List.nil_append, List.append_nil, argF, Nat.reduceAdd, Nat.reduceMul, spliceD, List.take, List.drop, List.length, flats, Value.cells, List.map, List.set]; done) | exact rfl | fail) ?_)
        | (refine DW.drawnC (id := 7) rfl (by kernel_rfl) ?_; (first | refine DC.tri (T.fieldRef' 35 _ 1 fd35_1 (by decide)) ⟨rfl, trivial⟩ trivial ?_ (.none rfl) rfl | refine DC.tri (T.fieldPtr' 35 _ 1 fd35_1 (by decide)) ⟨rfl, trivial⟩ trivial ?_ (.none rfl) rfl); (first | refine DC.tri (T.loadRef 23 _ ag23 sz23 (by first | rfl | assumption)) ⟨rfl, trivial⟩ ⟨rfl, trivial⟩ ?_ (.none rfl) rfl | refine DC.tri (T.loadPtr 23 _ ag23 sz23 (by first | rfl | assumption)) ⟨rfl, trivial⟩ trivial ?_ (.none rfl) rfl | refine DC.tri (T.loadElp 23 _ ag23 sz23 (by first | rfl | assumption)) ⟨rfl, trivial⟩ ⟨rfl, trivial⟩ ?_ (.none rfl) rfl); (first | refine DC.tri (T.lenSl 23 _ un23) ⟨rfl, trivial⟩ trivial ?_ (.none rfl) rfl | refine DC.tri (T.lenOwn 23 _ un23) ⟨rfl, trivial⟩ trivial ?_ (.none rfl) rfl | refine DC.tri (T.lenNil 23 _ un23) ⟨rfl, trivial⟩ trivial ?_ (.none rfl) rfl); (first | refine DC.tri (T.fieldRef' 35 _ 1 fd35_1 (by decide)) ⟨rfl, trivial⟩ trivial ?_ (.none rfl) rfl | refine DC.tri (T.fieldPtr' 35 _ 1 fd35_1 (by decide)) ⟨rfl, trivial⟩ trivial ?_ (.none rfl) rfl); (first | refine DC.tri (T.loadRef 23 _ ag23 sz23 (by first | rfl | assumption)) ⟨rfl, trivial⟩ ⟨rfl, trivial⟩ ?_ (.none rfl) rfl | refine DC.tri (T.loadPtr 23 _ ag23 sz23 (by first | rfl | assumption)) ⟨rfl, trivial⟩ trivial ?_ (.none rfl) rfl | refine DC.tri (T.loadElp 23 _ ag23 sz23 (by first | rfl | assumption)) ⟨rfl, trivial⟩ ⟨rfl, trivial⟩ ?_ (.none rfl) rfl); (first | refine DC.tri (T.lenSl 23 _ un23) ⟨rfl, trivial⟩ trivial ?_ (.none rfl) rfl | refine DC.tri (T.lenOwn 23 _ un23) ⟨rfl, trivial⟩ trivial ?_ (.none rfl) rfl | refine DC.tri (T.lenNil 23 _ un23) ⟨rfl, trivial⟩ trivial ?_ (.none rfl) rfl); refine DC.tri (T.alloc 11 3 ze3) trivial ⟨rfl, trivial⟩ ?_ (.none rfl) rfl; refine DC.tri (T.assign _ _) ⟨rfl, trivial⟩ trivial ?_ (.none rfl) rfl; (first | refine DC.tri (T.storeRef 3 _ _ sz3 rfl rfl (by first | rfl | simp [oneL, oneD, Value.oneCell']) (by first | decide | (simp; done) | omega | (simp; omega))) ⟨rfl, rfl, trivial⟩ ⟨rfl, trivial⟩ ?_ (.none rfl) rfl | refine DC.tri (T.storeElp 3 _ _ sz3 rfl rfl rfl (by first | decide | (simp; done) | omega | (simp; omega))) ⟨rfl, rfl, trivial⟩ ⟨rfl, trivial⟩ ?_ (.none rfl) rfl); refine DC.nilN (by first | (dsimp only [evalD, lkF, lkE, updF, Nat.beq, cond_true, cond_false, List.cons_append, List.nil_append, List.append_nil, argF, Nat.reduceAdd, Nat.reduceMul, spliceD, List.take, List.drop, List.length, flats, Value.cells, List.map, List.set]; done) | exact rfl | fail) ?_; refine ⟨by kernel_rfl, ?_⟩)
        | (refine DW.regionC (id := 8) ?_; (first | refine DC.tri (T.fieldRef' 35 _ 0 fd35_0 (by decide)) ⟨rfl, trivial⟩ trivial ?_ (.none rfl) rfl | refine DC.tri (T.fieldPtr' 35 _ 0 fd35_0 (by decide)) ⟨rfl, trivial⟩ trivial ?_ (.none rfl) rfl); (first | refine DC.tri (T.loadRef 33 _ ag33 sz33 (by first | rfl | assumption)) ⟨rfl, trivial⟩ ⟨rfl, trivial⟩ ?_ (.none rfl) rfl | refine DC.tri (T.loadPtr 33 _ ag33 sz33 (by first | rfl | assumption)) ⟨rfl, trivial⟩ trivial ?_ (.none rfl) rfl | refine DC.tri (T.loadElp 33 _ ag33 sz33 (by first | rfl | assumption)) ⟨rfl, trivial⟩ ⟨rfl, trivial⟩ ?_ (.none rfl) rfl); (first | refine DC.tri (T.fieldRef' 35 _ 0 fd35_0 (by decide)) ⟨rfl, trivial⟩ trivial ?_ (.none rfl) rfl | refine DC.tri (T.fieldPtr' 35 _ 0 fd35_0 (by decide)) ⟨rfl, trivial⟩ trivial ?_ (.none rfl) rfl); (first | refine DC.tri (T.loadRef 33 _ ag33 sz33 (by first | rfl | assumption)) ⟨rfl, trivial⟩ ⟨rfl, trivial⟩ ?_ (.none rfl) rfl | refine DC.tri (T.loadPtr 33 _ ag33 sz33 (by first | rfl | assumption)) ⟨rfl, trivial⟩ trivial ?_ (.none rfl) rfl | refine DC.tri (T.loadElp 33 _ ag33 sz33 (by first | rfl | assumption)) ⟨rfl, trivial⟩ ⟨rfl, trivial⟩ ?_ (.none rfl) rfl); refine DC.tri (T.call («as» := [_, _]) (ds' := [_, _]) ent54 heq rfl rfl (LeL.refl _)) ⟨rfl, rfl, trivial⟩ trivial ?_ (.none rfl) rfl; refine DC.tri (T.not _ _) ⟨rfl, trivial⟩ trivial ?_ (.none rfl) rfl; refine DC.tri (T.assign _ _) ⟨rfl, trivial⟩ trivial ?_ (.none rfl) rfl; refine DC.nilN (by first | (dsimp only [evalD, lkF, lkE, updF, Nat.beq, cond_true, cond_false, List.cons_append, List.nil_append, List.append_nil, argF, Nat.reduceAdd, Nat.reduceMul, spliceD, List.take, List.drop, List.length, flats, Value.cells, List.map, List.set]; done) | exact rfl | fail) ?_)
        | (refine DW.regionC (id := 9) ?_; refine DC.tri (T.buildS0 35 Try.underlying35 ze35 (pl35 Try.underlying35)) trivial trivial ?_ (.none rfl) rfl; (first | refine DC.tri (T.storeRef 35 _ _ sz35 rfl rfl (by first | rfl | simp [oneL, oneD, Value.oneCell']) (by first | decide | (simp; done) | omega | (simp; omega))) ⟨rfl, rfl, trivial⟩ ⟨rfl, trivial⟩ ?_ (.none rfl) rfl | refine DC.tri (T.storeElp 35 _ _ sz35 rfl rfl rfl (by first | decide | (simp; done) | omega | (simp; omega))) ⟨rfl, rfl, trivial⟩ ⟨rfl, trivial⟩ ?_ (.none rfl) rfl); refine DC.tri (T.assign _ _) ⟨rfl, trivial⟩ trivial ?_ (.none rfl) rfl; refine DC.nilN (by first | (dsimp only [evalD, lkF, lkE, updF, Nat.beq, cond_true, cond_false, List.cons_append, List.nil_append, List.append_nil, argF, Nat.reduceAdd, Nat.reduceMul, spliceD, List.take, List.drop, List.length, flats, Value.cells, List.map, List.set]; done) | exact rfl | fail) ?_)
        | (refine DW.condT' rfl (by first | rfl | assumption | exact decide_eq_true (by first | assumption | omega) | exact decide_eq_false (by first | assumption | omega) | (simp only [*]; done) | fail) ?_)
        | (refine DW.condF' rfl (by first | rfl | assumption | exact decide_eq_true (by first | assumption | omega) | exact decide_eq_false (by first | assumption | omega) | (simp only [*]; done) | fail) ?_)
        | (refine DW.exit ?_)
        | (refine DW.ret ?_)
        | fail)
    exact ⟨.inr rfl, ResOk.cellTmpA [] rfl rfl rfl ag35 sz35 rfl trivial (.cons (Vw.p rfl Le.empty) (.cons (Vw.p rfl Le.empty) (.cons (Vw.p rfl Le.empty) .nil))) (Le.refl _) (Vw.pers rfl)⟩
  have hA := chk_ok hk
  have hB := chk_ok hk2
  have ha1 := hA.lo
  have ha2 := hA.hi
  have hb1 := hB.lo
  have hb2 := hB.hi
  have heq : DFun Try.prog 54 [intsD A.ranks, intsD B.ranks] (boolD true) := by simpa [hr] using eqA_d A.ranks B.ranks
  have hmul : A.final.length * B.final.length ≤ 512 * 512 := Nat.mul_le_mul ha2 hb2
  have hmi : ((A.final.length * B.final.length : Nat) : Int) = (A.final.length : Int) * (B.final.length : Int) := Int.natCast_mul _ _
  have hmi2 : (A.final.length : Int) * (B.final.length : Int) ≤ 262144 ∧ 0 ≤ (A.final.length : Int) * (B.final.length : Int) := by rw [← hmi]; omega
  by_cases h4 : A.final.length * B.final.length ≤ 512
  rotate_left
  · have h5 : 512 < (A.final.length : Int) * (B.final.length : Int) := by rw [← hmi]; omega
    rw [pairE_l hk hk2 hr (by omega)]
    repeat (first
        | (refine DW.seq ?_)
        | (refine DW.block ?_)
        | (refine Thn.n ?_)
        | (refine Blk.n ?_)
        | (refine Blk.here ?_)
        | (refine Thn.e ?_)
        | (refine Blk.pass rfl ?_)
        | (refine Thn.r ?_)
        | (refine Blk.r ?_)
        | (refine DW.skip ?_)
        | (refine DW.label ?_)
        | (refine DW.regionC (id := 5) ?_; refine DC.tri (T.move _ _) ⟨rfl, trivial⟩ trivial ?_ (.none rfl) rfl; refine DC.tri (T.neq _ _ _ _) ⟨rfl, rfl, trivial⟩ trivial ?_ (.none rfl) rfl; refine DC.nilN (by first | (dsimp only [evalD, lkF, lkE, updF, Nat.beq, cond_true, cond_false, List.cons_append, List.nil_append, List.append_nil, argF, Nat.reduceAdd, Nat.reduceMul, spliceD, List.take, List.drop, List.length, flats, Value.cells, List.map, List.set]; done) | exact rfl | fail) ?_)
        | (refine DW.drawnC (id := 7) rfl (by kernel_rfl) ?_; (first | refine DC.tri (T.fieldRef' 35 _ 1 fd35_1 (by decide)) ⟨rfl, trivial⟩ trivial ?_ (.none rfl) rfl | refine DC.tri (T.fieldPtr' 35 _ 1 fd35_1 (by decide)) ⟨rfl, trivial⟩ trivial ?_ (.none rfl) rfl); (first | refine DC.tri (T.loadRef 23 _ ag23 sz23 (by first | rfl | assumption)) ⟨rfl, trivial⟩ ⟨rfl, trivial⟩ ?_ (.none rfl) rfl | refine DC.tri (T.loadPtr 23 _ ag23 sz23 (by first | rfl | assumption)) ⟨rfl, trivial⟩ trivial ?_ (.none rfl) rfl | refine DC.tri (T.loadElp 23 _ ag23 sz23 (by first | rfl | assumption)) ⟨rfl, trivial⟩ ⟨rfl, trivial⟩ ?_ (.none rfl) rfl); (first | refine DC.tri (T.lenSl 23 _ un23) ⟨rfl, trivial⟩ trivial ?_ (.none rfl) rfl | refine DC.tri (T.lenOwn 23 _ un23) ⟨rfl, trivial⟩ trivial ?_ (.none rfl) rfl | refine DC.tri (T.lenNil 23 _ un23) ⟨rfl, trivial⟩ trivial ?_ (.none rfl) rfl); (first | refine DC.tri (T.fieldRef' 35 _ 1 fd35_1 (by decide)) ⟨rfl, trivial⟩ trivial ?_ (.none rfl) rfl | refine DC.tri (T.fieldPtr' 35 _ 1 fd35_1 (by decide)) ⟨rfl, trivial⟩ trivial ?_ (.none rfl) rfl); (first | refine DC.tri (T.loadRef 23 _ ag23 sz23 (by first | rfl | assumption)) ⟨rfl, trivial⟩ ⟨rfl, trivial⟩ ?_ (.none rfl) rfl | refine DC.tri (T.loadPtr 23 _ ag23 sz23 (by first | rfl | assumption)) ⟨rfl, trivial⟩ trivial ?_ (.none rfl) rfl | refine DC.tri (T.loadElp 23 _ ag23 sz23 (by first | rfl | assumption)) ⟨rfl, trivial⟩ ⟨rfl, trivial⟩ ?_ (.none rfl) rfl); (first | refine DC.tri (T.lenSl 23 _ un23) ⟨rfl, trivial⟩ trivial ?_ (.none rfl) rfl | refine DC.tri (T.lenOwn 23 _ un23) ⟨rfl, trivial⟩ trivial ?_ (.none rfl) rfl | refine DC.tri (T.lenNil 23 _ un23) ⟨rfl, trivial⟩ trivial ?_ (.none rfl) rfl); refine DC.tri (T.alloc 11 3 ze3) trivial ⟨rfl, trivial⟩ ?_ (.none rfl) rfl; refine DC.tri (T.assign _ _) ⟨rfl, trivial⟩ trivial ?_ (.none rfl) rfl; (first | refine DC.tri (T.storeRef 3 _ _ sz3 rfl rfl (by first | rfl | simp [oneL, oneD, Value.oneCell']) (by first | decide | (simp; done) | omega | (simp; omega))) ⟨rfl, rfl, trivial⟩ ⟨rfl, trivial⟩ ?_ (.none rfl) rfl | refine DC.tri (T.storeElp 3 _ _ sz3 rfl rfl rfl (by first | decide | (simp; done) | omega | (simp; omega))) ⟨rfl, rfl, trivial⟩ ⟨rfl, trivial⟩ ?_ (.none rfl) rfl); refine DC.nilN (by first | (dsimp only [evalD, lkF, lkE, updF, Nat.beq, cond_true, cond_false, List.cons_append, List.nil_append, List.append_nil, argF, Nat.reduceAdd, Nat.reduceMul, spliceD, List.take, List.drop, List.length, flats, Value.cells, List.map, List.set]; done) | exact rfl | fail) ?_; refine ⟨by kernel_rfl, ?_⟩)
        | (refine DW.regionC (id := 8) ?_; (first | refine DC.tri (T.fieldRef' 35 _ 0 fd35_0 (by decide)) ⟨rfl, trivial⟩ trivial ?_ (.none rfl) rfl | refine DC.tri (T.fieldPtr' 35 _ 0 fd35_0 (by decide)) ⟨rfl, trivial⟩ trivial ?_ (.none rfl) rfl); (first | refine DC.tri (T.loadRef 33 _ ag33 sz33 (by first | rfl | assumption)) ⟨rfl, trivial⟩ ⟨rfl, trivial⟩ ?_ (.none rfl) rfl | refine DC.tri (T.loadPtr 33 _ ag33 sz33 (by first | rfl | assumption)) ⟨rfl, trivial⟩ trivial ?_ (.none rfl) rfl | refine DC.tri (T.loadElp 33 _ ag33 sz33 (by first | rfl | assumption)) ⟨rfl, trivial⟩ ⟨rfl, trivial⟩ ?_ (.none rfl) rfl); (first | refine DC.tri (T.fieldRef' 35 _ 0 fd35_0 (by decide)) ⟨rfl, trivial⟩ trivial ?_ (.none rfl) rfl | refine DC.tri (T.fieldPtr' 35 _ 0 fd35_0 (by decide)) ⟨rfl, trivial⟩ trivial ?_ (.none rfl) rfl); (first | refine DC.tri (T.loadRef 33 _ ag33 sz33 (by first | rfl | assumption)) ⟨rfl, trivial⟩ ⟨rfl, trivial⟩ ?_ (.none rfl) rfl | refine DC.tri (T.loadPtr 33 _ ag33 sz33 (by first | rfl | assumption)) ⟨rfl, trivial⟩ trivial ?_ (.none rfl) rfl | refine DC.tri (T.loadElp 33 _ ag33 sz33 (by first | rfl | assumption)) ⟨rfl, trivial⟩ ⟨rfl, trivial⟩ ?_ (.none rfl) rfl); refine DC.tri (T.call («as» := [_, _]) (ds' := [_, _]) ent54 heq rfl rfl (LeL.refl _)) ⟨rfl, rfl, trivial⟩ trivial ?_ (.none rfl) rfl; refine DC.tri (T.not _ _) ⟨rfl, trivial⟩ trivial ?_ (.none rfl) rfl; refine DC.tri (T.assign _ _) ⟨rfl, trivial⟩ trivial ?_ (.none rfl) rfl; refine DC.nilN (by first | (dsimp only [evalD, lkF, lkE, updF, Nat.beq, cond_true, cond_false, List.cons_append, List.nil_append, List.append_nil, argF, Nat.reduceAdd, Nat.reduceMul, spliceD, List.take, List.drop, List.length, flats, Value.cells, List.map, List.set]; done) | exact rfl | fail) ?_)
        | (refine DW.regionC (id := 10) ?_; refine DC.tri (T.move _ _) ⟨rfl, trivial⟩ trivial ?_ (.none rfl) rfl; (first | refine DC.tri (T.loadRef 3 _ ag3 sz3 (by first | rfl | assumption)) ⟨rfl, trivial⟩ ⟨rfl, trivial⟩ ?_ (.none rfl) rfl | refine DC.tri (T.loadPtr 3 _ ag3 sz3 (by first | rfl | assumption)) ⟨rfl, trivial⟩ trivial ?_ (.none rfl) rfl | refine DC.tri (T.loadElp 3 _ ag3 sz3 (by first | rfl | assumption)) ⟨rfl, trivial⟩ ⟨rfl, trivial⟩ ?_ (.none rfl) rfl); (first | refine DC.tri (T.mul (k := .i64) _ _ _ _ (w64 (by omega) (by omega))) ⟨rfl, rfl, trivial⟩ trivial ?_ (.none rfl) rfl | refine DC.tri (T.mul (k := .i64) _ _ _ _ (by assumption)) ⟨rfl, rfl, trivial⟩ trivial ?_ (.none rfl) rfl); refine DC.tri (T.gtr _ _ _ _) ⟨rfl, rfl, trivial⟩ trivial ?_ (.none rfl) rfl; refine DC.tri (T.assign _ _) ⟨rfl, trivial⟩ trivial ?_ (.none rfl) rfl; refine DC.nilN (by first | (dsimp only [evalD, lkF, lkE, updF, Nat.beq, cond_true, cond_false, List.cons_append, List.nil_append, List.append_nil, argF, Nat.reduceAdd, Nat.reduceMul, spliceD, List.take, List.drop, List.length, flats, Value.cells, List.map, List.set]; done) | exact rfl | fail) ?_)
        | (refine DW.regionC (id := 11) ?_; refine DC.tri (T.buildS0 35 Try.underlying35 ze35 (pl35 Try.underlying35)) trivial trivial ?_ (.none rfl) rfl; (first | refine DC.tri (T.storeRef 35 _ _ sz35 rfl rfl (by first | rfl | simp [oneL, oneD, Value.oneCell']) (by first | decide | (simp; done) | omega | (simp; omega))) ⟨rfl, rfl, trivial⟩ ⟨rfl, trivial⟩ ?_ (.none rfl) rfl | refine DC.tri (T.storeElp 35 _ _ sz35 rfl rfl rfl (by first | decide | (simp; done) | omega | (simp; omega))) ⟨rfl, rfl, trivial⟩ ⟨rfl, trivial⟩ ?_ (.none rfl) rfl); refine DC.tri (T.assign _ _) ⟨rfl, trivial⟩ trivial ?_ (.none rfl) rfl; refine DC.nilN (by first | (dsimp only [evalD, lkF, lkE, updF, Nat.beq, cond_true, cond_false, List.cons_append, List.nil_append, List.append_nil, argF, Nat.reduceAdd, Nat.reduceMul, spliceD, List.take, List.drop, List.length, flats, Value.cells, List.map, List.set]; done) | exact rfl | fail) ?_)
        | (refine DW.condT' rfl (by first | rfl | assumption | exact decide_eq_true (by first | assumption | omega) | exact decide_eq_false (by first | assumption | omega) | (simp only [*]; done) | fail) ?_)
        | (refine DW.condF' rfl (by first | rfl | assumption | exact decide_eq_true (by first | assumption | omega) | exact decide_eq_false (by first | assumption | omega) | (simp only [*]; done) | fail) ?_)
        | (refine DW.exit ?_)
        | (refine DW.ret ?_)
        | fail)
    exact ⟨.inr rfl, ResOk.cellTmpA [] rfl rfl rfl ag35 sz35 rfl trivial (.cons (Vw.p rfl Le.empty) (.cons (Vw.p rfl Le.empty) (.cons (Vw.p rfl Le.empty) .nil))) (Le.refl _) (Vw.pers rfl)⟩
  have h5 : ¬ 512 < (A.final.length : Int) * (B.final.length : Int) := by rw [← hmi]; omega
  rw [pairE_ok hk hk2 hr h4]
  repeat (first
      | (refine DW.seq ?_)
      | (refine DW.block ?_)
      | (refine Thn.n ?_)
      | (refine Blk.n ?_)
      | (refine Blk.here ?_)
      | (refine Thn.e ?_)
      | (refine Blk.pass rfl ?_)
      | (refine Thn.r ?_)
      | (refine Blk.r ?_)
      | (refine DW.skip ?_)
      | (refine DW.label ?_)
      | (refine DW.regionC (id := 5) ?_; refine DC.tri (T.move _ _) ⟨rfl, trivial⟩ trivial ?_ (.none rfl) rfl; refine DC.tri (T.neq _ _ _ _) ⟨rfl, rfl, trivial⟩ trivial ?_ (.none rfl) rfl; refine DC.nilN (by first | (dsimp only [evalD, lkF, lkE, updF, Nat.beq, cond_true, cond_false, List.cons_append, List.nil_append, List.append_nil, argF, Nat.reduceAdd, Nat.reduceMul, spliceD, List.take, List.drop, List.length, flats, Value.cells, List.map, List.set]; done) | exact rfl | fail) ?_)
      | (refine DW.drawnC (id := 7) rfl (by kernel_rfl) ?_; (first | refine DC.tri (T.fieldRef' 35 _ 1 fd35_1 (by decide)) ⟨rfl, trivial⟩ trivial ?_ (.none rfl) rfl | refine DC.tri (T.fieldPtr' 35 _ 1 fd35_1 (by decide)) ⟨rfl, trivial⟩ trivial ?_ (.none rfl) rfl); (first | refine DC.tri (T.loadRef 23 _ ag23 sz23 (by first | rfl | assumption)) ⟨rfl, trivial⟩ ⟨rfl, trivial⟩ ?_ (.none rfl) rfl | refine DC.tri (T.loadPtr 23 _ ag23 sz23 (by first | rfl | assumption)) ⟨rfl, trivial⟩ trivial ?_ (.none rfl) rfl | refine DC.tri (T.loadElp 23 _ ag23 sz23 (by first | rfl | assumption)) ⟨rfl, trivial⟩ ⟨rfl, trivial⟩ ?_ (.none rfl) rfl); (first | refine DC.tri (T.lenSl 23 _ un23) ⟨rfl, trivial⟩ trivial ?_ (.none rfl) rfl | refine DC.tri (T.lenOwn 23 _ un23) ⟨rfl, trivial⟩ trivial ?_ (.none rfl) rfl | refine DC.tri (T.lenNil 23 _ un23) ⟨rfl, trivial⟩ trivial ?_ (.none rfl) rfl); (first | refine DC.tri (T.fieldRef' 35 _ 1 fd35_1 (by decide)) ⟨rfl, trivial⟩ trivial ?_ (.none rfl) rfl | refine DC.tri (T.fieldPtr' 35 _ 1 fd35_1 (by decide)) ⟨rfl, trivial⟩ trivial ?_ (.none rfl) rfl); (first | refine DC.tri (T.loadRef 23 _ ag23 sz23 (by first | rfl | assumption)) ⟨rfl, trivial⟩ ⟨rfl, trivial⟩ ?_ (.none rfl) rfl | refine DC.tri (T.loadPtr 23 _ ag23 sz23 (by first | rfl | assumption)) ⟨rfl, trivial⟩ trivial ?_ (.none rfl) rfl | refine DC.tri (T.loadElp 23 _ ag23 sz23 (by first | rfl | assumption)) ⟨rfl, trivial⟩ ⟨rfl, trivial⟩ ?_ (.none rfl) rfl); (first | refine DC.tri (T.lenSl 23 _ un23) ⟨rfl, trivial⟩ trivial ?_ (.none rfl) rfl | refine DC.tri (T.lenOwn 23 _ un23) ⟨rfl, trivial⟩ trivial ?_ (.none rfl) rfl | refine DC.tri (T.lenNil 23 _ un23) ⟨rfl, trivial⟩ trivial ?_ (.none rfl) rfl); refine DC.tri (T.alloc 11 3 ze3) trivial ⟨rfl, trivial⟩ ?_ (.none rfl) rfl; refine DC.tri (T.assign _ _) ⟨rfl, trivial⟩ trivial ?_ (.none rfl) rfl; (first | refine DC.tri (T.storeRef 3 _ _ sz3 rfl rfl (by first | rfl | simp [oneL, oneD, Value.oneCell']) (by first | decide | (simp; done) | omega | (simp; omega))) ⟨rfl, rfl, trivial⟩ ⟨rfl, trivial⟩ ?_ (.none rfl) rfl | refine DC.tri (T.storeElp 3 _ _ sz3 rfl rfl rfl (by first | decide | (simp; done) | omega | (simp; omega))) ⟨rfl, rfl, trivial⟩ ⟨rfl, trivial⟩ ?_ (.none rfl) rfl); refine DC.nilN (by first | (dsimp only [evalD, lkF, lkE, updF, Nat.beq, cond_true, cond_false, List.cons_append, List.nil_append, List.append_nil, argF, Nat.reduceAdd, Nat.reduceMul, spliceD, List.take, List.drop, List.length, flats, Value.cells, List.map, List.set]; done) | exact rfl | fail) ?_; refine ⟨by kernel_rfl, ?_⟩)
      | (refine DW.regionC (id := 8) ?_; (first | refine DC.tri (T.fieldRef' 35 _ 0 fd35_0 (by decide)) ⟨rfl, trivial⟩ trivial ?_ (.none rfl) rfl | refine DC.tri (T.fieldPtr' 35 _ 0 fd35_0 (by decide)) ⟨rfl, trivial⟩ trivial ?_ (.none rfl) rfl); (first | refine DC.tri (T.loadRef 33 _ ag33 sz33 (by first | rfl | assumption)) ⟨rfl, trivial⟩ ⟨rfl, trivial⟩ ?_ (.none rfl) rfl | refine DC.tri (T.loadPtr 33 _ ag33 sz33 (by first | rfl | assumption)) ⟨rfl, trivial⟩ trivial ?_ (.none rfl) rfl | refine DC.tri (T.loadElp 33 _ ag33 sz33 (by first | rfl | assumption)) ⟨rfl, trivial⟩ ⟨rfl, trivial⟩ ?_ (.none rfl) rfl); (first | refine DC.tri (T.fieldRef' 35 _ 0 fd35_0 (by decide)) ⟨rfl, trivial⟩ trivial ?_ (.none rfl) rfl | refine DC.tri (T.fieldPtr' 35 _ 0 fd35_0 (by decide)) ⟨rfl, trivial⟩ trivial ?_ (.none rfl) rfl); (first | refine DC.tri (T.loadRef 33 _ ag33 sz33 (by first | rfl | assumption)) ⟨rfl, trivial⟩ ⟨rfl, trivial⟩ ?_ (.none rfl) rfl | refine DC.tri (T.loadPtr 33 _ ag33 sz33 (by first | rfl | assumption)) ⟨rfl, trivial⟩ trivial ?_ (.none rfl) rfl | refine DC.tri (T.loadElp 33 _ ag33 sz33 (by first | rfl | assumption)) ⟨rfl, trivial⟩ ⟨rfl, trivial⟩ ?_ (.none rfl) rfl); refine DC.tri (T.call («as» := [_, _]) (ds' := [_, _]) ent54 heq rfl rfl (LeL.refl _)) ⟨rfl, rfl, trivial⟩ trivial ?_ (.none rfl) rfl; refine DC.tri (T.not _ _) ⟨rfl, trivial⟩ trivial ?_ (.none rfl) rfl; refine DC.tri (T.assign _ _) ⟨rfl, trivial⟩ trivial ?_ (.none rfl) rfl; refine DC.nilN (by first | (dsimp only [evalD, lkF, lkE, updF, Nat.beq, cond_true, cond_false, List.cons_append, List.nil_append, List.append_nil, argF, Nat.reduceAdd, Nat.reduceMul, spliceD, List.take, List.drop, List.length, flats, Value.cells, List.map, List.set]; done) | exact rfl | fail) ?_)
      | (refine DW.regionC (id := 10) ?_; refine DC.tri (T.move _ _) ⟨rfl, trivial⟩ trivial ?_ (.none rfl) rfl; (first | refine DC.tri (T.loadRef 3 _ ag3 sz3 (by first | rfl | assumption)) ⟨rfl, trivial⟩ ⟨rfl, trivial⟩ ?_ (.none rfl) rfl | refine DC.tri (T.loadPtr 3 _ ag3 sz3 (by first | rfl | assumption)) ⟨rfl, trivial⟩ trivial ?_ (.none rfl) rfl | refine DC.tri (T.loadElp 3 _ ag3 sz3 (by first | rfl | assumption)) ⟨rfl, trivial⟩ ⟨rfl, trivial⟩ ?_ (.none rfl) rfl); (first | refine DC.tri (T.mul (k := .i64) _ _ _ _ (w64 (by omega) (by omega))) ⟨rfl, rfl, trivial⟩ trivial ?_ (.none rfl) rfl | refine DC.tri (T.mul (k := .i64) _ _ _ _ (by assumption)) ⟨rfl, rfl, trivial⟩ trivial ?_ (.none rfl) rfl); refine DC.tri (T.gtr _ _ _ _) ⟨rfl, rfl, trivial⟩ trivial ?_ (.none rfl) rfl; refine DC.tri (T.assign _ _) ⟨rfl, trivial⟩ trivial ?_ (.none rfl) rfl; refine DC.nilN (by first | (dsimp only [evalD, lkF, lkE, updF, Nat.beq, cond_true, cond_false, List.cons_append, List.nil_append, List.append_nil, argF, Nat.reduceAdd, Nat.reduceMul, spliceD, List.take, List.drop, List.length, flats, Value.cells, List.map, List.set]; done) | exact rfl | fail) ?_)
      | (refine DW.condT' rfl (by first | rfl | assumption | exact decide_eq_true (by first | assumption | omega) | exact decide_eq_false (by first | assumption | omega) | (simp only [*]; done) | fail) ?_)
      | (refine DW.condF' rfl (by first | rfl | assumption | exact decide_eq_true (by first | assumption | omega) | exact decide_eq_false (by first | assumption | omega) | (simp only [*]; done) | fail) ?_)
      | (refine DW.exit ?_)
      | (refine DW.ret ?_)
      | fail)
  refine DW.sub (Sub.of (f' := [(3, .ptr (auC A) 0), (4, .ptr (auC B) 0), (5, .ptr (wh.map boolD) 0), (11, .ptr [intD B.final.length] 0), (6, .ref 6 0), (7, intD 0), (10, intD A.final.length)]) (σ' := [(6, some (.box [.flat (.slice none 0 0), .flat (.slice none 0 0), .flat (.slice none 0 0)]))])
      ⟨⟨_, rfl, VsL.pers rfl⟩, trivial⟩ ⟨Vs.shut (pe := [(3, some (.box (auC A)))]) ⟨rfl, trivial⟩ (Vw.ref (.head _) (VwL.pers rfl) (by simp [auC])) (fun id h => by simp only [keys, List.map_cons, List.map_nil, List.mem_singleton] at h; subst h; rfl), Vs.shut (pe := [(4, some (.box (auC B)))]) ⟨rfl, trivial⟩ (Vw.ref (.head _) (VwL.pers rfl) (by simp [auC])) (fun id h => by simp only [keys, List.map_cons, List.map_nil, List.mem_singleton] at h; subst h; rfl), Vs.shut (pe := [(5, some (.box (wh.map boolD)))]) ⟨rfl, trivial⟩ (Vw.ref (.head _) (VwL.pers (persL_map (fun _ => rfl) _)) (by intro h; simp at h; subst h; simp at hw)) (fun id h => by simp only [keys, List.map_cons, List.map_nil, List.mem_singleton] at h; subst h; rfl), Vs.shut (pe := [(11, some (.box [intD B.final.length]))]) ⟨rfl, trivial⟩ (Vw.ref (.head _) (VwL.pers rfl) (by simp)) (fun id h => by simp only [keys, List.map_cons, List.map_nil, List.mem_singleton] at h; subst h; rfl), Vs.ref rfl, Vs.pers rfl, Vs.pers rfl, trivial⟩) ?_
  have hmd := made_d A.ranks (A.final.length * B.final.length) (prodT A B) (prodF A B wh) 64 65 [] [.ptr [intD B.final.length] 0, .ptr (auC A) 0, .ptr (auC B) 0] [] [.ptr (auC A) 0, .ptr [intD B.final.length] 0, .ptr (auC B) 0, .ptr (wh.map boolD) 0]
    hA.alpha.hi hA.alpha.rng h4 (Nat.mul_pos ha1 hb1) ent64 ent65 rfl rfl
    (fun i l k pe hl => ⟨Vw.pers rfl, by subst hl; exact Vw.own (.head _) (VwL.pers (persL_map (fun _ => rfl) _)), Vw.pers rfl, Vw.pers rfl, Vw.pers rfl, trivial⟩) (fun _ => rfl)
    (fun i k p hk3 hp => prod1_d A B hA hB i _ (prod_digs hA hB hr hk3).1 (prod_digs hA hB hr hk3).2 (fun d hd => by have := digs_rng (Nat.mul_pos ha1 hb1) k p d hd; omega) (by have := hA.alpha.rng _ (List.mem_of_getElem? hk3); rw [digs_len]; omega))
    (fun s hs => prod2_d A B wh hw s hs ha2 hb2)
  rw [hmi] at hmd
  unfold auC at hmd ⊢
  repeat (first
      | (refine DW.seq ?_)
      | (refine DW.block ?_)
      | (refine Thn.n ?_)
      | (refine Blk.n ?_)
      | (refine Blk.here ?_)
      | (refine Thn.e ?_)
      | (refine Blk.pass rfl ?_)
      | (refine Thn.r ?_)
      | (refine Blk.r ?_)
      | (refine DW.skip ?_)
      | (refine DW.label ?_)
      | (refine DW.regionC (id := 12) ?_; refine DC.tri (T.makeFunc (fd := []) (cd := [_, _, _]) rfl rfl) ⟨rfl, rfl, rfl, trivial⟩ trivial ?_ (.none rfl) rfl; refine DC.tri (T.assign _ _) ⟨rfl, trivial⟩ trivial ?_ (.none rfl) rfl; refine DC.nilN (by first | (dsimp only [evalD, lkF, lkE, updF, Nat.beq, cond_true, cond_false, List.cons_append, List.nil_append, List.append_nil, argF, Nat.reduceAdd, Nat.reduceMul, spliceD, List.take, List.drop, List.length, flats, Value.cells, List.map, List.set]; done) | exact rfl | fail) ?_)
      | (refine DW.regionC (id := 13) ?_; refine DC.tri (T.makeFunc (fd := []) (cd := [_, _, _, _]) rfl rfl) ⟨rfl, rfl, rfl, rfl, trivial⟩ trivial ?_ (.none rfl) rfl; refine DC.tri (T.assign _ _) ⟨rfl, trivial⟩ trivial ?_ (.none rfl) rfl; refine DC.nilN (by first | (dsimp only [evalD, lkF, lkE, updF, Nat.beq, cond_true, cond_false, List.cons_append, List.nil_append, List.append_nil, argF, Nat.reduceAdd, Nat.reduceMul, spliceD, List.take, List.drop, List.length, flats, Value.cells, List.map, List.set]; done) | exact rfl | fail) ?_)
      | (refine DW.regionC (id := 14) ?_; (first | refine DC.tri (T.fieldRef' 35 _ 0 fd35_0 (by decide)) ⟨rfl, trivial⟩ trivial ?_ (.none rfl) rfl | refine DC.tri (T.fieldPtr' 35 _ 0 fd35_0 (by decide)) ⟨rfl, trivial⟩ trivial ?_ (.none rfl) rfl); (first | refine DC.tri (T.loadRef 33 _ ag33 sz33 (by first | rfl | assumption)) ⟨rfl, trivial⟩ ⟨rfl, trivial⟩ ?_ (.none rfl) rfl | refine DC.tri (T.loadPtr 33 _ ag33 sz33 (by first | rfl | assumption)) ⟨rfl, trivial⟩ trivial ?_ (.none rfl) rfl | refine DC.tri (T.loadElp 33 _ ag33 sz33 (by first | rfl | assumption)) ⟨rfl, trivial⟩ ⟨rfl, trivial⟩ ?_ (.none rfl) rfl); refine DC.tri (T.move _ _) ⟨rfl, trivial⟩ trivial ?_ (.none rfl) rfl; (first | refine DC.tri (T.loadRef 3 _ ag3 sz3 (by first | rfl | assumption)) ⟨rfl, trivial⟩ ⟨rfl, trivial⟩ ?_ (.none rfl) rfl | refine DC.tri (T.loadPtr 3 _ ag3 sz3 (by first | rfl | assumption)) ⟨rfl, trivial⟩ trivial ?_ (.none rfl) rfl | refine DC.tri (T.loadElp 3 _ ag3 sz3 (by first | rfl | assumption)) ⟨rfl, trivial⟩ ⟨rfl, trivial⟩ ?_ (.none rfl) rfl); (first | refine DC.tri (T.mul (k := .i64) _ _ _ _ (w64 (by omega) (by omega))) ⟨rfl, rfl, trivial⟩ trivial ?_ (.none rfl) rfl | refine DC.tri (T.mul (k := .i64) _ _ _ _ (by assumption)) ⟨rfl, rfl, trivial⟩ trivial ?_ (.none rfl) rfl); refine DC.tri (T.move _ _) ⟨rfl, trivial⟩ trivial ?_ (.none rfl) rfl; refine DC.tri (T.move _ _) ⟨rfl, trivial⟩ trivial ?_ (.none rfl) rfl; refine DC.tri (T.call («as» := [_, _, _, _]) (ds' := [_, _, _, _]) ent66 hmd rfl rfl (LeL.refl _)) ⟨rfl, rfl, rfl, rfl, trivial⟩ trivial ?_ (.none rfl) rfl; (first | refine DC.tri (T.storeRef 35 _ _ sz35 rfl rfl (by first | rfl | simp [oneL, oneD, Value.oneCell']) (by first | decide | (simp; done) | omega | (simp; omega))) ⟨rfl, rfl, trivial⟩ ⟨rfl, trivial⟩ ?_ (.none rfl) rfl | refine DC.tri (T.storeElp 35 _ _ sz35 rfl rfl rfl (by first | decide | (simp; done) | omega | (simp; omega))) ⟨rfl, rfl, trivial⟩ ⟨rfl, trivial⟩ ?_ (.none rfl) rfl); refine DC.tri (T.assign _ _) ⟨rfl, trivial⟩ trivial ?_ (.none rfl) rfl; refine DC.nilN (by first | (dsimp only [evalD, lkF, lkE, updF, Nat.beq, cond_true, cond_false, List.cons_append, List.nil_append, List.append_nil, argF, Nat.reduceAdd, Nat.reduceMul, spliceD, List.take, List.drop, List.length, flats, Value.cells, List.map, List.set]; done) | exact rfl | fail) ?_)
      | (refine DW.condT' rfl (by first | rfl | assumption | exact decide_eq_true (by first | assumption | omega) | exact decide_eq_false (by first | assumption | omega) | (simp only [*]; done) | fail) ?_)
      | (refine DW.condF' rfl (by first | rfl | assumption | exact decide_eq_true (by first | assumption | omega) | exact decide_eq_false (by first | assumption | omega) | (simp only [*]; done) | fail) ?_)
      | (refine DW.exit ?_)
      | (refine DW.ret ?_)
      | fail)
  exact ⟨.inr rfl, ResOk.cellTmpA [] rfl rfl rfl ag35 sz35 rfl trivial (VwL.pers rfl) (Le.refl _) (Vw.pers rfl)⟩
end Go.Proofs.Ytdakoccbmeojhaa
