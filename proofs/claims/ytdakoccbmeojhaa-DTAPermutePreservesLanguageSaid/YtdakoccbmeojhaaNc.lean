/- Contracts over data from contracts that stand: Check, Equal, Same and their like. No condition. -/
import Derived.Test.YtdakoccbmeojhaaNb
import Derived.Test.YtdakoccbmeojhaaWa
import Derived.Test.YtdakoccbmeojhaaWb
import Derived.Test.YtdakoccbmeojhaaWc
import Derived.Test.YtdakoccbmeojhaaWm
import Derived.Test.YtdakoccbmeojhaaWn
set_option linter.unusedSimpArgs false
set_option linter.unusedVariables false
set_option maxHeartbeats 1000000
set_option maxRecDepth 8000
namespace Go.Proofs.Ytdakoccbmeojhaa
open Go Go.RowKit Go.PP Go.Dm

theorem au_in {M : Nat → Prop} {w : World} {v : Value} {A : Au} (h : Rep M w none (auD A) v) : ∃ v1 v2 v3, v = .agg #[v1, v2, v3] ∧ AuIn M w v1 v2 v3 A := by
  unfold auD at h
  simp only [Rep, RepL] at h
  obtain ⟨vs, rfl, u1, us1, rfl, h1, u2, us2, rfl, h2, u3, us3, rfl, h3, rfl⟩ := h
  exact ⟨u1, u2, u3, rfl, ints_of_rep h1, bools_of_rep h2, rows_of_rep h3⟩
theorem au_in0 {M : Nat → Prop} {w : World} {v : Value} {A : Au} (h : Rep M w none (auD A) v) : ∃ v1 v2 v3, v = .agg #[v1, v2, v3] ∧ AuIn (fun _ => False) w v1 v2 v3 A := by
  obtain ⟨v1, v2, v3, e, h1⟩ := au_in h
  exact ⟨v1, v2, v3, e, h1.mono (fun _ _ h => h.elim)⟩
theorem repl1 {M : Nat → Prop} {w : World} {d : D} {vals : List Value} (h : RepL M w none [d] vals) : ∃ v, vals = [v] ∧ Rep M w none d v := by
  simp only [RepL] at h
  obtain ⟨u, us, rfl, h1, rfl⟩ := h
  exact ⟨u, rfl, h1⟩
theorem repl2 {M : Nat → Prop} {w : World} {d e : D} {vals : List Value} (h : RepL M w none [d, e] vals) : ∃ v u, vals = [v, u] ∧ Rep M w none d v ∧ Rep M w none e u := by
  simp only [RepL] at h
  obtain ⟨u, us, rfl, h1, u2, us2, rfl, h2, rfl⟩ := h
  exact ⟨u, u2, rfl, h1, h2⟩
theorem ret_d {k : FuncId} {M : Nat → Prop} {w : World} {vals : Array Value} {v : Value} (h : Calls Try.prog k vals w (RetPost w v)) : Calls Try.prog k vals w (fun e w' => ∃ u, e = .returned u ∧ Rep M w' none (.flat v) u ∧ Fix w w') :=
  h.mono fun e w' ⟨h1, h2⟩ => ⟨v, h1, by simp only [Rep], h2⟩
theorem check_d (A : Au) : DFun Try.prog 20 [auD A] (.flat (.int .i64 (chk A : Nat))) := fun M w vals hM hv => by
  obtain ⟨v, rfl, h1⟩ := repl1 hv
  obtain ⟨v1, v2, v3, rfl, h2⟩ := au_in0 h1
  exact ret_d (check_any v1 v2 v3 A w h2)
theorem rcheck_d (A : Au) : DFun Try.prog 21 [auD A] (.flat (.int .i64 (chk A : Nat))) := fun M w vals hM hv => by
  obtain ⟨v, rfl, h1⟩ := repl1 hv
  obtain ⟨v1, v2, v3, rfl, h2⟩ := au_in0 h1
  exact ret_d (rcheck_any v1 v2 v3 A w h2)
theorem few_d (A : Au) : DFun Try.prog 13 [auD A] (boolD (fewB A)) := fun M w vals hM hv => by
  obtain ⟨v, rfl, h1⟩ := repl1 hv
  obtain ⟨v1, v2, v3, rfl, h2⟩ := au_in0 h1
  exact ret_d (few_any w v1 v2 v3 A h2)
theorem same_d (A B : Au) : DFun Try.prog 26 [auD A, auD B] (boolD (eqAu A B)) := fun M w vals hM hv => by
  obtain ⟨v, u, rfl, h1, h2⟩ := repl2 hv
  obtain ⟨v1, v2, v3, rfl, h3⟩ := au_in0 h1
  obtain ⟨u1, u2, u3, rfl, h4⟩ := au_in0 h2
  exact ret_d (same_any A B v1 v2 v3 u1 u2 u3 w h3 h4)
theorem equal_d (A B : Au) : DFun Try.prog 25 [auD A, auD B] (boolD (eqAu A B)) := fun M w vals hM hv => by
  obtain ⟨v, u, rfl, h1, h2⟩ := repl2 hv
  obtain ⟨v1, v2, v3, rfl, h3⟩ := au_in0 h1
  obtain ⟨u1, u2, u3, rfl, h4⟩ := au_in0 h2
  exact ret_d (equal_any A B v1 v2 v3 u1 u2 u3 w h3 h4)
theorem eqA_d (l r : List Int) : DFun Try.prog 54 [intsD l, intsD r] (boolD (decide (l = r))) := fun M w vals hM hv => by
  obtain ⟨v, u, rfl, h1, h2⟩ := repl2 hv
  exact ret_d ((eq54 v u l r w ((ints_of_rep h1).mono (fun _ _ h => h.elim)) ((ints_of_rep h2).mono (fun _ _ h => h.elim))).mono fun e w' h => h.ret)
theorem eqR_d (l r : List Int) : DFun Try.prog 58 [intsD l, intsD r] (boolD (decide (l = r))) := fun M w vals hM hv => by
  obtain ⟨v, u, rfl, h1, h2⟩ := repl2 hv
  exact ret_d ((eq58 v u l r w ((ints_of_rep h1).mono (fun _ _ h => h.elim)) ((ints_of_rep h2).mono (fun _ _ h => h.elim))).mono fun e w' h => h.ret)
end Go.Proofs.Ytdakoccbmeojhaa
/- Contracts over data: Complement, Product. No condition. -/
set_option linter.unusedSimpArgs false
set_option linter.unusedVariables false
set_option maxHeartbeats 1000000
set_option maxRecDepth 8000
namespace Go.Proofs.Ytdakoccbmeojhaa
open Go Go.RowKit Go.PP Go.Dm

theorem ent67 : Enters Try.prog 67 := fun args w => by go_simp
theorem ent33 : Enters Try.prog 33 := fun args w => by go_simp
theorem ent64 : Enters Try.prog 64 := fun args w => by go_simp
theorem ent65 : Enters Try.prog 65 := fun args w => by go_simp
theorem ent31 : Enters Try.prog 31 := fun args w => by go_simp
theorem ent20 : Enters Try.prog 20 := fun args w => by go_simp
theorem ent54 : Enters Try.prog 54 := fun args w => by go_simp

def auC (A : Au) : List D := [intsD A.ranks, boolsD A.final, rowsD A.to]
theorem comp1_d (A : Au) (s : Nat) (hs : s < A.final.length) (hl : A.final.length ≤ 512) : DFun Try.prog 67 [intD s, .ptr (auC A) 0] (boolD (!(A.final.getD s false))) := by
  obtain ⟨b, hb⟩ : ∃ b, A.final[s]? = some b := ⟨A.final[s], by simp⟩
  have hp := part_map (f := fun x => D.flat (.bool x)) hb
  refine DFun.enter Try.func67 rfl Try.ntmps67 (by simp) ?_
  dsimp only [evalD, lkF, lkE, updF, Nat.beq, Nat.reduceBEq, cond_true, cond_false, List.cons_append, List.nil_append, List.append_nil, argF, Nat.reduceAdd, Nat.reduceMul, spliceD, List.take, List.drop, List.length, flats, Value.cells, List.map, List.set, Thn, Blk, if_true, if_false, reduceIte, Nat.reduceEqDiff]
  unfold auC
  repeat (first
      | (refine DW.seq ?_)
      | (refine DW.block ?_)
      | (refine Thn.n ?_)
      | (refine Blk.n ?_)
      | (refine Blk.here ?_)
      | (refine Thn.e ?_)
      | (refine Blk.pass rfl ?_)
      | (refine Thn.r ?_)
      | (refine Blk.r ?_)
      | (refine DW.skip ?_)
      | (refine DW.label ?_)
      | (refine DW.regionC (id := 0) ?_; refine DC.tri (T.assign _ _) ⟨rfl, trivial⟩ trivial ?_ (.none rfl) rfl; refine DC.nilN (by first | (dsimp only [evalD, lkF, lkE, updF, Nat.beq, Nat.reduceBEq, cond_true, cond_false, List.cons_append, List.nil_append, List.append_nil, argF, Nat.reduceAdd, Nat.reduceMul, spliceD, List.take, List.drop, List.length, flats, Value.cells, List.map, List.set]; done) | exact rfl | fail) ?_)
      | (refine DW.regionC (id := 1) ?_; (first | refine DC.tri (T.fieldRef' 35 _ 1 fd35_1 (by decide)) ⟨rfl, trivial⟩ trivial ?_ (.none rfl) rfl | refine DC.tri (T.fieldPtr' 35 _ 1 fd35_1 (by decide)) ⟨rfl, trivial⟩ trivial ?_ (.none rfl) rfl); (first | refine DC.tri (T.loadRef 23 _ ag23 sz23 (by first | rfl | assumption)) ⟨rfl, trivial⟩ ⟨rfl, trivial⟩ ?_ (.none rfl) rfl | refine DC.tri (T.loadPtr 23 _ ag23 sz23 (by first | rfl | assumption)) ⟨rfl, trivial⟩ trivial ?_ (.none rfl) rfl | refine DC.tri (T.loadElp 23 _ ag23 sz23 (by first | rfl | assumption)) ⟨rfl, trivial⟩ ⟨rfl, trivial⟩ ?_ (.none rfl) rfl); refine DC.tri (T.move _ _) ⟨rfl, trivial⟩ trivial ?_ (.none rfl) rfl; (first | refine DC.tri (T.indexSl 23 _ _ un23 sz4 (by omega) (by omega) (by decide)) ⟨rfl, rfl, trivial⟩ trivial ?_ (.none rfl) rfl | refine DC.tri (T.indexOwn 23 _ _ un23 sz4 (by omega) (by omega)) ⟨rfl, rfl, trivial⟩ ⟨rfl, trivial⟩ ?_ (.none rfl) rfl); (first | refine DC.tri (T.loadRef 4 _ ag4 sz4 (by first | rfl | assumption)) ⟨rfl, trivial⟩ ⟨rfl, trivial⟩ ?_ (.none rfl) rfl | refine DC.tri (T.loadPtr 4 _ ag4 sz4 (by first | rfl | assumption)) ⟨rfl, trivial⟩ trivial ?_ (.none rfl) rfl | refine DC.tri (T.loadElp 4 _ ag4 sz4 (by first | rfl | assumption)) ⟨rfl, trivial⟩ ⟨rfl, trivial⟩ ?_ (.none rfl) rfl); refine DC.tri (T.not _ _) ⟨rfl, trivial⟩ trivial ?_ (.none rfl) rfl; refine DC.tri (T.assign _ _) ⟨rfl, trivial⟩ trivial ?_ (.none rfl) rfl; refine DC.nilN (by first | (dsimp only [evalD, lkF, lkE, updF, Nat.beq, Nat.reduceBEq, cond_true, cond_false, List.cons_append, List.nil_append, List.append_nil, argF, Nat.reduceAdd, Nat.reduceMul, spliceD, List.take, List.drop, List.length, flats, Value.cells, List.map, List.set]; done) | exact rfl | fail) ?_)
      | (refine DW.condT' rfl (by first | rfl | assumption | exact decide_eq_true (by first | assumption | omega) | exact decide_eq_false (by first | assumption | omega) | (simp only [*]; done) | fail) ?_)
      | (refine DW.condF' rfl (by first | rfl | assumption | exact decide_eq_true (by first | assumption | omega) | exact decide_eq_false (by first | assumption | omega) | (simp only [*]; done) | fail) ?_)
      | (refine DW.exit ?_)
      | (refine DW.ret ?_)
      | fail)
  exact ⟨.inr rfl, ResOk.one [] rfl (by first | (dsimp only [evalD, lkF, lkE, updF, Nat.beq, Nat.reduceBEq, cond_true, cond_false, List.cons_append, List.nil_append, List.append_nil, argF, Nat.reduceAdd, Nat.reduceMul, spliceD, List.take, List.drop, List.length, flats, Value.cells, List.map, List.set]; done) | exact rfl | fail) trivial (Vw.le (Vw.pers rfl) (Le.of_eq (by simp [boolD, List.getD, hb])))⟩

theorem atE_bd {A : Au} (hok : AuOk A) {s : Int} {l : List Int} (hf : Fits A s l) : 0 ≤ atI A s l ∧ atI A s l < (A.final.length : Int) := by
  obtain ⟨i, p, row, q, rfl, hi, hrow, hp, hpl, hq, hat, hq0, hq1, hl2⟩ := hf.at hok
  rw [hat]
  exact ⟨hq0, hq1⟩
theorem digs_fits {A : Au} (hok : AuOk A) {i k p : Nat} (hk : A.ranks[i]? = some ((k : Nat) : Int)) : Fits A i (digs A.final.length k p) := by
  have hi := (List.getElem?_eq_some_iff.1 hk).1
  have := hok.lo
  exact ⟨by omega, by omega, by simp [List.getD, hk, digs_len], fun x hx => digs_rng (by omega) k p x hx⟩

theorem complement_d (A : Au) : DFun Try.prog 33 [auD A] (.tup [auD (compE A).1, intD ((compE A).2 : Nat)]) := by
  refine DFun.enter Try.func33 rfl Try.ntmps33 (by simp) ?_
  dsimp only [evalD, lkF, lkE, updF, Nat.beq, Nat.reduceBEq, cond_true, cond_false, List.cons_append, List.nil_append, List.append_nil, argF, Nat.reduceAdd, Nat.reduceMul, spliceD, List.take, List.drop, List.length, flats, Value.cells, List.map, List.set, Thn, Blk, if_true, if_false, reduceIte, Nat.reduceEqDiff]
  repeat (first
      | (refine DW.seq ?_)
      | (refine DW.block ?_)
      | (refine Thn.n ?_)
      | (refine Blk.n ?_)
      | (refine Blk.here ?_)
      | (refine Thn.e ?_)
      | (refine Blk.pass rfl ?_)
      | (refine Thn.r ?_)
      | (refine Blk.r ?_)
      | (refine DW.skip ?_)
      | (refine DW.label ?_)
      | (refine DW.regionC (id := 0) ?_; refine DC.tri (T.box 1 35 _ rfl) ⟨rfl, trivial⟩ ⟨rfl, trivial⟩ ?_ (.none rfl) rfl; refine DC.tri (T.alloc 2 35 ze35) trivial ⟨rfl, trivial⟩ ?_ (.none rfl) rfl; refine DC.tri (T.assign _ _) ⟨rfl, trivial⟩ trivial ?_ (.none rfl) rfl; refine DC.nilN (by first | (dsimp only [evalD, lkF, lkE, updF, Nat.beq, Nat.reduceBEq, cond_true, cond_false, List.cons_append, List.nil_append, List.append_nil, argF, Nat.reduceAdd, Nat.reduceMul, spliceD, List.take, List.drop, List.length, flats, Value.cells, List.map, List.set]; done) | exact rfl | fail) ?_)
      | (refine DW.regionC (id := 1) ?_; (first | refine DC.tri (T.loadRef 35 _ ag35 sz35 (by first | rfl | assumption)) ⟨rfl, trivial⟩ ⟨rfl, trivial⟩ ?_ (.none rfl) rfl | refine DC.tri (T.loadPtr 35 _ ag35 sz35 (by first | rfl | assumption)) ⟨rfl, trivial⟩ trivial ?_ (.none rfl) rfl | refine DC.tri (T.loadElp 35 _ ag35 sz35 (by first | rfl | assumption)) ⟨rfl, trivial⟩ ⟨rfl, trivial⟩ ?_ (.none rfl) rfl); refine DC.tri (T.call («as» := [_]) (ds' := [_]) ent20 (check_d A) rfl rfl (LeL.refl _)) ⟨rfl, trivial⟩ trivial ?_ (.none rfl) rfl; refine DC.tri (T.assign _ _) ⟨rfl, trivial⟩ trivial ?_ (.none rfl) rfl; refine DC.nilN (by first | (dsimp only [evalD, lkF, lkE, updF, Nat.beq, Nat.reduceBEq, cond_true, cond_false, List.cons_append, List.nil_append, List.append_nil, argF, Nat.reduceAdd, Nat.reduceMul, spliceD, List.take, List.drop, List.length, flats, Value.cells, List.map, List.set]; done) | exact rfl | fail) ?_)
      | (refine DW.condT' rfl (by first | rfl | assumption | exact decide_eq_true (by first | assumption | omega) | exact decide_eq_false (by first | assumption | omega) | (simp only [*]; done) | fail) ?_)
      | (refine DW.condF' rfl (by first | rfl | assumption | exact decide_eq_true (by first | assumption | omega) | exact decide_eq_false (by first | assumption | omega) | (simp only [*]; done) | fail) ?_)
      | (refine DW.exit ?_)
      | (refine DW.ret ?_)
      | fail)
  by_cases hk : chk A = 0
  · have hok := chk_ok hk
    have hlo := hok.lo
    have hhi := hok.hi
    have hal := hok.alpha
    rw [compE_ok hk, hk]
    refine DW.sub (Sub.of (f' := [(1, .ptr (auC A) 0), (2, .ref 2 0), (4, intD (0 : Nat))]) (σ' := [(2, some (.box [.flat (.slice none 0 0), .flat (.slice none 0 0), .flat (.slice none 0 0)]))])
      ⟨⟨_, rfl, VsL.pers rfl⟩, trivial⟩ ⟨Vs.shut (pe := [(1, some (.box (auC A)))]) ⟨rfl, trivial⟩ (Vw.ref (.head _) (VwL.pers rfl) (by simp [auC])) (fun id h => by simp only [keys, List.map_cons, List.map_nil, List.mem_singleton] at h; subst h; rfl), Vs.ref rfl, Vs.pers rfl, trivial⟩) ?_
    unfold auC
    repeat (first
        | (refine DW.seq ?_)
        | (refine DW.block ?_)
        | (refine Thn.n ?_)
        | (refine Blk.n ?_)
        | (refine Blk.here ?_)
        | (refine Thn.e ?_)
        | (refine Blk.pass rfl ?_)
        | (refine Thn.r ?_)
        | (refine Blk.r ?_)
        | (refine DW.skip ?_)
        | (refine DW.label ?_)
        | (refine DW.regionC (id := 2) ?_; refine DC.tri (T.move _ _) ⟨rfl, trivial⟩ trivial ?_ (.none rfl) rfl; refine DC.tri (T.neq _ _ _ _) ⟨rfl, rfl, trivial⟩ trivial ?_ (.none rfl) rfl; refine DC.nilN (by first | (dsimp only [evalD, lkF, lkE, updF, Nat.beq, Nat.reduceBEq, cond_true, cond_false, List.cons_append, List.nil_append, List.append_nil, argF, Nat.reduceAdd, Nat.reduceMul, spliceD, List.take, List.drop, List.length, flats, Value.cells, List.map, List.set]; done) | exact rfl | fail) ?_)
        | (refine DW.regionC (id := 4) ?_; (first | refine DC.tri (T.fieldRef' 35 _ 0 fd35_0 (by decide)) ⟨rfl, trivial⟩ trivial ?_ (.none rfl) rfl | refine DC.tri (T.fieldPtr' 35 _ 0 fd35_0 (by decide)) ⟨rfl, trivial⟩ trivial ?_ (.none rfl) rfl); (first | refine DC.tri (T.loadRef 33 _ ag33 sz33 (by first | rfl | assumption)) ⟨rfl, trivial⟩ ⟨rfl, trivial⟩ ?_ (.none rfl) rfl | refine DC.tri (T.loadPtr 33 _ ag33 sz33 (by first | rfl | assumption)) ⟨rfl, trivial⟩ trivial ?_ (.none rfl) rfl | refine DC.tri (T.loadElp 33 _ ag33 sz33 (by first | rfl | assumption)) ⟨rfl, trivial⟩ ⟨rfl, trivial⟩ ?_ (.none rfl) rfl); (first | refine DC.tri (T.fieldRef' 35 _ 1 fd35_1 (by decide)) ⟨rfl, trivial⟩ trivial ?_ (.none rfl) rfl | refine DC.tri (T.fieldPtr' 35 _ 1 fd35_1 (by decide)) ⟨rfl, trivial⟩ trivial ?_ (.none rfl) rfl); (first | refine DC.tri (T.loadRef 23 _ ag23 sz23 (by first | rfl | assumption)) ⟨rfl, trivial⟩ ⟨rfl, trivial⟩ ?_ (.none rfl) rfl | refine DC.tri (T.loadPtr 23 _ ag23 sz23 (by first | rfl | assumption)) ⟨rfl, trivial⟩ trivial ?_ (.none rfl) rfl | refine DC.tri (T.loadElp 23 _ ag23 sz23 (by first | rfl | assumption)) ⟨rfl, trivial⟩ ⟨rfl, trivial⟩ ?_ (.none rfl) rfl); (first | refine DC.tri (T.lenSl 23 _ un23) ⟨rfl, trivial⟩ trivial ?_ (.none rfl) rfl | refine DC.tri (T.lenOwn 23 _ un23) ⟨rfl, trivial⟩ trivial ?_ (.none rfl) rfl | refine DC.tri (T.lenNil 23 _ un23) ⟨rfl, trivial⟩ trivial ?_ (.none rfl) rfl); (first | refine DC.tri (T.loadRef 35 _ ag35 sz35 (by first | rfl | assumption)) ⟨rfl, trivial⟩ ⟨rfl, trivial⟩ ?_ (.none rfl) rfl | refine DC.tri (T.loadPtr 35 _ ag35 sz35 (by first | rfl | assumption)) ⟨rfl, trivial⟩ trivial ?_ (.none rfl) rfl | refine DC.tri (T.loadElp 35 _ ag35 sz35 (by first | rfl | assumption)) ⟨rfl, trivial⟩ ⟨rfl, trivial⟩ ?_ (.none rfl) rfl); refine DC.tri (T.makeFunc (fd := [_]) (cd := []) rfl rfl) ⟨rfl, trivial⟩ trivial ?_ (.none rfl) rfl; refine DC.tri (T.makeFunc (fd := []) (cd := [_]) rfl rfl) ⟨rfl, trivial⟩ trivial ?_ (.none rfl) rfl; refine DC.tri (T.call («as» := [_, _, _, _]) (ds' := [_, _, _, _]) ent66 (made_d A.ranks A.final.length (atI A) (fun s => !(A.final.getD s false)) 53 67 [auD A] [] [] [.ptr (auC A) 0] hal.hi hal.rng hhi (by omega) ent53 ent67 rfl rfl (fun i l k pe hl => ⟨Vw.pers rfl, Vw.pers rfl, by subst hl; exact Vw.own (.head _) (VwL.pers (persL_map (fun _ => rfl) _)), trivial⟩) (fun _ => rfl) (fun i k p hk hp => at_d A hok i _ (digs_fits hok hk)) (fun s hs => comp1_d A s hs hhi)) rfl rfl (LeL.refl _)) ⟨rfl, rfl, rfl, rfl, trivial⟩ trivial ?_ (.none rfl) rfl; (first | refine DC.tri (T.storeRef 35 _ _ sz35 rfl rfl (by first | rfl | simp [oneL, oneD, Value.oneCell']) (by first | decide | (simp; done) | omega | (simp; omega))) ⟨rfl, rfl, trivial⟩ ⟨rfl, trivial⟩ ?_ (.none rfl) rfl | refine DC.tri (T.storeElp 35 _ _ sz35 rfl rfl rfl (by first | decide | (simp; done) | omega | (simp; omega))) ⟨rfl, rfl, trivial⟩ ⟨rfl, trivial⟩ ?_ (.none rfl) rfl); refine DC.tri (T.assign _ _) ⟨rfl, trivial⟩ trivial ?_ (.none rfl) rfl; refine DC.nilN (by first | (dsimp only [evalD, lkF, lkE, updF, Nat.beq, Nat.reduceBEq, cond_true, cond_false, List.cons_append, List.nil_append, List.append_nil, argF, Nat.reduceAdd, Nat.reduceMul, spliceD, List.take, List.drop, List.length, flats, Value.cells, List.map, List.set]; done) | exact rfl | fail) ?_)
        | (refine DW.condT' rfl (by first | rfl | assumption | exact decide_eq_true (by first | assumption | omega) | exact decide_eq_false (by first | assumption | omega) | (simp only [*]; done) | fail) ?_)
        | (refine DW.condF' rfl (by first | rfl | assumption | exact decide_eq_true (by first | assumption | omega) | exact decide_eq_false (by first | assumption | omega) | (simp only [*]; done) | fail) ?_)
        | (refine DW.exit ?_)
        | (refine DW.ret ?_)
        | fail)
    rw [made_not hok]
    exact ⟨.inr rfl, ResOk.cellTmpA [] rfl rfl rfl ag35 sz35 rfl trivial (VwL.pers rfl) (Le.refl _) (Vw.pers rfl)⟩
  · have hne : ((chk A : Nat) : Int) ≠ 0 := by omega
    rw [compE_bad hk]
    repeat (first
        | (refine DW.seq ?_)
        | (refine DW.block ?_)
        | (refine Thn.n ?_)
        | (refine Blk.n ?_)
        | (refine Blk.here ?_)
        | (refine Thn.e ?_)
        | (refine Blk.pass rfl ?_)
        | (refine Thn.r ?_)
        | (refine Blk.r ?_)
        | (refine DW.skip ?_)
        | (refine DW.label ?_)
        | (refine DW.regionC (id := 2) ?_; refine DC.tri (T.move _ _) ⟨rfl, trivial⟩ trivial ?_ (.none rfl) rfl; refine DC.tri (T.neq _ _ _ _) ⟨rfl, rfl, trivial⟩ trivial ?_ (.none rfl) rfl; refine DC.nilN (by first | (dsimp only [evalD, lkF, lkE, updF, Nat.beq, Nat.reduceBEq, cond_true, cond_false, List.cons_append, List.nil_append, List.append_nil, argF, Nat.reduceAdd, Nat.reduceMul, spliceD, List.take, List.drop, List.length, flats, Value.cells, List.map, List.set]; done) | exact rfl | fail) ?_)
        | (refine DW.regionC (id := 3) ?_; refine DC.tri (T.buildS0 35 Try.underlying35 ze35 (pl35 Try.underlying35)) trivial trivial ?_ (.none rfl) rfl; refine DC.tri (T.move _ _) ⟨rfl, trivial⟩ trivial ?_ (.none rfl) rfl; (first | refine DC.tri (T.storeRef 35 _ _ sz35 rfl rfl (by first | rfl | simp [oneL, oneD, Value.oneCell']) (by first | decide | (simp; done) | omega | (simp; omega))) ⟨rfl, rfl, trivial⟩ ⟨rfl, trivial⟩ ?_ (.none rfl) rfl | refine DC.tri (T.storeElp 35 _ _ sz35 rfl rfl rfl (by first | decide | (simp; done) | omega | (simp; omega))) ⟨rfl, rfl, trivial⟩ ⟨rfl, trivial⟩ ?_ (.none rfl) rfl); refine DC.tri (T.assign _ _) ⟨rfl, trivial⟩ trivial ?_ (.none rfl) rfl; refine DC.nilN (by first | (dsimp only [evalD, lkF, lkE, updF, Nat.beq, Nat.reduceBEq, cond_true, cond_false, List.cons_append, List.nil_append, List.append_nil, argF, Nat.reduceAdd, Nat.reduceMul, spliceD, List.take, List.drop, List.length, flats, Value.cells, List.map, List.set]; done) | exact rfl | fail) ?_)
        | (refine DW.condT' rfl (by first | rfl | assumption | exact decide_eq_true (by first | assumption | omega) | exact decide_eq_false (by first | assumption | omega) | (simp only [*]; done) | fail) ?_)
        | (refine DW.condF' rfl (by first | rfl | assumption | exact decide_eq_true (by first | assumption | omega) | exact decide_eq_false (by first | assumption | omega) | (simp only [*]; done) | fail) ?_)
        | (refine DW.exit ?_)
        | (refine DW.ret ?_)
        | fail)
    exact ⟨.inr rfl, ResOk.cellTmpA [] rfl rfl rfl ag35 sz35 rfl trivial (.cons (Vw.p rfl Le.empty) (.cons (Vw.p rfl Le.empty) (.cons (Vw.p rfl Le.empty) .nil))) (Le.refl _) (Vw.pers rfl)⟩
end Go.Proofs.Ytdakoccbmeojhaa
