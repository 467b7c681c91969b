/- Contracts over data, memory lent: the closure of found. No condition. -/
import Derived.Test.YtdakoccbmeojhaaNc
import Derived.Test.YtdakoccbmeojhaaMc
import Derived.Test.YtdakoccbmeojhaaNa
import Derived.Test.YtdakoccbmeojhaaNf
set_option linter.unusedSimpArgs false
set_option linter.unusedVariables false
set_option maxHeartbeats 1000000
set_option maxRecDepth 8000
namespace Go.Proofs.Ytdakoccbmeojhaa
open Go Go.RowKit Go.PP Go.Dm

theorem ent82 : Enters Try.prog 82 := fun args w => by go_simp

def isB (n : Nat) (out : List Int) : List Bool := (List.range n).map fun (i : Nat) => decide ((i : Int) ∈ out)
def stepAdd (A : Au) (s : Int) (out : List Int) (l : List Int) : List Int := if atI A s l ∈ out then out else out ++ [atI A s l]
theorem isB_len (n : Nat) (out : List Int) : (isB n out).length = n := by simp [isB]
theorem isB_get {n i : Nat} (hi : i < n) (out : List Int) : (isB n out)[i]? = some (decide ((i : Int) ∈ out)) := by simp [isB, hi]
theorem splice_set {cs : List D} {i : Nat} {x : D} (h : i < cs.length) : spliceD cs i [x] = cs.set i x := by
  rw [List.set_eq_take_append_cons_drop, if_pos h]
  simp [spliceD]
theorem isB_set {n i : Nat} (hi : i < n) (out : List Int) : spliceD ((isB n out).map boolD) i [.flat (.bool true)] = (isB n (out ++ [(i : Int)])).map boolD := by
  have hl : ((isB n out).map boolD).length = n := by simp [isB_len]
  rw [splice_set (by omega)]
  refine List.ext_getElem? fun j => ?_
  rw [List.getElem?_set, List.getElem?_map, List.getElem?_map]
  by_cases hij : i = j
  · subst hij
    rw [if_pos rfl, if_pos (by omega), isB_get hi]
    simp [boolD]
  · rw [if_neg hij]
    by_cases hj : j < n
    · rw [isB_get hj, isB_get hj]
      have : ¬ (j : Int) = (i : Int) := by omega
      simp [this]
    · rw [List.getElem?_eq_none (by rw [isB_len]; omega), List.getElem?_eq_none (by rw [isB_len]; omega)]

theorem found1_d (A : Au) (hok : AuOk A) (sym : Int) (l : List Int) (hf : Fits A sym l) (out : List Int) (ho : out.length ≤ 1000000) :
    DLend Try.prog 82 [intsD l, .ptr (auC A) 0, .ptr [intD sym] 0, .ref 54526080000003 0, .ref 54526080000005 0] [(54526080000003, some (.box [.own 54526080000004 A.final.length])), (54526080000004, some (.row 4 1 A.final.length ((isB A.final.length (out)).map boolD))), (54526080000005, some (.box [.own 54526080000006 (out).length])), (54526080000006, some (.row 3 1 (out).length ((out).map fun x => .flat (.int .i64 x))))] [(54526080000003, some (.box [.own 54526080000004 A.final.length])), (54526080000004, some (.row 4 1 A.final.length ((isB A.final.length (stepAdd A sym out l)).map boolD))), (54526080000005, some (.box [.own 54526080000006 (stepAdd A sym out l).length])), (54526080000006, some (.row 3 1 (stepAdd A sym out l).length ((stepAdd A sym out l).map fun x => .flat (.int .i64 x))))] (.tup []) := by
  obtain ⟨i, hi, hin⟩ : ∃ i : Nat, atI A sym l = (i : Int) ∧ i < A.final.length := by
    have h := atE_bd hok hf
    exact ⟨(atI A sym l).toNat, by omega, by omega⟩
  have hat := at_d A hok sym l hf
  rw [hi] at hat
  have hp := part_map (f := boolD) (isB_get hin out)
  by_cases hm : (i : Int) ∈ out
  · have hst : stepAdd A sym out l = out := by unfold stepAdd; rw [hi, if_pos hm]
    rw [decide_eq_true hm] at hp
    rw [hst]
    refine DLend.enter Try.func82 rfl Try.ntmps82 (by simp) (by kernel_rfl) ⟨⟨_, rfl⟩, ⟨_, _, _, _, rfl, Nat.le_refl _⟩, ⟨_, rfl⟩, ⟨_, _, _, _, rfl, Nat.le_refl _⟩, trivial⟩ ?_
    dsimp only [evalD, lkF, lkE, updF, Nat.beq, Nat.reduceBEq, cond_true, cond_false, List.cons_append, List.nil_append, List.append_nil, argF, Nat.reduceAdd, Nat.reduceMul, spliceD, List.take, List.drop, List.length, flats, Value.cells, List.map, List.set, Thn, Blk, if_true, if_false, reduceIte, Nat.reduceEqDiff]
    unfold auC
    repeat (first
        | (refine DW.seq ?_)
        | (refine DW.block ?_)
        | (refine Thn.n ?_)
        | (refine Blk.n ?_)
        | (refine Blk.here ?_)
        | (refine Thn.e ?_)
        | (refine Blk.pass rfl ?_)
        | (refine Thn.r ?_)
        | (refine Blk.r ?_)
        | (refine DW.skip ?_)
        | (refine DW.label ?_)
        | (refine DW.regionC (id := 0) ?_; (first | refine DC.tri (T.loadRef 35 _ ag35 sz35 (by first | rfl | assumption)) ⟨rfl, trivial⟩ ⟨rfl, trivial⟩ ?_ (.none rfl) rfl | refine DC.tri (T.loadPtr 35 _ ag35 sz35 (by first | rfl | assumption)) ⟨rfl, trivial⟩ trivial ?_ (.none rfl) rfl | refine DC.tri (T.loadElp 35 _ ag35 sz35 (by first | rfl | assumption)) ⟨rfl, trivial⟩ ⟨rfl, trivial⟩ ?_ (.none rfl) rfl); (first | refine DC.tri (T.loadRef 3 _ ag3 sz3 (by first | rfl | assumption)) ⟨rfl, trivial⟩ ⟨rfl, trivial⟩ ?_ (.none rfl) rfl | refine DC.tri (T.loadPtr 3 _ ag3 sz3 (by first | rfl | assumption)) ⟨rfl, trivial⟩ trivial ?_ (.none rfl) rfl | refine DC.tri (T.loadElp 3 _ ag3 sz3 (by first | rfl | assumption)) ⟨rfl, trivial⟩ ⟨rfl, trivial⟩ ?_ (.none rfl) rfl); refine DC.tri (T.move _ _) ⟨rfl, trivial⟩ trivial ?_ (.none rfl) rfl; refine DC.tri (T.call («as» := [_, _, _]) (ds' := [_, _, _]) ent53 hat rfl rfl (LeL.refl _)) ⟨rfl, rfl, rfl, trivial⟩ trivial ?_ (.none rfl) rfl; refine DC.tri (T.assign _ _) ⟨rfl, trivial⟩ trivial ?_ (.none rfl) rfl; refine DC.nilN (by first | (dsimp only [evalD, lkF, lkE, updF, Nat.beq, Nat.reduceBEq, cond_true, cond_false, List.cons_append, List.nil_append, List.append_nil, argF, Nat.reduceAdd, Nat.reduceMul, spliceD, List.take, List.drop, List.length, flats, Value.cells, List.map, List.set]; done) | exact rfl | fail) ?_)
        | (refine DW.regionC (id := 1) ?_; (first | refine DC.tri (T.loadRef 23 _ ag23 sz23 (by first | rfl | assumption)) ⟨rfl, trivial⟩ ⟨rfl, trivial⟩ ?_ (.none rfl) rfl | refine DC.tri (T.loadPtr 23 _ ag23 sz23 (by first | rfl | assumption)) ⟨rfl, trivial⟩ trivial ?_ (.none rfl) rfl | refine DC.tri (T.loadElp 23 _ ag23 sz23 (by first | rfl | assumption)) ⟨rfl, trivial⟩ ⟨rfl, trivial⟩ ?_ (.none rfl) rfl); refine DC.tri (T.move _ _) ⟨rfl, trivial⟩ trivial ?_ (.none rfl) rfl; (first | refine DC.tri (T.indexSl 23 _ _ un23 sz4 (by omega) (by omega) (by decide)) ⟨rfl, rfl, trivial⟩ trivial ?_ (.none rfl) rfl | refine DC.tri (T.indexOwn 23 _ _ un23 sz4 (by omega) (by omega)) ⟨rfl, rfl, trivial⟩ ⟨rfl, trivial⟩ ?_ (.none rfl) rfl); (first | refine DC.tri (T.loadRef 4 _ ag4 sz4 (by first | rfl | assumption)) ⟨rfl, trivial⟩ ⟨rfl, trivial⟩ ?_ (.none rfl) rfl | refine DC.tri (T.loadPtr 4 _ ag4 sz4 (by first | rfl | assumption)) ⟨rfl, trivial⟩ trivial ?_ (.none rfl) rfl | refine DC.tri (T.loadElp 4 _ ag4 sz4 (by first | rfl | assumption)) ⟨rfl, trivial⟩ ⟨rfl, trivial⟩ ?_ (.none rfl) rfl); refine DC.tri (T.not _ _) ⟨rfl, trivial⟩ trivial ?_ (.none rfl) rfl; refine DC.nilN (by first | (dsimp only [evalD, lkF, lkE, updF, Nat.beq, Nat.reduceBEq, cond_true, cond_false, List.cons_append, List.nil_append, List.append_nil, argF, Nat.reduceAdd, Nat.reduceMul, spliceD, List.take, List.drop, List.length, flats, Value.cells, List.map, List.set]; done) | exact rfl | fail) ?_)
        | (refine DW.regionC (id := 2) ?_; (first | refine DC.tri (T.loadRef 23 _ ag23 sz23 (by first | rfl | assumption)) ⟨rfl, trivial⟩ ⟨rfl, trivial⟩ ?_ (.none rfl) rfl | refine DC.tri (T.loadPtr 23 _ ag23 sz23 (by first | rfl | assumption)) ⟨rfl, trivial⟩ trivial ?_ (.none rfl) rfl | refine DC.tri (T.loadElp 23 _ ag23 sz23 (by first | rfl | assumption)) ⟨rfl, trivial⟩ ⟨rfl, trivial⟩ ?_ (.none rfl) rfl); refine DC.tri (T.move _ _) ⟨rfl, trivial⟩ trivial ?_ (.none rfl) rfl; (first | refine DC.tri (T.indexSl 23 _ _ un23 sz4 (by omega) (by omega) (by decide)) ⟨rfl, rfl, trivial⟩ trivial ?_ (.none rfl) rfl | refine DC.tri (T.indexOwn 23 _ _ un23 sz4 (by omega) (by omega)) ⟨rfl, rfl, trivial⟩ ⟨rfl, trivial⟩ ?_ (.none rfl) rfl); (first | refine DC.tri (T.storeRef 4 _ _ sz4 rfl rfl (by first | rfl | simp [oneL, oneD, Value.oneCell']) (by first | decide | (simp; done) | omega | (simp; omega))) ⟨rfl, rfl, trivial⟩ ⟨rfl, trivial⟩ ?_ (.none rfl) rfl | refine DC.tri (T.storeElp 4 _ _ sz4 rfl rfl rfl (by first | decide | (simp; done) | omega | (simp; omega))) ⟨rfl, rfl, trivial⟩ ⟨rfl, trivial⟩ ?_ (.none rfl) rfl); refine DC.nilN (by first | (dsimp only [evalD, lkF, lkE, updF, Nat.beq, Nat.reduceBEq, cond_true, cond_false, List.cons_append, List.nil_append, List.append_nil, argF, Nat.reduceAdd, Nat.reduceMul, spliceD, List.take, List.drop, List.length, flats, Value.cells, List.map, List.set]; done) | exact rfl | fail) ?_)
        | (refine DW.regionC (id := 3) ?_; (first | refine DC.tri (T.loadRef 22 _ ag22 sz22 (by first | rfl | assumption)) ⟨rfl, trivial⟩ ⟨rfl, trivial⟩ ?_ (.none rfl) rfl | refine DC.tri (T.loadPtr 22 _ ag22 sz22 (by first | rfl | assumption)) ⟨rfl, trivial⟩ trivial ?_ (.none rfl) rfl | refine DC.tri (T.loadElp 22 _ ag22 sz22 (by first | rfl | assumption)) ⟨rfl, trivial⟩ ⟨rfl, trivial⟩ ?_ (.none rfl) rfl); refine DC.tri (T.move _ _) ⟨rfl, trivial⟩ trivial ?_ (.none rfl) rfl; refine DC.tri (T.buildSl1 22 _ un22 ze3 sz3 rfl rfl (by decide) rfl) ⟨rfl, trivial⟩ trivial ?_ (.none rfl) rfl; refine DC.tri (T.append 22 _ _ un22 nf3 rfl (by decide) (by decide) (by first | rfl | assumption | exact oneL_map (fun _ => rfl) _) (by omega)) ⟨rfl, rfl, trivial⟩ ⟨rfl, trivial⟩ ?_ (.none rfl) rfl; (first | refine DC.tri (T.storeRef 22 _ _ sz22 rfl rfl (by first | rfl | simp [oneL, oneD, Value.oneCell']) (by first | decide | (simp; done) | omega | (simp; omega))) ⟨rfl, rfl, trivial⟩ ⟨rfl, trivial⟩ ?_ (.none rfl) rfl | refine DC.tri (T.storeElp 22 _ _ sz22 rfl rfl rfl (by first | decide | (simp; done) | omega | (simp; omega))) ⟨rfl, rfl, trivial⟩ ⟨rfl, trivial⟩ ?_ (.none rfl) rfl); refine DC.nilN (by first | (dsimp only [evalD, lkF, lkE, updF, Nat.beq, Nat.reduceBEq, cond_true, cond_false, List.cons_append, List.nil_append, List.append_nil, argF, Nat.reduceAdd, Nat.reduceMul, spliceD, List.take, List.drop, List.length, flats, Value.cells, List.map, List.set]; done) | exact rfl | fail) ?_)
        | (refine DW.condT' rfl (by first | rfl | assumption | exact decide_eq_true (by first | assumption | omega) | exact decide_eq_false (by first | assumption | omega) | (simp only [*]; done) | fail) ?_)
        | (refine DW.condF' rfl (by first | rfl | assumption | exact decide_eq_true (by first | assumption | omega) | exact decide_eq_false (by first | assumption | omega) | (simp only [*]; done) | fail) ?_)
        | (refine DW.exit ?_)
        | (refine DW.ret ?_)
        | fail)
    exact ⟨.inl rfl, ResL.unit (f' := []) rfl ⟨⟨_, rfl, Vs.own rfl rfl, trivial⟩, ⟨_, rfl, VsL.pers (persL_map (fun _ => rfl) _)⟩, ⟨_, rfl, Vs.own rfl rfl, trivial⟩, ⟨_, rfl, VsL.pers (persL_map (fun _ => rfl) _)⟩, trivial⟩ trivial⟩
  · have hst : stepAdd A sym out l = out ++ [(i : Int)] := by unfold stepAdd; rw [hi, if_neg hm]
    rw [decide_eq_false hm] at hp
    have hset := isB_set hin out
    have hlen : ((isB A.final.length out).map boolD).length = A.final.length := by simp [isB_len]
    rw [hst, List.length_append]
    refine DLend.enter Try.func82 rfl Try.ntmps82 (by simp) (by kernel_rfl) ⟨⟨_, rfl⟩, ⟨_, _, _, _, rfl, Nat.le_refl _⟩, ⟨_, rfl⟩, ⟨_, _, _, _, rfl, Nat.le_add_right _ _⟩, trivial⟩ ?_
    dsimp only [evalD, lkF, lkE, updF, Nat.beq, Nat.reduceBEq, cond_true, cond_false, List.cons_append, List.nil_append, List.append_nil, argF, Nat.reduceAdd, Nat.reduceMul, spliceD, List.take, List.drop, List.length, flats, Value.cells, List.map, List.set, Thn, Blk, if_true, if_false, reduceIte, Nat.reduceEqDiff]
    unfold auC
    repeat (first
        | (refine DW.seq ?_)
        | (refine DW.block ?_)
        | (refine Thn.n ?_)
        | (refine Blk.n ?_)
        | (refine Blk.here ?_)
        | (refine Thn.e ?_)
        | (refine Blk.pass rfl ?_)
        | (refine Thn.r ?_)
        | (refine Blk.r ?_)
        | (refine DW.skip ?_)
        | (refine DW.label ?_)
        | (refine DW.regionC (id := 0) ?_; (first | refine DC.tri (T.loadRef 35 _ ag35 sz35 (by first | rfl | assumption)) ⟨rfl, trivial⟩ ⟨rfl, trivial⟩ ?_ (.none rfl) rfl | refine DC.tri (T.loadPtr 35 _ ag35 sz35 (by first | rfl | assumption)) ⟨rfl, trivial⟩ trivial ?_ (.none rfl) rfl | refine DC.tri (T.loadElp 35 _ ag35 sz35 (by first | rfl | assumption)) ⟨rfl, trivial⟩ ⟨rfl, trivial⟩ ?_ (.none rfl) rfl); (first | refine DC.tri (T.loadRef 3 _ ag3 sz3 (by first | rfl | assumption)) ⟨rfl, trivial⟩ ⟨rfl, trivial⟩ ?_ (.none rfl) rfl | refine DC.tri (T.loadPtr 3 _ ag3 sz3 (by first | rfl | assumption)) ⟨rfl, trivial⟩ trivial ?_ (.none rfl) rfl | refine DC.tri (T.loadElp 3 _ ag3 sz3 (by first | rfl | assumption)) ⟨rfl, trivial⟩ ⟨rfl, trivial⟩ ?_ (.none rfl) rfl); refine DC.tri (T.move _ _) ⟨rfl, trivial⟩ trivial ?_ (.none rfl) rfl; refine DC.tri (T.call («as» := [_, _, _]) (ds' := [_, _, _]) ent53 hat rfl rfl (LeL.refl _)) ⟨rfl, rfl, rfl, trivial⟩ trivial ?_ (.none rfl) rfl; refine DC.tri (T.assign _ _) ⟨rfl, trivial⟩ trivial ?_ (.none rfl) rfl; refine DC.nilN (by first | (dsimp only [evalD, lkF, lkE, updF, Nat.beq, Nat.reduceBEq, cond_true, cond_false, List.cons_append, List.nil_append, List.append_nil, argF, Nat.reduceAdd, Nat.reduceMul, spliceD, List.take, List.drop, List.length, flats, Value.cells, List.map, List.set]; done) | exact rfl | fail) ?_)
        | (refine DW.regionC (id := 1) ?_; (first | refine DC.tri (T.loadRef 23 _ ag23 sz23 (by first | rfl | assumption)) ⟨rfl, trivial⟩ ⟨rfl, trivial⟩ ?_ (.none rfl) rfl | refine DC.tri (T.loadPtr 23 _ ag23 sz23 (by first | rfl | assumption)) ⟨rfl, trivial⟩ trivial ?_ (.none rfl) rfl | refine DC.tri (T.loadElp 23 _ ag23 sz23 (by first | rfl | assumption)) ⟨rfl, trivial⟩ ⟨rfl, trivial⟩ ?_ (.none rfl) rfl); refine DC.tri (T.move _ _) ⟨rfl, trivial⟩ trivial ?_ (.none rfl) rfl; (first | refine DC.tri (T.indexSl 23 _ _ un23 sz4 (by omega) (by omega) (by decide)) ⟨rfl, rfl, trivial⟩ trivial ?_ (.none rfl) rfl | refine DC.tri (T.indexOwn 23 _ _ un23 sz4 (by omega) (by omega)) ⟨rfl, rfl, trivial⟩ ⟨rfl, trivial⟩ ?_ (.none rfl) rfl); (first | refine DC.tri (T.loadRef 4 _ ag4 sz4 (by first | rfl | assumption)) ⟨rfl, trivial⟩ ⟨rfl, trivial⟩ ?_ (.none rfl) rfl | refine DC.tri (T.loadPtr 4 _ ag4 sz4 (by first | rfl | assumption)) ⟨rfl, trivial⟩ trivial ?_ (.none rfl) rfl | refine DC.tri (T.loadElp 4 _ ag4 sz4 (by first | rfl | assumption)) ⟨rfl, trivial⟩ ⟨rfl, trivial⟩ ?_ (.none rfl) rfl); refine DC.tri (T.not _ _) ⟨rfl, trivial⟩ trivial ?_ (.none rfl) rfl; refine DC.nilN (by first | (dsimp only [evalD, lkF, lkE, updF, Nat.beq, Nat.reduceBEq, cond_true, cond_false, List.cons_append, List.nil_append, List.append_nil, argF, Nat.reduceAdd, Nat.reduceMul, spliceD, List.take, List.drop, List.length, flats, Value.cells, List.map, List.set]; done) | exact rfl | fail) ?_)
        | (refine DW.regionC (id := 2) ?_; (first | refine DC.tri (T.loadRef 23 _ ag23 sz23 (by first | rfl | assumption)) ⟨rfl, trivial⟩ ⟨rfl, trivial⟩ ?_ (.none rfl) rfl | refine DC.tri (T.loadPtr 23 _ ag23 sz23 (by first | rfl | assumption)) ⟨rfl, trivial⟩ trivial ?_ (.none rfl) rfl | refine DC.tri (T.loadElp 23 _ ag23 sz23 (by first | rfl | assumption)) ⟨rfl, trivial⟩ ⟨rfl, trivial⟩ ?_ (.none rfl) rfl); refine DC.tri (T.move _ _) ⟨rfl, trivial⟩ trivial ?_ (.none rfl) rfl; (first | refine DC.tri (T.indexSl 23 _ _ un23 sz4 (by omega) (by omega) (by decide)) ⟨rfl, rfl, trivial⟩ trivial ?_ (.none rfl) rfl | refine DC.tri (T.indexOwn 23 _ _ un23 sz4 (by omega) (by omega)) ⟨rfl, rfl, trivial⟩ ⟨rfl, trivial⟩ ?_ (.none rfl) rfl); (first | refine DC.tri (T.storeRef 4 _ _ sz4 rfl rfl (by first | rfl | simp [oneL, oneD, Value.oneCell']) (by first | decide | (simp; done) | omega | (simp; omega))) ⟨rfl, rfl, trivial⟩ ⟨rfl, trivial⟩ ?_ (.none rfl) rfl | refine DC.tri (T.storeElp 4 _ _ sz4 rfl rfl rfl (by first | decide | (simp; done) | omega | (simp; omega))) ⟨rfl, rfl, trivial⟩ ⟨rfl, trivial⟩ ?_ (.none rfl) rfl); refine DC.nilN (by first | (dsimp only [evalD, lkF, lkE, updF, Nat.beq, Nat.reduceBEq, cond_true, cond_false, List.cons_append, List.nil_append, List.append_nil, argF, Nat.reduceAdd, Nat.reduceMul, spliceD, List.take, List.drop, List.length, flats, Value.cells, List.map, List.set]; done) | exact rfl | fail) ?_)
        | (refine DW.regionC (id := 3) ?_; (first | refine DC.tri (T.loadRef 22 _ ag22 sz22 (by first | rfl | assumption)) ⟨rfl, trivial⟩ ⟨rfl, trivial⟩ ?_ (.none rfl) rfl | refine DC.tri (T.loadPtr 22 _ ag22 sz22 (by first | rfl | assumption)) ⟨rfl, trivial⟩ trivial ?_ (.none rfl) rfl | refine DC.tri (T.loadElp 22 _ ag22 sz22 (by first | rfl | assumption)) ⟨rfl, trivial⟩ ⟨rfl, trivial⟩ ?_ (.none rfl) rfl); refine DC.tri (T.move _ _) ⟨rfl, trivial⟩ trivial ?_ (.none rfl) rfl; refine DC.tri (T.buildSl1 22 _ un22 ze3 sz3 rfl rfl (by decide) rfl) ⟨rfl, trivial⟩ trivial ?_ (.none rfl) rfl; refine DC.tri (T.append 22 _ _ un22 nf3 rfl (by decide) (by decide) (by first | rfl | assumption | exact oneL_map (fun _ => rfl) _) (by omega)) ⟨rfl, rfl, trivial⟩ ⟨rfl, trivial⟩ ?_ (.none rfl) rfl; (first | refine DC.tri (T.storeRef 22 _ _ sz22 rfl rfl (by first | rfl | simp [oneL, oneD, Value.oneCell']) (by first | decide | (simp; done) | omega | (simp; omega))) ⟨rfl, rfl, trivial⟩ ⟨rfl, trivial⟩ ?_ (.none rfl) rfl | refine DC.tri (T.storeElp 22 _ _ sz22 rfl rfl rfl (by first | decide | (simp; done) | omega | (simp; omega))) ⟨rfl, rfl, trivial⟩ ⟨rfl, trivial⟩ ?_ (.none rfl) rfl); refine DC.nilN (by first | (dsimp only [evalD, lkF, lkE, updF, Nat.beq, Nat.reduceBEq, cond_true, cond_false, List.cons_append, List.nil_append, List.append_nil, argF, Nat.reduceAdd, Nat.reduceMul, spliceD, List.take, List.drop, List.length, flats, Value.cells, List.map, List.set]; done) | exact rfl | fail) ?_)
        | (refine DW.condT' rfl (by first | rfl | assumption | exact decide_eq_true (by first | assumption | omega) | exact decide_eq_false (by first | assumption | omega) | (simp only [*]; done) | fail) ?_)
        | (refine DW.condF' rfl (by first | rfl | assumption | exact decide_eq_true (by first | assumption | omega) | exact decide_eq_false (by first | assumption | omega) | (simp only [*]; done) | fail) ?_)
        | (refine DW.exit ?_)
        | (refine DW.ret ?_)
        | fail)
    refine ⟨.inl rfl, ResL.unit (f' := []) rfl ⟨⟨_, rfl, Vs.own rfl rfl, trivial⟩, ⟨_, rfl, VsL.eq ?_ (persL_map (fun _ => rfl) _)⟩, ⟨_, rfl, Vs.own rfl rfl, trivial⟩, ⟨_, rfl, VsL.eq (by simp) (persL_map (fun _ => rfl) _)⟩, trivial⟩ trivial⟩
    rw [← hset]
    simp [spliceD]
end Go.Proofs.Ytdakoccbmeojhaa
/- Facts on the types of the seat, as instances. No condition. -/
set_option linter.unusedSimpArgs false
set_option linter.unusedVariables false
namespace Go.Proofs.Ytdakoccbmeojhaa
open Go Go.RowKit Go.PP Go.Dm
theorem sz103 : sizeOfT Try.prog 103 = some 1 := by kernel_rfl
theorem ag103 : aggOf Try.prog 103 = some false := by kernel_rfl
theorem ze103 : zeroT Try.prog 103 = some (.nilFunc) := by kernel_rfl
theorem nf103 : (Try.prog.info? 103).map (fun i => (i.zero, i.size, i.bytes)) = some (some (.nilFunc), 1, 8) := by kernel_rfl
instance : TyI Try.prog 3 false 1 := ⟨ag3, sz3⟩
instance : TyZ Try.prog 3 (.int .i64 0) := ⟨ze3⟩
instance : TyIn Try.prog 3 (.int .i64 0) 1 8 := ⟨nf3⟩
instance : TyInt Try.prog 3 .i64 := ⟨by kernel_rfl⟩
instance : TyI Try.prog 4 false 1 := ⟨ag4, sz4⟩
instance : TyZ Try.prog 4 (.bool false) := ⟨ze4⟩
instance : TyIn Try.prog 4 (.bool false) 1 1 := ⟨nf4⟩
instance : TyBo Try.prog 4 := ⟨un4⟩
instance : TyI Try.prog 5 false 1 := ⟨ag5, sz5⟩
instance : TyZ Try.prog 5 (.int .u8 0) := ⟨ze5⟩
instance : TyIn Try.prog 5 (.int .u8 0) 1 1 := ⟨nf5⟩
instance : TyInt Try.prog 5 .u8 := ⟨by kernel_rfl⟩
instance : TyI Try.prog 9 false 1 := ⟨ag9, sz9⟩
instance : TyZ Try.prog 9 (.string ByteArray.empty) := ⟨ze9⟩
instance : TyIn Try.prog 9 (.string ByteArray.empty) 1 16 := ⟨nf9⟩
instance : TyStr Try.prog 9 := ⟨by kernel_rfl⟩
instance : TyI Try.prog 22 false 1 := ⟨ag22, sz22⟩
instance : TyZ Try.prog 22 (.slice none 0 0) := ⟨ze22⟩
instance : TyIn Try.prog 22 (.slice none 0 0) 1 24 := ⟨nf22⟩
instance : TySl Try.prog 22 3 := ⟨un22⟩
instance : TyI Try.prog 23 false 1 := ⟨ag23, sz23⟩
instance : TyZ Try.prog 23 (.slice none 0 0) := ⟨ze23⟩
instance : TyIn Try.prog 23 (.slice none 0 0) 1 24 := ⟨nf23⟩
instance : TySl Try.prog 23 4 := ⟨un23⟩
instance : TyI Try.prog 24 false 1 := ⟨ag24, sz24⟩
instance : TyZ Try.prog 24 (.slice none 0 0) := ⟨ze24⟩
instance : TyIn Try.prog 24 (.slice none 0 0) 1 24 := ⟨nf24⟩
instance : TySl Try.prog 24 22 := ⟨un24⟩
instance : TyI Try.prog 26 true 3 := ⟨ag26, sz26⟩
instance : TyZ Try.prog 26 (.agg #[.slice none 0 0, .slice none 0 0, .slice none 0 0]) := ⟨ze26⟩
instance : TyIn Try.prog 26 (.agg #[.slice none 0 0, .slice none 0 0, .slice none 0 0]) 3 72 := ⟨nf26⟩
instance : TyPl Try.prog 26 [(0, 1), (1, 1), (2, 1)] := ⟨_, Try.underlying26, pl26 Try.underlying26⟩
instance : TyFd Try.prog 26 0 0 1 := ⟨fd26_0⟩
instance : TyFd Try.prog 26 1 1 1 := ⟨fd26_1⟩
instance : TyFd Try.prog 26 2 2 1 := ⟨fd26_2⟩
instance : TyI Try.prog 27 false 1 := ⟨ag27, sz27⟩
instance : TyZ Try.prog 27 (.slice none 0 0) := ⟨ze27⟩
instance : TyIn Try.prog 27 (.slice none 0 0) 1 24 := ⟨nf27⟩
instance : TySl Try.prog 27 29 := ⟨un27⟩
instance : TyI Try.prog 29 true 2 := ⟨ag29, sz29⟩
instance : TyZ Try.prog 29 (.agg #[.int .i64 0, .slice none 0 0]) := ⟨ze29⟩
instance : TyIn Try.prog 29 (.agg #[.int .i64 0, .slice none 0 0]) 2 32 := ⟨nf29⟩
instance : TyPl Try.prog 29 [(0, 1), (1, 1)] := ⟨_, Try.underlying29, pl29 Try.underlying29⟩
instance : TyFd Try.prog 29 0 0 1 := ⟨fd29_0⟩
instance : TyFd Try.prog 29 1 1 1 := ⟨fd29_1⟩
instance : TyI Try.prog 33 false 1 := ⟨ag33, sz33⟩
instance : TyZ Try.prog 33 (.slice none 0 0) := ⟨ze33⟩
instance : TyIn Try.prog 33 (.slice none 0 0) 1 24 := ⟨nf33⟩
instance : TySl Try.prog 33 3 := ⟨un33⟩
instance : TyI Try.prog 35 true 3 := ⟨ag35, sz35⟩
instance : TyZ Try.prog 35 (.agg #[.slice none 0 0, .slice none 0 0, .slice none 0 0]) := ⟨ze35⟩
instance : TyIn Try.prog 35 (.agg #[.slice none 0 0, .slice none 0 0, .slice none 0 0]) 3 72 := ⟨nf35⟩
instance : TyPl Try.prog 35 [(0, 1), (1, 1), (2, 1)] := ⟨_, Try.underlying35, pl35 Try.underlying35⟩
instance : TyFd Try.prog 35 0 0 1 := ⟨fd35_0⟩
instance : TyFd Try.prog 35 1 1 1 := ⟨fd35_1⟩
instance : TyFd Try.prog 35 2 2 1 := ⟨fd35_2⟩
instance : TyI Try.prog 37 false 1 := ⟨ag37, sz37⟩
instance : TyZ Try.prog 37 (.slice none 0 0) := ⟨ze37⟩
instance : TyIn Try.prog 37 (.slice none 0 0) 1 24 := ⟨nf37⟩
instance : TySl Try.prog 37 39 := ⟨un37⟩
instance : TyI Try.prog 39 true 2 := ⟨ag39, sz39⟩
instance : TyZ Try.prog 39 (.agg #[.int .i64 0, .slice none 0 0]) := ⟨ze39⟩
instance : TyIn Try.prog 39 (.agg #[.int .i64 0, .slice none 0 0]) 2 32 := ⟨nf39⟩
instance : TyPl Try.prog 39 [(0, 1), (1, 1)] := ⟨_, Try.underlying39, pl39 Try.underlying39⟩
instance : TyFd Try.prog 39 0 0 1 := ⟨fd39_0⟩
instance : TyFd Try.prog 39 1 1 1 := ⟨fd39_1⟩
instance : TyI Try.prog 41 false 1 := ⟨ag41, sz41⟩
instance : TyZ Try.prog 41 (.int .i64 0) := ⟨ze41⟩
instance : TyIn Try.prog 41 (.int .i64 0) 1 8 := ⟨nf41⟩
instance : TyInt Try.prog 41 .i64 := ⟨by kernel_rfl⟩
instance : TyI Try.prog 62 true 4 := ⟨ag62, sz62⟩
instance : TyZ Try.prog 62 (.agg #[.bool false, .bool false, .bool false, .bool false]) := ⟨ze62⟩
instance : TyIn Try.prog 62 (.agg #[.bool false, .bool false, .bool false, .bool false]) 4 4 := ⟨nf62⟩
instance : TyAr Try.prog 62 4 4 := ⟨un62⟩
instance : TyI Try.prog 103 false 1 := ⟨ag103, sz103⟩
instance : TyZ Try.prog 103 (.nilFunc) := ⟨ze103⟩
instance : TyIn Try.prog 103 (.nilFunc) 1 8 := ⟨nf103⟩
theorem ent81 : Enters Try.prog 81 := fun args w => by go_simp
instance : EntC Try.prog 81 := ⟨ent81⟩
theorem ent85 : Enters Try.prog 85 := fun args w => by go_simp
instance : EntC Try.prog 85 := ⟨ent85⟩
theorem ent61 : Enters Try.prog 61 := fun args w => by go_simp
instance : EntC Try.prog 61 := ⟨ent61⟩
theorem ent70 : Enters Try.prog 70 := fun args w => by go_simp
instance : EntC Try.prog 70 := ⟨ent70⟩
instance : EntC Try.prog 53 := ⟨ent53⟩
instance : EntC Try.prog 82 := ⟨ent82⟩
instance : EntC Try.prog 66 := ⟨ent66⟩
theorem ent62 : Enters Try.prog 62 := fun args w => by go_simp
instance : EntC Try.prog 62 := ⟨ent62⟩
theorem ent77 : Enters Try.prog 77 := fun args w => by go_simp
instance : EntC Try.prog 77 := ⟨ent77⟩
theorem ent78 : Enters Try.prog 78 := fun args w => by go_simp
instance : EntC Try.prog 78 := ⟨ent78⟩
theorem ent36 : Enters Try.prog 36 := fun args w => by go_simp
instance : EntC Try.prog 36 := ⟨ent36⟩
theorem ent37 : Enters Try.prog 37 := fun args w => by go_simp
instance : EntC Try.prog 37 := ⟨ent37⟩
theorem ent38 : Enters Try.prog 38 := fun args w => by go_simp
instance : EntC Try.prog 38 := ⟨ent38⟩
theorem ent71 : Enters Try.prog 71 := fun args w => by go_simp
instance : EntC Try.prog 71 := ⟨ent71⟩
theorem ent39 : Enters Try.prog 39 := fun args w => by go_simp
instance : EntC Try.prog 39 := ⟨ent39⟩
theorem ent28 : Enters Try.prog 28 := fun args w => by go_simp
instance : EntC Try.prog 28 := ⟨ent28⟩
theorem ent18 : Enters Try.prog 18 := fun args w => by go_simp
instance : EntC Try.prog 18 := ⟨ent18⟩
theorem ent42 : Enters Try.prog 42 := fun args w => by go_simp
instance : EntC Try.prog 42 := ⟨ent42⟩
theorem ent63 : Enters Try.prog 63 := fun args w => by go_simp
instance : EntC Try.prog 63 := ⟨ent63⟩
instance : EntC Try.prog 24 := ⟨ent24⟩
instance : EntC Try.prog 51 := ⟨ent51⟩
instance : EntC Try.prog 49 := ⟨ent49⟩
instance : EntC Try.prog 46 := ⟨ent46⟩
instance : EntC Try.prog 59 := ⟨ent59⟩
instance : EntC Try.prog 13 := ⟨ent13⟩
theorem ent14 : Enters Try.prog 14 := fun args w => by go_simp
instance : EntC Try.prog 14 := ⟨ent14⟩
instance : EntC Try.prog 15 := ⟨ent15⟩
instance : EntC Try.prog 16 := ⟨ent16⟩
instance : EntC Try.prog 17 := ⟨ent17⟩
instance : EntC Try.prog 20 := ⟨ent20⟩
theorem ent21 : Enters Try.prog 21 := fun args w => by go_simp
instance : EntC Try.prog 21 := ⟨ent21⟩
theorem ent22 : Enters Try.prog 22 := fun args w => by go_simp
instance : EntC Try.prog 22 := ⟨ent22⟩
theorem ent25 : Enters Try.prog 25 := fun args w => by go_simp
instance : EntC Try.prog 25 := ⟨ent25⟩
instance : EntC Try.prog 26 := ⟨ent26⟩
instance : EntC Try.prog 29 := ⟨ent29⟩
theorem ent35 : Enters Try.prog 35 := fun args w => by go_simp
instance : EntC Try.prog 35 := ⟨ent35⟩
end Go.Proofs.Ytdakoccbmeojhaa
