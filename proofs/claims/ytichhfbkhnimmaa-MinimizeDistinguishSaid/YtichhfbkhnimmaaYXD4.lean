/- The table of distances: the first table. No condition. -/
import Derived.Test.YtichhfbkhnimmaaYFA3
import Derived.Test.YtichhfbkhnimmaaYPR1
set_option linter.unusedSimpArgs false
set_option linter.unusedVariables false
set_option maxHeartbeats 4000000
set_option maxRecDepth 8000
namespace Go.Proofs.Ytichhfbkhnimmaa
open Go Go.RowKit Go.PP Go.Dm Go.Rt Go.Mn
def xrow (A:Au) (n p q:Nat):List D:=(List.range n).map fun j=>if j<q then D.flat (.int .i64 (MR A 0 0 0 p j)) else D.flat (.int .i64 0)
theorem xrow_pers (A:Au) (n p q:Nat):persL (xrow A n p q)=true:=by
 unfold xrow
 generalize List.range n=l
 induction l with
 |nil=>rfl
 |cons x l ih=>
  simp only [List.map_cons,persL,Bool.and_eq_true]
  refine⟨?_,ih⟩
  split <;> rfl
theorem xrow_len (A:Au) (n p q:Nat):(xrow A n p q).length=n:=by simp [xrow]
theorem xrow_zero (A:Au) (n p:Nat):xrow A n p 0=List.replicate n (D.flat (.int .i64 0)):=by
 unfold xrow
 simp only [Nat.not_lt_zero,if_false]
 rw [List.map_const',List.length_range]
theorem xrow_all (A:Au) (n p:Nat):xrow A n p n=mrow (MR A 0 0 0) n p:=by
 unfold xrow mrow
 refine List.map_congr_left fun j hj=>?_
 rw [if_pos (List.mem_range.1 hj)]
theorem xrow_set (A:Au) {n p q:Nat} (h:q<n) (z:D):(((xrow A n p q).set q z).set q (D.flat (.int .i64 (MR A 0 0 0 p q))))=xrow A n p (q+1):=by
 rw [List.set_set]
 unfold xrow
 refine List.ext_getElem? fun j=>?_
 rw [List.getElem?_set]
 by_cases hj:q=j
 ·subst hj
  simp [h]
 ·rw [if_neg hj]
  by_cases hn:j<n
  ·simp only [List.getElem?_map,List.getElem?_range hn,Option.map_some]
   by_cases hq:j<q
   ·rw [if_pos hq,if_pos (by omega)]
   ·rw [if_neg hq,if_neg (by omega)]
  ·rw [List.getElem?_eq_none (by simp;omega),List.getElem?_eq_none (by simp;omega)]
theorem xrow_set1 (A:Au) {n p q:Nat} (h:q<n) (hm:MR A 0 0 0 p q= -1):List.take (q*1) (xrow A n p q)++ [D.flat (.int .i64 (-1))]++List.drop (q*1+1) (xrow A n p q)=xrow A n p (q+1):=by
 have h1:=splice_set (cs:=xrow A n p q) (i:=q) (x:= .flat (.int .i64 (-1))) (by rw [xrow_len];exact h)
 unfold spliceD at h1
 have h2:=xrow_set A h (p:=p) (.flat (.int .i64 (-1)))
 rw [hm,List.set_set] at h2
 rw [Nat.mul_one]
 exact h1.trans h2
theorem xrow_set2 (A:Au) {n p q:Nat} (h:q<n) (hm:MR A 0 0 0 p q=0):List.take (q*1) (List.take (q*1) (xrow A n p q)++ [D.flat (.int .i64 (-1))]++List.drop (q*1+1) (xrow A n p q))++ [D.flat (.int .i64 0)]++List.drop (q*1+1) (List.take (q*1) (xrow A n p q)++ [D.flat (.int .i64 (-1))]++List.drop (q*1+1) (xrow A n p q))=xrow A n p (q+1):=by
 have h1:=splice_set (cs:=xrow A n p q) (i:=q) (x:= .flat (.int .i64 (-1))) (by rw [xrow_len];exact h)
 unfold spliceD at h1
 have h3:=splice_set (cs:=(xrow A n p q).set q (.flat (.int .i64 (-1)))) (i:=q) (x:= .flat (.int .i64 0)) (by rw [List.length_set,xrow_len];exact h)
 unfold spliceD at h3
 have h2:=xrow_set A h (p:=p) (.flat (.int .i64 (-1)))
 rw [hm] at h2
 rw [Nat.mul_one]
 have h1:List.take q (xrow A n p q)++ [.flat (.int .i64 (-1))]++List.drop (q+1) (xrow A n p q)=(xrow A n p q).set q (.flat (.int .i64 (-1))):=h1
 rw [h1]
 exact h3.trans h2
theorem MR_first (A:Au) (p q:Nat):MR A 0 0 0 p q=if A.final.getD p false≠A.final.getD q false then 0 else -1:=by
 unfold MR
 rw [if_neg (by omega),farK]
 rfl
def farD (A:Au):List D:=(List.range A.final.length).map fun p=>D.sl false 1 A.final.length (mrow (fun (i j:Nat)=>farA A i j) A.final.length p)
end Go.Proofs.Ytichhfbkhnimmaa
set_option linter.unusedSectionVars false
set_option maxHeartbeats 400000
namespace Go.Dm
open Go Go.RowKit Go.PP
variable [GlobW]
theorem Sub.autoT {N:Nat} {f f':Fr} {σ σ':Sg} (h1:EsOk σ σ' σ':=by (repeat (first|exact EsOk.nil'|refine EsOk.none' ?_|refine EsOk.rec' rfl (by (repeat (first|exact FVs.nil'|refine FVs.cons' (by first|exact Vs.pers (by first|rfl|assumption)|exact Vs.eq' rfl rfl PersD.h|exact Vs.int' rfl (by first|with_reducible rfl|assumption|omega|(first|(simp <;> fail)|fail)|(simp;omega)|(push_cast;omega)|rfl)|exact Vs.own' rfl rfl rfl (by first|rfl|omega|(first|(simp <;> fail)|fail)|(simp;omega))|exact Vs.ref' rfl rfl|exact Vs.bsl' rfl rfl|exact Vs.mp' rfl rfl|exact Vs.yl' rfl rfl|exact Vs.nil|exact Vs.eq' rfl (by first|assumption|(first|(simp <;> fail)|fail)|(simp;omega)) rfl|exact Vs.any _|exact Vs.clo' rfl (VsL.pers (by first|rfl|exact PersL.h)) (by repeat (first|exact VsL.nil'|refine VsL.cons' (by first|exact Vs.pers (by first|rfl|assumption)|exact Vs.eq' rfl rfl PersD.h|exact Vs.ref' rfl rfl|exact Vs.bsl' rfl rfl|exact Vs.mp' rfl rfl|exact Vs.yl' rfl rfl|exact Vs.own' rfl rfl rfl rfl) ?_))|exact Vs.shutOwn' rfl rfl rfl (by first|rfl|omega|(first|(simp <;> fail)|fail)) (by first|rfl|assumption|(first|(simp <;> fail)|fail)) (by first|rfl|exact persL_map (fun _=>rfl) _|exact PersL.h|assumption)|exact Vs.shutRef' rfl rfl rfl (by first|rfl|assumption|(first|(simp <;> fail)|fail)) (by first|rfl|assumption) rfl|exact Vs.dead' rfl rfl (by first|rfl|omega|(first|(simp <;> fail)|fail))|assumption) ?_))) ?_|refine EsOk.dead' ?_|refine EsOk.map' rfl (by first|rfl|assumption|(first|(simp <;> fail)|fail)) (by first|rfl|assumption|(first|(simp <;> fail)|fail)) (by first|rfl|assumption|exact persL_map (fun _=>rfl) _) ?_|refine EsOk.box' rfl (by first|exact VsL.pers (by first|rfl|exact PersL.h)|exact MpC.vs' rfl rfl|exact VsL.pers (persL_map (fun _=>rfl) _)|assumption|exact VsL.eq' (by first|rfl|assumption|(first|(simp <;> fail)|fail)) (by first|rfl|exact persL_map (fun _=>rfl) _|exact PersL.h|assumption)|exact VsL.eqL (by first|rfl|assumption|(first|(simp <;> fail)|fail)) (by first|rfl|exact persL_map (fun _=>rfl) _|exact PersL.h|assumption)|(repeat (first|exact VsL.nil'|exact VsL.pers (by assumption)|refine VsL.cons' (by first|exact Vs.pers (by first|rfl|assumption)|exact Vs.eq' rfl rfl PersD.h|exact Vs.int' rfl (by first|with_reducible rfl|assumption|omega|(first|(simp <;> fail)|fail)|(simp;omega)|(push_cast;omega)|rfl)|exact Vs.own' rfl rfl rfl (by first|rfl|omega|(first|(simp <;> fail)|fail)|(simp;omega))|exact Vs.ref' rfl rfl|exact Vs.bsl' rfl rfl|exact Vs.mp' rfl rfl|exact Vs.yl' rfl rfl|exact Vs.nil|exact Vs.eq' rfl (by first|assumption|(first|(simp <;> fail)|fail)|(simp;omega)) rfl|exact Vs.any _|exact Vs.clo' rfl (VsL.pers (by first|rfl|exact PersL.h)) (by repeat (first|exact VsL.nil'|refine VsL.cons' (by first|exact Vs.pers (by first|rfl|assumption)|exact Vs.eq' rfl rfl PersD.h|exact Vs.ref' rfl rfl|exact Vs.bsl' rfl rfl|exact Vs.mp' rfl rfl|exact Vs.yl' rfl rfl|exact Vs.own' rfl rfl rfl rfl) ?_))|exact Vs.shutOwn' rfl rfl rfl (by first|rfl|omega|(first|(simp <;> fail)|fail)) (by first|rfl|assumption|(first|(simp <;> fail)|fail)) (by first|rfl|exact persL_map (fun _=>rfl) _|exact PersL.h|assumption)|exact Vs.shutRef' rfl rfl rfl (by first|rfl|assumption|(first|(simp <;> fail)|fail)) (by first|rfl|assumption) rfl|exact Vs.dead' rfl rfl (by first|rfl|omega|(first|(simp <;> fail)|fail))|assumption) ?_))) ?_|refine EsOk.row' rfl (by first|rfl|omega|(first|(simp <;> fail)|fail)|(simp;omega)) (by first|exact VsL.pers (by first|rfl|exact PersL.h)|exact VsL.pers (persL_map (fun _=>rfl) _)|assumption|exact VsL.eq' (by first|rfl|assumption|(first|(simp <;> fail)|fail)) (by first|rfl|exact persL_map (fun _=>rfl) _|exact PersL.h|assumption)|exact VsL.eqL (by first|rfl|assumption|(first|(simp <;> fail)|fail)) (by first|rfl|exact persL_map (fun _=>rfl) _|exact PersL.h|assumption)|(repeat (first|exact VsL.nil'|exact VsL.pers (by assumption)|refine VsL.cons' (by first|exact Vs.pers (by first|rfl|assumption)|exact Vs.eq' rfl rfl PersD.h|exact Vs.int' rfl (by first|with_reducible rfl|assumption|omega|(first|(simp <;> fail)|fail)|(simp;omega)|(push_cast;omega)|rfl)|exact Vs.own' rfl rfl rfl (by first|rfl|omega|(first|(simp <;> fail)|fail)|(simp;omega))|exact Vs.ref' rfl rfl|exact Vs.bsl' rfl rfl|exact Vs.mp' rfl rfl|exact Vs.yl' rfl rfl|exact Vs.nil|exact Vs.eq' rfl (by first|assumption|(first|(simp <;> fail)|fail)|(simp;omega)) rfl|exact Vs.any _|exact Vs.clo' rfl (VsL.pers (by first|rfl|exact PersL.h)) (by repeat (first|exact VsL.nil'|refine VsL.cons' (by first|exact Vs.pers (by first|rfl|assumption)|exact Vs.eq' rfl rfl PersD.h|exact Vs.ref' rfl rfl|exact Vs.bsl' rfl rfl|exact Vs.mp' rfl rfl|exact Vs.yl' rfl rfl|exact Vs.own' rfl rfl rfl rfl) ?_))|exact Vs.shutOwn' rfl rfl rfl (by first|rfl|omega|(first|(simp <;> fail)|fail)) (by first|rfl|assumption|(first|(simp <;> fail)|fail)) (by first|rfl|exact persL_map (fun _=>rfl) _|exact PersL.h|assumption)|exact Vs.shutRef' rfl rfl rfl (by first|rfl|assumption|(first|(simp <;> fail)|fail)) (by first|rfl|assumption) rfl|exact Vs.dead' rfl rfl (by first|rfl|omega|(first|(simp <;> fail)|fail))|assumption) ?_))) ?_|fail))) (h2:FsOk σ σ' f f':=by (repeat (first|exact trivial|refine FsOk.cons (by first|exact Vs.pers (by first|rfl|assumption)|exact Vs.eq' rfl rfl PersD.h|exact Vs.int' rfl (by first|with_reducible rfl|assumption|omega|(first|(simp <;> fail)|fail)|(simp;omega)|(push_cast;omega)|rfl)|exact Vs.own' rfl rfl rfl (by first|rfl|omega|(first|(simp <;> fail)|fail)|(simp;omega))|exact Vs.ref' rfl rfl|exact Vs.bsl' rfl rfl|exact Vs.mp' rfl rfl|exact Vs.yl' rfl rfl|exact Vs.nil|exact Vs.eq' rfl (by first|assumption|(first|(simp <;> fail)|fail)|(simp;omega)) rfl|exact Vs.any _|exact Vs.clo' rfl (VsL.pers (by first|rfl|exact PersL.h)) (by repeat (first|exact VsL.nil'|refine VsL.cons' (by first|exact Vs.pers (by first|rfl|assumption)|exact Vs.eq' rfl rfl PersD.h|exact Vs.ref' rfl rfl|exact Vs.bsl' rfl rfl|exact Vs.mp' rfl rfl|exact Vs.yl' rfl rfl|exact Vs.own' rfl rfl rfl rfl) ?_))|exact Vs.shutOwn' rfl rfl rfl (by first|rfl|omega|(first|(simp <;> fail)|fail)) (by first|rfl|assumption|(first|(simp <;> fail)|fail)) (by first|rfl|exact persL_map (fun _=>rfl) _|exact PersL.h|assumption)|exact Vs.shutRef' rfl rfl rfl (by first|rfl|assumption|(first|(simp <;> fail)|fail)) (by first|rfl|assumption) rfl|exact Vs.dead' rfl rfl (by first|rfl|omega|(first|(simp <;> fail)|fail))|assumption) ?_|fail))):Sub N ⟨f,σ⟩ ⟨f',σ'⟩:=Sub.of h1 h2
end Go.Dm
set_option maxHeartbeats 4000000
namespace Go.Proofs.Ytichhfbkhnimmaa
open Go Go.RowKit Go.PP Go.Dm Go.Rt Go.Mn
theorem far_j0 {cc:Code} (hsel:selC [1,1,1,0,1,2,2] code51=some cc) (A:Au) (hj:0<A.final.length) (hN:A.final.length≤6) (TL:List D) (hTL:persL TL=true):DW Try.prog 118 cc ⟨[(1,.ref 1 0),(3,.flat (.int .i64 ((A.final.length:Nat):Int))),(4,.own 16 A.final.length),(5,.flat (.int .i64 ((0:Nat):Int)))],[(1,some (.box [.sl false 1 A.ranks.length (A.ranks.map fun x=>D.flat (.int .i64 x)),.sl false 1 A.final.length (A.final.map fun x=>D.flat (.bool x)),.sl false 1 A.to.length (rowsL A.to)])),(16,some (.row 22 1 A.final.length (.flat (.slice none 0 0)::TL)))]⟩ (Nm 118 ⟨[(1,.ref 1 0),(3,.flat (.int .i64 ((A.final.length:Nat):Int))),(4,.own 16 A.final.length),(5,.flat (.int .i64 ((1:Nat):Int)))],[(1,some (.box [.sl false 1 A.ranks.length (A.ranks.map fun x=>D.flat (.int .i64 x)),.sl false 1 A.final.length (A.final.map fun x=>D.flat (.bool x)),.sl false 1 A.to.length (rowsL A.to)])),(16,some (.row 22 1 A.final.length (.own 801 A.final.length::TL))),(801,some (.row 3 1 A.final.length (mrow (MR A 0 0 0) A.final.length 0)))]⟩):=by
 have q1:=pers_i A.ranks
 have q2:=pers_b A.final
 have q3:=pers_r A.to
 have q4:=spC_pers (stepsA A)
 have h25:=IdAt.of 25 801
 have hfp:=fun (i:Nat) (h:i<A.final.length)=>fin_part A.final h
 have hf:=fun q=>MR_first A 0 q
 have hX0:=xrow_zero A A.final.length 0
 have hX:=fun q=>xrow_pers A A.final.length 0 q
 have hXl:=fun q=>xrow_len A A.final.length 0 q
 have hXa:=xrow_all A A.final.length 0
 have h1:=fun q (h:q<A.final.length)=>xrow_set1 A (p:=0) h
 have h2:=fun q (h:q<A.final.length)=>xrow_set2 A (p:=0) h
 have hfj:=hfp 0 (by omega)
 generalize (A.ranks.map fun x=>D.flat (.int .i64 x))=LR at*
 generalize (A.final.map fun x=>D.flat (.bool x))=LB at*
 generalize rowsL A.to=LT at*
 generalize A.ranks.length=rl at*
 generalize A.final.length=n at*
 generalize A.to.length=ta at*
 generalize A.final.getD 0 false=fj at*
 refine DW.sel hsel (by rfl) ?_
 refine DW.walk ?_
 refine DW.loopA (fun q:Nat=>⟨[(1,.ref 1 0),(3,.flat (.int .i64 ((n:Nat):Int))),(4,.own 16 n),(5,.flat (.int .i64 ((0:Nat):Int))),(6,.flat (.int .i64 ((q:Nat):Int)))],[(1,some (.box [.sl false 1 rl LR,.sl false 1 n LB,.sl false 1 ta LT])),(16,some (.row 22 1 n (.own 801 n::TL))),(801,some (.row 3 1 n (xrow A n 0 q)))]⟩) (fun q=>q≤n) (fun q=>n - q) 0 ?_ (Nat.zero_le _) (by rw [hX0];have:=hX 0;rw [hX0] at this;generalize (List.replicate n (D.flat (.int .i64 0)))=Z at *;exact Sub.autoT)
 intro q hq
 rcases Nat.lt_or_ge q n with hlt|hge
 ·have   hfq:=hfp q hlt
  have hq:=hf q
  have e1:=h1 q hlt
  have e2:=h2 q hlt
  have x0:=hX q
  have x1:=hX (q+1)
  have l0:=hXl q
  generalize A.final.getD q false=fq at*
  generalize MR A 0 0 0 0 q=v at*
  clear hf h1 h2 hX hXl hfp
  generalize hY:xrow A n 0 (q+1)=Y at*
  generalize xrow A n 0 q=X at*
  cases fj <;> cases fq
  all_goals
   simp only [ne_eq,not_true_eq_false,not_false_eq_true,if_true,if_false,reduceCtorEq] at hq
   first
        |(have e:=e1 hq
          refine DW.walk ?_
          rw [e]
          exact⟨q+1,by omega,by omega,by rw [hY];exact Sub.autoT⟩)
        |(have e:=e2 hq
          refine DW.walk ?_
          rw [e]
          exact⟨q+1,by omega,by omega,by rw [hY];exact Sub.autoT⟩)
 ·obtain rfl:n=q:=by omega
  rw [hXa]
  have y0:=mrow_pers (MR A 0 0 0) n 0
  clear hf h1 h2 hX hXl hfp
  refine DW.walk ?_
  exact Nm.mk Sub.autoT
theorem far_j1 {cc:Code} (hsel:selC [1,1,1,0,1,2,2] code51=some cc) (A:Au) (hj:1<A.final.length) (hN:A.final.length≤6) (TL:List D) (hTL:persL TL=true):DW Try.prog 118 cc ⟨[(1,.ref 1 0),(3,.flat (.int .i64 ((A.final.length:Nat):Int))),(4,.own 16 A.final.length),(5,.flat (.int .i64 ((1:Nat):Int)))],[(1,some (.box [.sl false 1 A.ranks.length (A.ranks.map fun x=>D.flat (.int .i64 x)),.sl false 1 A.final.length (A.final.map fun x=>D.flat (.bool x)),.sl false 1 A.to.length (rowsL A.to)])),(16,some (.row 22 1 A.final.length (.own 801 A.final.length:: .flat (.slice none 0 0)::TL))),(801,some (.row 3 1 A.final.length (mrow (MR A 0 0 0) A.final.length 0)))]⟩ (Nm 118 ⟨[(1,.ref 1 0),(3,.flat (.int .i64 ((A.final.length:Nat):Int))),(4,.own 16 A.final.length),(5,.flat (.int .i64 ((2:Nat):Int)))],[(1,some (.box [.sl false 1 A.ranks.length (A.ranks.map fun x=>D.flat (.int .i64 x)),.sl false 1 A.final.length (A.final.map fun x=>D.flat (.bool x)),.sl false 1 A.to.length (rowsL A.to)])),(16,some (.row 22 1 A.final.length (.own 801 A.final.length:: .own 802 A.final.length::TL))),(801,some (.row 3 1 A.final.length (mrow (MR A 0 0 0) A.final.length 0))),(802,some (.row 3 1 A.final.length (mrow (MR A 0 0 0) A.final.length 1)))]⟩):=by
 have q1:=pers_i A.ranks
 have q2:=pers_b A.final
 have q3:=pers_r A.to
 have q4:=spC_pers (stepsA A)
 have h25:=IdAt.of 25 802
 have hfp:=fun (i:Nat) (h:i<A.final.length)=>fin_part A.final h
 have hf:=fun q=>MR_first A 1 q
 have hX0:=xrow_zero A A.final.length 1
 have hX:=fun q=>xrow_pers A A.final.length 1 q
 have hXl:=fun q=>xrow_len A A.final.length 1 q
 have hXa:=xrow_all A A.final.length 1
 have h1:=fun q (h:q<A.final.length)=>xrow_set1 A (p:=1) h
 have h2:=fun q (h:q<A.final.length)=>xrow_set2 A (p:=1) h
 have hfj:=hfp 1 (by omega)
 generalize (A.ranks.map fun x=>D.flat (.int .i64 x))=LR at*
 generalize (A.final.map fun x=>D.flat (.bool x))=LB at*
 generalize rowsL A.to=LT at*
 generalize A.ranks.length=rl at*
 generalize A.final.length=n at*
 generalize A.to.length=ta at*
 generalize A.final.getD 1 false=fj at*
 refine DW.sel hsel (by rfl) ?_
 have y0:=mrow_pers (MR A 0 0 0) n 0
 refine DW.walk ?_
 refine DW.loopA (fun q:Nat=>⟨[(1,.ref 1 0),(3,.flat (.int .i64 ((n:Nat):Int))),(4,.own 16 n),(5,.flat (.int .i64 ((1:Nat):Int))),(6,.flat (.int .i64 ((q:Nat):Int)))],[(1,some (.box [.sl false 1 rl LR,.sl false 1 n LB,.sl false 1 ta LT])),(16,some (.row 22 1 n (.own 801 n:: .own 802 n::TL))),(801,some (.row 3 1 n (mrow (MR A 0 0 0) n 0))),(802,some (.row 3 1 n (xrow A n 1 q)))]⟩) (fun q=>q≤n) (fun q=>n - q) 0 ?_ (Nat.zero_le _) (by rw [hX0];have:=hX 0;rw [hX0] at this;generalize (List.replicate n (D.flat (.int .i64 0)))=Z at *;exact Sub.autoT)
 intro q hq
 rcases Nat.lt_or_ge q n with hlt|hge
 ·have   hfq:=hfp q hlt
  have hq:=hf q
  have e1:=h1 q hlt
  have e2:=h2 q hlt
  have x0:=hX q
  have x1:=hX (q+1)
  have l0:=hXl q
  generalize A.final.getD q false=fq at*
  generalize MR A 0 0 0 1 q=v at*
  clear hf h1 h2 hX hXl hfp
  generalize hY:xrow A n 1 (q+1)=Y at*
  generalize xrow A n 1 q=X at*
  cases fj <;> cases fq
  all_goals
   simp only [ne_eq,not_true_eq_false,not_false_eq_true,if_true,if_false,reduceCtorEq] at hq
   first
        |(have e:=e1 hq
          refine DW.walk ?_
          rw [e]
          exact⟨q+1,by omega,by omega,by rw [hY];exact Sub.autoT⟩)
        |(have e:=e2 hq
          refine DW.walk ?_
          rw [e]
          exact⟨q+1,by omega,by omega,by rw [hY];exact Sub.autoT⟩)
 ·obtain rfl:n=q:=by omega
  rw [hXa]
  have y1:=mrow_pers (MR A 0 0 0) n 1
  clear hf h1 h2 hX hXl hfp
  refine DW.walk ?_
  exact Nm.mk Sub.autoT
theorem far_j2 {cc:Code} (hsel:selC [1,1,1,0,1,2,2] code51=some cc) (A:Au) (hj:2<A.final.length) (hN:A.final.length≤6) (TL:List D) (hTL:persL TL=true):DW Try.prog 118 cc ⟨[(1,.ref 1 0),(3,.flat (.int .i64 ((A.final.length:Nat):Int))),(4,.own 16 A.final.length),(5,.flat (.int .i64 ((2:Nat):Int)))],[(1,some (.box [.sl false 1 A.ranks.length (A.ranks.map fun x=>D.flat (.int .i64 x)),.sl false 1 A.final.length (A.final.map fun x=>D.flat (.bool x)),.sl false 1 A.to.length (rowsL A.to)])),(16,some (.row 22 1 A.final.length (.own 801 A.final.length:: .own 802 A.final.length:: .flat (.slice none 0 0)::TL))),(801,some (.row 3 1 A.final.length (mrow (MR A 0 0 0) A.final.length 0))),(802,some (.row 3 1 A.final.length (mrow (MR A 0 0 0) A.final.length 1)))]⟩ (Nm 118 ⟨[(1,.ref 1 0),(3,.flat (.int .i64 ((A.final.length:Nat):Int))),(4,.own 16 A.final.length),(5,.flat (.int .i64 ((3:Nat):Int)))],[(1,some (.box [.sl false 1 A.ranks.length (A.ranks.map fun x=>D.flat (.int .i64 x)),.sl false 1 A.final.length (A.final.map fun x=>D.flat (.bool x)),.sl false 1 A.to.length (rowsL A.to)])),(16,some (.row 22 1 A.final.length (.own 801 A.final.length:: .own 802 A.final.length:: .own 803 A.final.length::TL))),(801,some (.row 3 1 A.final.length (mrow (MR A 0 0 0) A.final.length 0))),(802,some (.row 3 1 A.final.length (mrow (MR A 0 0 0) A.final.length 1))),(803,some (.row 3 1 A.final.length (mrow (MR A 0 0 0) A.final.length 2)))]⟩):=by
 have q1:=pers_i A.ranks
 have q2:=pers_b A.final
 have q3:=pers_r A.to
 have q4:=spC_pers (stepsA A)
 have h25:=IdAt.of 25 803
 have hfp:=fun (i:Nat) (h:i<A.final.length)=>fin_part A.final h
 have hf:=fun q=>MR_first A 2 q
 have hX0:=xrow_zero A A.final.length 2
 have hX:=fun q=>xrow_pers A A.final.length 2 q
 have hXl:=fun q=>xrow_len A A.final.length 2 q
 have hXa:=xrow_all A A.final.length 2
 have h1:=fun q (h:q<A.final.length)=>xrow_set1 A (p:=2) h
 have h2:=fun q (h:q<A.final.length)=>xrow_set2 A (p:=2) h
 have hfj:=hfp 2 (by omega)
 generalize (A.ranks.map fun x=>D.flat (.int .i64 x))=LR at*
 generalize (A.final.map fun x=>D.flat (.bool x))=LB at*
 generalize rowsL A.to=LT at*
 generalize A.ranks.length=rl at*
 generalize A.final.length=n at*
 generalize A.to.length=ta at*
 generalize A.final.getD 2 false=fj at*
 refine DW.sel hsel (by rfl) ?_
 have y0:=mrow_pers (MR A 0 0 0) n 0
 have y1:=mrow_pers (MR A 0 0 0) n 1
 refine DW.walk ?_
 refine DW.loopA (fun q:Nat=>⟨[(1,.ref 1 0),(3,.flat (.int .i64 ((n:Nat):Int))),(4,.own 16 n),(5,.flat (.int .i64 ((2:Nat):Int))),(6,.flat (.int .i64 ((q:Nat):Int)))],[(1,some (.box [.sl false 1 rl LR,.sl false 1 n LB,.sl false 1 ta LT])),(16,some (.row 22 1 n (.own 801 n:: .own 802 n:: .own 803 n::TL))),(801,some (.row 3 1 n (mrow (MR A 0 0 0) n 0))),(802,some (.row 3 1 n (mrow (MR A 0 0 0) n 1))),(803,some (.row 3 1 n (xrow A n 2 q)))]⟩) (fun q=>q≤n) (fun q=>n - q) 0 ?_ (Nat.zero_le _) (by rw [hX0];have:=hX 0;rw [hX0] at this;generalize (List.replicate n (D.flat (.int .i64 0)))=Z at *;exact Sub.autoT)
 intro q hq
 rcases Nat.lt_or_ge q n with hlt|hge
 ·have   hfq:=hfp q hlt
  have hq:=hf q
  have e1:=h1 q hlt
  have e2:=h2 q hlt
  have x0:=hX q
  have x1:=hX (q+1)
  have l0:=hXl q
  generalize A.final.getD q false=fq at*
  generalize MR A 0 0 0 2 q=v at*
  clear hf h1 h2 hX hXl hfp
  generalize hY:xrow A n 2 (q+1)=Y at*
  generalize xrow A n 2 q=X at*
  cases fj <;> cases fq
  all_goals
   simp only [ne_eq,not_true_eq_false,not_false_eq_true,if_true,if_false,reduceCtorEq] at hq
   first
        |(have e:=e1 hq
          refine DW.walk ?_
          rw [e]
          exact⟨q+1,by omega,by omega,by rw [hY];exact Sub.autoT⟩)
        |(have e:=e2 hq
          refine DW.walk ?_
          rw [e]
          exact⟨q+1,by omega,by omega,by rw [hY];exact Sub.autoT⟩)
 ·obtain rfl:n=q:=by omega
  rw [hXa]
  have y2:=mrow_pers (MR A 0 0 0) n 2
  clear hf h1 h2 hX hXl hfp
  refine DW.walk ?_
  exact Nm.mk Sub.autoT
end Go.Proofs.Ytichhfbkhnimmaa
namespace Go.Proofs.Ytichhfbkhnimmaa
open Go Go.RowKit Go.PP Go.Dm Go.Rt Go.Mn
theorem far_j3 {cc:Code} (hsel:selC [1,1,1,0,1,2,2] code51=some cc) (A:Au) (hj:3<A.final.length) (hN:A.final.length≤6) (TL:List D) (hTL:persL TL=true):DW Try.prog 118 cc ⟨[(1,.ref 1 0),(3,.flat (.int .i64 ((A.final.length:Nat):Int))),(4,.own 16 A.final.length),(5,.flat (.int .i64 ((3:Nat):Int)))],[(1,some (.box [.sl false 1 A.ranks.length (A.ranks.map fun x=>D.flat (.int .i64 x)),.sl false 1 A.final.length (A.final.map fun x=>D.flat (.bool x)),.sl false 1 A.to.length (rowsL A.to)])),(16,some (.row 22 1 A.final.length (.own 801 A.final.length:: .own 802 A.final.length:: .own 803 A.final.length:: .flat (.slice none 0 0)::TL))),(801,some (.row 3 1 A.final.length (mrow (MR A 0 0 0) A.final.length 0))),(802,some (.row 3 1 A.final.length (mrow (MR A 0 0 0) A.final.length 1))),(803,some (.row 3 1 A.final.length (mrow (MR A 0 0 0) A.final.length 2)))]⟩ (Nm 118 ⟨[(1,.ref 1 0),(3,.flat (.int .i64 ((A.final.length:Nat):Int))),(4,.own 16 A.final.length),(5,.flat (.int .i64 ((4:Nat):Int)))],[(1,some (.box [.sl false 1 A.ranks.length (A.ranks.map fun x=>D.flat (.int .i64 x)),.sl false 1 A.final.length (A.final.map fun x=>D.flat (.bool x)),.sl false 1 A.to.length (rowsL A.to)])),(16,some (.row 22 1 A.final.length (.own 801 A.final.length:: .own 802 A.final.length:: .own 803 A.final.length:: .own 804 A.final.length::TL))),(801,some (.row 3 1 A.final.length (mrow (MR A 0 0 0) A.final.length 0))),(802,some (.row 3 1 A.final.length (mrow (MR A 0 0 0) A.final.length 1))),(803,some (.row 3 1 A.final.length (mrow (MR A 0 0 0) A.final.length 2))),(804,some (.row 3 1 A.final.length (mrow (MR A 0 0 0) A.final.length 3)))]⟩):=by
 have q1:=pers_i A.ranks
 have q2:=pers_b A.final
 have q3:=pers_r A.to
 have q4:=spC_pers (stepsA A)
 have h25:=IdAt.of 25 804
 have hfp:=fun (i:Nat) (h:i<A.final.length)=>fin_part A.final h
 have hf:=fun q=>MR_first A 3 q
 have hX0:=xrow_zero A A.final.length 3
 have hX:=fun q=>xrow_pers A A.final.length 3 q
 have hXl:=fun q=>xrow_len A A.final.length 3 q
 have hXa:=xrow_all A A.final.length 3
 have h1:=fun q (h:q<A.final.length)=>xrow_set1 A (p:=3) h
 have h2:=fun q (h:q<A.final.length)=>xrow_set2 A (p:=3) h
 have hfj:=hfp 3 (by omega)
 generalize (A.ranks.map fun x=>D.flat (.int .i64 x))=LR at*
 generalize (A.final.map fun x=>D.flat (.bool x))=LB at*
 generalize rowsL A.to=LT at*
 generalize A.ranks.length=rl at*
 generalize A.final.length=n at*
 generalize A.to.length=ta at*
 generalize A.final.getD 3 false=fj at*
 refine DW.sel hsel (by rfl) ?_
 have y0:=mrow_pers (MR A 0 0 0) n 0
 have y1:=mrow_pers (MR A 0 0 0) n 1
 have y2:=mrow_pers (MR A 0 0 0) n 2
 refine DW.walk ?_
 refine DW.loopA (fun q:Nat=>⟨[(1,.ref 1 0),(3,.flat (.int .i64 ((n:Nat):Int))),(4,.own 16 n),(5,.flat (.int .i64 ((3:Nat):Int))),(6,.flat (.int .i64 ((q:Nat):Int)))],[(1,some (.box [.sl false 1 rl LR,.sl false 1 n LB,.sl false 1 ta LT])),(16,some (.row 22 1 n (.own 801 n:: .own 802 n:: .own 803 n:: .own 804 n::TL))),(801,some (.row 3 1 n (mrow (MR A 0 0 0) n 0))),(802,some (.row 3 1 n (mrow (MR A 0 0 0) n 1))),(803,some (.row 3 1 n (mrow (MR A 0 0 0) n 2))),(804,some (.row 3 1 n (xrow A n 3 q)))]⟩) (fun q=>q≤n) (fun q=>n - q) 0 ?_ (Nat.zero_le _) (by rw [hX0];have:=hX 0;rw [hX0] at this;generalize (List.replicate n (D.flat (.int .i64 0)))=Z at *;exact Sub.autoT)
 intro q hq
 rcases Nat.lt_or_ge q n with hlt|hge
 ·have   hfq:=hfp q hlt
  have hq:=hf q
  have e1:=h1 q hlt
  have e2:=h2 q hlt
  have x0:=hX q
  have x1:=hX (q+1)
  have l0:=hXl q
  generalize A.final.getD q false=fq at*
  generalize MR A 0 0 0 3 q=v at*
  clear hf h1 h2 hX hXl hfp
  generalize hY:xrow A n 3 (q+1)=Y at*
  generalize xrow A n 3 q=X at*
  cases fj <;> cases fq
  all_goals
   simp only [ne_eq,not_true_eq_false,not_false_eq_true,if_true,if_false,reduceCtorEq] at hq
   first
        |(have e:=e1 hq
          refine DW.walk ?_
          rw [e]
          exact⟨q+1,by omega,by omega,by rw [hY];exact Sub.autoT⟩)
        |(have e:=e2 hq
          refine DW.walk ?_
          rw [e]
          exact⟨q+1,by omega,by omega,by rw [hY];exact Sub.autoT⟩)
 ·obtain rfl:n=q:=by omega
  rw [hXa]
  have y3:=mrow_pers (MR A 0 0 0) n 3
  clear hf h1 h2 hX hXl hfp
  refine DW.walk ?_
  exact Nm.mk Sub.autoT
end Go.Proofs.Ytichhfbkhnimmaa
namespace Go.Proofs.Ytichhfbkhnimmaa
open Go Go.RowKit Go.PP Go.Dm Go.Rt Go.Mn
theorem far_j4 {cc:Code} (hsel:selC [1,1,1,0,1,2,2] code51=some cc) (A:Au) (hj:4<A.final.length) (hN:A.final.length≤6) (TL:List D) (hTL:persL TL=true):DW Try.prog 118 cc ⟨[(1,.ref 1 0),(3,.flat (.int .i64 ((A.final.length:Nat):Int))),(4,.own 16 A.final.length),(5,.flat (.int .i64 ((4:Nat):Int)))],[(1,some (.box [.sl false 1 A.ranks.length (A.ranks.map fun x=>D.flat (.int .i64 x)),.sl false 1 A.final.length (A.final.map fun x=>D.flat (.bool x)),.sl false 1 A.to.length (rowsL A.to)])),(16,some (.row 22 1 A.final.length (.own 801 A.final.length:: .own 802 A.final.length:: .own 803 A.final.length:: .own 804 A.final.length:: .flat (.slice none 0 0)::TL))),(801,some (.row 3 1 A.final.length (mrow (MR A 0 0 0) A.final.length 0))),(802,some (.row 3 1 A.final.length (mrow (MR A 0 0 0) A.final.length 1))),(803,some (.row 3 1 A.final.length (mrow (MR A 0 0 0) A.final.length 2))),(804,some (.row 3 1 A.final.length (mrow (MR A 0 0 0) A.final.length 3)))]⟩ (Nm 118 ⟨[(1,.ref 1 0),(3,.flat (.int .i64 ((A.final.length:Nat):Int))),(4,.own 16 A.final.length),(5,.flat (.int .i64 ((5:Nat):Int)))],[(1,some (.box [.sl false 1 A.ranks.length (A.ranks.map fun x=>D.flat (.int .i64 x)),.sl false 1 A.final.length (A.final.map fun x=>D.flat (.bool x)),.sl false 1 A.to.length (rowsL A.to)])),(16,some (.row 22 1 A.final.length (.own 801 A.final.length:: .own 802 A.final.length:: .own 803 A.final.length:: .own 804 A.final.length:: .own 805 A.final.length::TL))),(801,some (.row 3 1 A.final.length (mrow (MR A 0 0 0) A.final.length 0))),(802,some (.row 3 1 A.final.length (mrow (MR A 0 0 0) A.final.length 1))),(803,some (.row 3 1 A.final.length (mrow (MR A 0 0 0) A.final.length 2))),(804,some (.row 3 1 A.final.length (mrow (MR A 0 0 0) A.final.length 3))),(805,some (.row 3 1 A.final.length (mrow (MR A 0 0 0) A.final.length 4)))]⟩):=by
 have q1:=pers_i A.ranks
 have q2:=pers_b A.final
 have q3:=pers_r A.to
 have q4:=spC_pers (stepsA A)
 have h25:=IdAt.of 25 805
 have hfp:=fun (i:Nat) (h:i<A.final.length)=>fin_part A.final h
 have hf:=fun q=>MR_first A 4 q
 have hX0:=xrow_zero A A.final.length 4
 have hX:=fun q=>xrow_pers A A.final.length 4 q
 have hXl:=fun q=>xrow_len A A.final.length 4 q
 have hXa:=xrow_all A A.final.length 4
 have h1:=fun q (h:q<A.final.length)=>xrow_set1 A (p:=4) h
 have h2:=fun q (h:q<A.final.length)=>xrow_set2 A (p:=4) h
 have hfj:=hfp 4 (by omega)
 generalize (A.ranks.map fun x=>D.flat (.int .i64 x))=LR at*
 generalize (A.final.map fun x=>D.flat (.bool x))=LB at*
 generalize rowsL A.to=LT at*
 generalize A.ranks.length=rl at*
 generalize A.final.length=n at*
 generalize A.to.length=ta at*
 generalize A.final.getD 4 false=fj at*
 refine DW.sel hsel (by rfl) ?_
 have y0:=mrow_pers (MR A 0 0 0) n 0
 have y1:=mrow_pers (MR A 0 0 0) n 1
 have y2:=mrow_pers (MR A 0 0 0) n 2
 have y3:=mrow_pers (MR A 0 0 0) n 3
 refine DW.walk ?_
 refine DW.loopA (fun q:Nat=>⟨[(1,.ref 1 0),(3,.flat (.int .i64 ((n:Nat):Int))),(4,.own 16 n),(5,.flat (.int .i64 ((4:Nat):Int))),(6,.flat (.int .i64 ((q:Nat):Int)))],[(1,some (.box [.sl false 1 rl LR,.sl false 1 n LB,.sl false 1 ta LT])),(16,some (.row 22 1 n (.own 801 n:: .own 802 n:: .own 803 n:: .own 804 n:: .own 805 n::TL))),(801,some (.row 3 1 n (mrow (MR A 0 0 0) n 0))),(802,some (.row 3 1 n (mrow (MR A 0 0 0) n 1))),(803,some (.row 3 1 n (mrow (MR A 0 0 0) n 2))),(804,some (.row 3 1 n (mrow (MR A 0 0 0) n 3))),(805,some (.row 3 1 n (xrow A n 4 q)))]⟩) (fun q=>q≤n) (fun q=>n - q) 0 ?_ (Nat.zero_le _) (by rw [hX0];have:=hX 0;rw [hX0] at this;generalize (List.replicate n (D.flat (.int .i64 0)))=Z at *;exact Sub.autoT)
 intro q hq
 rcases Nat.lt_or_ge q n with hlt|hge
 ·have   hfq:=hfp q hlt
  have hq:=hf q
  have e1:=h1 q hlt
  have e2:=h2 q hlt
  have x0:=hX q
  have x1:=hX (q+1)
  have l0:=hXl q
  generalize A.final.getD q false=fq at*
  generalize MR A 0 0 0 4 q=v at*
  clear hf h1 h2 hX hXl hfp
  generalize hY:xrow A n 4 (q+1)=Y at*
  generalize xrow A n 4 q=X at*
  cases fj <;> cases fq
  all_goals
   simp only [ne_eq,not_true_eq_false,not_false_eq_true,if_true,if_false,reduceCtorEq] at hq
   first
        |(have e:=e1 hq
          refine DW.walk ?_
          rw [e]
          exact⟨q+1,by omega,by omega,by rw [hY];exact Sub.autoT⟩)
        |(have e:=e2 hq
          refine DW.walk ?_
          rw [e]
          exact⟨q+1,by omega,by omega,by rw [hY];exact Sub.autoT⟩)
 ·obtain rfl:n=q:=by omega
  rw [hXa]
  have y4:=mrow_pers (MR A 0 0 0) n 4
  clear hf h1 h2 hX hXl hfp
  refine DW.walk ?_
  exact Nm.mk Sub.autoT
end Go.Proofs.Ytichhfbkhnimmaa
