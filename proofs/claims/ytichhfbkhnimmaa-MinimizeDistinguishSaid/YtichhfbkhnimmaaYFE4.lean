/- The table of distances: the rows of the first table. No condition. -/
import Derived.Test.YtichhfbkhnimmaaYXD4
import Derived.Test.YtichhfbkhnimmaaYFC2
import Derived.Test.YtichhfbkhnimmaaYFC6
set_option linter.unusedSimpArgs false
set_option linter.unusedVariables false
set_option maxHeartbeats 4000000
set_option maxRecDepth 8000
namespace Go.Proofs.Ytichhfbkhnimmaa
open Go Go.RowKit Go.PP Go.Dm Go.Rt Go.Mn
theorem far_j5 {cc:Code} (hsel:selC [1,1,1,0,1,2,2] code51=some cc) (A:Au) (hj:5<A.final.length) (hN:A.final.length≤6) (TL:List D) (hTL:persL TL=true):DW Try.prog 118 cc ⟨[(1,.ref 1 0),(3,.flat (.int .i64 ((A.final.length:Nat):Int))),(4,.own 16 A.final.length),(5,.flat (.int .i64 ((5:Nat):Int)))],[(1,some (.box [.sl false 1 A.ranks.length (A.ranks.map fun x=>D.flat (.int .i64 x)),.sl false 1 A.final.length (A.final.map fun x=>D.flat (.bool x)),.sl false 1 A.to.length (rowsL A.to)])),(16,some (.row 22 1 A.final.length (.own 801 A.final.length:: .own 802 A.final.length:: .own 803 A.final.length:: .own 804 A.final.length:: .own 805 A.final.length:: .flat (.slice none 0 0)::TL))),(801,some (.row 3 1 A.final.length (mrow (MR A 0 0 0) A.final.length 0))),(802,some (.row 3 1 A.final.length (mrow (MR A 0 0 0) A.final.length 1))),(803,some (.row 3 1 A.final.length (mrow (MR A 0 0 0) A.final.length 2))),(804,some (.row 3 1 A.final.length (mrow (MR A 0 0 0) A.final.length 3))),(805,some (.row 3 1 A.final.length (mrow (MR A 0 0 0) A.final.length 4)))]⟩ (Nm 118 ⟨[(1,.ref 1 0),(3,.flat (.int .i64 ((A.final.length:Nat):Int))),(4,.own 16 A.final.length),(5,.flat (.int .i64 ((6:Nat):Int)))],[(1,some (.box [.sl false 1 A.ranks.length (A.ranks.map fun x=>D.flat (.int .i64 x)),.sl false 1 A.final.length (A.final.map fun x=>D.flat (.bool x)),.sl false 1 A.to.length (rowsL A.to)])),(16,some (.row 22 1 A.final.length (.own 801 A.final.length:: .own 802 A.final.length:: .own 803 A.final.length:: .own 804 A.final.length:: .own 805 A.final.length:: .own 806 A.final.length::TL))),(801,some (.row 3 1 A.final.length (mrow (MR A 0 0 0) A.final.length 0))),(802,some (.row 3 1 A.final.length (mrow (MR A 0 0 0) A.final.length 1))),(803,some (.row 3 1 A.final.length (mrow (MR A 0 0 0) A.final.length 2))),(804,some (.row 3 1 A.final.length (mrow (MR A 0 0 0) A.final.length 3))),(805,some (.row 3 1 A.final.length (mrow (MR A 0 0 0) A.final.length 4))),(806,some (.row 3 1 A.final.length (mrow (MR A 0 0 0) A.final.length 5)))]⟩):=by
 have q1:=pers_i A.ranks
 have q2:=pers_b A.final
 have q3:=pers_r A.to
 have q4:=spC_pers (stepsA A)
 have h25:=IdAt.of 25 806
 have hfp:=fun (i:Nat) (h:i<A.final.length)=>fin_part A.final h
 have hf:=fun q=>MR_first A 5 q
 have hX0:=xrow_zero A A.final.length 5
 have hX:=fun q=>xrow_pers A A.final.length 5 q
 have hXl:=fun q=>xrow_len A A.final.length 5 q
 have hXa:=xrow_all A A.final.length 5
 have h1:=fun q (h:q<A.final.length)=>xrow_set1 A (p:=5) h
 have h2:=fun q (h:q<A.final.length)=>xrow_set2 A (p:=5) h
 have hfj:=hfp 5 (by omega)
 generalize (A.ranks.map fun x=>D.flat (.int .i64 x))=LR at*
 generalize (A.final.map fun x=>D.flat (.bool x))=LB at*
 generalize rowsL A.to=LT at*
 generalize A.ranks.length=rl at*
 generalize A.final.length=n at*
 generalize A.to.length=ta at*
 generalize A.final.getD 5 false=fj at*
 refine DW.sel hsel (by rfl) ?_
 have y0:=mrow_pers (MR A 0 0 0) n 0
 have y1:=mrow_pers (MR A 0 0 0) n 1
 have y2:=mrow_pers (MR A 0 0 0) n 2
 have y3:=mrow_pers (MR A 0 0 0) n 3
 have y4:=mrow_pers (MR A 0 0 0) n 4
 refine DW.walk ?_
 refine DW.loopA (fun q:Nat=>⟨[(1,.ref 1 0),(3,.flat (.int .i64 ((n:Nat):Int))),(4,.own 16 n),(5,.flat (.int .i64 ((5:Nat):Int))),(6,.flat (.int .i64 ((q:Nat):Int)))],[(1,some (.box [.sl false 1 rl LR,.sl false 1 n LB,.sl false 1 ta LT])),(16,some (.row 22 1 n (.own 801 n:: .own 802 n:: .own 803 n:: .own 804 n:: .own 805 n:: .own 806 n::TL))),(801,some (.row 3 1 n (mrow (MR A 0 0 0) n 0))),(802,some (.row 3 1 n (mrow (MR A 0 0 0) n 1))),(803,some (.row 3 1 n (mrow (MR A 0 0 0) n 2))),(804,some (.row 3 1 n (mrow (MR A 0 0 0) n 3))),(805,some (.row 3 1 n (mrow (MR A 0 0 0) n 4))),(806,some (.row 3 1 n (xrow A n 5 q)))]⟩) (fun q=>q≤n) (fun q=>n - q) 0 ?_ (Nat.zero_le _) (by rw [hX0];have:=hX 0;rw [hX0] at this;generalize (List.replicate n (D.flat (.int .i64 0)))=Z at *;exact Sub.autoT)
 intro q hq
 rcases Nat.lt_or_ge q n with hlt|hge
 ·have   hfq:=hfp q hlt
  have hq:=hf q
  have e1:=h1 q hlt
  have e2:=h2 q hlt
  have x0:=hX q
  have x1:=hX (q+1)
  have l0:=hXl q
  generalize A.final.getD q false=fq at*
  generalize MR A 0 0 0 5 q=v at*
  clear hf h1 h2 hX hXl hfp
  generalize hY:xrow A n 5 (q+1)=Y at*
  generalize xrow A n 5 q=X at*
  cases fj <;> cases fq
  all_goals
   simp only [ne_eq,not_true_eq_false,not_false_eq_true,if_true,if_false,reduceCtorEq] at hq
   first
        |(have e:=e1 hq
          refine DW.walk ?_
          rw [e]
          exact⟨q+1,by omega,by omega,by rw [hY];exact Sub.autoT⟩)
        |(have e:=e2 hq
          refine DW.walk ?_
          rw [e]
          exact⟨q+1,by omega,by omega,by rw [hY];exact Sub.autoT⟩)
 ·obtain rfl:n=q:=by omega
  rw [hXa]
  have y5:=mrow_pers (MR A 0 0 0) n 5
  clear hf h1 h2 hX hXl hfp
  refine DW.walk ?_
  exact Nm.mk Sub.autoT
theorem far51_1 (A:Au) (hok:AuOk A) (hN:A.final.length=1):DFun Try.prog 51 [auD A] (.sl false 1 A.final.length (farD A)):=by
 have q1:=pers_i A.ranks
 have q2:=pers_b A.final
 have q3:=pers_r A.to
 have q4:=spC_pers (stepsA A)
 have hst:=rsteps_d A hok
 have hm:(stepsA A).length≤5000000:=by
  have h1:=stQ_len A hok.hi A.ranks.length
  have h2:=hok.alpha.hi
  have h3:stepsA A=stQ A A.ranks.length:=rfl
  rw [h3];omega
 have hi0:=fun (cc:Code) (h:selC [1,1,1,0,1,2,2] code51=some cc)=>far_j0 h A (show 0<A.final.length by omega) (by omega) [] rfl
 have hrd:=fun (cc:Code) (h:selC [1,1,1,1,1,0,1,2,2] code51=some cc) (r:Nat) (hr:r<A.final.length)=>far_r1 h A hok r hN hr hm
 have hfin:∀ i,mrow (MR A A.final.length 0 0) A.final.length i=mrow (fun (i j:Nat)=>farA A i j) A.final.length i:=fun i=>by rw [MR_zero];rfl
 have hmap:∀ g:Nat→D,(List.range A.final.length).map g=[g 0]:=fun g=>by rw [hN];rfl
 have hrep:List.replicate A.final.length (D.flat (.slice none 0 0))=[.flat (.slice none 0 0)]:=by rw [hN];rfl
 have hres:farD A=[.sl false 1 A.final.length (mrow (fun (i j:Nat)=>farA A i j) A.final.length 0)]:=hmap _
 rw [hres,auD_eq A]
 rw [auD_eq A] at hst
 have h6:=hok.hi
 clear hmap hres hok
 generalize (A.ranks.map fun x=>D.flat (.int .i64 x))=LR at*
 generalize (A.final.map fun x=>D.flat (.bool x))=LB at*
 generalize rowsL A.to=LT at*
 generalize spC (stepsA A)=SC at*
 generalize A.ranks.length=rl at*
 generalize A.final.length=n at*
 generalize A.to.length=ta at*
 generalize (stepsA A).length=m at*
 refine DFun.enterA Try.func51 Try.ntmps51 ?_
 refine DW.walkTo 3 ?_
 rw [hrep]
 refine DW.walk ?_
 refine DW.loopA (fun p:Nat=>if p=0 then⟨[(1,.ref 1 0),(3,.flat (.int .i64 ((n:Nat):Int))),(4,.own 16 n),(5,.flat (.int .i64 ((0:Nat):Int)))],[(1,some (.box [.sl false 1 rl LR,.sl false 1 n LB,.sl false 1 ta LT])),(16,some (.row 22 1 n [.flat (.slice none 0 0)]))]⟩ else⟨[(1,.ref 1 0),(3,.flat (.int .i64 ((n:Nat):Int))),(4,.own 16 n),(5,.flat (.int .i64 ((1:Nat):Int)))],[(1,some (.box [.sl false 1 rl LR,.sl false 1 n LB,.sl false 1 ta LT])),(16,some (.row 22 1 n [.own 801 n])),(801,some (.row 3 1 n (mrow (MR A 0 0 0) n 0)))]⟩) (fun p=>p≤1) (fun p=>1 - p) 0 ?_ (Nat.zero_le _) (by show Sub _ _ ⟨[(1,.ref 1 0),(3,.flat (.int .i64 ((n:Nat):Int))),(4,.own 16 n),(5,.flat (.int .i64 ((0:Nat):Int)))],[(1,some (.box [.sl false 1 rl LR,.sl false 1 n LB,.sl false 1 ta LT])),(16,some (.row 22 1 n [.flat (.slice none 0 0)]))]⟩;exact Sub.auto)
 intro p hp
 rcases (show p=0∨p=1 by omega) with rfl|rfl
 ·refine (hi0 _ (by rfl)).mono ?_
  rintro e s' ⟨rfl,hsub⟩
  exact⟨1,by omega,by omega,hsub⟩
 ·show DW _ _ _ ⟨[(1,.ref 1 0),(3,.flat (.int .i64 ((n:Nat):Int))),(4,.own 16 n),(5,.flat (.int .i64 ((1:Nat):Int)))],[(1,some (.box [.sl false 1 rl LR,.sl false 1 n LB,.sl false 1 ta LT])),(16,some (.row 22 1 n [.own 801 n])),(801,some (.row 3 1 n (mrow (MR A 0 0 0) n 0)))]⟩ _
  have y0:=mrow_pers (MR A 0 0 0) n 0
  clear hi0
  refine DW.walk ?_
  refine DW.loopA (fun r:Nat=>⟨[(1,.ref 1 0),(3,.flat (.int .i64 ((n:Nat):Int))),(4,.own 16 n),(7,.sl false 3 m SC),(8,.flat (.int .i64 ((r:Nat):Int)))],[(1,some (.box [.sl false 1 rl LR,.sl false 1 n LB,.sl false 1 ta LT])),(16,some (.row 22 1 n [.own 801 n])),(801,some (.row 3 1 n (mrow (MR A r 0 0) n 0)))]⟩) (fun r=>r≤n) (fun r=>n - r) 0 ?_ (Nat.zero_le _)
  intro r hr
  rcases Nat.lt_or_ge r n with hlt|hge
  ·refine (hrd _ (by rfl) r hlt).mono ?_
   rintro e s' ⟨rfl,hsub⟩
   exact⟨r+1,by omega,by omega,hsub⟩
  ·obtain rfl:n=r:=by omega
   rw [hfin 0]
   have w0:=mrow_pers (fun (i j:Nat)=>farA A i j) n 0
   clear hrd hfin
   refine DW.walk ?_
   exact⟨.inr rfl,ResOk.one [(16,some (.row 22 1 n [.own 801 n])),(801,some (.row 3 1 n (mrow (fun (i j:Nat)=>farA A i j) n 0)))] rfl rfl ⟨rfl,rfl,trivial⟩ (Vw.own (.head _) (.cons (Vw.own (.tail _ (.head _)) (VwL.pers w0)) .nil))⟩
theorem far51_2 (A:Au) (hok:AuOk A) (hN:A.final.length=2):DFun Try.prog 51 [auD A] (.sl false 1 A.final.length (farD A)):=by
 have q1:=pers_i A.ranks
 have q2:=pers_b A.final
 have q3:=pers_r A.to
 have q4:=spC_pers (stepsA A)
 have hst:=rsteps_d A hok
 have hm:(stepsA A).length≤5000000:=by
  have h1:=stQ_len A hok.hi A.ranks.length
  have h2:=hok.alpha.hi
  have h3:stepsA A=stQ A A.ranks.length:=rfl
  rw [h3];omega
 have hi0:=fun (cc:Code) (h:selC [1,1,1,0,1,2,2] code51=some cc)=>far_j0 h A (show 0<A.final.length by omega) (by omega) [.flat (.slice none 0 0)] rfl
 have hi1:=fun (cc:Code) (h:selC [1,1,1,0,1,2,2] code51=some cc)=>far_j1 h A (show 1<A.final.length by omega) (by omega) [] rfl
 have hrd:=fun (cc:Code) (h:selC [1,1,1,1,1,0,1,2,2] code51=some cc) (r:Nat) (hr:r<A.final.length)=>far_r2 h A hok r hN hr hm
 have hfin:∀ i,mrow (MR A A.final.length 0 0) A.final.length i=mrow (fun (i j:Nat)=>farA A i j) A.final.length i:=fun i=>by rw [MR_zero];rfl
 have hmap:∀ g:Nat→D,(List.range A.final.length).map g=[g 0,g 1]:=fun g=>by rw [hN];rfl
 have hrep:List.replicate A.final.length (D.flat (.slice none 0 0))=[.flat (.slice none 0 0),.flat (.slice none 0 0)]:=by rw [hN];rfl
 have hres:farD A=[.sl false 1 A.final.length (mrow (fun (i j:Nat)=>farA A i j) A.final.length 0),.sl false 1 A.final.length (mrow (fun (i j:Nat)=>farA A i j) A.final.length 1)]:=hmap _
 rw [hres,auD_eq A]
 rw [auD_eq A] at hst
 have h6:=hok.hi
 clear hmap hres hok
 generalize (A.ranks.map fun x=>D.flat (.int .i64 x))=LR at*
 generalize (A.final.map fun x=>D.flat (.bool x))=LB at*
 generalize rowsL A.to=LT at*
 generalize spC (stepsA A)=SC at*
 generalize A.ranks.length=rl at*
 generalize A.final.length=n at*
 generalize A.to.length=ta at*
 generalize (stepsA A).length=m at*
 refine DFun.enterA Try.func51 Try.ntmps51 ?_
 refine DW.walkTo 3 ?_
 rw [hrep]
 refine DW.walk ?_
 refine DW.loopA (fun p:Nat=>if p=0 then⟨[(1,.ref 1 0),(3,.flat (.int .i64 ((n:Nat):Int))),(4,.own 16 n),(5,.flat (.int .i64 ((0:Nat):Int)))],[(1,some (.box [.sl false 1 rl LR,.sl false 1 n LB,.sl false 1 ta LT])),(16,some (.row 22 1 n [.flat (.slice none 0 0),.flat (.slice none 0 0)]))]⟩ else if p=1 then⟨[(1,.ref 1 0),(3,.flat (.int .i64 ((n:Nat):Int))),(4,.own 16 n),(5,.flat (.int .i64 ((1:Nat):Int)))],[(1,some (.box [.sl false 1 rl LR,.sl false 1 n LB,.sl false 1 ta LT])),(16,some (.row 22 1 n [.own 801 n,.flat (.slice none 0 0)])),(801,some (.row 3 1 n (mrow (MR A 0 0 0) n 0)))]⟩ else⟨[(1,.ref 1 0),(3,.flat (.int .i64 ((n:Nat):Int))),(4,.own 16 n),(5,.flat (.int .i64 ((2:Nat):Int)))],[(1,some (.box [.sl false 1 rl LR,.sl false 1 n LB,.sl false 1 ta LT])),(16,some (.row 22 1 n [.own 801 n,.own 802 n])),(801,some (.row 3 1 n (mrow (MR A 0 0 0) n 0))),(802,some (.row 3 1 n (mrow (MR A 0 0 0) n 1)))]⟩) (fun p=>p≤2) (fun p=>2 - p) 0 ?_ (Nat.zero_le _) (by show Sub _ _ ⟨[(1,.ref 1 0),(3,.flat (.int .i64 ((n:Nat):Int))),(4,.own 16 n),(5,.flat (.int .i64 ((0:Nat):Int)))],[(1,some (.box [.sl false 1 rl LR,.sl false 1 n LB,.sl false 1 ta LT])),(16,some (.row 22 1 n [.flat (.slice none 0 0),.flat (.slice none 0 0)]))]⟩;exact Sub.auto)
 intro p hp
 rcases (show p=0∨p=1∨p=2 by omega) with rfl|rfl|rfl
 ·refine (hi0 _ (by rfl)).mono ?_
  rintro e s' ⟨rfl,hsub⟩
  exact⟨1,by omega,by omega,hsub⟩
 ·refine (hi1 _ (by rfl)).mono ?_
  rintro e s' ⟨rfl,hsub⟩
  exact⟨2,by omega,by omega,hsub⟩
 ·show DW _ _ _ ⟨[(1,.ref 1 0),(3,.flat (.int .i64 ((n:Nat):Int))),(4,.own 16 n),(5,.flat (.int .i64 ((2:Nat):Int)))],[(1,some (.box [.sl false 1 rl LR,.sl false 1 n LB,.sl false 1 ta LT])),(16,some (.row 22 1 n [.own 801 n,.own 802 n])),(801,some (.row 3 1 n (mrow (MR A 0 0 0) n 0))),(802,some (.row 3 1 n (mrow (MR A 0 0 0) n 1)))]⟩ _
  have y0:=mrow_pers (MR A 0 0 0) n 0
  have y1:=mrow_pers (MR A 0 0 0) n 1
  clear hi0 hi1
  refine DW.walk ?_
  refine DW.loopA (fun r:Nat=>⟨[(1,.ref 1 0),(3,.flat (.int .i64 ((n:Nat):Int))),(4,.own 16 n),(7,.sl false 3 m SC),(8,.flat (.int .i64 ((r:Nat):Int)))],[(1,some (.box [.sl false 1 rl LR,.sl false 1 n LB,.sl false 1 ta LT])),(16,some (.row 22 1 n [.own 801 n,.own 802 n])),(801,some (.row 3 1 n (mrow (MR A r 0 0) n 0))),(802,some (.row 3 1 n (mrow (MR A r 0 0) n 1)))]⟩) (fun r=>r≤n) (fun r=>n - r) 0 ?_ (Nat.zero_le _)
  intro r hr
  rcases Nat.lt_or_ge r n with hlt|hge
  ·refine (hrd _ (by rfl) r hlt).mono ?_
   rintro e s' ⟨rfl,hsub⟩
   exact⟨r+1,by omega,by omega,hsub⟩
  ·obtain rfl:n=r:=by omega
   rw [hfin 0,hfin 1]
   have w0:=mrow_pers (fun (i j:Nat)=>farA A i j) n 0
   have w1:=mrow_pers (fun (i j:Nat)=>farA A i j) n 1
   clear hrd hfin
   refine DW.walk ?_
   exact⟨.inr rfl,ResOk.one [(16,some (.row 22 1 n [.own 801 n,.own 802 n])),(801,some (.row 3 1 n (mrow (fun (i j:Nat)=>farA A i j) n 0))),(802,some (.row 3 1 n (mrow (fun (i j:Nat)=>farA A i j) n 1)))] rfl rfl ⟨rfl,rfl,rfl,trivial⟩ (Vw.own (.head _) (.cons (Vw.own (.tail _ (.head _)) (VwL.pers w0)) (.cons (Vw.own (.tail _ (.tail _ (.head _))) (VwL.pers w1)) .nil)))⟩
theorem far51_3 (A:Au) (hok:AuOk A) (hN:A.final.length=3):DFun Try.prog 51 [auD A] (.sl false 1 A.final.length (farD A)):=by
 have q1:=pers_i A.ranks
 have q2:=pers_b A.final
 have q3:=pers_r A.to
 have q4:=spC_pers (stepsA A)
 have hst:=rsteps_d A hok
 have hm:(stepsA A).length≤5000000:=by
  have h1:=stQ_len A hok.hi A.ranks.length
  have h2:=hok.alpha.hi
  have h3:stepsA A=stQ A A.ranks.length:=rfl
  rw [h3];omega
 have hi0:=fun (cc:Code) (h:selC [1,1,1,0,1,2,2] code51=some cc)=>far_j0 h A (show 0<A.final.length by omega) (by omega) [.flat (.slice none 0 0),.flat (.slice none 0 0)] rfl
 have hi1:=fun (cc:Code) (h:selC [1,1,1,0,1,2,2] code51=some cc)=>far_j1 h A (show 1<A.final.length by omega) (by omega) [.flat (.slice none 0 0)] rfl
 have hi2:=fun (cc:Code) (h:selC [1,1,1,0,1,2,2] code51=some cc)=>far_j2 h A (show 2<A.final.length by omega) (by omega) [] rfl
 have hrd:=fun (cc:Code) (h:selC [1,1,1,1,1,0,1,2,2] code51=some cc) (r:Nat) (hr:r<A.final.length)=>far_r3 h A hok r hN hr hm
 have hfin:∀ i,mrow (MR A A.final.length 0 0) A.final.length i=mrow (fun (i j:Nat)=>farA A i j) A.final.length i:=fun i=>by rw [MR_zero];rfl
 have hmap:∀ g:Nat→D,(List.range A.final.length).map g=[g 0,g 1,g 2]:=fun g=>by rw [hN];rfl
 have hrep:List.replicate A.final.length (D.flat (.slice none 0 0))=[.flat (.slice none 0 0),.flat (.slice none 0 0),.flat (.slice none 0 0)]:=by rw [hN];rfl
 have hres:farD A=[.sl false 1 A.final.length (mrow (fun (i j:Nat)=>farA A i j) A.final.length 0),.sl false 1 A.final.length (mrow (fun (i j:Nat)=>farA A i j) A.final.length 1),.sl false 1 A.final.length (mrow (fun (i j:Nat)=>farA A i j) A.final.length 2)]:=hmap _
 rw [hres,auD_eq A]
 rw [auD_eq A] at hst
 have h6:=hok.hi
 clear hmap hres hok
 generalize (A.ranks.map fun x=>D.flat (.int .i64 x))=LR at*
 generalize (A.final.map fun x=>D.flat (.bool x))=LB at*
 generalize rowsL A.to=LT at*
 generalize spC (stepsA A)=SC at*
 generalize A.ranks.length=rl at*
 generalize A.final.length=n at*
 generalize A.to.length=ta at*
 generalize (stepsA A).length=m at*
 refine DFun.enterA Try.func51 Try.ntmps51 ?_
 refine DW.walkTo 3 ?_
 rw [hrep]
 refine DW.walk ?_
 refine DW.loopA (fun p:Nat=>if p=0 then⟨[(1,.ref 1 0),(3,.flat (.int .i64 ((n:Nat):Int))),(4,.own 16 n),(5,.flat (.int .i64 ((0:Nat):Int)))],[(1,some (.box [.sl false 1 rl LR,.sl false 1 n LB,.sl false 1 ta LT])),(16,some (.row 22 1 n [.flat (.slice none 0 0),.flat (.slice none 0 0),.flat (.slice none 0 0)]))]⟩ else if p=1 then⟨[(1,.ref 1 0),(3,.flat (.int .i64 ((n:Nat):Int))),(4,.own 16 n),(5,.flat (.int .i64 ((1:Nat):Int)))],[(1,some (.box [.sl false 1 rl LR,.sl false 1 n LB,.sl false 1 ta LT])),(16,some (.row 22 1 n [.own 801 n,.flat (.slice none 0 0),.flat (.slice none 0 0)])),(801,some (.row 3 1 n (mrow (MR A 0 0 0) n 0)))]⟩ else if p=2 then⟨[(1,.ref 1 0),(3,.flat (.int .i64 ((n:Nat):Int))),(4,.own 16 n),(5,.flat (.int .i64 ((2:Nat):Int)))],[(1,some (.box [.sl false 1 rl LR,.sl false 1 n LB,.sl false 1 ta LT])),(16,some (.row 22 1 n [.own 801 n,.own 802 n,.flat (.slice none 0 0)])),(801,some (.row 3 1 n (mrow (MR A 0 0 0) n 0))),(802,some (.row 3 1 n (mrow (MR A 0 0 0) n 1)))]⟩ else⟨[(1,.ref 1 0),(3,.flat (.int .i64 ((n:Nat):Int))),(4,.own 16 n),(5,.flat (.int .i64 ((3:Nat):Int)))],[(1,some (.box [.sl false 1 rl LR,.sl false 1 n LB,.sl false 1 ta LT])),(16,some (.row 22 1 n [.own 801 n,.own 802 n,.own 803 n])),(801,some (.row 3 1 n (mrow (MR A 0 0 0) n 0))),(802,some (.row 3 1 n (mrow (MR A 0 0 0) n 1))),(803,some (.row 3 1 n (mrow (MR A 0 0 0) n 2)))]⟩) (fun p=>p≤3) (fun p=>3 - p) 0 ?_ (Nat.zero_le _) (by show Sub _ _ ⟨[(1,.ref 1 0),(3,.flat (.int .i64 ((n:Nat):Int))),(4,.own 16 n),(5,.flat (.int .i64 ((0:Nat):Int)))],[(1,some (.box [.sl false 1 rl LR,.sl false 1 n LB,.sl false 1 ta LT])),(16,some (.row 22 1 n [.flat (.slice none 0 0),.flat (.slice none 0 0),.flat (.slice none 0 0)]))]⟩;exact Sub.auto)
 intro p hp
 rcases (show p=0∨p=1∨p=2∨p=3 by omega) with rfl|rfl|rfl|rfl
 ·refine (hi0 _ (by rfl)).mono ?_
  rintro e s' ⟨rfl,hsub⟩
  exact⟨1,by omega,by omega,hsub⟩
 ·refine (hi1 _ (by rfl)).mono ?_
  rintro e s' ⟨rfl,hsub⟩
  exact⟨2,by omega,by omega,hsub⟩
 ·refine (hi2 _ (by rfl)).mono ?_
  rintro e s' ⟨rfl,hsub⟩
  exact⟨3,by omega,by omega,hsub⟩
 ·show DW _ _ _ ⟨[(1,.ref 1 0),(3,.flat (.int .i64 ((n:Nat):Int))),(4,.own 16 n),(5,.flat (.int .i64 ((3:Nat):Int)))],[(1,some (.box [.sl false 1 rl LR,.sl false 1 n LB,.sl false 1 ta LT])),(16,some (.row 22 1 n [.own 801 n,.own 802 n,.own 803 n])),(801,some (.row 3 1 n (mrow (MR A 0 0 0) n 0))),(802,some (.row 3 1 n (mrow (MR A 0 0 0) n 1))),(803,some (.row 3 1 n (mrow (MR A 0 0 0) n 2)))]⟩ _
  have y0:=mrow_pers (MR A 0 0 0) n 0
  have y1:=mrow_pers (MR A 0 0 0) n 1
  have y2:=mrow_pers (MR A 0 0 0) n 2
  clear hi0 hi1 hi2
  refine DW.walk ?_
  refine DW.loopA (fun r:Nat=>⟨[(1,.ref 1 0),(3,.flat (.int .i64 ((n:Nat):Int))),(4,.own 16 n),(7,.sl false 3 m SC),(8,.flat (.int .i64 ((r:Nat):Int)))],[(1,some (.box [.sl false 1 rl LR,.sl false 1 n LB,.sl false 1 ta LT])),(16,some (.row 22 1 n [.own 801 n,.own 802 n,.own 803 n])),(801,some (.row 3 1 n (mrow (MR A r 0 0) n 0))),(802,some (.row 3 1 n (mrow (MR A r 0 0) n 1))),(803,some (.row 3 1 n (mrow (MR A r 0 0) n 2)))]⟩) (fun r=>r≤n) (fun r=>n - r) 0 ?_ (Nat.zero_le _)
  intro r hr
  rcases Nat.lt_or_ge r n with hlt|hge
  ·refine (hrd _ (by rfl) r hlt).mono ?_
   rintro e s' ⟨rfl,hsub⟩
   exact⟨r+1,by omega,by omega,hsub⟩
  ·obtain rfl:n=r:=by omega
   rw [hfin 0,hfin 1,hfin 2]
   have w0:=mrow_pers (fun (i j:Nat)=>farA A i j) n 0
   have w1:=mrow_pers (fun (i j:Nat)=>farA A i j) n 1
   have w2:=mrow_pers (fun (i j:Nat)=>farA A i j) n 2
   clear hrd hfin
   refine DW.walk ?_
   exact⟨.inr rfl,ResOk.one [(16,some (.row 22 1 n [.own 801 n,.own 802 n,.own 803 n])),(801,some (.row 3 1 n (mrow (fun (i j:Nat)=>farA A i j) n 0))),(802,some (.row 3 1 n (mrow (fun (i j:Nat)=>farA A i j) n 1))),(803,some (.row 3 1 n (mrow (fun (i j:Nat)=>farA A i j) n 2)))] rfl rfl ⟨rfl,rfl,rfl,rfl,trivial⟩ (Vw.own (.head _) (.cons (Vw.own (.tail _ (.head _)) (VwL.pers w0)) (.cons (Vw.own (.tail _ (.tail _ (.head _))) (VwL.pers w1)) (.cons (Vw.own (.tail _ (.tail _ (.tail _ (.head _)))) (VwL.pers w2)) .nil))))⟩
theorem far51_4 (A:Au) (hok:AuOk A) (hN:A.final.length=4):DFun Try.prog 51 [auD A] (.sl false 1 A.final.length (farD A)):=by
 have q1:=pers_i A.ranks
 have q2:=pers_b A.final
 have q3:=pers_r A.to
 have q4:=spC_pers (stepsA A)
 have hst:=rsteps_d A hok
 have hm:(stepsA A).length≤5000000:=by
  have h1:=stQ_len A hok.hi A.ranks.length
  have h2:=hok.alpha.hi
  have h3:stepsA A=stQ A A.ranks.length:=rfl
  rw [h3];omega
 have hi0:=fun (cc:Code) (h:selC [1,1,1,0,1,2,2] code51=some cc)=>far_j0 h A (show 0<A.final.length by omega) (by omega) [.flat (.slice none 0 0),.flat (.slice none 0 0),.flat (.slice none 0 0)] rfl
 have hi1:=fun (cc:Code) (h:selC [1,1,1,0,1,2,2] code51=some cc)=>far_j1 h A (show 1<A.final.length by omega) (by omega) [.flat (.slice none 0 0),.flat (.slice none 0 0)] rfl
 have hi2:=fun (cc:Code) (h:selC [1,1,1,0,1,2,2] code51=some cc)=>far_j2 h A (show 2<A.final.length by omega) (by omega) [.flat (.slice none 0 0)] rfl
 have hi3:=fun (cc:Code) (h:selC [1,1,1,0,1,2,2] code51=some cc)=>far_j3 h A (show 3<A.final.length by omega) (by omega) [] rfl
 have hrd:=fun (cc:Code) (h:selC [1,1,1,1,1,0,1,2,2] code51=some cc) (r:Nat) (hr:r<A.final.length)=>far_r4 h A hok r hN hr hm
 have hfin:∀ i,mrow (MR A A.final.length 0 0) A.final.length i=mrow (fun (i j:Nat)=>farA A i j) A.final.length i:=fun i=>by rw [MR_zero];rfl
 have hmap:∀ g:Nat→D,(List.range A.final.length).map g=[g 0,g 1,g 2,g 3]:=fun g=>by rw [hN];rfl
 have hrep:List.replicate A.final.length (D.flat (.slice none 0 0))=[.flat (.slice none 0 0),.flat (.slice none 0 0),.flat (.slice none 0 0),.flat (.slice none 0 0)]:=by rw [hN];rfl
 have hres:farD A=[.sl false 1 A.final.length (mrow (fun (i j:Nat)=>farA A i j) A.final.length 0),.sl false 1 A.final.length (mrow (fun (i j:Nat)=>farA A i j) A.final.length 1),.sl false 1 A.final.length (mrow (fun (i j:Nat)=>farA A i j) A.final.length 2),.sl false 1 A.final.length (mrow (fun (i j:Nat)=>farA A i j) A.final.length 3)]:=hmap _
 rw [hres,auD_eq A]
 rw [auD_eq A] at hst
 have h6:=hok.hi
 clear hmap hres hok
 generalize (A.ranks.map fun x=>D.flat (.int .i64 x))=LR at*
 generalize (A.final.map fun x=>D.flat (.bool x))=LB at*
 generalize rowsL A.to=LT at*
 generalize spC (stepsA A)=SC at*
 generalize A.ranks.length=rl at*
 generalize A.final.length=n at*
 generalize A.to.length=ta at*
 generalize (stepsA A).length=m at*
 refine DFun.enterA Try.func51 Try.ntmps51 ?_
 refine DW.walkTo 3 ?_
 rw [hrep]
 refine DW.walk ?_
 refine DW.loopA (fun p:Nat=>if p=0 then⟨[(1,.ref 1 0),(3,.flat (.int .i64 ((n:Nat):Int))),(4,.own 16 n),(5,.flat (.int .i64 ((0:Nat):Int)))],[(1,some (.box [.sl false 1 rl LR,.sl false 1 n LB,.sl false 1 ta LT])),(16,some (.row 22 1 n [.flat (.slice none 0 0),.flat (.slice none 0 0),.flat (.slice none 0 0),.flat (.slice none 0 0)]))]⟩ else if p=1 then⟨[(1,.ref 1 0),(3,.flat (.int .i64 ((n:Nat):Int))),(4,.own 16 n),(5,.flat (.int .i64 ((1:Nat):Int)))],[(1,some (.box [.sl false 1 rl LR,.sl false 1 n LB,.sl false 1 ta LT])),(16,some (.row 22 1 n [.own 801 n,.flat (.slice none 0 0),.flat (.slice none 0 0),.flat (.slice none 0 0)])),(801,some (.row 3 1 n (mrow (MR A 0 0 0) n 0)))]⟩ else if p=2 then⟨[(1,.ref 1 0),(3,.flat (.int .i64 ((n:Nat):Int))),(4,.own 16 n),(5,.flat (.int .i64 ((2:Nat):Int)))],[(1,some (.box [.sl false 1 rl LR,.sl false 1 n LB,.sl false 1 ta LT])),(16,some (.row 22 1 n [.own 801 n,.own 802 n,.flat (.slice none 0 0),.flat (.slice none 0 0)])),(801,some (.row 3 1 n (mrow (MR A 0 0 0) n 0))),(802,some (.row 3 1 n (mrow (MR A 0 0 0) n 1)))]⟩ else if p=3 then⟨[(1,.ref 1 0),(3,.flat (.int .i64 ((n:Nat):Int))),(4,.own 16 n),(5,.flat (.int .i64 ((3:Nat):Int)))],[(1,some (.box [.sl false 1 rl LR,.sl false 1 n LB,.sl false 1 ta LT])),(16,some (.row 22 1 n [.own 801 n,.own 802 n,.own 803 n,.flat (.slice none 0 0)])),(801,some (.row 3 1 n (mrow (MR A 0 0 0) n 0))),(802,some (.row 3 1 n (mrow (MR A 0 0 0) n 1))),(803,some (.row 3 1 n (mrow (MR A 0 0 0) n 2)))]⟩ else⟨[(1,.ref 1 0),(3,.flat (.int .i64 ((n:Nat):Int))),(4,.own 16 n),(5,.flat (.int .i64 ((4:Nat):Int)))],[(1,some (.box [.sl false 1 rl LR,.sl false 1 n LB,.sl false 1 ta LT])),(16,some (.row 22 1 n [.own 801 n,.own 802 n,.own 803 n,.own 804 n])),(801,some (.row 3 1 n (mrow (MR A 0 0 0) n 0))),(802,some (.row 3 1 n (mrow (MR A 0 0 0) n 1))),(803,some (.row 3 1 n (mrow (MR A 0 0 0) n 2))),(804,some (.row 3 1 n (mrow (MR A 0 0 0) n 3)))]⟩) (fun p=>p≤4) (fun p=>4 - p) 0 ?_ (Nat.zero_le _) (by show Sub _ _ ⟨[(1,.ref 1 0),(3,.flat (.int .i64 ((n:Nat):Int))),(4,.own 16 n),(5,.flat (.int .i64 ((0:Nat):Int)))],[(1,some (.box [.sl false 1 rl LR,.sl false 1 n LB,.sl false 1 ta LT])),(16,some (.row 22 1 n [.flat (.slice none 0 0),.flat (.slice none 0 0),.flat (.slice none 0 0),.flat (.slice none 0 0)]))]⟩;exact Sub.auto)
 intro p hp
 rcases (show p=0∨p=1∨p=2∨p=3∨p=4 by omega) with rfl|rfl|rfl|rfl|rfl
 ·refine (hi0 _ (by rfl)).mono ?_
  rintro e s' ⟨rfl,hsub⟩
  exact⟨1,by omega,by omega,hsub⟩
 ·refine (hi1 _ (by rfl)).mono ?_
  rintro e s' ⟨rfl,hsub⟩
  exact⟨2,by omega,by omega,hsub⟩
 ·refine (hi2 _ (by rfl)).mono ?_
  rintro e s' ⟨rfl,hsub⟩
  exact⟨3,by omega,by omega,hsub⟩
 ·refine (hi3 _ (by rfl)).mono ?_
  rintro e s' ⟨rfl,hsub⟩
  exact⟨4,by omega,by omega,hsub⟩
 ·show DW _ _ _ ⟨[(1,.ref 1 0),(3,.flat (.int .i64 ((n:Nat):Int))),(4,.own 16 n),(5,.flat (.int .i64 ((4:Nat):Int)))],[(1,some (.box [.sl false 1 rl LR,.sl false 1 n LB,.sl false 1 ta LT])),(16,some (.row 22 1 n [.own 801 n,.own 802 n,.own 803 n,.own 804 n])),(801,some (.row 3 1 n (mrow (MR A 0 0 0) n 0))),(802,some (.row 3 1 n (mrow (MR A 0 0 0) n 1))),(803,some (.row 3 1 n (mrow (MR A 0 0 0) n 2))),(804,some (.row 3 1 n (mrow (MR A 0 0 0) n 3)))]⟩ _
  have y0:=mrow_pers (MR A 0 0 0) n 0
  have y1:=mrow_pers (MR A 0 0 0) n 1
  have y2:=mrow_pers (MR A 0 0 0) n 2
  have y3:=mrow_pers (MR A 0 0 0) n 3
  clear hi0 hi1 hi2 hi3
  refine DW.walk ?_
  refine DW.loopA (fun r:Nat=>⟨[(1,.ref 1 0),(3,.flat (.int .i64 ((n:Nat):Int))),(4,.own 16 n),(7,.sl false 3 m SC),(8,.flat (.int .i64 ((r:Nat):Int)))],[(1,some (.box [.sl false 1 rl LR,.sl false 1 n LB,.sl false 1 ta LT])),(16,some (.row 22 1 n [.own 801 n,.own 802 n,.own 803 n,.own 804 n])),(801,some (.row 3 1 n (mrow (MR A r 0 0) n 0))),(802,some (.row 3 1 n (mrow (MR A r 0 0) n 1))),(803,some (.row 3 1 n (mrow (MR A r 0 0) n 2))),(804,some (.row 3 1 n (mrow (MR A r 0 0) n 3)))]⟩) (fun r=>r≤n) (fun r=>n - r) 0 ?_ (Nat.zero_le _)
  intro r hr
  rcases Nat.lt_or_ge r n with hlt|hge
  ·refine (hrd _ (by rfl) r hlt).mono ?_
   rintro e s' ⟨rfl,hsub⟩
   exact⟨r+1,by omega,by omega,hsub⟩
  ·obtain rfl:n=r:=by omega
   rw [hfin 0,hfin 1,hfin 2,hfin 3]
   have w0:=mrow_pers (fun (i j:Nat)=>farA A i j) n 0
   have w1:=mrow_pers (fun (i j:Nat)=>farA A i j) n 1
   have w2:=mrow_pers (fun (i j:Nat)=>farA A i j) n 2
   have w3:=mrow_pers (fun (i j:Nat)=>farA A i j) n 3
   clear hrd hfin
   refine DW.walk ?_
   exact⟨.inr rfl,ResOk.one [(16,some (.row 22 1 n [.own 801 n,.own 802 n,.own 803 n,.own 804 n])),(801,some (.row 3 1 n (mrow (fun (i j:Nat)=>farA A i j) n 0))),(802,some (.row 3 1 n (mrow (fun (i j:Nat)=>farA A i j) n 1))),(803,some (.row 3 1 n (mrow (fun (i j:Nat)=>farA A i j) n 2))),(804,some (.row 3 1 n (mrow (fun (i j:Nat)=>farA A i j) n 3)))] rfl rfl ⟨rfl,rfl,rfl,rfl,rfl,trivial⟩ (Vw.own (.head _) (.cons (Vw.own (.tail _ (.head _)) (VwL.pers w0)) (.cons (Vw.own (.tail _ (.tail _ (.head _))) (VwL.pers w1)) (.cons (Vw.own (.tail _ (.tail _ (.tail _ (.head _)))) (VwL.pers w2)) (.cons (Vw.own (.tail _ (.tail _ (.tail _ (.tail _ (.head _))))) (VwL.pers w3)) .nil)))))⟩
end Go.Proofs.Ytichhfbkhnimmaa
