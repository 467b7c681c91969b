/- The table of distances: the rows of the first table. No condition. -/
import Derived.Test.YtichhfbkhnimmaaYXD012
set_option linter.unusedSimpArgs false
set_option linter.unusedVariables false
set_option maxHeartbeats 4000000
set_option maxRecDepth 8000
namespace Go.Proofs.Ytichhfbkhnimmaa
open Go Go.RowKit Go.PP Go.Dm Go.Rt Go.Mn
theorem rp_ {cc:Code} (hsel:selC [1,1,1,0,1,2,2] ap_=some cc) (A:Au) (hj:3<A.f.length) (hN:A.f.length≤6) (TL:List D) (hTL:persL TL=true):DW Try.prog 118 cc ⟨[(1,.ref 1 0),(3,.flat (.int .i64 ((A.f.length:Nat):Int))),(4,.own 16 A.f.length),(5,.flat (.int .i64 ((3:Nat):Int)))],[(1,some (.box [.sl false 1 A.r.length (A.r.map fun x=>D.flat (.int .i64 x)),.sl false 1 A.f.length (A.f.map fun x=>D.flat (.bool x)),.sl false 1 A.to.length (ag_ A.to)])),(16,some (.row 22 1 A.f.length (.own 801 A.f.length:: .own 802 A.f.length:: .own 803 A.f.length:: .flat (.slice none 0 0)::TL))),(801,some (.row 3 1 A.f.length (mrow (MR A 0 0 0) A.f.length 0))),(802,some (.row 3 1 A.f.length (mrow (MR A 0 0 0) A.f.length 1))),(803,some (.row 3 1 A.f.length (mrow (MR A 0 0 0) A.f.length 2)))]⟩ (Nm 118 ⟨[(1,.ref 1 0),(3,.flat (.int .i64 ((A.f.length:Nat):Int))),(4,.own 16 A.f.length),(5,.flat (.int .i64 ((4:Nat):Int)))],[(1,some (.box [.sl false 1 A.r.length (A.r.map fun x=>D.flat (.int .i64 x)),.sl false 1 A.f.length (A.f.map fun x=>D.flat (.bool x)),.sl false 1 A.to.length (ag_ A.to)])),(16,some (.row 22 1 A.f.length (.own 801 A.f.length:: .own 802 A.f.length:: .own 803 A.f.length:: .own 804 A.f.length::TL))),(801,some (.row 3 1 A.f.length (mrow (MR A 0 0 0) A.f.length 0))),(802,some (.row 3 1 A.f.length (mrow (MR A 0 0 0) A.f.length 1))),(803,some (.row 3 1 A.f.length (mrow (MR A 0 0 0) A.f.length 2))),(804,some (.row 3 1 A.f.length (mrow (MR A 0 0 0) A.f.length 3)))]⟩):=by
 have q1:=ad_ A.r
 have q2:=ai_ A.f
 have q3:=al_ A.to
 have q4:=ao_ (ab_ A)
 have h25:=IdAt.of 25 804
 have hfp:=fun (i:Nat) (h:i<A.f.length)=>fi_ A.f h
 have hf:=fun q=>fq_ A 3 q
 have hX0:=ep_ A A.f.length 3
 have hX:=fun q=>em_ A A.f.length 3 q
 have hXl:=fun q=>dk_ A A.f.length 3 q
 have hXa:=fo_ A A.f.length 3
 have h1:=fun q (h:q<A.f.length)=>ek_ A (p:=3) h
 have h2:=fun q (h:q<A.f.length)=>ef_ A (p:=3) h
 have hfj:=hfp 3 (by omega)
 generalize (A.r.map fun x=>D.flat (.int .i64 x))=LR at*
 generalize (A.f.map fun x=>D.flat (.bool x))=LB at*
 generalize ag_ A.to=LT at*
 generalize A.r.length=rl at*
 generalize A.f.length=n at*
 generalize A.to.length=ta at*
 generalize A.f.getD 3 false=fj at*
 refine DW.sel hsel (by rfl) ?_
 have y0:=aa_ (MR A 0 0 0) n 0
 have y1:=aa_ (MR A 0 0 0) n 1
 have y2:=aa_ (MR A 0 0 0) n 2
 refine DW.walk ?_
 refine DW.loopA (fun q:Nat=>⟨[(1,.ref 1 0),(3,.flat (.int .i64 ((n:Nat):Int))),(4,.own 16 n),(5,.flat (.int .i64 ((3:Nat):Int))),(6,.flat (.int .i64 ((q:Nat):Int)))],[(1,some (.box [.sl false 1 rl LR,.sl false 1 n LB,.sl false 1 ta LT])),(16,some (.row 22 1 n (.own 801 n:: .own 802 n:: .own 803 n:: .own 804 n::TL))),(801,some (.row 3 1 n (mrow (MR A 0 0 0) n 0))),(802,some (.row 3 1 n (mrow (MR A 0 0 0) n 1))),(803,some (.row 3 1 n (mrow (MR A 0 0 0) n 2))),(804,some (.row 3 1 n (xrow A n 3 q)))]⟩) (fun q=>q≤n) (fun q=>n - q) 0 ?_ (Nat.zero_le _) (by rw [hX0];have:=hX 0;rw [hX0] at this;generalize (List.replicate n (D.flat (.int .i64 0)))=Z at *;exact Sub.autoT)
 intro q hq
 rcases Nat.lt_or_ge q n with hlt|hge
 ·have   hfq:=hfp q hlt
  have hq:=hf q
  have e1:=h1 q hlt
  have e2:=h2 q hlt
  have x0:=hX q
  have x1:=hX (q+1)
  have l0:=hXl q
  generalize A.f.getD q false=fq at*
  generalize MR A 0 0 0 3 q=v at*
  clear hf h1 h2 hX hXl hfp
  generalize hY:xrow A n 3 (q+1)=Y at*
  generalize xrow A n 3 q=X at*
  cases fj <;> cases fq
  all_goals
   simp only [ne_eq,not_true_eq_false,not_false_eq_true,if_true,if_false,reduceCtorEq] at hq
   first
        |(have e:=e1 hq
          refine DW.walk ?_
          rw [e]
          exact⟨q+1,by omega,by omega,by rw [hY];exact Sub.autoT⟩)
        |(have e:=e2 hq
          refine DW.walk ?_
          rw [e]
          exact⟨q+1,by omega,by omega,by rw [hY];exact Sub.autoT⟩)
 ·obtain rfl:n=q:=by omega
  rw [hXa]
  have y3:=aa_ (MR A 0 0 0) n 3
  clear hf h1 h2 hX hXl hfp
  refine DW.walk ?_
  exact Nm.mk Sub.autoT
theorem w1_ {cc:Code} (hsel:selC [1,1,1,0,1,2,2] ap_=some cc) (A:Au) (hj:4<A.f.length) (hN:A.f.length≤6) (TL:List D) (hTL:persL TL=true):DW Try.prog 118 cc ⟨[(1,.ref 1 0),(3,.flat (.int .i64 ((A.f.length:Nat):Int))),(4,.own 16 A.f.length),(5,.flat (.int .i64 ((4:Nat):Int)))],[(1,some (.box [.sl false 1 A.r.length (A.r.map fun x=>D.flat (.int .i64 x)),.sl false 1 A.f.length (A.f.map fun x=>D.flat (.bool x)),.sl false 1 A.to.length (ag_ A.to)])),(16,some (.row 22 1 A.f.length (.own 801 A.f.length:: .own 802 A.f.length:: .own 803 A.f.length:: .own 804 A.f.length:: .flat (.slice none 0 0)::TL))),(801,some (.row 3 1 A.f.length (mrow (MR A 0 0 0) A.f.length 0))),(802,some (.row 3 1 A.f.length (mrow (MR A 0 0 0) A.f.length 1))),(803,some (.row 3 1 A.f.length (mrow (MR A 0 0 0) A.f.length 2))),(804,some (.row 3 1 A.f.length (mrow (MR A 0 0 0) A.f.length 3)))]⟩ (Nm 118 ⟨[(1,.ref 1 0),(3,.flat (.int .i64 ((A.f.length:Nat):Int))),(4,.own 16 A.f.length),(5,.flat (.int .i64 ((5:Nat):Int)))],[(1,some (.box [.sl false 1 A.r.length (A.r.map fun x=>D.flat (.int .i64 x)),.sl false 1 A.f.length (A.f.map fun x=>D.flat (.bool x)),.sl false 1 A.to.length (ag_ A.to)])),(16,some (.row 22 1 A.f.length (.own 801 A.f.length:: .own 802 A.f.length:: .own 803 A.f.length:: .own 804 A.f.length:: .own 805 A.f.length::TL))),(801,some (.row 3 1 A.f.length (mrow (MR A 0 0 0) A.f.length 0))),(802,some (.row 3 1 A.f.length (mrow (MR A 0 0 0) A.f.length 1))),(803,some (.row 3 1 A.f.length (mrow (MR A 0 0 0) A.f.length 2))),(804,some (.row 3 1 A.f.length (mrow (MR A 0 0 0) A.f.length 3))),(805,some (.row 3 1 A.f.length (mrow (MR A 0 0 0) A.f.length 4)))]⟩):=by
 have q1:=ad_ A.r
 have q2:=ai_ A.f
 have q3:=al_ A.to
 have q4:=ao_ (ab_ A)
 have h25:=IdAt.of 25 805
 have hfp:=fun (i:Nat) (h:i<A.f.length)=>fi_ A.f h
 have hf:=fun q=>fq_ A 4 q
 have hX0:=ep_ A A.f.length 4
 have hX:=fun q=>em_ A A.f.length 4 q
 have hXl:=fun q=>dk_ A A.f.length 4 q
 have hXa:=fo_ A A.f.length 4
 have h1:=fun q (h:q<A.f.length)=>ek_ A (p:=4) h
 have h2:=fun q (h:q<A.f.length)=>ef_ A (p:=4) h
 have hfj:=hfp 4 (by omega)
 generalize (A.r.map fun x=>D.flat (.int .i64 x))=LR at*
 generalize (A.f.map fun x=>D.flat (.bool x))=LB at*
 generalize ag_ A.to=LT at*
 generalize A.r.length=rl at*
 generalize A.f.length=n at*
 generalize A.to.length=ta at*
 generalize A.f.getD 4 false=fj at*
 refine DW.sel hsel (by rfl) ?_
 have y0:=aa_ (MR A 0 0 0) n 0
 have y1:=aa_ (MR A 0 0 0) n 1
 have y2:=aa_ (MR A 0 0 0) n 2
 have y3:=aa_ (MR A 0 0 0) n 3
 refine DW.walk ?_
 refine DW.loopA (fun q:Nat=>⟨[(1,.ref 1 0),(3,.flat (.int .i64 ((n:Nat):Int))),(4,.own 16 n),(5,.flat (.int .i64 ((4:Nat):Int))),(6,.flat (.int .i64 ((q:Nat):Int)))],[(1,some (.box [.sl false 1 rl LR,.sl false 1 n LB,.sl false 1 ta LT])),(16,some (.row 22 1 n (.own 801 n:: .own 802 n:: .own 803 n:: .own 804 n:: .own 805 n::TL))),(801,some (.row 3 1 n (mrow (MR A 0 0 0) n 0))),(802,some (.row 3 1 n (mrow (MR A 0 0 0) n 1))),(803,some (.row 3 1 n (mrow (MR A 0 0 0) n 2))),(804,some (.row 3 1 n (mrow (MR A 0 0 0) n 3))),(805,some (.row 3 1 n (xrow A n 4 q)))]⟩) (fun q=>q≤n) (fun q=>n - q) 0 ?_ (Nat.zero_le _) (by rw [hX0];have:=hX 0;rw [hX0] at this;generalize (List.replicate n (D.flat (.int .i64 0)))=Z at *;exact Sub.autoT)
 intro q hq
 rcases Nat.lt_or_ge q n with hlt|hge
 ·have   hfq:=hfp q hlt
  have hq:=hf q
  have e1:=h1 q hlt
  have e2:=h2 q hlt
  have x0:=hX q
  have x1:=hX (q+1)
  have l0:=hXl q
  generalize A.f.getD q false=fq at*
  generalize MR A 0 0 0 4 q=v at*
  clear hf h1 h2 hX hXl hfp
  generalize hY:xrow A n 4 (q+1)=Y at*
  generalize xrow A n 4 q=X at*
  cases fj <;> cases fq
  all_goals
   simp only [ne_eq,not_true_eq_false,not_false_eq_true,if_true,if_false,reduceCtorEq] at hq
   first
        |(have e:=e1 hq
          refine DW.walk ?_
          rw [e]
          exact⟨q+1,by omega,by omega,by rw [hY];exact Sub.autoT⟩)
        |(have e:=e2 hq
          refine DW.walk ?_
          rw [e]
          exact⟨q+1,by omega,by omega,by rw [hY];exact Sub.autoT⟩)
 ·obtain rfl:n=q:=by omega
  rw [hXa]
  have y4:=aa_ (MR A 0 0 0) n 4
  clear hf h1 h2 hX hXl hfp
  refine DW.walk ?_
  exact Nm.mk Sub.autoT
theorem acf {cc:Code} (hsel:selC [1,1,1,0,1,2,2] ap_=some cc) (A:Au) (hj:5<A.f.length) (hN:A.f.length≤6) (TL:List D) (hTL:persL TL=true):DW Try.prog 118 cc ⟨[(1,.ref 1 0),(3,.flat (.int .i64 ((A.f.length:Nat):Int))),(4,.own 16 A.f.length),(5,.flat (.int .i64 ((5:Nat):Int)))],[(1,some (.box [.sl false 1 A.r.length (A.r.map fun x=>D.flat (.int .i64 x)),.sl false 1 A.f.length (A.f.map fun x=>D.flat (.bool x)),.sl false 1 A.to.length (ag_ A.to)])),(16,some (.row 22 1 A.f.length (.own 801 A.f.length:: .own 802 A.f.length:: .own 803 A.f.length:: .own 804 A.f.length:: .own 805 A.f.length:: .flat (.slice none 0 0)::TL))),(801,some (.row 3 1 A.f.length (mrow (MR A 0 0 0) A.f.length 0))),(802,some (.row 3 1 A.f.length (mrow (MR A 0 0 0) A.f.length 1))),(803,some (.row 3 1 A.f.length (mrow (MR A 0 0 0) A.f.length 2))),(804,some (.row 3 1 A.f.length (mrow (MR A 0 0 0) A.f.length 3))),(805,some (.row 3 1 A.f.length (mrow (MR A 0 0 0) A.f.length 4)))]⟩ (Nm 118 ⟨[(1,.ref 1 0),(3,.flat (.int .i64 ((A.f.length:Nat):Int))),(4,.own 16 A.f.length),(5,.flat (.int .i64 ((6:Nat):Int)))],[(1,some (.box [.sl false 1 A.r.length (A.r.map fun x=>D.flat (.int .i64 x)),.sl false 1 A.f.length (A.f.map fun x=>D.flat (.bool x)),.sl false 1 A.to.length (ag_ A.to)])),(16,some (.row 22 1 A.f.length (.own 801 A.f.length:: .own 802 A.f.length:: .own 803 A.f.length:: .own 804 A.f.length:: .own 805 A.f.length:: .own 806 A.f.length::TL))),(801,some (.row 3 1 A.f.length (mrow (MR A 0 0 0) A.f.length 0))),(802,some (.row 3 1 A.f.length (mrow (MR A 0 0 0) A.f.length 1))),(803,some (.row 3 1 A.f.length (mrow (MR A 0 0 0) A.f.length 2))),(804,some (.row 3 1 A.f.length (mrow (MR A 0 0 0) A.f.length 3))),(805,some (.row 3 1 A.f.length (mrow (MR A 0 0 0) A.f.length 4))),(806,some (.row 3 1 A.f.length (mrow (MR A 0 0 0) A.f.length 5)))]⟩):=by
 have q1:=ad_ A.r
 have q2:=ai_ A.f
 have q3:=al_ A.to
 have q4:=ao_ (ab_ A)
 have h25:=IdAt.of 25 806
 have hfp:=fun (i:Nat) (h:i<A.f.length)=>fi_ A.f h
 have hf:=fun q=>fq_ A 5 q
 have hX0:=ep_ A A.f.length 5
 have hX:=fun q=>em_ A A.f.length 5 q
 have hXl:=fun q=>dk_ A A.f.length 5 q
 have hXa:=fo_ A A.f.length 5
 have h1:=fun q (h:q<A.f.length)=>ek_ A (p:=5) h
 have h2:=fun q (h:q<A.f.length)=>ef_ A (p:=5) h
 have hfj:=hfp 5 (by omega)
 generalize (A.r.map fun x=>D.flat (.int .i64 x))=LR at*
 generalize (A.f.map fun x=>D.flat (.bool x))=LB at*
 generalize ag_ A.to=LT at*
 generalize A.r.length=rl at*
 generalize A.f.length=n at*
 generalize A.to.length=ta at*
 generalize A.f.getD 5 false=fj at*
 refine DW.sel hsel (by rfl) ?_
 have y0:=aa_ (MR A 0 0 0) n 0
 have y1:=aa_ (MR A 0 0 0) n 1
 have y2:=aa_ (MR A 0 0 0) n 2
 have y3:=aa_ (MR A 0 0 0) n 3
 have y4:=aa_ (MR A 0 0 0) n 4
 refine DW.walk ?_
 refine DW.loopA (fun q:Nat=>⟨[(1,.ref 1 0),(3,.flat (.int .i64 ((n:Nat):Int))),(4,.own 16 n),(5,.flat (.int .i64 ((5:Nat):Int))),(6,.flat (.int .i64 ((q:Nat):Int)))],[(1,some (.box [.sl false 1 rl LR,.sl false 1 n LB,.sl false 1 ta LT])),(16,some (.row 22 1 n (.own 801 n:: .own 802 n:: .own 803 n:: .own 804 n:: .own 805 n:: .own 806 n::TL))),(801,some (.row 3 1 n (mrow (MR A 0 0 0) n 0))),(802,some (.row 3 1 n (mrow (MR A 0 0 0) n 1))),(803,some (.row 3 1 n (mrow (MR A 0 0 0) n 2))),(804,some (.row 3 1 n (mrow (MR A 0 0 0) n 3))),(805,some (.row 3 1 n (mrow (MR A 0 0 0) n 4))),(806,some (.row 3 1 n (xrow A n 5 q)))]⟩) (fun q=>q≤n) (fun q=>n - q) 0 ?_ (Nat.zero_le _) (by rw [hX0];have:=hX 0;rw [hX0] at this;generalize (List.replicate n (D.flat (.int .i64 0)))=Z at *;exact Sub.autoT)
 intro q hq
 rcases Nat.lt_or_ge q n with hlt|hge
 ·have   hfq:=hfp q hlt
  have hq:=hf q
  have e1:=h1 q hlt
  have e2:=h2 q hlt
  have x0:=hX q
  have x1:=hX (q+1)
  have l0:=hXl q
  generalize A.f.getD q false=fq at*
  generalize MR A 0 0 0 5 q=v at*
  clear hf h1 h2 hX hXl hfp
  generalize hY:xrow A n 5 (q+1)=Y at*
  generalize xrow A n 5 q=X at*
  cases fj <;> cases fq
  all_goals
   simp only [ne_eq,not_true_eq_false,not_false_eq_true,if_true,if_false,reduceCtorEq] at hq
   first
        |(have e:=e1 hq
          refine DW.walk ?_
          rw [e]
          exact⟨q+1,by omega,by omega,by rw [hY];exact Sub.autoT⟩)
        |(have e:=e2 hq
          refine DW.walk ?_
          rw [e]
          exact⟨q+1,by omega,by omega,by rw [hY];exact Sub.autoT⟩)
 ·obtain rfl:n=q:=by omega
  rw [hXa]
  have y5:=aa_ (MR A 0 0 0) n 5
  clear hf h1 h2 hX hXl hfp
  refine DW.walk ?_
  exact Nm.mk Sub.autoT
theorem yg_ (A:Au) (hok:AuOk A) (hN:A.f.length=1):DFun Try.prog 51 [auD A] (.sl false 1 A.f.length (farD A)):=by
 have q1:=ad_ A.r
 have q2:=ai_ A.f
 have q3:=al_ A.to
 have q4:=ao_ (ab_ A)
 have hst:=fk_ A hok
 have hm:(ab_ A).length≤5000000:=by
  have h1:=dp_ A hok.hi A.r.length
  have h2:=hok.alpha.hi
  have h3:ab_ A=stQ A A.r.length:=rfl
  rw [h3];omega
 have hi0:=fun (cc:Code) (h:selC [1,1,1,0,1,2,2] ap_=some cc)=>k5_ h A (show 0<A.f.length by omega) (by omega) [] rfl
 have hrd:=fun (cc:Code) (h:selC [1,1,1,1,1,0,1,2,2] ap_=some cc) (r:Nat) (hr:r<A.f.length)=>ab2 h A hok r hN hr hm
 have hfin:∀ i,mrow (MR A A.f.length 0 0) A.f.length i=mrow (fun (i j:Nat)=>farA A i j) A.f.length i:=fun i=>by rw [g6_];rfl
 have hmap:∀ g:Nat→D,(List.range A.f.length).map g=[g 0]:=fun g=>by rw [hN];rfl
 have hrep:List.replicate A.f.length (D.flat (.slice none 0 0))=[.flat (.slice none 0 0)]:=by rw [hN];rfl
 have hres:farD A=[.sl false 1 A.f.length (mrow (fun (i j:Nat)=>farA A i j) A.f.length 0)]:=hmap _
 rw [hres,au_ A]
 rw [au_ A] at hst
 have h6:=hok.hi
 clear hmap hres hok
 generalize (A.r.map fun x=>D.flat (.int .i64 x))=LR at*
 generalize (A.f.map fun x=>D.flat (.bool x))=LB at*
 generalize ag_ A.to=LT at*
 generalize spC (ab_ A)=SC at*
 generalize A.r.length=rl at*
 generalize A.f.length=n at*
 generalize A.to.length=ta at*
 generalize (ab_ A).length=m at*
 refine DFun.enterA Try.func51 Try.ntmps51 ?_
 refine DW.walkTo 3 ?_
 rw [hrep]
 refine DW.walk ?_
 refine DW.loopA (fun p:Nat=>if p=0 then⟨[(1,.ref 1 0),(3,.flat (.int .i64 ((n:Nat):Int))),(4,.own 16 n),(5,.flat (.int .i64 ((0:Nat):Int)))],[(1,some (.box [.sl false 1 rl LR,.sl false 1 n LB,.sl false 1 ta LT])),(16,some (.row 22 1 n [.flat (.slice none 0 0)]))]⟩ else⟨[(1,.ref 1 0),(3,.flat (.int .i64 ((n:Nat):Int))),(4,.own 16 n),(5,.flat (.int .i64 ((1:Nat):Int)))],[(1,some (.box [.sl false 1 rl LR,.sl false 1 n LB,.sl false 1 ta LT])),(16,some (.row 22 1 n [.own 801 n])),(801,some (.row 3 1 n (mrow (MR A 0 0 0) n 0)))]⟩) (fun p=>p≤1) (fun p=>1 - p) 0 ?_ (Nat.zero_le _) (by show Sub _ _ ⟨[(1,.ref 1 0),(3,.flat (.int .i64 ((n:Nat):Int))),(4,.own 16 n),(5,.flat (.int .i64 ((0:Nat):Int)))],[(1,some (.box [.sl false 1 rl LR,.sl false 1 n LB,.sl false 1 ta LT])),(16,some (.row 22 1 n [.flat (.slice none 0 0)]))]⟩;exact Sub.auto)
 intro p hp
 rcases (show p=0∨p=1 by omega) with rfl|rfl
 ·refine (hi0 _ (by rfl)).mono ?_
  rintro e s' ⟨rfl,hsub⟩
  exact⟨1,by omega,by omega,hsub⟩
 ·show DW _ _ _ ⟨[(1,.ref 1 0),(3,.flat (.int .i64 ((n:Nat):Int))),(4,.own 16 n),(5,.flat (.int .i64 ((1:Nat):Int)))],[(1,some (.box [.sl false 1 rl LR,.sl false 1 n LB,.sl false 1 ta LT])),(16,some (.row 22 1 n [.own 801 n])),(801,some (.row 3 1 n (mrow (MR A 0 0 0) n 0)))]⟩ _
  have y0:=aa_ (MR A 0 0 0) n 0
  clear hi0
  refine DW.walk ?_
  refine DW.loopA (fun r:Nat=>⟨[(1,.ref 1 0),(3,.flat (.int .i64 ((n:Nat):Int))),(4,.own 16 n),(7,.sl false 3 m SC),(8,.flat (.int .i64 ((r:Nat):Int)))],[(1,some (.box [.sl false 1 rl LR,.sl false 1 n LB,.sl false 1 ta LT])),(16,some (.row 22 1 n [.own 801 n])),(801,some (.row 3 1 n (mrow (MR A r 0 0) n 0)))]⟩) (fun r=>r≤n) (fun r=>n - r) 0 ?_ (Nat.zero_le _)
  intro r hr
  rcases Nat.lt_or_ge r n with hlt|hge
  ·refine (hrd _ (by rfl) r hlt).mono ?_
   rintro e s' ⟨rfl,hsub⟩
   exact⟨r+1,by omega,by omega,hsub⟩
  ·obtain rfl:n=r:=by omega
   rw [hfin 0]
   have w0:=aa_ (fun (i j:Nat)=>farA A i j) n 0
   clear hrd hfin
   refine DW.walk ?_
   exact⟨.inr rfl,ResOk.one [(16,some (.row 22 1 n [.own 801 n])),(801,some (.row 3 1 n (mrow (fun (i j:Nat)=>farA A i j) n 0)))] rfl rfl ⟨rfl,rfl,trivial⟩ (Vw.own (.head _) (.cons (Vw.own (.tail _ (.head _)) (VwL.pers w0)) .nil))⟩
theorem zh_ (A:Au) (hok:AuOk A) (hN:A.f.length=2):DFun Try.prog 51 [auD A] (.sl false 1 A.f.length (farD A)):=by
 have q1:=ad_ A.r
 have q2:=ai_ A.f
 have q3:=al_ A.to
 have q4:=ao_ (ab_ A)
 have hst:=fk_ A hok
 have hm:(ab_ A).length≤5000000:=by
  have h1:=dp_ A hok.hi A.r.length
  have h2:=hok.alpha.hi
  have h3:ab_ A=stQ A A.r.length:=rfl
  rw [h3];omega
 have hi0:=fun (cc:Code) (h:selC [1,1,1,0,1,2,2] ap_=some cc)=>k5_ h A (show 0<A.f.length by omega) (by omega) [.flat (.slice none 0 0)] rfl
 have hi1:=fun (cc:Code) (h:selC [1,1,1,0,1,2,2] ap_=some cc)=>mr_ h A (show 1<A.f.length by omega) (by omega) [] rfl
 have hrd:=fun (cc:Code) (h:selC [1,1,1,1,1,0,1,2,2] ap_=some cc) (r:Nat) (hr:r<A.f.length)=>abt h A hok r hN hr hm
 have hfin:∀ i,mrow (MR A A.f.length 0 0) A.f.length i=mrow (fun (i j:Nat)=>farA A i j) A.f.length i:=fun i=>by rw [g6_];rfl
 have hmap:∀ g:Nat→D,(List.range A.f.length).map g=[g 0,g 1]:=fun g=>by rw [hN];rfl
 have hrep:List.replicate A.f.length (D.flat (.slice none 0 0))=[.flat (.slice none 0 0),.flat (.slice none 0 0)]:=by rw [hN];rfl
 have hres:farD A=[.sl false 1 A.f.length (mrow (fun (i j:Nat)=>farA A i j) A.f.length 0),.sl false 1 A.f.length (mrow (fun (i j:Nat)=>farA A i j) A.f.length 1)]:=hmap _
 rw [hres,au_ A]
 rw [au_ A] at hst
 have h6:=hok.hi
 clear hmap hres hok
 generalize (A.r.map fun x=>D.flat (.int .i64 x))=LR at*
 generalize (A.f.map fun x=>D.flat (.bool x))=LB at*
 generalize ag_ A.to=LT at*
 generalize spC (ab_ A)=SC at*
 generalize A.r.length=rl at*
 generalize A.f.length=n at*
 generalize A.to.length=ta at*
 generalize (ab_ A).length=m at*
 refine DFun.enterA Try.func51 Try.ntmps51 ?_
 refine DW.walkTo 3 ?_
 rw [hrep]
 refine DW.walk ?_
 refine DW.loopA (fun p:Nat=>if p=0 then⟨[(1,.ref 1 0),(3,.flat (.int .i64 ((n:Nat):Int))),(4,.own 16 n),(5,.flat (.int .i64 ((0:Nat):Int)))],[(1,some (.box [.sl false 1 rl LR,.sl false 1 n LB,.sl false 1 ta LT])),(16,some (.row 22 1 n [.flat (.slice none 0 0),.flat (.slice none 0 0)]))]⟩ else if p=1 then⟨[(1,.ref 1 0),(3,.flat (.int .i64 ((n:Nat):Int))),(4,.own 16 n),(5,.flat (.int .i64 ((1:Nat):Int)))],[(1,some (.box [.sl false 1 rl LR,.sl false 1 n LB,.sl false 1 ta LT])),(16,some (.row 22 1 n [.own 801 n,.flat (.slice none 0 0)])),(801,some (.row 3 1 n (mrow (MR A 0 0 0) n 0)))]⟩ else⟨[(1,.ref 1 0),(3,.flat (.int .i64 ((n:Nat):Int))),(4,.own 16 n),(5,.flat (.int .i64 ((2:Nat):Int)))],[(1,some (.box [.sl false 1 rl LR,.sl false 1 n LB,.sl false 1 ta LT])),(16,some (.row 22 1 n [.own 801 n,.own 802 n])),(801,some (.row 3 1 n (mrow (MR A 0 0 0) n 0))),(802,some (.row 3 1 n (mrow (MR A 0 0 0) n 1)))]⟩) (fun p=>p≤2) (fun p=>2 - p) 0 ?_ (Nat.zero_le _) (by show Sub _ _ ⟨[(1,.ref 1 0),(3,.flat (.int .i64 ((n:Nat):Int))),(4,.own 16 n),(5,.flat (.int .i64 ((0:Nat):Int)))],[(1,some (.box [.sl false 1 rl LR,.sl false 1 n LB,.sl false 1 ta LT])),(16,some (.row 22 1 n [.flat (.slice none 0 0),.flat (.slice none 0 0)]))]⟩;exact Sub.auto)
 intro p hp
 rcases (show p=0∨p=1∨p=2 by omega) with rfl|rfl|rfl
 ·refine (hi0 _ (by rfl)).mono ?_
  rintro e s' ⟨rfl,hsub⟩
  exact⟨1,by omega,by omega,hsub⟩
 ·refine (hi1 _ (by rfl)).mono ?_
  rintro e s' ⟨rfl,hsub⟩
  exact⟨2,by omega,by omega,hsub⟩
 ·show DW _ _ _ ⟨[(1,.ref 1 0),(3,.flat (.int .i64 ((n:Nat):Int))),(4,.own 16 n),(5,.flat (.int .i64 ((2:Nat):Int)))],[(1,some (.box [.sl false 1 rl LR,.sl false 1 n LB,.sl false 1 ta LT])),(16,some (.row 22 1 n [.own 801 n,.own 802 n])),(801,some (.row 3 1 n (mrow (MR A 0 0 0) n 0))),(802,some (.row 3 1 n (mrow (MR A 0 0 0) n 1)))]⟩ _
  have y0:=aa_ (MR A 0 0 0) n 0
  have y1:=aa_ (MR A 0 0 0) n 1
  clear hi0 hi1
  refine DW.walk ?_
  refine DW.loopA (fun r:Nat=>⟨[(1,.ref 1 0),(3,.flat (.int .i64 ((n:Nat):Int))),(4,.own 16 n),(7,.sl false 3 m SC),(8,.flat (.int .i64 ((r:Nat):Int)))],[(1,some (.box [.sl false 1 rl LR,.sl false 1 n LB,.sl false 1 ta LT])),(16,some (.row 22 1 n [.own 801 n,.own 802 n])),(801,some (.row 3 1 n (mrow (MR A r 0 0) n 0))),(802,some (.row 3 1 n (mrow (MR A r 0 0) n 1)))]⟩) (fun r=>r≤n) (fun r=>n - r) 0 ?_ (Nat.zero_le _)
  intro r hr
  rcases Nat.lt_or_ge r n with hlt|hge
  ·refine (hrd _ (by rfl) r hlt).mono ?_
   rintro e s' ⟨rfl,hsub⟩
   exact⟨r+1,by omega,by omega,hsub⟩
  ·obtain rfl:n=r:=by omega
   rw [hfin 0,hfin 1]
   have w0:=aa_ (fun (i j:Nat)=>farA A i j) n 0
   have w1:=aa_ (fun (i j:Nat)=>farA A i j) n 1
   clear hrd hfin
   refine DW.walk ?_
   exact⟨.inr rfl,ResOk.one [(16,some (.row 22 1 n [.own 801 n,.own 802 n])),(801,some (.row 3 1 n (mrow (fun (i j:Nat)=>farA A i j) n 0))),(802,some (.row 3 1 n (mrow (fun (i j:Nat)=>farA A i j) n 1)))] rfl rfl ⟨rfl,rfl,rfl,trivial⟩ (Vw.own (.head _) (.cons (Vw.own (.tail _ (.head _)) (VwL.pers w0)) (.cons (Vw.own (.tail _ (.tail _ (.head _))) (VwL.pers w1)) .nil)))⟩
theorem yh_ (A:Au) (hok:AuOk A) (hN:A.f.length=3):DFun Try.prog 51 [auD A] (.sl false 1 A.f.length (farD A)):=by
 have q1:=ad_ A.r
 have q2:=ai_ A.f
 have q3:=al_ A.to
 have q4:=ao_ (ab_ A)
 have hst:=fk_ A hok
 have hm:(ab_ A).length≤5000000:=by
  have h1:=dp_ A hok.hi A.r.length
  have h2:=hok.alpha.hi
  have h3:ab_ A=stQ A A.r.length:=rfl
  rw [h3];omega
 have hi0:=fun (cc:Code) (h:selC [1,1,1,0,1,2,2] ap_=some cc)=>k5_ h A (show 0<A.f.length by omega) (by omega) [.flat (.slice none 0 0),.flat (.slice none 0 0)] rfl
 have hi1:=fun (cc:Code) (h:selC [1,1,1,0,1,2,2] ap_=some cc)=>mr_ h A (show 1<A.f.length by omega) (by omega) [.flat (.slice none 0 0)] rfl
 have hi2:=fun (cc:Code) (h:selC [1,1,1,0,1,2,2] ap_=some cc)=>ph_ h A (show 2<A.f.length by omega) (by omega) [] rfl
 have hrd:=fun (cc:Code) (h:selC [1,1,1,1,1,0,1,2,2] ap_=some cc) (r:Nat) (hr:r<A.f.length)=>aax h A hok r hN hr hm
 have hfin:∀ i,mrow (MR A A.f.length 0 0) A.f.length i=mrow (fun (i j:Nat)=>farA A i j) A.f.length i:=fun i=>by rw [g6_];rfl
 have hmap:∀ g:Nat→D,(List.range A.f.length).map g=[g 0,g 1,g 2]:=fun g=>by rw [hN];rfl
 have hrep:List.replicate A.f.length (D.flat (.slice none 0 0))=[.flat (.slice none 0 0),.flat (.slice none 0 0),.flat (.slice none 0 0)]:=by rw [hN];rfl
 have hres:farD A=[.sl false 1 A.f.length (mrow (fun (i j:Nat)=>farA A i j) A.f.length 0),.sl false 1 A.f.length (mrow (fun (i j:Nat)=>farA A i j) A.f.length 1),.sl false 1 A.f.length (mrow (fun (i j:Nat)=>farA A i j) A.f.length 2)]:=hmap _
 rw [hres,au_ A]
 rw [au_ A] at hst
 have h6:=hok.hi
 clear hmap hres hok
 generalize (A.r.map fun x=>D.flat (.int .i64 x))=LR at*
 generalize (A.f.map fun x=>D.flat (.bool x))=LB at*
 generalize ag_ A.to=LT at*
 generalize spC (ab_ A)=SC at*
 generalize A.r.length=rl at*
 generalize A.f.length=n at*
 generalize A.to.length=ta at*
 generalize (ab_ A).length=m at*
 refine DFun.enterA Try.func51 Try.ntmps51 ?_
 refine DW.walkTo 3 ?_
 rw [hrep]
 refine DW.walk ?_
 refine DW.loopA (fun p:Nat=>if p=0 then⟨[(1,.ref 1 0),(3,.flat (.int .i64 ((n:Nat):Int))),(4,.own 16 n),(5,.flat (.int .i64 ((0:Nat):Int)))],[(1,some (.box [.sl false 1 rl LR,.sl false 1 n LB,.sl false 1 ta LT])),(16,some (.row 22 1 n [.flat (.slice none 0 0),.flat (.slice none 0 0),.flat (.slice none 0 0)]))]⟩ else if p=1 then⟨[(1,.ref 1 0),(3,.flat (.int .i64 ((n:Nat):Int))),(4,.own 16 n),(5,.flat (.int .i64 ((1:Nat):Int)))],[(1,some (.box [.sl false 1 rl LR,.sl false 1 n LB,.sl false 1 ta LT])),(16,some (.row 22 1 n [.own 801 n,.flat (.slice none 0 0),.flat (.slice none 0 0)])),(801,some (.row 3 1 n (mrow (MR A 0 0 0) n 0)))]⟩ else if p=2 then⟨[(1,.ref 1 0),(3,.flat (.int .i64 ((n:Nat):Int))),(4,.own 16 n),(5,.flat (.int .i64 ((2:Nat):Int)))],[(1,some (.box [.sl false 1 rl LR,.sl false 1 n LB,.sl false 1 ta LT])),(16,some (.row 22 1 n [.own 801 n,.own 802 n,.flat (.slice none 0 0)])),(801,some (.row 3 1 n (mrow (MR A 0 0 0) n 0))),(802,some (.row 3 1 n (mrow (MR A 0 0 0) n 1)))]⟩ else⟨[(1,.ref 1 0),(3,.flat (.int .i64 ((n:Nat):Int))),(4,.own 16 n),(5,.flat (.int .i64 ((3:Nat):Int)))],[(1,some (.box [.sl false 1 rl LR,.sl false 1 n LB,.sl false 1 ta LT])),(16,some (.row 22 1 n [.own 801 n,.own 802 n,.own 803 n])),(801,some (.row 3 1 n (mrow (MR A 0 0 0) n 0))),(802,some (.row 3 1 n (mrow (MR A 0 0 0) n 1))),(803,some (.row 3 1 n (mrow (MR A 0 0 0) n 2)))]⟩) (fun p=>p≤3) (fun p=>3 - p) 0 ?_ (Nat.zero_le _) (by show Sub _ _ ⟨[(1,.ref 1 0),(3,.flat (.int .i64 ((n:Nat):Int))),(4,.own 16 n),(5,.flat (.int .i64 ((0:Nat):Int)))],[(1,some (.box [.sl false 1 rl LR,.sl false 1 n LB,.sl false 1 ta LT])),(16,some (.row 22 1 n [.flat (.slice none 0 0),.flat (.slice none 0 0),.flat (.slice none 0 0)]))]⟩;exact Sub.auto)
 intro p hp
 rcases (show p=0∨p=1∨p=2∨p=3 by omega) with rfl|rfl|rfl|rfl
 ·refine (hi0 _ (by rfl)).mono ?_
  rintro e s' ⟨rfl,hsub⟩
  exact⟨1,by omega,by omega,hsub⟩
 ·refine (hi1 _ (by rfl)).mono ?_
  rintro e s' ⟨rfl,hsub⟩
  exact⟨2,by omega,by omega,hsub⟩
 ·refine (hi2 _ (by rfl)).mono ?_
  rintro e s' ⟨rfl,hsub⟩
  exact⟨3,by omega,by omega,hsub⟩
 ·show DW _ _ _ ⟨[(1,.ref 1 0),(3,.flat (.int .i64 ((n:Nat):Int))),(4,.own 16 n),(5,.flat (.int .i64 ((3:Nat):Int)))],[(1,some (.box [.sl false 1 rl LR,.sl false 1 n LB,.sl false 1 ta LT])),(16,some (.row 22 1 n [.own 801 n,.own 802 n,.own 803 n])),(801,some (.row 3 1 n (mrow (MR A 0 0 0) n 0))),(802,some (.row 3 1 n (mrow (MR A 0 0 0) n 1))),(803,some (.row 3 1 n (mrow (MR A 0 0 0) n 2)))]⟩ _
  have y0:=aa_ (MR A 0 0 0) n 0
  have y1:=aa_ (MR A 0 0 0) n 1
  have y2:=aa_ (MR A 0 0 0) n 2
  clear hi0 hi1 hi2
  refine DW.walk ?_
  refine DW.loopA (fun r:Nat=>⟨[(1,.ref 1 0),(3,.flat (.int .i64 ((n:Nat):Int))),(4,.own 16 n),(7,.sl false 3 m SC),(8,.flat (.int .i64 ((r:Nat):Int)))],[(1,some (.box [.sl false 1 rl LR,.sl false 1 n LB,.sl false 1 ta LT])),(16,some (.row 22 1 n [.own 801 n,.own 802 n,.own 803 n])),(801,some (.row 3 1 n (mrow (MR A r 0 0) n 0))),(802,some (.row 3 1 n (mrow (MR A r 0 0) n 1))),(803,some (.row 3 1 n (mrow (MR A r 0 0) n 2)))]⟩) (fun r=>r≤n) (fun r=>n - r) 0 ?_ (Nat.zero_le _)
  intro r hr
  rcases Nat.lt_or_ge r n with hlt|hge
  ·refine (hrd _ (by rfl) r hlt).mono ?_
   rintro e s' ⟨rfl,hsub⟩
   exact⟨r+1,by omega,by omega,hsub⟩
  ·obtain rfl:n=r:=by omega
   rw [hfin 0,hfin 1,hfin 2]
   have w0:=aa_ (fun (i j:Nat)=>farA A i j) n 0
   have w1:=aa_ (fun (i j:Nat)=>farA A i j) n 1
   have w2:=aa_ (fun (i j:Nat)=>farA A i j) n 2
   clear hrd hfin
   refine DW.walk ?_
   exact⟨.inr rfl,ResOk.one [(16,some (.row 22 1 n [.own 801 n,.own 802 n,.own 803 n])),(801,some (.row 3 1 n (mrow (fun (i j:Nat)=>farA A i j) n 0))),(802,some (.row 3 1 n (mrow (fun (i j:Nat)=>farA A i j) n 1))),(803,some (.row 3 1 n (mrow (fun (i j:Nat)=>farA A i j) n 2)))] rfl rfl ⟨rfl,rfl,rfl,rfl,trivial⟩ (Vw.own (.head _) (.cons (Vw.own (.tail _ (.head _)) (VwL.pers w0)) (.cons (Vw.own (.tail _ (.tail _ (.head _))) (VwL.pers w1)) (.cons (Vw.own (.tail _ (.tail _ (.tail _ (.head _)))) (VwL.pers w2)) .nil))))⟩
end Go.Proofs.Ytichhfbkhnimmaa
