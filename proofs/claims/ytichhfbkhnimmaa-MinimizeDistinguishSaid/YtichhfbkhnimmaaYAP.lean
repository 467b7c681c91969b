/- The table of distances at 5 states. No condition. -/
import Derived.Test.YtichhfbkhnimmaaYFC6
import Derived.Test.YtichhfbkhnimmaaYXD4
import Derived.Test.YtichhfbkhnimmaaYFE4
import Derived.Test.YtichhfbkhnimmaaYPF
import Derived.Test.YtichhfbkhnimmaaYEA
import Derived.Test.YtichhfbkhnimmaaYEO
import Derived.Test.YtichhfbkhnimmaaYFA3
import Derived.Test.YtichhfbkhnimmaaYD7
set_option linter.unusedSimpArgs false
set_option linter.unusedVariables false
set_option maxHeartbeats 4000000
set_option maxRecDepth 8000
namespace Go.Proofs.Ytichhfbkhnimmaa
open Go Go.RowKit Go.PP Go.Dm Go.Rt Go.Mn
theorem far51_5 (A:Au) (hok:AuOk A) (hN:A.final.length=5):DFun Try.prog 51 [auD A] (.sl false 1 A.final.length (farD A)):=by
 have q1:=pers_i A.ranks
 have q2:=pers_b A.final
 have q3:=pers_r A.to
 have q4:=spC_pers (stepsA A)
 have hst:=rsteps_d A hok
 have hm:(stepsA A).length≤5000000:=by
  have h1:=stQ_len A hok.hi A.ranks.length
  have h2:=hok.alpha.hi
  have h3:stepsA A=stQ A A.ranks.length:=rfl
  rw [h3];omega
 have hi0:=fun (cc:Code) (h:selC [1,1,1,0,1,2,2] code51=some cc)=>far_j0 h A (show 0<A.final.length by omega) (by omega) [.flat (.slice none 0 0),.flat (.slice none 0 0),.flat (.slice none 0 0),.flat (.slice none 0 0)] rfl
 have hi1:=fun (cc:Code) (h:selC [1,1,1,0,1,2,2] code51=some cc)=>far_j1 h A (show 1<A.final.length by omega) (by omega) [.flat (.slice none 0 0),.flat (.slice none 0 0),.flat (.slice none 0 0)] rfl
 have hi2:=fun (cc:Code) (h:selC [1,1,1,0,1,2,2] code51=some cc)=>far_j2 h A (show 2<A.final.length by omega) (by omega) [.flat (.slice none 0 0),.flat (.slice none 0 0)] rfl
 have hi3:=fun (cc:Code) (h:selC [1,1,1,0,1,2,2] code51=some cc)=>far_j3 h A (show 3<A.final.length by omega) (by omega) [.flat (.slice none 0 0)] rfl
 have hi4:=fun (cc:Code) (h:selC [1,1,1,0,1,2,2] code51=some cc)=>far_j4 h A (show 4<A.final.length by omega) (by omega) [] rfl
 have hrd:=fun (cc:Code) (h:selC [1,1,1,1,1,0,1,2,2] code51=some cc) (r:Nat) (hr:r<A.final.length)=>far_r5 h A hok r hN hr hm
 have hfin:∀ i,mrow (MR A A.final.length 0 0) A.final.length i=mrow (fun (i j:Nat)=>farA A i j) A.final.length i:=fun i=>by rw [MR_zero];rfl
 have hmap:∀ g:Nat→D,(List.range A.final.length).map g=[g 0,g 1,g 2,g 3,g 4]:=fun g=>by rw [hN];rfl
 have hrep:List.replicate A.final.length (D.flat (.slice none 0 0))=[.flat (.slice none 0 0),.flat (.slice none 0 0),.flat (.slice none 0 0),.flat (.slice none 0 0),.flat (.slice none 0 0)]:=by rw [hN];rfl
 have hres:farD A=[.sl false 1 A.final.length (mrow (fun (i j:Nat)=>farA A i j) A.final.length 0),.sl false 1 A.final.length (mrow (fun (i j:Nat)=>farA A i j) A.final.length 1),.sl false 1 A.final.length (mrow (fun (i j:Nat)=>farA A i j) A.final.length 2),.sl false 1 A.final.length (mrow (fun (i j:Nat)=>farA A i j) A.final.length 3),.sl false 1 A.final.length (mrow (fun (i j:Nat)=>farA A i j) A.final.length 4)]:=hmap _
 rw [hres,auD_eq A]
 rw [auD_eq A] at hst
 have h6:=hok.hi
 clear hmap hres hok
 generalize (A.ranks.map fun x=>D.flat (.int .i64 x))=LR at*
 generalize (A.final.map fun x=>D.flat (.bool x))=LB at*
 generalize rowsL A.to=LT at*
 generalize spC (stepsA A)=SC at*
 generalize A.ranks.length=rl at*
 generalize A.final.length=n at*
 generalize A.to.length=ta at*
 generalize (stepsA A).length=m at*
 refine DFun.enterA Try.func51 Try.ntmps51 ?_
 refine DW.walkTo 3 ?_
 rw [hrep]
 refine DW.walk ?_
 refine DW.loopA (fun p:Nat=>if p=0 then⟨[(1,.ref 1 0),(3,.flat (.int .i64 ((n:Nat):Int))),(4,.own 16 n),(5,.flat (.int .i64 ((0:Nat):Int)))],[(1,some (.box [.sl false 1 rl LR,.sl false 1 n LB,.sl false 1 ta LT])),(16,some (.row 22 1 n [.flat (.slice none 0 0),.flat (.slice none 0 0),.flat (.slice none 0 0),.flat (.slice none 0 0),.flat (.slice none 0 0)]))]⟩ else if p=1 then⟨[(1,.ref 1 0),(3,.flat (.int .i64 ((n:Nat):Int))),(4,.own 16 n),(5,.flat (.int .i64 ((1:Nat):Int)))],[(1,some (.box [.sl false 1 rl LR,.sl false 1 n LB,.sl false 1 ta LT])),(16,some (.row 22 1 n [.own 801 n,.flat (.slice none 0 0),.flat (.slice none 0 0),.flat (.slice none 0 0),.flat (.slice none 0 0)])),(801,some (.row 3 1 n (mrow (MR A 0 0 0) n 0)))]⟩ else if p=2 then⟨[(1,.ref 1 0),(3,.flat (.int .i64 ((n:Nat):Int))),(4,.own 16 n),(5,.flat (.int .i64 ((2:Nat):Int)))],[(1,some (.box [.sl false 1 rl LR,.sl false 1 n LB,.sl false 1 ta LT])),(16,some (.row 22 1 n [.own 801 n,.own 802 n,.flat (.slice none 0 0),.flat (.slice none 0 0),.flat (.slice none 0 0)])),(801,some (.row 3 1 n (mrow (MR A 0 0 0) n 0))),(802,some (.row 3 1 n (mrow (MR A 0 0 0) n 1)))]⟩ else if p=3 then⟨[(1,.ref 1 0),(3,.flat (.int .i64 ((n:Nat):Int))),(4,.own 16 n),(5,.flat (.int .i64 ((3:Nat):Int)))],[(1,some (.box [.sl false 1 rl LR,.sl false 1 n LB,.sl false 1 ta LT])),(16,some (.row 22 1 n [.own 801 n,.own 802 n,.own 803 n,.flat (.slice none 0 0),.flat (.slice none 0 0)])),(801,some (.row 3 1 n (mrow (MR A 0 0 0) n 0))),(802,some (.row 3 1 n (mrow (MR A 0 0 0) n 1))),(803,some (.row 3 1 n (mrow (MR A 0 0 0) n 2)))]⟩ else if p=4 then⟨[(1,.ref 1 0),(3,.flat (.int .i64 ((n:Nat):Int))),(4,.own 16 n),(5,.flat (.int .i64 ((4:Nat):Int)))],[(1,some (.box [.sl false 1 rl LR,.sl false 1 n LB,.sl false 1 ta LT])),(16,some (.row 22 1 n [.own 801 n,.own 802 n,.own 803 n,.own 804 n,.flat (.slice none 0 0)])),(801,some (.row 3 1 n (mrow (MR A 0 0 0) n 0))),(802,some (.row 3 1 n (mrow (MR A 0 0 0) n 1))),(803,some (.row 3 1 n (mrow (MR A 0 0 0) n 2))),(804,some (.row 3 1 n (mrow (MR A 0 0 0) n 3)))]⟩ else⟨[(1,.ref 1 0),(3,.flat (.int .i64 ((n:Nat):Int))),(4,.own 16 n),(5,.flat (.int .i64 ((5:Nat):Int)))],[(1,some (.box [.sl false 1 rl LR,.sl false 1 n LB,.sl false 1 ta LT])),(16,some (.row 22 1 n [.own 801 n,.own 802 n,.own 803 n,.own 804 n,.own 805 n])),(801,some (.row 3 1 n (mrow (MR A 0 0 0) n 0))),(802,some (.row 3 1 n (mrow (MR A 0 0 0) n 1))),(803,some (.row 3 1 n (mrow (MR A 0 0 0) n 2))),(804,some (.row 3 1 n (mrow (MR A 0 0 0) n 3))),(805,some (.row 3 1 n (mrow (MR A 0 0 0) n 4)))]⟩) (fun p=>p≤5) (fun p=>5 - p) 0 ?_ (Nat.zero_le _) (by show Sub _ _ ⟨[(1,.ref 1 0),(3,.flat (.int .i64 ((n:Nat):Int))),(4,.own 16 n),(5,.flat (.int .i64 ((0:Nat):Int)))],[(1,some (.box [.sl false 1 rl LR,.sl false 1 n LB,.sl false 1 ta LT])),(16,some (.row 22 1 n [.flat (.slice none 0 0),.flat (.slice none 0 0),.flat (.slice none 0 0),.flat (.slice none 0 0),.flat (.slice none 0 0)]))]⟩;exact Sub.auto)
 intro p hp
 rcases (show p=0∨p=1∨p=2∨p=3∨p=4∨p=5 by omega) with rfl|rfl|rfl|rfl|rfl|rfl
 ·refine (hi0 _ (by rfl)).mono ?_
  rintro e s' ⟨rfl,hsub⟩
  exact⟨1,by omega,by omega,hsub⟩
 ·refine (hi1 _ (by rfl)).mono ?_
  rintro e s' ⟨rfl,hsub⟩
  exact⟨2,by omega,by omega,hsub⟩
 ·refine (hi2 _ (by rfl)).mono ?_
  rintro e s' ⟨rfl,hsub⟩
  exact⟨3,by omega,by omega,hsub⟩
 ·refine (hi3 _ (by rfl)).mono ?_
  rintro e s' ⟨rfl,hsub⟩
  exact⟨4,by omega,by omega,hsub⟩
 ·refine (hi4 _ (by rfl)).mono ?_
  rintro e s' ⟨rfl,hsub⟩
  exact⟨5,by omega,by omega,hsub⟩
 ·show DW _ _ _ ⟨[(1,.ref 1 0),(3,.flat (.int .i64 ((n:Nat):Int))),(4,.own 16 n),(5,.flat (.int .i64 ((5:Nat):Int)))],[(1,some (.box [.sl false 1 rl LR,.sl false 1 n LB,.sl false 1 ta LT])),(16,some (.row 22 1 n [.own 801 n,.own 802 n,.own 803 n,.own 804 n,.own 805 n])),(801,some (.row 3 1 n (mrow (MR A 0 0 0) n 0))),(802,some (.row 3 1 n (mrow (MR A 0 0 0) n 1))),(803,some (.row 3 1 n (mrow (MR A 0 0 0) n 2))),(804,some (.row 3 1 n (mrow (MR A 0 0 0) n 3))),(805,some (.row 3 1 n (mrow (MR A 0 0 0) n 4)))]⟩ _
  have y0:=mrow_pers (MR A 0 0 0) n 0
  have y1:=mrow_pers (MR A 0 0 0) n 1
  have y2:=mrow_pers (MR A 0 0 0) n 2
  have y3:=mrow_pers (MR A 0 0 0) n 3
  have y4:=mrow_pers (MR A 0 0 0) n 4
  clear hi0 hi1 hi2 hi3 hi4
  refine DW.walk ?_
  refine DW.loopA (fun r:Nat=>⟨[(1,.ref 1 0),(3,.flat (.int .i64 ((n:Nat):Int))),(4,.own 16 n),(7,.sl false 3 m SC),(8,.flat (.int .i64 ((r:Nat):Int)))],[(1,some (.box [.sl false 1 rl LR,.sl false 1 n LB,.sl false 1 ta LT])),(16,some (.row 22 1 n [.own 801 n,.own 802 n,.own 803 n,.own 804 n,.own 805 n])),(801,some (.row 3 1 n (mrow (MR A r 0 0) n 0))),(802,some (.row 3 1 n (mrow (MR A r 0 0) n 1))),(803,some (.row 3 1 n (mrow (MR A r 0 0) n 2))),(804,some (.row 3 1 n (mrow (MR A r 0 0) n 3))),(805,some (.row 3 1 n (mrow (MR A r 0 0) n 4)))]⟩) (fun r=>r≤n) (fun r=>n - r) 0 ?_ (Nat.zero_le _)
  intro r hr
  rcases Nat.lt_or_ge r n with hlt|hge
  ·refine (hrd _ (by rfl) r hlt).mono ?_
   rintro e s' ⟨rfl,hsub⟩
   exact⟨r+1,by omega,by omega,hsub⟩
  ·obtain rfl:n=r:=by omega
   rw [hfin 0,hfin 1,hfin 2,hfin 3,hfin 4]
   have w0:=mrow_pers (fun (i j:Nat)=>farA A i j) n 0
   have w1:=mrow_pers (fun (i j:Nat)=>farA A i j) n 1
   have w2:=mrow_pers (fun (i j:Nat)=>farA A i j) n 2
   have w3:=mrow_pers (fun (i j:Nat)=>farA A i j) n 3
   have w4:=mrow_pers (fun (i j:Nat)=>farA A i j) n 4
   clear hrd hfin
   refine DW.walk ?_
   exact⟨.inr rfl,ResOk.one [(16,some (.row 22 1 n [.own 801 n,.own 802 n,.own 803 n,.own 804 n,.own 805 n])),(801,some (.row 3 1 n (mrow (fun (i j:Nat)=>farA A i j) n 0))),(802,some (.row 3 1 n (mrow (fun (i j:Nat)=>farA A i j) n 1))),(803,some (.row 3 1 n (mrow (fun (i j:Nat)=>farA A i j) n 2))),(804,some (.row 3 1 n (mrow (fun (i j:Nat)=>farA A i j) n 3))),(805,some (.row 3 1 n (mrow (fun (i j:Nat)=>farA A i j) n 4)))] rfl rfl ⟨rfl,rfl,rfl,rfl,rfl,rfl,trivial⟩ (Vw.own (.head _) (.cons (Vw.own (.tail _ (.head _)) (VwL.pers w0)) (.cons (Vw.own (.tail _ (.tail _ (.head _))) (VwL.pers w1)) (.cons (Vw.own (.tail _ (.tail _ (.tail _ (.head _)))) (VwL.pers w2)) (.cons (Vw.own (.tail _ (.tail _ (.tail _ (.tail _ (.head _))))) (VwL.pers w3)) (.cons (Vw.own (.tail _ (.tail _ (.tail _ (.tail _ (.tail _ (.head _)))))) (VwL.pers w4)) .nil))))))⟩
theorem far51_6 (A:Au) (hok:AuOk A) (hN:A.final.length=6):DFun Try.prog 51 [auD A] (.sl false 1 A.final.length (farD A)):=by
 have q1:=pers_i A.ranks
 have q2:=pers_b A.final
 have q3:=pers_r A.to
 have q4:=spC_pers (stepsA A)
 have hst:=rsteps_d A hok
 have hm:(stepsA A).length≤5000000:=by
  have h1:=stQ_len A hok.hi A.ranks.length
  have h2:=hok.alpha.hi
  have h3:stepsA A=stQ A A.ranks.length:=rfl
  rw [h3];omega
 have hi0:=fun (cc:Code) (h:selC [1,1,1,0,1,2,2] code51=some cc)=>far_j0 h A (show 0<A.final.length by omega) (by omega) [.flat (.slice none 0 0),.flat (.slice none 0 0),.flat (.slice none 0 0),.flat (.slice none 0 0),.flat (.slice none 0 0)] rfl
 have hi1:=fun (cc:Code) (h:selC [1,1,1,0,1,2,2] code51=some cc)=>far_j1 h A (show 1<A.final.length by omega) (by omega) [.flat (.slice none 0 0),.flat (.slice none 0 0),.flat (.slice none 0 0),.flat (.slice none 0 0)] rfl
 have hi2:=fun (cc:Code) (h:selC [1,1,1,0,1,2,2] code51=some cc)=>far_j2 h A (show 2<A.final.length by omega) (by omega) [.flat (.slice none 0 0),.flat (.slice none 0 0),.flat (.slice none 0 0)] rfl
 have hi3:=fun (cc:Code) (h:selC [1,1,1,0,1,2,2] code51=some cc)=>far_j3 h A (show 3<A.final.length by omega) (by omega) [.flat (.slice none 0 0),.flat (.slice none 0 0)] rfl
 have hi4:=fun (cc:Code) (h:selC [1,1,1,0,1,2,2] code51=some cc)=>far_j4 h A (show 4<A.final.length by omega) (by omega) [.flat (.slice none 0 0)] rfl
 have hi5:=fun (cc:Code) (h:selC [1,1,1,0,1,2,2] code51=some cc)=>far_j5 h A (show 5<A.final.length by omega) (by omega) [] rfl
 have hrd:=fun (cc:Code) (h:selC [1,1,1,1,1,0,1,2,2] code51=some cc) (r:Nat) (hr:r<A.final.length)=>far_r6 h A hok r hN hr hm
 have hfin:∀ i,mrow (MR A A.final.length 0 0) A.final.length i=mrow (fun (i j:Nat)=>farA A i j) A.final.length i:=fun i=>by rw [MR_zero];rfl
 have hmap:∀ g:Nat→D,(List.range A.final.length).map g=[g 0,g 1,g 2,g 3,g 4,g 5]:=fun g=>by rw [hN];rfl
 have hrep:List.replicate A.final.length (D.flat (.slice none 0 0))=[.flat (.slice none 0 0),.flat (.slice none 0 0),.flat (.slice none 0 0),.flat (.slice none 0 0),.flat (.slice none 0 0),.flat (.slice none 0 0)]:=by rw [hN];rfl
 have hres:farD A=[.sl false 1 A.final.length (mrow (fun (i j:Nat)=>farA A i j) A.final.length 0),.sl false 1 A.final.length (mrow (fun (i j:Nat)=>farA A i j) A.final.length 1),.sl false 1 A.final.length (mrow (fun (i j:Nat)=>farA A i j) A.final.length 2),.sl false 1 A.final.length (mrow (fun (i j:Nat)=>farA A i j) A.final.length 3),.sl false 1 A.final.length (mrow (fun (i j:Nat)=>farA A i j) A.final.length 4),.sl false 1 A.final.length (mrow (fun (i j:Nat)=>farA A i j) A.final.length 5)]:=hmap _
 rw [hres,auD_eq A]
 rw [auD_eq A] at hst
 have h6:=hok.hi
 clear hmap hres hok
 generalize (A.ranks.map fun x=>D.flat (.int .i64 x))=LR at*
 generalize (A.final.map fun x=>D.flat (.bool x))=LB at*
 generalize rowsL A.to=LT at*
 generalize spC (stepsA A)=SC at*
 generalize A.ranks.length=rl at*
 generalize A.final.length=n at*
 generalize A.to.length=ta at*
 generalize (stepsA A).length=m at*
 refine DFun.enterA Try.func51 Try.ntmps51 ?_
 refine DW.walkTo 3 ?_
 rw [hrep]
 refine DW.walk ?_
 refine DW.loopA (fun p:Nat=>if p=0 then⟨[(1,.ref 1 0),(3,.flat (.int .i64 ((n:Nat):Int))),(4,.own 16 n),(5,.flat (.int .i64 ((0:Nat):Int)))],[(1,some (.box [.sl false 1 rl LR,.sl false 1 n LB,.sl false 1 ta LT])),(16,some (.row 22 1 n [.flat (.slice none 0 0),.flat (.slice none 0 0),.flat (.slice none 0 0),.flat (.slice none 0 0),.flat (.slice none 0 0),.flat (.slice none 0 0)]))]⟩ else if p=1 then⟨[(1,.ref 1 0),(3,.flat (.int .i64 ((n:Nat):Int))),(4,.own 16 n),(5,.flat (.int .i64 ((1:Nat):Int)))],[(1,some (.box [.sl false 1 rl LR,.sl false 1 n LB,.sl false 1 ta LT])),(16,some (.row 22 1 n [.own 801 n,.flat (.slice none 0 0),.flat (.slice none 0 0),.flat (.slice none 0 0),.flat (.slice none 0 0),.flat (.slice none 0 0)])),(801,some (.row 3 1 n (mrow (MR A 0 0 0) n 0)))]⟩ else if p=2 then⟨[(1,.ref 1 0),(3,.flat (.int .i64 ((n:Nat):Int))),(4,.own 16 n),(5,.flat (.int .i64 ((2:Nat):Int)))],[(1,some (.box [.sl false 1 rl LR,.sl false 1 n LB,.sl false 1 ta LT])),(16,some (.row 22 1 n [.own 801 n,.own 802 n,.flat (.slice none 0 0),.flat (.slice none 0 0),.flat (.slice none 0 0),.flat (.slice none 0 0)])),(801,some (.row 3 1 n (mrow (MR A 0 0 0) n 0))),(802,some (.row 3 1 n (mrow (MR A 0 0 0) n 1)))]⟩ else if p=3 then⟨[(1,.ref 1 0),(3,.flat (.int .i64 ((n:Nat):Int))),(4,.own 16 n),(5,.flat (.int .i64 ((3:Nat):Int)))],[(1,some (.box [.sl false 1 rl LR,.sl false 1 n LB,.sl false 1 ta LT])),(16,some (.row 22 1 n [.own 801 n,.own 802 n,.own 803 n,.flat (.slice none 0 0),.flat (.slice none 0 0),.flat (.slice none 0 0)])),(801,some (.row 3 1 n (mrow (MR A 0 0 0) n 0))),(802,some (.row 3 1 n (mrow (MR A 0 0 0) n 1))),(803,some (.row 3 1 n (mrow (MR A 0 0 0) n 2)))]⟩ else if p=4 then⟨[(1,.ref 1 0),(3,.flat (.int .i64 ((n:Nat):Int))),(4,.own 16 n),(5,.flat (.int .i64 ((4:Nat):Int)))],[(1,some (.box [.sl false 1 rl LR,.sl false 1 n LB,.sl false 1 ta LT])),(16,some (.row 22 1 n [.own 801 n,.own 802 n,.own 803 n,.own 804 n,.flat (.slice none 0 0),.flat (.slice none 0 0)])),(801,some (.row 3 1 n (mrow (MR A 0 0 0) n 0))),(802,some (.row 3 1 n (mrow (MR A 0 0 0) n 1))),(803,some (.row 3 1 n (mrow (MR A 0 0 0) n 2))),(804,some (.row 3 1 n (mrow (MR A 0 0 0) n 3)))]⟩ else if p=5 then⟨[(1,.ref 1 0),(3,.flat (.int .i64 ((n:Nat):Int))),(4,.own 16 n),(5,.flat (.int .i64 ((5:Nat):Int)))],[(1,some (.box [.sl false 1 rl LR,.sl false 1 n LB,.sl false 1 ta LT])),(16,some (.row 22 1 n [.own 801 n,.own 802 n,.own 803 n,.own 804 n,.own 805 n,.flat (.slice none 0 0)])),(801,some (.row 3 1 n (mrow (MR A 0 0 0) n 0))),(802,some (.row 3 1 n (mrow (MR A 0 0 0) n 1))),(803,some (.row 3 1 n (mrow (MR A 0 0 0) n 2))),(804,some (.row 3 1 n (mrow (MR A 0 0 0) n 3))),(805,some (.row 3 1 n (mrow (MR A 0 0 0) n 4)))]⟩ else⟨[(1,.ref 1 0),(3,.flat (.int .i64 ((n:Nat):Int))),(4,.own 16 n),(5,.flat (.int .i64 ((6:Nat):Int)))],[(1,some (.box [.sl false 1 rl LR,.sl false 1 n LB,.sl false 1 ta LT])),(16,some (.row 22 1 n [.own 801 n,.own 802 n,.own 803 n,.own 804 n,.own 805 n,.own 806 n])),(801,some (.row 3 1 n (mrow (MR A 0 0 0) n 0))),(802,some (.row 3 1 n (mrow (MR A 0 0 0) n 1))),(803,some (.row 3 1 n (mrow (MR A 0 0 0) n 2))),(804,some (.row 3 1 n (mrow (MR A 0 0 0) n 3))),(805,some (.row 3 1 n (mrow (MR A 0 0 0) n 4))),(806,some (.row 3 1 n (mrow (MR A 0 0 0) n 5)))]⟩) (fun p=>p≤6) (fun p=>6 - p) 0 ?_ (Nat.zero_le _) (by show Sub _ _ ⟨[(1,.ref 1 0),(3,.flat (.int .i64 ((n:Nat):Int))),(4,.own 16 n),(5,.flat (.int .i64 ((0:Nat):Int)))],[(1,some (.box [.sl false 1 rl LR,.sl false 1 n LB,.sl false 1 ta LT])),(16,some (.row 22 1 n [.flat (.slice none 0 0),.flat (.slice none 0 0),.flat (.slice none 0 0),.flat (.slice none 0 0),.flat (.slice none 0 0),.flat (.slice none 0 0)]))]⟩;exact Sub.auto)
 intro p hp
 rcases (show p=0∨p=1∨p=2∨p=3∨p=4∨p=5∨p=6 by omega) with rfl|rfl|rfl|rfl|rfl|rfl|rfl
 ·refine (hi0 _ (by rfl)).mono ?_
  rintro e s' ⟨rfl,hsub⟩
  exact⟨1,by omega,by omega,hsub⟩
 ·refine (hi1 _ (by rfl)).mono ?_
  rintro e s' ⟨rfl,hsub⟩
  exact⟨2,by omega,by omega,hsub⟩
 ·refine (hi2 _ (by rfl)).mono ?_
  rintro e s' ⟨rfl,hsub⟩
  exact⟨3,by omega,by omega,hsub⟩
 ·refine (hi3 _ (by rfl)).mono ?_
  rintro e s' ⟨rfl,hsub⟩
  exact⟨4,by omega,by omega,hsub⟩
 ·refine (hi4 _ (by rfl)).mono ?_
  rintro e s' ⟨rfl,hsub⟩
  exact⟨5,by omega,by omega,hsub⟩
 ·refine (hi5 _ (by rfl)).mono ?_
  rintro e s' ⟨rfl,hsub⟩
  exact⟨6,by omega,by omega,hsub⟩
 ·show DW _ _ _ ⟨[(1,.ref 1 0),(3,.flat (.int .i64 ((n:Nat):Int))),(4,.own 16 n),(5,.flat (.int .i64 ((6:Nat):Int)))],[(1,some (.box [.sl false 1 rl LR,.sl false 1 n LB,.sl false 1 ta LT])),(16,some (.row 22 1 n [.own 801 n,.own 802 n,.own 803 n,.own 804 n,.own 805 n,.own 806 n])),(801,some (.row 3 1 n (mrow (MR A 0 0 0) n 0))),(802,some (.row 3 1 n (mrow (MR A 0 0 0) n 1))),(803,some (.row 3 1 n (mrow (MR A 0 0 0) n 2))),(804,some (.row 3 1 n (mrow (MR A 0 0 0) n 3))),(805,some (.row 3 1 n (mrow (MR A 0 0 0) n 4))),(806,some (.row 3 1 n (mrow (MR A 0 0 0) n 5)))]⟩ _
  have y0:=mrow_pers (MR A 0 0 0) n 0
  have y1:=mrow_pers (MR A 0 0 0) n 1
  have y2:=mrow_pers (MR A 0 0 0) n 2
  have y3:=mrow_pers (MR A 0 0 0) n 3
  have y4:=mrow_pers (MR A 0 0 0) n 4
  have y5:=mrow_pers (MR A 0 0 0) n 5
  clear hi0 hi1 hi2 hi3 hi4 hi5
  refine DW.walk ?_
  refine DW.loopA (fun r:Nat=>⟨[(1,.ref 1 0),(3,.flat (.int .i64 ((n:Nat):Int))),(4,.own 16 n),(7,.sl false 3 m SC),(8,.flat (.int .i64 ((r:Nat):Int)))],[(1,some (.box [.sl false 1 rl LR,.sl false 1 n LB,.sl false 1 ta LT])),(16,some (.row 22 1 n [.own 801 n,.own 802 n,.own 803 n,.own 804 n,.own 805 n,.own 806 n])),(801,some (.row 3 1 n (mrow (MR A r 0 0) n 0))),(802,some (.row 3 1 n (mrow (MR A r 0 0) n 1))),(803,some (.row 3 1 n (mrow (MR A r 0 0) n 2))),(804,some (.row 3 1 n (mrow (MR A r 0 0) n 3))),(805,some (.row 3 1 n (mrow (MR A r 0 0) n 4))),(806,some (.row 3 1 n (mrow (MR A r 0 0) n 5)))]⟩) (fun r=>r≤n) (fun r=>n - r) 0 ?_ (Nat.zero_le _)
  intro r hr
  rcases Nat.lt_or_ge r n with hlt|hge
  ·refine (hrd _ (by rfl) r hlt).mono ?_
   rintro e s' ⟨rfl,hsub⟩
   exact⟨r+1,by omega,by omega,hsub⟩
  ·obtain rfl:n=r:=by omega
   rw [hfin 0,hfin 1,hfin 2,hfin 3,hfin 4,hfin 5]
   have w0:=mrow_pers (fun (i j:Nat)=>farA A i j) n 0
   have w1:=mrow_pers (fun (i j:Nat)=>farA A i j) n 1
   have w2:=mrow_pers (fun (i j:Nat)=>farA A i j) n 2
   have w3:=mrow_pers (fun (i j:Nat)=>farA A i j) n 3
   have w4:=mrow_pers (fun (i j:Nat)=>farA A i j) n 4
   have w5:=mrow_pers (fun (i j:Nat)=>farA A i j) n 5
   clear hrd hfin
   refine DW.walk ?_
   exact⟨.inr rfl,ResOk.one [(16,some (.row 22 1 n [.own 801 n,.own 802 n,.own 803 n,.own 804 n,.own 805 n,.own 806 n])),(801,some (.row 3 1 n (mrow (fun (i j:Nat)=>farA A i j) n 0))),(802,some (.row 3 1 n (mrow (fun (i j:Nat)=>farA A i j) n 1))),(803,some (.row 3 1 n (mrow (fun (i j:Nat)=>farA A i j) n 2))),(804,some (.row 3 1 n (mrow (fun (i j:Nat)=>farA A i j) n 3))),(805,some (.row 3 1 n (mrow (fun (i j:Nat)=>farA A i j) n 4))),(806,some (.row 3 1 n (mrow (fun (i j:Nat)=>farA A i j) n 5)))] rfl rfl ⟨rfl,rfl,rfl,rfl,rfl,rfl,rfl,trivial⟩ (Vw.own (.head _) (.cons (Vw.own (.tail _ (.head _)) (VwL.pers w0)) (.cons (Vw.own (.tail _ (.tail _ (.head _))) (VwL.pers w1)) (.cons (Vw.own (.tail _ (.tail _ (.tail _ (.head _)))) (VwL.pers w2)) (.cons (Vw.own (.tail _ (.tail _ (.tail _ (.tail _ (.head _))))) (VwL.pers w3)) (.cons (Vw.own (.tail _ (.tail _ (.tail _ (.tail _ (.tail _ (.head _)))))) (VwL.pers w4)) (.cons (Vw.own (.tail _ (.tail _ (.tail _ (.tail _ (.tail _ (.tail _ (.head _))))))) (VwL.pers w5)) .nil)))))))⟩
end Go.Proofs.Ytichhfbkhnimmaa
namespace Go.Proofs.Ytichhfbkhnimmaa
open Go Go.RowKit Go.PP Go.Dm Go.Rt Go.Mn
theorem far51_d (A:Au) (hok:AuOk A) (h6:A.final.length≤6):DFun Try.prog 51 [auD A] (.sl false 1 A.final.length (farD A)):=by
 have h1:=hok.lo
 rcases (show A.final.length=1∨A.final.length=2∨A.final.length=3∨A.final.length=4∨A.final.length=5∨A.final.length=6 by omega) with h|h|h|h|h|h
 ·exact far51_1 A hok h
 ·exact far51_2 A hok h
 ·exact far51_3 A hok h
 ·exact far51_4 A hok h
 ·exact far51_5 A hok h
 ·exact far51_6 A hok h
theorem apart_no (A:Au) (hok:AuOk A) (hf:DFun Try.prog 51 [auD A] (.sl false 1 A.final.length (farD A))) (p q:Nat) (hp:p<A.final.length) (hq:q<A.final.length) (hv:farA A p q<0):DFun Try.prog 21 [auD A,.flat (.int .i64 ((p:Nat):Int)),.flat (.int .i64 ((q:Nat):Int))] (.tup [.flat (.slice none 0 0),.flat (.bool false)]):=by
 have hn:=hok.hi
 have hpp:∀ p:Nat,p<A.final.length→partD false 1 (p*1) (farD A)=some (.sl false 1 A.final.length (mrow (fun (i j:Nat)=>farA A i j) A.final.length p)):=fun p h=>part_map1 (l:=List.range A.final.length) (by rw [List.getElem?_range h])
 have hpF:persL (farD A)=true:=persL_map (fun _=>rfl) _
 have hpr:=fun p=>mrow_pers (fun (i j:Nat)=>farA A i j) A.final.length p
 have hpq:=fun (p q:Nat) (h:q<A.final.length)=>mrow_part (M:=fun (i j:Nat)=>farA A i j) (p:=p) h
 have r1:=hpp p hp
 have r2:=hpq p q hq
 have y1:=hpr p
 clear hpp hpr hpq
 have q1:=pers_i A.ranks
 have q2:=pers_b A.final
 have q3:=pers_r A.to
 rw [auD_eq A] at hf ⊢
 generalize (A.ranks.map fun x=>D.flat (.int .i64 x))=LR at*
 generalize (A.final.map fun x=>D.flat (.bool x))=LB at*
 generalize rowsL A.to=LT at*
 generalize A.ranks.length=lr at*
 generalize A.final.length=n at*
 generalize A.to.length=lt at*
 generalize farD A=FD at*
 generalize mrow (fun (i j:Nat)=>farA A i j) n p=R0 at*
 generalize farA A (p:Int) (q:Int)=v at*
 refine DFun.enterA Try.func21 Try.ntmps21 ?_
 refine DW.walk ?_
 exact⟨.inr rfl,ResOk.two [] rfl rfl rfl trivial (Vw.pers rfl) (Vw.pers rfl)⟩
noncomputable abbrev code21:Code:=Try.f21.body.getD .skip
theorem apart_in {cc:Code} (hsel:selC [1,1,1,1,1,0,2,2] code21=some cc) (A:Au) (hok:AuOk A) (P Q j:Nat) (u:List Nat) (hP:P<A.final.length) (hQ:Q<A.final.length) (hF:farA A P Q=((j+1:Nat):Int)) (hm:(stepsA A).length≤5000000) (hul:u.length≤1000) (x y:Nat) (hx:nextI A (spAt A (nearI A j P Q)) P=(x:Int)) (hy:nextI A (spAt A (nearI A j P Q)) Q=(y:Int)):
  DW Try.prog 80 cc ⟨[(1,.flat (.int .i64 ((P:Nat):Int))),(2,.flat (.int .i64 ((Q:Nat):Int))),(3,.ref 3 0),(8,.sl false 1 A.final.length (farD A)),(9,.sl false 3 (stepsA A).length (spC (stepsA A))),(10,.own 110 u.length)],[(3,some (.box [.sl false 1 A.ranks.length (A.ranks.map fun x=>D.flat (.int .i64 x)),.sl false 1 A.final.length (A.final.map fun x=>D.flat (.bool x)),.sl false 1 A.to.length (rowsL A.to)])),(110,some (.row 52 3 u.length (spC (wordS A u))))]⟩ (Nm 80 ⟨[(1,.flat (.int .i64 ((x:Nat):Int))),(2,.flat (.int .i64 ((y:Nat):Int))),(3,.ref 3 0),(8,.sl false 1 A.final.length (farD A)),(9,.sl false 3 (stepsA A).length (spC (stepsA A))),(10,.own 110 (u++ [nearI A j P Q]).length)],[(3,some (.box [.sl false 1 A.ranks.length (A.ranks.map fun x=>D.flat (.int .i64 x)),.sl false 1 A.final.length (A.final.map fun x=>D.flat (.bool x)),.sl false 1 A.to.length (rowsL A.to)])),(110,some (.row 52 3 (u++ [nearI A j P Q]).length (spC (wordS A (u++ [nearI A j P Q])))))]⟩):=by
 have hj:j+1≤A.final.length∧MinD A (j+1) P Q:=far_pos.1 hF
 have hns:=near_spec hj.1 hj.2
 have hgo:=fun (i:Nat) (h:i<(stepsA A).length) (p:Nat) (hp:p<A.final.length)=>go_d A hok (spAt A i) (mem_steps.1 (spAt_mem h)) p ⟨by omega,by omega⟩
 have hin:=fun (i:Nat) (h:i<(stepsA A).length) (p:Nat) (hp:p<A.final.length)=>next_in hok (mem_steps.1 (spAt_mem h)) (p:=(p:Int)) ⟨by omega,by omega⟩
 have hgs:∀ i,i<(stepsA A).length→partD true 3 (i*3) (spC (stepsA A))=some (.agg [.flat (.int .i64 (spAt A i).sym),.flat (.int .i64 (spAt A i).at_),.flat (.int .i64 (spAt A i).other)]):=fun i h=>spC_get (spAt_get h)
 have hne:∀ i,i<nearI A j P Q→farA A (nextI A (spAt A i) P) (nextI A (spAt A i) Q)≠(j:Int):=fun i hi h=>hns.2.2 i hi (far_pos.1 h).2
 have heq:farA A (nextI A (spAt A (nearI A j P Q)) P) (nextI A (spAt A (nearI A j P Q)) Q)=(j:Int):=far_pos.2 ⟨by omega,hns.2.1⟩
 have hnear:=hns.1
 have hn:=hok.hi
 have hpp:∀ p:Nat,p<A.final.length→partD false 1 (p*1) (farD A)=some (.sl false 1 A.final.length (mrow (fun (i j:Nat)=>farA A i j) A.final.length p)):=fun p h=>part_map1 (l:=List.range A.final.length) (by rw [List.getElem?_range h])
 have hpF:persL (farD A)=true:=persL_map (fun _=>rfl) _
 have hpr:=fun p=>mrow_pers (fun (i j:Nat)=>farA A i j) A.final.length p
 have hpq:=fun (p q:Nat) (h:q<A.final.length)=>mrow_part (M:=fun (i j:Nat)=>farA A i j) (p:=p) h
 have q1:=pers_i A.ranks
 have q2:=pers_b A.final
 have q3:=pers_r A.to
 have q4:=spC_pers (stepsA A)
 have q5:=spC_pers (wordS A u)
 have q6:=spC_pers (wordS A (u++ [nearI A j P Q]))
 have hsn:spC (wordS A (u++ [nearI A j P Q]))=spC (wordS A u)++ [.flat (.int .i64 (spAt A (nearI A j P Q)).sym),.flat (.int .i64 (spAt A (nearI A j P Q)).at_),.flat (.int .i64 (spAt A (nearI A j P Q)).other)]:=by
  unfold wordS
  rw [List.map_append,List.map_cons,List.map_nil,spC_snoc]
 have hll:(u++ [nearI A j P Q]).length=u.length+1:=by simp
 have r1:=hpp P hP
 have r2:=hpq P Q hQ
 have y1:=hpr P
 rw [hF] at r2
 rw [hx,hy] at heq
 have hx':=hin _ hnear P hP
 have hy':=hin _ hnear Q hQ
 rw [hx] at hx'
 rw [hy] at hy'
 have gx:=hgo _ hnear P hP
 have gy:=hgo _ hnear Q hQ
 rw [hx] at gx
 rw [hy] at gy
 have gsn:=hgs _ hnear
 have hxn:x<A.final.length:=by have:=hx'.2;omega
 have hyn:y<A.final.length:=by have:=hy'.2;omega
 have sx:=hpp x hxn
 have sy:=hpq x y hyn
 have yx:=hpr x
 rw [heq] at sy
 simp only [auD_eq A,spD] at hgo gx gy
 have hjb:j+1≤512:=by omega
 clear hns heq hx' hy' hj
 unfold InA at hin
 generalize hK:nearI A j P Q=K at*
 generalize hX6:spC (wordS A (u++ [K]))=X6 at*
 generalize hX5:spC (wordS A u)=X5 at*
 rw [hll]
 clear hK hX6 hX5
 generalize (A.ranks.map fun x=>D.flat (.int .i64 x))=LR at*
 generalize (A.final.map fun x=>D.flat (.bool x))=LB at*
 generalize rowsL A.to=LT at*
 generalize spC (stepsA A)=SC at*
 generalize farD A=FD at*
 generalize A.ranks.length=lr at*
 generalize A.final.length=n at*
 generalize A.to.length=lt at*
 generalize (stepsA A).length=m at*
 refine DW.sel hsel (by rfl) ?_
 refine DW.walk ?_
 refine DW.loopA (fun s:Nat=>⟨[(1,.flat (.int .i64 ((P:Nat):Int))),(2,.flat (.int .i64 ((Q:Nat):Int))),(3,.ref 3 0),(8,.sl false 1 n FD),(9,.sl false 3 m SC),(10,.own 110 u.length),(11,.flat (.int .i64 ((s:Nat):Int)))],[(3,some (.box [.sl false 1 lr LR,.sl false 1 n LB,.sl false 1 lt LT])),(110,some (.row 52 3 u.length X5))]⟩) (fun s=>s≤K) (fun s=>K - s) 0 ?_ (Nat.zero_le _)
 intro s hs
 rcases Nat.lt_or_ge s K with hlt2|hge
 ·have hsm:s<m:=by omega
  obtain⟨i0,i1⟩:=hin s hsm P hP
  obtain⟨j0,j1⟩:=hin s hsm Q hQ
  have g1:=hgo s hsm P hP
  have g2:=hgo s hsm Q hQ
  have gs:=hgs s hsm
  have hn1:=hne s hlt2
  obtain⟨x1,hx1⟩:=Int.eq_ofNat_of_zero_le i0
  obtain⟨y1',hy1⟩:=Int.eq_ofNat_of_zero_le j0
  rw [hx1] at g1 i1 hn1
  rw [hy1] at g2 j1 hn1
  have t1:=hpp x1 (by omega)
  have t2:=hpq x1 y1' (by omega)
  have z1:=hpr x1
  clear hgo hin hgs hne hpp hpq hpr gx gy gsn sx sy
  generalize farA A (x1:Int) (y1':Int)=v at*
  have hn2:¬ v=((j+1:Nat):Int) - 1:=by omega
  clear hn1
  generalize mrow (fun (i j:Nat)=>farA A i j) n P=R0 at*
  generalize mrow (fun (i j:Nat)=>farA A i j) n x1=R1 at*
  generalize (spAt A s).sym=s1 at*
  generalize (spAt A s).at_=s2 at*
  generalize (spAt A s).other=s3 at*
  refine DW.walk ?_
  exact⟨s+1,by omega,by omega,Sub.auto⟩
 ·obtain rfl:s=K:=by omega
  clear hgo hin hgs hne hpp hpq hpr
  generalize mrow (fun (i j:Nat)=>farA A i j) n P=R0 at*
  generalize mrow (fun (i j:Nat)=>farA A i j) n x=R1 at*
  generalize (spAt A s).sym=s1 at*
  generalize (spAt A s).at_=s2 at*
  generalize (spAt A s).other=s3 at*
  have hv2:((j:Nat):Int)=((j+1:Nat):Int) - 1:=by omega
  refine DW.walk ?_
  rw [← hsn]
  exact Nm.mk Sub.auto
theorem apart_yes (A:Au) (hok:AuOk A) (hf:DFun Try.prog 51 [auD A] (.sl false 1 A.final.length (farD A))) (p q d:Nat) (hp:p<A.final.length) (hq:q<A.final.length) (hv:farA A p q=(d:Int)):DFun Try.prog 21 [auD A,.flat (.int .i64 ((p:Nat):Int)),.flat (.int .i64 ((q:Nat):Int))] (.tup [.sl false 3 (apartL A d p q).length (spC (wordS A (apartL A d p q))),.flat (.bool true)]):=by
 have hst:=rsteps_d A hok
 have hsl:(stepsA A).length≤5000000:=by
  have h1:=stQ_len A hok.hi A.ranks.length
  have h2:=hok.alpha.hi
  have h3:stepsA A=stQ A A.ranks.length:=rfl
  rw [h3];omega
 have hrow:=fun (cc:Code) (h:selC [1,1,1,1,1,0,2,2] code21=some cc)=>apart_in h A hok
 have hn:=hok.hi
 have hpp:∀ p:Nat,p<A.final.length→partD false 1 (p*1) (farD A)=some (.sl false 1 A.final.length (mrow (fun (i j:Nat)=>farA A i j) A.final.length p)):=fun p h=>part_map1 (l:=List.range A.final.length) (by rw [List.getElem?_range h])
 have hpF:persL (farD A)=true:=persL_map (fun _=>rfl) _
 have hpr:=fun p=>mrow_pers (fun (i j:Nat)=>farA A i j) A.final.length p
 have hpq:=fun (p q:Nat) (h:q<A.final.length)=>mrow_part (M:=fun (i j:Nat)=>farA A i j) (p:=p) h
 have hd:d≤A.final.length:=(far_pos.1 hv).1
 have hap:(apartL A d p q).length=d:=(apart_least d p q hd (far_pos.1 hv).2).2.1
 have hnb:=fun (P Q k:Nat) (hF:farA A P Q=((k+1:Nat):Int))=>(near_spec (far_pos.1 hF).1 (far_pos.1 hF).2)
 have hfp:=fun (d:Nat) (p q:Int) (h:d≤A.final.length∧MinD A d p q)=>(far_pos (r:=A.final.length)).2 h
 have hin:=fun (i:Nat) (h:i<(stepsA A).length) (p:Nat) (hp:p<A.final.length)=>next_in hok (mem_steps.1 (spAt_mem h)) (p:=(p:Int)) ⟨by omega,by omega⟩
 have hdf:∀ P Q:Int,farK A A.final.length P Q=farA A P Q:=fun _ _=>rfl
 have q1:=pers_i A.ranks
 have q2:=pers_b A.final
 have q3:=pers_r A.to
 have q4:=spC_pers (stepsA A)
 have q5:=fun u=>spC_pers (wordS A u)
 have r1:=hpp p hp
 have r2:=hpq p q hq
 have y1:=hpr p
 rw [hv] at r2
 unfold InA at hin
 rw [auD_eq A] at hf hst ⊢
 generalize (A.ranks.map fun x=>D.flat (.int .i64 x))=LR at*
 generalize (A.final.map fun x=>D.flat (.bool x))=LB at*
 generalize rowsL A.to=LT at*
 generalize spC (stepsA A)=SC at*
 generalize farD A=FD at*
 generalize A.ranks.length=lr at*
 generalize A.final.length=n at*
 generalize A.to.length=lt at*
 generalize (stepsA A).length=m at*
 generalize hR0:mrow (fun (i j:Nat)=>farA A i j) n p=R0 at*
 refine DFun.enterA Try.func21 Try.ntmps21 ?_
 refine DW.walkTo 6 ?_
 refine DW.adopt 10 110 52 3 rfl rfl ?_
 refine DW.walk ?_
 refine DW.loopA (fun x:Nat × Nat × Nat × List Nat=>⟨[(1,.flat (.int .i64 ((x.2.1:Nat):Int))),(2,.flat (.int .i64 ((x.2.2.1:Nat):Int))),(3,.ref 3 0),(8,.sl false 1 n FD),(9,.sl false 3 m SC),(10,.own 110 x.2.2.2.length)],[(3,some (.box [.sl false 1 lr LR,.sl false 1 n LB,.sl false 1 lt LT])),(110,some (.row 52 3 x.2.2.2.length (spC (wordS A x.2.2.2))))]⟩) (fun x=>x.2.1<n∧x.2.2.1<n∧farA A x.2.1 x.2.2.1=(x.1:Int)∧x.2.2.2.length+x.1=d∧x.2.2.2++apartL A x.1 x.2.1 x.2.2.1=apartL A d p q) (fun x=>x.1) (d,p,q,[]) ?_ ⟨hp,hq,hv,by simp,rfl⟩ (by show Sub _ _ ⟨[(1,.flat (.int .i64 ((p:Nat):Int))),(2,.flat (.int .i64 ((q:Nat):Int))),(3,.ref 3 0),(8,.sl false 1 n FD),(9,.sl false 3 m SC),(10,.own 110 ([]:List Nat).length)],[(3,some (.box [.sl false 1 lr LR,.sl false 1 n LB,.sl false 1 lt LT])),(110,some (.row 52 3 ([]:List Nat).length (spC (wordS A ([]:List Nat)))))]⟩;exact Sub.auto)
 rintro⟨k,P,Q,u⟩ ⟨hP,hQ,hF,hul,hap2⟩
 simp only at hP hQ hF hul hap2
 cases k with
 |zero=>
  have hu:u=apartL A d p q:=by rw [← hap2];simp [apartL]
  subst hu
  have t1:=hpp P hP
  have t2:=hpq P Q hQ
  have z1:=hpr P
  have q6:=q5 (apartL A d p q)
  rw [hF] at t2
  clear hpp hpq hpr hrow hnb hfp hin
  generalize mrow (fun (i j:Nat)=>farA A i j) n P=R1 at*
  show DW _ _ _ ⟨[(1,.flat (.int .i64 ((P:Nat):Int))),(2,.flat (.int .i64 ((Q:Nat):Int))),(3,.ref 3 0),(8,.sl false 1 n FD),(9,.sl false 3 m SC),(10,.own 110 (apartL A d p q).length)],[(3,some (.box [.sl false 1 lr LR,.sl false 1 n LB,.sl false 1 lt LT])),(110,some (.row 52 3 (apartL A d p q).length (spC (wordS A (apartL A d p q)))))]⟩ _
  generalize hL:apartL A d p q=L at*
  generalize hX:spC (wordS A L)=X at*
  generalize hLl:L.length=LL at*
  refine DW.walk ?_
  exact⟨.inr rfl,ResOk.two [(110,some (.row 52 3 LL X))] rfl rfl rfl ⟨rfl,trivial⟩ (Vw.own (.head _) (VwL.pers q6)) (Vw.pers rfl)⟩
 |succ k=>
  obtain⟨h1,h2,h3⟩:=hnb P Q k hF
  obtain⟨i0,i1⟩:=hin _ h1 P hP
  obtain⟨j0,j1⟩:=hin _ h1 Q hQ
  obtain⟨x,hx⟩:=Int.eq_ofNat_of_zero_le i0
  obtain⟨y,hy⟩:=Int.eq_ofNat_of_zero_le j0
  rw [hx] at i1
  rw [hy] at j1
  refine (hrow _ (by rfl) P Q k u hP hQ hF hsl (by omega) x y hx hy).mono ?_
  rintro e s' ⟨rfl,hsub⟩
  refine⟨(k,x,y,u++ [nearI A k P Q]),⟨by show x<n;omega,by show y<n;omega,?_,by show (u++ [nearI A k P Q]).length+k=d;simp;omega,?_⟩,by show k<k+1;omega,hsub⟩
  ·show farA A x y=(k:Int)
   rw [← hdf]
   refine hfp _ _ _ ⟨by omega,?_⟩
   rw [← hx,← hy];exact h2
  ·show (u++ [nearI A k P Q])++apartL A k x y=apartL A d p q
   rw [← hap2,apartL,hx,hy,List.append_assoc]
   rfl
end Go.Proofs.Ytichhfbkhnimmaa
