/- The table of distances at 4 states. No condition. -/
import Derived.Test.YtichhfbkhnimmaaYXD012
import Derived.Test.YtichhfbkhnimmaaYFE3
set_option linter.unusedSimpArgs false
set_option linter.unusedVariables false
set_option maxHeartbeats 4000000
set_option maxRecDepth 8000
namespace Go.Proofs.Ytichhfbkhnimmaa
open Go Go.RowKit Go.PP Go.Dm Go.Rt Go.Mn
theorem yd_ (A:Au) (hok:AuOk A) (hN:A.f.length=4):DFun Try.prog 51 [auD A] (.sl false 1 A.f.length (farD A)):=by
 have q1:=ad_ A.r
 have q2:=ai_ A.f
 have q3:=al_ A.to
 have q4:=ao_ (ab_ A)
 have hst:=fk_ A hok
 have hm:(ab_ A).length≤5000000:=by
  have h1:=dp_ A hok.hi A.r.length
  have h2:=hok.alpha.hi
  have h3:ab_ A=stQ A A.r.length:=rfl
  rw [h3];omega
 have hi0:=fun (cc:Code) (h:selC [1,1,1,0,1,2,2] ap_=some cc)=>k5_ h A (show 0<A.f.length by omega) (by omega) [.flat (.slice none 0 0),.flat (.slice none 0 0),.flat (.slice none 0 0)] rfl
 have hi1:=fun (cc:Code) (h:selC [1,1,1,0,1,2,2] ap_=some cc)=>mr_ h A (show 1<A.f.length by omega) (by omega) [.flat (.slice none 0 0),.flat (.slice none 0 0)] rfl
 have hi2:=fun (cc:Code) (h:selC [1,1,1,0,1,2,2] ap_=some cc)=>ph_ h A (show 2<A.f.length by omega) (by omega) [.flat (.slice none 0 0)] rfl
 have hi3:=fun (cc:Code) (h:selC [1,1,1,0,1,2,2] ap_=some cc)=>rp_ h A (show 3<A.f.length by omega) (by omega) [] rfl
 have hrd:=fun (cc:Code) (h:selC [1,1,1,1,1,0,1,2,2] ap_=some cc) (r:Nat) (hr:r<A.f.length)=>zq_ h A hok r hN hr hm
 have hfin:∀ i,mrow (MR A A.f.length 0 0) A.f.length i=mrow (fun (i j:Nat)=>farA A i j) A.f.length i:=fun i=>by rw [g6_];rfl
 have hmap:∀ g:Nat→D,(List.range A.f.length).map g=[g 0,g 1,g 2,g 3]:=fun g=>by rw [hN];rfl
 have hrep:List.replicate A.f.length (D.flat (.slice none 0 0))=[.flat (.slice none 0 0),.flat (.slice none 0 0),.flat (.slice none 0 0),.flat (.slice none 0 0)]:=by rw [hN];rfl
 have hres:farD A=[.sl false 1 A.f.length (mrow (fun (i j:Nat)=>farA A i j) A.f.length 0),.sl false 1 A.f.length (mrow (fun (i j:Nat)=>farA A i j) A.f.length 1),.sl false 1 A.f.length (mrow (fun (i j:Nat)=>farA A i j) A.f.length 2),.sl false 1 A.f.length (mrow (fun (i j:Nat)=>farA A i j) A.f.length 3)]:=hmap _
 rw [hres,au_ A]
 rw [au_ A] at hst
 have h6:=hok.hi
 clear hmap hres hok
 generalize (A.r.map fun x=>D.flat (.int .i64 x))=LR at*
 generalize (A.f.map fun x=>D.flat (.bool x))=LB at*
 generalize ag_ A.to=LT at*
 generalize spC (ab_ A)=SC at*
 generalize A.r.length=rl at*
 generalize A.f.length=n at*
 generalize A.to.length=ta at*
 generalize (ab_ A).length=m at*
 refine DFun.enterA Try.func51 Try.ntmps51 ?_
 refine DW.walkTo 3 ?_
 rw [hrep]
 refine DW.walk ?_
 refine DW.loopA (fun p:Nat=>if p=0 then⟨[(1,.ref 1 0),(3,.flat (.int .i64 ((n:Nat):Int))),(4,.own 16 n),(5,.flat (.int .i64 ((0:Nat):Int)))],[(1,some (.box [.sl false 1 rl LR,.sl false 1 n LB,.sl false 1 ta LT])),(16,some (.row 22 1 n [.flat (.slice none 0 0),.flat (.slice none 0 0),.flat (.slice none 0 0),.flat (.slice none 0 0)]))]⟩ else if p=1 then⟨[(1,.ref 1 0),(3,.flat (.int .i64 ((n:Nat):Int))),(4,.own 16 n),(5,.flat (.int .i64 ((1:Nat):Int)))],[(1,some (.box [.sl false 1 rl LR,.sl false 1 n LB,.sl false 1 ta LT])),(16,some (.row 22 1 n [.own 801 n,.flat (.slice none 0 0),.flat (.slice none 0 0),.flat (.slice none 0 0)])),(801,some (.row 3 1 n (mrow (MR A 0 0 0) n 0)))]⟩ else if p=2 then⟨[(1,.ref 1 0),(3,.flat (.int .i64 ((n:Nat):Int))),(4,.own 16 n),(5,.flat (.int .i64 ((2:Nat):Int)))],[(1,some (.box [.sl false 1 rl LR,.sl false 1 n LB,.sl false 1 ta LT])),(16,some (.row 22 1 n [.own 801 n,.own 802 n,.flat (.slice none 0 0),.flat (.slice none 0 0)])),(801,some (.row 3 1 n (mrow (MR A 0 0 0) n 0))),(802,some (.row 3 1 n (mrow (MR A 0 0 0) n 1)))]⟩ else if p=3 then⟨[(1,.ref 1 0),(3,.flat (.int .i64 ((n:Nat):Int))),(4,.own 16 n),(5,.flat (.int .i64 ((3:Nat):Int)))],[(1,some (.box [.sl false 1 rl LR,.sl false 1 n LB,.sl false 1 ta LT])),(16,some (.row 22 1 n [.own 801 n,.own 802 n,.own 803 n,.flat (.slice none 0 0)])),(801,some (.row 3 1 n (mrow (MR A 0 0 0) n 0))),(802,some (.row 3 1 n (mrow (MR A 0 0 0) n 1))),(803,some (.row 3 1 n (mrow (MR A 0 0 0) n 2)))]⟩ else⟨[(1,.ref 1 0),(3,.flat (.int .i64 ((n:Nat):Int))),(4,.own 16 n),(5,.flat (.int .i64 ((4:Nat):Int)))],[(1,some (.box [.sl false 1 rl LR,.sl false 1 n LB,.sl false 1 ta LT])),(16,some (.row 22 1 n [.own 801 n,.own 802 n,.own 803 n,.own 804 n])),(801,some (.row 3 1 n (mrow (MR A 0 0 0) n 0))),(802,some (.row 3 1 n (mrow (MR A 0 0 0) n 1))),(803,some (.row 3 1 n (mrow (MR A 0 0 0) n 2))),(804,some (.row 3 1 n (mrow (MR A 0 0 0) n 3)))]⟩) (fun p=>p≤4) (fun p=>4 - p) 0 ?_ (Nat.zero_le _) (by show Sub _ _ ⟨[(1,.ref 1 0),(3,.flat (.int .i64 ((n:Nat):Int))),(4,.own 16 n),(5,.flat (.int .i64 ((0:Nat):Int)))],[(1,some (.box [.sl false 1 rl LR,.sl false 1 n LB,.sl false 1 ta LT])),(16,some (.row 22 1 n [.flat (.slice none 0 0),.flat (.slice none 0 0),.flat (.slice none 0 0),.flat (.slice none 0 0)]))]⟩;exact Sub.auto)
 intro p hp
 rcases (show p=0∨p=1∨p=2∨p=3∨p=4 by omega) with rfl|rfl|rfl|rfl|rfl
 ·refine (hi0 _ (by rfl)).mono ?_
  rintro e s' ⟨rfl,hsub⟩
  exact⟨1,by omega,by omega,hsub⟩
 ·refine (hi1 _ (by rfl)).mono ?_
  rintro e s' ⟨rfl,hsub⟩
  exact⟨2,by omega,by omega,hsub⟩
 ·refine (hi2 _ (by rfl)).mono ?_
  rintro e s' ⟨rfl,hsub⟩
  exact⟨3,by omega,by omega,hsub⟩
 ·refine (hi3 _ (by rfl)).mono ?_
  rintro e s' ⟨rfl,hsub⟩
  exact⟨4,by omega,by omega,hsub⟩
 ·show DW _ _ _ ⟨[(1,.ref 1 0),(3,.flat (.int .i64 ((n:Nat):Int))),(4,.own 16 n),(5,.flat (.int .i64 ((4:Nat):Int)))],[(1,some (.box [.sl false 1 rl LR,.sl false 1 n LB,.sl false 1 ta LT])),(16,some (.row 22 1 n [.own 801 n,.own 802 n,.own 803 n,.own 804 n])),(801,some (.row 3 1 n (mrow (MR A 0 0 0) n 0))),(802,some (.row 3 1 n (mrow (MR A 0 0 0) n 1))),(803,some (.row 3 1 n (mrow (MR A 0 0 0) n 2))),(804,some (.row 3 1 n (mrow (MR A 0 0 0) n 3)))]⟩ _
  have y0:=aa_ (MR A 0 0 0) n 0
  have y1:=aa_ (MR A 0 0 0) n 1
  have y2:=aa_ (MR A 0 0 0) n 2
  have y3:=aa_ (MR A 0 0 0) n 3
  clear hi0 hi1 hi2 hi3
  refine DW.walk ?_
  refine DW.loopA (fun r:Nat=>⟨[(1,.ref 1 0),(3,.flat (.int .i64 ((n:Nat):Int))),(4,.own 16 n),(7,.sl false 3 m SC),(8,.flat (.int .i64 ((r:Nat):Int)))],[(1,some (.box [.sl false 1 rl LR,.sl false 1 n LB,.sl false 1 ta LT])),(16,some (.row 22 1 n [.own 801 n,.own 802 n,.own 803 n,.own 804 n])),(801,some (.row 3 1 n (mrow (MR A r 0 0) n 0))),(802,some (.row 3 1 n (mrow (MR A r 0 0) n 1))),(803,some (.row 3 1 n (mrow (MR A r 0 0) n 2))),(804,some (.row 3 1 n (mrow (MR A r 0 0) n 3)))]⟩) (fun r=>r≤n) (fun r=>n - r) 0 ?_ (Nat.zero_le _)
  intro r hr
  rcases Nat.lt_or_ge r n with hlt|hge
  ·refine (hrd _ (by rfl) r hlt).mono ?_
   rintro e s' ⟨rfl,hsub⟩
   exact⟨r+1,by omega,by omega,hsub⟩
  ·obtain rfl:n=r:=by omega
   rw [hfin 0,hfin 1,hfin 2,hfin 3]
   have w0:=aa_ (fun (i j:Nat)=>farA A i j) n 0
   have w1:=aa_ (fun (i j:Nat)=>farA A i j) n 1
   have w2:=aa_ (fun (i j:Nat)=>farA A i j) n 2
   have w3:=aa_ (fun (i j:Nat)=>farA A i j) n 3
   clear hrd hfin
   refine DW.walk ?_
   exact⟨.inr rfl,ResOk.one [(16,some (.row 22 1 n [.own 801 n,.own 802 n,.own 803 n,.own 804 n])),(801,some (.row 3 1 n (mrow (fun (i j:Nat)=>farA A i j) n 0))),(802,some (.row 3 1 n (mrow (fun (i j:Nat)=>farA A i j) n 1))),(803,some (.row 3 1 n (mrow (fun (i j:Nat)=>farA A i j) n 2))),(804,some (.row 3 1 n (mrow (fun (i j:Nat)=>farA A i j) n 3)))] rfl rfl ⟨rfl,rfl,rfl,rfl,rfl,trivial⟩ (Vw.own (.head _) (.cons (Vw.own (.tail _ (.head _)) (VwL.pers w0)) (.cons (Vw.own (.tail _ (.tail _ (.head _))) (VwL.pers w1)) (.cons (Vw.own (.tail _ (.tail _ (.tail _ (.head _)))) (VwL.pers w2)) (.cons (Vw.own (.tail _ (.tail _ (.tail _ (.tail _ (.head _))))) (VwL.pers w3)) .nil)))))⟩
theorem xk_ (A:Au) (hok:AuOk A) (hN:A.f.length=5):DFun Try.prog 51 [auD A] (.sl false 1 A.f.length (farD A)):=by
 have q1:=ad_ A.r
 have q2:=ai_ A.f
 have q3:=al_ A.to
 have q4:=ao_ (ab_ A)
 have hst:=fk_ A hok
 have hm:(ab_ A).length≤5000000:=by
  have h1:=dp_ A hok.hi A.r.length
  have h2:=hok.alpha.hi
  have h3:ab_ A=stQ A A.r.length:=rfl
  rw [h3];omega
 have hi0:=fun (cc:Code) (h:selC [1,1,1,0,1,2,2] ap_=some cc)=>k5_ h A (show 0<A.f.length by omega) (by omega) [.flat (.slice none 0 0),.flat (.slice none 0 0),.flat (.slice none 0 0),.flat (.slice none 0 0)] rfl
 have hi1:=fun (cc:Code) (h:selC [1,1,1,0,1,2,2] ap_=some cc)=>mr_ h A (show 1<A.f.length by omega) (by omega) [.flat (.slice none 0 0),.flat (.slice none 0 0),.flat (.slice none 0 0)] rfl
 have hi2:=fun (cc:Code) (h:selC [1,1,1,0,1,2,2] ap_=some cc)=>ph_ h A (show 2<A.f.length by omega) (by omega) [.flat (.slice none 0 0),.flat (.slice none 0 0)] rfl
 have hi3:=fun (cc:Code) (h:selC [1,1,1,0,1,2,2] ap_=some cc)=>rp_ h A (show 3<A.f.length by omega) (by omega) [.flat (.slice none 0 0)] rfl
 have hi4:=fun (cc:Code) (h:selC [1,1,1,0,1,2,2] ap_=some cc)=>w1_ h A (show 4<A.f.length by omega) (by omega) [] rfl
 have hrd:=fun (cc:Code) (h:selC [1,1,1,1,1,0,1,2,2] ap_=some cc) (r:Nat) (hr:r<A.f.length)=>abf h A hok r hN hr hm
 have hfin:∀ i,mrow (MR A A.f.length 0 0) A.f.length i=mrow (fun (i j:Nat)=>farA A i j) A.f.length i:=fun i=>by rw [g6_];rfl
 have hmap:∀ g:Nat→D,(List.range A.f.length).map g=[g 0,g 1,g 2,g 3,g 4]:=fun g=>by rw [hN];rfl
 have hrep:List.replicate A.f.length (D.flat (.slice none 0 0))=[.flat (.slice none 0 0),.flat (.slice none 0 0),.flat (.slice none 0 0),.flat (.slice none 0 0),.flat (.slice none 0 0)]:=by rw [hN];rfl
 have hres:farD A=[.sl false 1 A.f.length (mrow (fun (i j:Nat)=>farA A i j) A.f.length 0),.sl false 1 A.f.length (mrow (fun (i j:Nat)=>farA A i j) A.f.length 1),.sl false 1 A.f.length (mrow (fun (i j:Nat)=>farA A i j) A.f.length 2),.sl false 1 A.f.length (mrow (fun (i j:Nat)=>farA A i j) A.f.length 3),.sl false 1 A.f.length (mrow (fun (i j:Nat)=>farA A i j) A.f.length 4)]:=hmap _
 rw [hres,au_ A]
 rw [au_ A] at hst
 have h6:=hok.hi
 clear hmap hres hok
 generalize (A.r.map fun x=>D.flat (.int .i64 x))=LR at*
 generalize (A.f.map fun x=>D.flat (.bool x))=LB at*
 generalize ag_ A.to=LT at*
 generalize spC (ab_ A)=SC at*
 generalize A.r.length=rl at*
 generalize A.f.length=n at*
 generalize A.to.length=ta at*
 generalize (ab_ A).length=m at*
 refine DFun.enterA Try.func51 Try.ntmps51 ?_
 refine DW.walkTo 3 ?_
 rw [hrep]
 refine DW.walk ?_
 refine DW.loopA (fun p:Nat=>if p=0 then⟨[(1,.ref 1 0),(3,.flat (.int .i64 ((n:Nat):Int))),(4,.own 16 n),(5,.flat (.int .i64 ((0:Nat):Int)))],[(1,some (.box [.sl false 1 rl LR,.sl false 1 n LB,.sl false 1 ta LT])),(16,some (.row 22 1 n [.flat (.slice none 0 0),.flat (.slice none 0 0),.flat (.slice none 0 0),.flat (.slice none 0 0),.flat (.slice none 0 0)]))]⟩ else if p=1 then⟨[(1,.ref 1 0),(3,.flat (.int .i64 ((n:Nat):Int))),(4,.own 16 n),(5,.flat (.int .i64 ((1:Nat):Int)))],[(1,some (.box [.sl false 1 rl LR,.sl false 1 n LB,.sl false 1 ta LT])),(16,some (.row 22 1 n [.own 801 n,.flat (.slice none 0 0),.flat (.slice none 0 0),.flat (.slice none 0 0),.flat (.slice none 0 0)])),(801,some (.row 3 1 n (mrow (MR A 0 0 0) n 0)))]⟩ else if p=2 then⟨[(1,.ref 1 0),(3,.flat (.int .i64 ((n:Nat):Int))),(4,.own 16 n),(5,.flat (.int .i64 ((2:Nat):Int)))],[(1,some (.box [.sl false 1 rl LR,.sl false 1 n LB,.sl false 1 ta LT])),(16,some (.row 22 1 n [.own 801 n,.own 802 n,.flat (.slice none 0 0),.flat (.slice none 0 0),.flat (.slice none 0 0)])),(801,some (.row 3 1 n (mrow (MR A 0 0 0) n 0))),(802,some (.row 3 1 n (mrow (MR A 0 0 0) n 1)))]⟩ else if p=3 then⟨[(1,.ref 1 0),(3,.flat (.int .i64 ((n:Nat):Int))),(4,.own 16 n),(5,.flat (.int .i64 ((3:Nat):Int)))],[(1,some (.box [.sl false 1 rl LR,.sl false 1 n LB,.sl false 1 ta LT])),(16,some (.row 22 1 n [.own 801 n,.own 802 n,.own 803 n,.flat (.slice none 0 0),.flat (.slice none 0 0)])),(801,some (.row 3 1 n (mrow (MR A 0 0 0) n 0))),(802,some (.row 3 1 n (mrow (MR A 0 0 0) n 1))),(803,some (.row 3 1 n (mrow (MR A 0 0 0) n 2)))]⟩ else if p=4 then⟨[(1,.ref 1 0),(3,.flat (.int .i64 ((n:Nat):Int))),(4,.own 16 n),(5,.flat (.int .i64 ((4:Nat):Int)))],[(1,some (.box [.sl false 1 rl LR,.sl false 1 n LB,.sl false 1 ta LT])),(16,some (.row 22 1 n [.own 801 n,.own 802 n,.own 803 n,.own 804 n,.flat (.slice none 0 0)])),(801,some (.row 3 1 n (mrow (MR A 0 0 0) n 0))),(802,some (.row 3 1 n (mrow (MR A 0 0 0) n 1))),(803,some (.row 3 1 n (mrow (MR A 0 0 0) n 2))),(804,some (.row 3 1 n (mrow (MR A 0 0 0) n 3)))]⟩ else⟨[(1,.ref 1 0),(3,.flat (.int .i64 ((n:Nat):Int))),(4,.own 16 n),(5,.flat (.int .i64 ((5:Nat):Int)))],[(1,some (.box [.sl false 1 rl LR,.sl false 1 n LB,.sl false 1 ta LT])),(16,some (.row 22 1 n [.own 801 n,.own 802 n,.own 803 n,.own 804 n,.own 805 n])),(801,some (.row 3 1 n (mrow (MR A 0 0 0) n 0))),(802,some (.row 3 1 n (mrow (MR A 0 0 0) n 1))),(803,some (.row 3 1 n (mrow (MR A 0 0 0) n 2))),(804,some (.row 3 1 n (mrow (MR A 0 0 0) n 3))),(805,some (.row 3 1 n (mrow (MR A 0 0 0) n 4)))]⟩) (fun p=>p≤5) (fun p=>5 - p) 0 ?_ (Nat.zero_le _) (by show Sub _ _ ⟨[(1,.ref 1 0),(3,.flat (.int .i64 ((n:Nat):Int))),(4,.own 16 n),(5,.flat (.int .i64 ((0:Nat):Int)))],[(1,some (.box [.sl false 1 rl LR,.sl false 1 n LB,.sl false 1 ta LT])),(16,some (.row 22 1 n [.flat (.slice none 0 0),.flat (.slice none 0 0),.flat (.slice none 0 0),.flat (.slice none 0 0),.flat (.slice none 0 0)]))]⟩;exact Sub.auto)
 intro p hp
 rcases (show p=0∨p=1∨p=2∨p=3∨p=4∨p=5 by omega) with rfl|rfl|rfl|rfl|rfl|rfl
 ·refine (hi0 _ (by rfl)).mono ?_
  rintro e s' ⟨rfl,hsub⟩
  exact⟨1,by omega,by omega,hsub⟩
 ·refine (hi1 _ (by rfl)).mono ?_
  rintro e s' ⟨rfl,hsub⟩
  exact⟨2,by omega,by omega,hsub⟩
 ·refine (hi2 _ (by rfl)).mono ?_
  rintro e s' ⟨rfl,hsub⟩
  exact⟨3,by omega,by omega,hsub⟩
 ·refine (hi3 _ (by rfl)).mono ?_
  rintro e s' ⟨rfl,hsub⟩
  exact⟨4,by omega,by omega,hsub⟩
 ·refine (hi4 _ (by rfl)).mono ?_
  rintro e s' ⟨rfl,hsub⟩
  exact⟨5,by omega,by omega,hsub⟩
 ·show DW _ _ _ ⟨[(1,.ref 1 0),(3,.flat (.int .i64 ((n:Nat):Int))),(4,.own 16 n),(5,.flat (.int .i64 ((5:Nat):Int)))],[(1,some (.box [.sl false 1 rl LR,.sl false 1 n LB,.sl false 1 ta LT])),(16,some (.row 22 1 n [.own 801 n,.own 802 n,.own 803 n,.own 804 n,.own 805 n])),(801,some (.row 3 1 n (mrow (MR A 0 0 0) n 0))),(802,some (.row 3 1 n (mrow (MR A 0 0 0) n 1))),(803,some (.row 3 1 n (mrow (MR A 0 0 0) n 2))),(804,some (.row 3 1 n (mrow (MR A 0 0 0) n 3))),(805,some (.row 3 1 n (mrow (MR A 0 0 0) n 4)))]⟩ _
  have y0:=aa_ (MR A 0 0 0) n 0
  have y1:=aa_ (MR A 0 0 0) n 1
  have y2:=aa_ (MR A 0 0 0) n 2
  have y3:=aa_ (MR A 0 0 0) n 3
  have y4:=aa_ (MR A 0 0 0) n 4
  clear hi0 hi1 hi2 hi3 hi4
  refine DW.walk ?_
  refine DW.loopA (fun r:Nat=>⟨[(1,.ref 1 0),(3,.flat (.int .i64 ((n:Nat):Int))),(4,.own 16 n),(7,.sl false 3 m SC),(8,.flat (.int .i64 ((r:Nat):Int)))],[(1,some (.box [.sl false 1 rl LR,.sl false 1 n LB,.sl false 1 ta LT])),(16,some (.row 22 1 n [.own 801 n,.own 802 n,.own 803 n,.own 804 n,.own 805 n])),(801,some (.row 3 1 n (mrow (MR A r 0 0) n 0))),(802,some (.row 3 1 n (mrow (MR A r 0 0) n 1))),(803,some (.row 3 1 n (mrow (MR A r 0 0) n 2))),(804,some (.row 3 1 n (mrow (MR A r 0 0) n 3))),(805,some (.row 3 1 n (mrow (MR A r 0 0) n 4)))]⟩) (fun r=>r≤n) (fun r=>n - r) 0 ?_ (Nat.zero_le _)
  intro r hr
  rcases Nat.lt_or_ge r n with hlt|hge
  ·refine (hrd _ (by rfl) r hlt).mono ?_
   rintro e s' ⟨rfl,hsub⟩
   exact⟨r+1,by omega,by omega,hsub⟩
  ·obtain rfl:n=r:=by omega
   rw [hfin 0,hfin 1,hfin 2,hfin 3,hfin 4]
   have w0:=aa_ (fun (i j:Nat)=>farA A i j) n 0
   have w1:=aa_ (fun (i j:Nat)=>farA A i j) n 1
   have w2:=aa_ (fun (i j:Nat)=>farA A i j) n 2
   have w3:=aa_ (fun (i j:Nat)=>farA A i j) n 3
   have w4:=aa_ (fun (i j:Nat)=>farA A i j) n 4
   clear hrd hfin
   refine DW.walk ?_
   exact⟨.inr rfl,ResOk.one [(16,some (.row 22 1 n [.own 801 n,.own 802 n,.own 803 n,.own 804 n,.own 805 n])),(801,some (.row 3 1 n (mrow (fun (i j:Nat)=>farA A i j) n 0))),(802,some (.row 3 1 n (mrow (fun (i j:Nat)=>farA A i j) n 1))),(803,some (.row 3 1 n (mrow (fun (i j:Nat)=>farA A i j) n 2))),(804,some (.row 3 1 n (mrow (fun (i j:Nat)=>farA A i j) n 3))),(805,some (.row 3 1 n (mrow (fun (i j:Nat)=>farA A i j) n 4)))] rfl rfl ⟨rfl,rfl,rfl,rfl,rfl,rfl,trivial⟩ (Vw.own (.head _) (.cons (Vw.own (.tail _ (.head _)) (VwL.pers w0)) (.cons (Vw.own (.tail _ (.tail _ (.head _))) (VwL.pers w1)) (.cons (Vw.own (.tail _ (.tail _ (.tail _ (.head _)))) (VwL.pers w2)) (.cons (Vw.own (.tail _ (.tail _ (.tail _ (.tail _ (.head _))))) (VwL.pers w3)) (.cons (Vw.own (.tail _ (.tail _ (.tail _ (.tail _ (.tail _ (.head _)))))) (VwL.pers w4)) .nil))))))⟩
theorem xg_ (A:Au) (hok:AuOk A) (hN:A.f.length=6):DFun Try.prog 51 [auD A] (.sl false 1 A.f.length (farD A)):=by
 have q1:=ad_ A.r
 have q2:=ai_ A.f
 have q3:=al_ A.to
 have q4:=ao_ (ab_ A)
 have hst:=fk_ A hok
 have hm:(ab_ A).length≤5000000:=by
  have h1:=dp_ A hok.hi A.r.length
  have h2:=hok.alpha.hi
  have h3:ab_ A=stQ A A.r.length:=rfl
  rw [h3];omega
 have hi0:=fun (cc:Code) (h:selC [1,1,1,0,1,2,2] ap_=some cc)=>k5_ h A (show 0<A.f.length by omega) (by omega) [.flat (.slice none 0 0),.flat (.slice none 0 0),.flat (.slice none 0 0),.flat (.slice none 0 0),.flat (.slice none 0 0)] rfl
 have hi1:=fun (cc:Code) (h:selC [1,1,1,0,1,2,2] ap_=some cc)=>mr_ h A (show 1<A.f.length by omega) (by omega) [.flat (.slice none 0 0),.flat (.slice none 0 0),.flat (.slice none 0 0),.flat (.slice none 0 0)] rfl
 have hi2:=fun (cc:Code) (h:selC [1,1,1,0,1,2,2] ap_=some cc)=>ph_ h A (show 2<A.f.length by omega) (by omega) [.flat (.slice none 0 0),.flat (.slice none 0 0),.flat (.slice none 0 0)] rfl
 have hi3:=fun (cc:Code) (h:selC [1,1,1,0,1,2,2] ap_=some cc)=>rp_ h A (show 3<A.f.length by omega) (by omega) [.flat (.slice none 0 0),.flat (.slice none 0 0)] rfl
 have hi4:=fun (cc:Code) (h:selC [1,1,1,0,1,2,2] ap_=some cc)=>w1_ h A (show 4<A.f.length by omega) (by omega) [.flat (.slice none 0 0)] rfl
 have hi5:=fun (cc:Code) (h:selC [1,1,1,0,1,2,2] ap_=some cc)=>acf h A (show 5<A.f.length by omega) (by omega) [] rfl
 have hrd:=fun (cc:Code) (h:selC [1,1,1,1,1,0,1,2,2] ap_=some cc) (r:Nat) (hr:r<A.f.length)=>acm h A hok r hN hr hm
 have hfin:∀ i,mrow (MR A A.f.length 0 0) A.f.length i=mrow (fun (i j:Nat)=>farA A i j) A.f.length i:=fun i=>by rw [g6_];rfl
 have hmap:∀ g:Nat→D,(List.range A.f.length).map g=[g 0,g 1,g 2,g 3,g 4,g 5]:=fun g=>by rw [hN];rfl
 have hrep:List.replicate A.f.length (D.flat (.slice none 0 0))=[.flat (.slice none 0 0),.flat (.slice none 0 0),.flat (.slice none 0 0),.flat (.slice none 0 0),.flat (.slice none 0 0),.flat (.slice none 0 0)]:=by rw [hN];rfl
 have hres:farD A=[.sl false 1 A.f.length (mrow (fun (i j:Nat)=>farA A i j) A.f.length 0),.sl false 1 A.f.length (mrow (fun (i j:Nat)=>farA A i j) A.f.length 1),.sl false 1 A.f.length (mrow (fun (i j:Nat)=>farA A i j) A.f.length 2),.sl false 1 A.f.length (mrow (fun (i j:Nat)=>farA A i j) A.f.length 3),.sl false 1 A.f.length (mrow (fun (i j:Nat)=>farA A i j) A.f.length 4),.sl false 1 A.f.length (mrow (fun (i j:Nat)=>farA A i j) A.f.length 5)]:=hmap _
 rw [hres,au_ A]
 rw [au_ A] at hst
 have h6:=hok.hi
 clear hmap hres hok
 generalize (A.r.map fun x=>D.flat (.int .i64 x))=LR at*
 generalize (A.f.map fun x=>D.flat (.bool x))=LB at*
 generalize ag_ A.to=LT at*
 generalize spC (ab_ A)=SC at*
 generalize A.r.length=rl at*
 generalize A.f.length=n at*
 generalize A.to.length=ta at*
 generalize (ab_ A).length=m at*
 refine DFun.enterA Try.func51 Try.ntmps51 ?_
 refine DW.walkTo 3 ?_
 rw [hrep]
 refine DW.walk ?_
 refine DW.loopA (fun p:Nat=>if p=0 then⟨[(1,.ref 1 0),(3,.flat (.int .i64 ((n:Nat):Int))),(4,.own 16 n),(5,.flat (.int .i64 ((0:Nat):Int)))],[(1,some (.box [.sl false 1 rl LR,.sl false 1 n LB,.sl false 1 ta LT])),(16,some (.row 22 1 n [.flat (.slice none 0 0),.flat (.slice none 0 0),.flat (.slice none 0 0),.flat (.slice none 0 0),.flat (.slice none 0 0),.flat (.slice none 0 0)]))]⟩ else if p=1 then⟨[(1,.ref 1 0),(3,.flat (.int .i64 ((n:Nat):Int))),(4,.own 16 n),(5,.flat (.int .i64 ((1:Nat):Int)))],[(1,some (.box [.sl false 1 rl LR,.sl false 1 n LB,.sl false 1 ta LT])),(16,some (.row 22 1 n [.own 801 n,.flat (.slice none 0 0),.flat (.slice none 0 0),.flat (.slice none 0 0),.flat (.slice none 0 0),.flat (.slice none 0 0)])),(801,some (.row 3 1 n (mrow (MR A 0 0 0) n 0)))]⟩ else if p=2 then⟨[(1,.ref 1 0),(3,.flat (.int .i64 ((n:Nat):Int))),(4,.own 16 n),(5,.flat (.int .i64 ((2:Nat):Int)))],[(1,some (.box [.sl false 1 rl LR,.sl false 1 n LB,.sl false 1 ta LT])),(16,some (.row 22 1 n [.own 801 n,.own 802 n,.flat (.slice none 0 0),.flat (.slice none 0 0),.flat (.slice none 0 0),.flat (.slice none 0 0)])),(801,some (.row 3 1 n (mrow (MR A 0 0 0) n 0))),(802,some (.row 3 1 n (mrow (MR A 0 0 0) n 1)))]⟩ else if p=3 then⟨[(1,.ref 1 0),(3,.flat (.int .i64 ((n:Nat):Int))),(4,.own 16 n),(5,.flat (.int .i64 ((3:Nat):Int)))],[(1,some (.box [.sl false 1 rl LR,.sl false 1 n LB,.sl false 1 ta LT])),(16,some (.row 22 1 n [.own 801 n,.own 802 n,.own 803 n,.flat (.slice none 0 0),.flat (.slice none 0 0),.flat (.slice none 0 0)])),(801,some (.row 3 1 n (mrow (MR A 0 0 0) n 0))),(802,some (.row 3 1 n (mrow (MR A 0 0 0) n 1))),(803,some (.row 3 1 n (mrow (MR A 0 0 0) n 2)))]⟩ else if p=4 then⟨[(1,.ref 1 0),(3,.flat (.int .i64 ((n:Nat):Int))),(4,.own 16 n),(5,.flat (.int .i64 ((4:Nat):Int)))],[(1,some (.box [.sl false 1 rl LR,.sl false 1 n LB,.sl false 1 ta LT])),(16,some (.row 22 1 n [.own 801 n,.own 802 n,.own 803 n,.own 804 n,.flat (.slice none 0 0),.flat (.slice none 0 0)])),(801,some (.row 3 1 n (mrow (MR A 0 0 0) n 0))),(802,some (.row 3 1 n (mrow (MR A 0 0 0) n 1))),(803,some (.row 3 1 n (mrow (MR A 0 0 0) n 2))),(804,some (.row 3 1 n (mrow (MR A 0 0 0) n 3)))]⟩ else if p=5 then⟨[(1,.ref 1 0),(3,.flat (.int .i64 ((n:Nat):Int))),(4,.own 16 n),(5,.flat (.int .i64 ((5:Nat):Int)))],[(1,some (.box [.sl false 1 rl LR,.sl false 1 n LB,.sl false 1 ta LT])),(16,some (.row 22 1 n [.own 801 n,.own 802 n,.own 803 n,.own 804 n,.own 805 n,.flat (.slice none 0 0)])),(801,some (.row 3 1 n (mrow (MR A 0 0 0) n 0))),(802,some (.row 3 1 n (mrow (MR A 0 0 0) n 1))),(803,some (.row 3 1 n (mrow (MR A 0 0 0) n 2))),(804,some (.row 3 1 n (mrow (MR A 0 0 0) n 3))),(805,some (.row 3 1 n (mrow (MR A 0 0 0) n 4)))]⟩ else⟨[(1,.ref 1 0),(3,.flat (.int .i64 ((n:Nat):Int))),(4,.own 16 n),(5,.flat (.int .i64 ((6:Nat):Int)))],[(1,some (.box [.sl false 1 rl LR,.sl false 1 n LB,.sl false 1 ta LT])),(16,some (.row 22 1 n [.own 801 n,.own 802 n,.own 803 n,.own 804 n,.own 805 n,.own 806 n])),(801,some (.row 3 1 n (mrow (MR A 0 0 0) n 0))),(802,some (.row 3 1 n (mrow (MR A 0 0 0) n 1))),(803,some (.row 3 1 n (mrow (MR A 0 0 0) n 2))),(804,some (.row 3 1 n (mrow (MR A 0 0 0) n 3))),(805,some (.row 3 1 n (mrow (MR A 0 0 0) n 4))),(806,some (.row 3 1 n (mrow (MR A 0 0 0) n 5)))]⟩) (fun p=>p≤6) (fun p=>6 - p) 0 ?_ (Nat.zero_le _) (by show Sub _ _ ⟨[(1,.ref 1 0),(3,.flat (.int .i64 ((n:Nat):Int))),(4,.own 16 n),(5,.flat (.int .i64 ((0:Nat):Int)))],[(1,some (.box [.sl false 1 rl LR,.sl false 1 n LB,.sl false 1 ta LT])),(16,some (.row 22 1 n [.flat (.slice none 0 0),.flat (.slice none 0 0),.flat (.slice none 0 0),.flat (.slice none 0 0),.flat (.slice none 0 0),.flat (.slice none 0 0)]))]⟩;exact Sub.auto)
 intro p hp
 rcases (show p=0∨p=1∨p=2∨p=3∨p=4∨p=5∨p=6 by omega) with rfl|rfl|rfl|rfl|rfl|rfl|rfl
 ·refine (hi0 _ (by rfl)).mono ?_
  rintro e s' ⟨rfl,hsub⟩
  exact⟨1,by omega,by omega,hsub⟩
 ·refine (hi1 _ (by rfl)).mono ?_
  rintro e s' ⟨rfl,hsub⟩
  exact⟨2,by omega,by omega,hsub⟩
 ·refine (hi2 _ (by rfl)).mono ?_
  rintro e s' ⟨rfl,hsub⟩
  exact⟨3,by omega,by omega,hsub⟩
 ·refine (hi3 _ (by rfl)).mono ?_
  rintro e s' ⟨rfl,hsub⟩
  exact⟨4,by omega,by omega,hsub⟩
 ·refine (hi4 _ (by rfl)).mono ?_
  rintro e s' ⟨rfl,hsub⟩
  exact⟨5,by omega,by omega,hsub⟩
 ·refine (hi5 _ (by rfl)).mono ?_
  rintro e s' ⟨rfl,hsub⟩
  exact⟨6,by omega,by omega,hsub⟩
 ·show DW _ _ _ ⟨[(1,.ref 1 0),(3,.flat (.int .i64 ((n:Nat):Int))),(4,.own 16 n),(5,.flat (.int .i64 ((6:Nat):Int)))],[(1,some (.box [.sl false 1 rl LR,.sl false 1 n LB,.sl false 1 ta LT])),(16,some (.row 22 1 n [.own 801 n,.own 802 n,.own 803 n,.own 804 n,.own 805 n,.own 806 n])),(801,some (.row 3 1 n (mrow (MR A 0 0 0) n 0))),(802,some (.row 3 1 n (mrow (MR A 0 0 0) n 1))),(803,some (.row 3 1 n (mrow (MR A 0 0 0) n 2))),(804,some (.row 3 1 n (mrow (MR A 0 0 0) n 3))),(805,some (.row 3 1 n (mrow (MR A 0 0 0) n 4))),(806,some (.row 3 1 n (mrow (MR A 0 0 0) n 5)))]⟩ _
  have y0:=aa_ (MR A 0 0 0) n 0
  have y1:=aa_ (MR A 0 0 0) n 1
  have y2:=aa_ (MR A 0 0 0) n 2
  have y3:=aa_ (MR A 0 0 0) n 3
  have y4:=aa_ (MR A 0 0 0) n 4
  have y5:=aa_ (MR A 0 0 0) n 5
  clear hi0 hi1 hi2 hi3 hi4 hi5
  refine DW.walk ?_
  refine DW.loopA (fun r:Nat=>⟨[(1,.ref 1 0),(3,.flat (.int .i64 ((n:Nat):Int))),(4,.own 16 n),(7,.sl false 3 m SC),(8,.flat (.int .i64 ((r:Nat):Int)))],[(1,some (.box [.sl false 1 rl LR,.sl false 1 n LB,.sl false 1 ta LT])),(16,some (.row 22 1 n [.own 801 n,.own 802 n,.own 803 n,.own 804 n,.own 805 n,.own 806 n])),(801,some (.row 3 1 n (mrow (MR A r 0 0) n 0))),(802,some (.row 3 1 n (mrow (MR A r 0 0) n 1))),(803,some (.row 3 1 n (mrow (MR A r 0 0) n 2))),(804,some (.row 3 1 n (mrow (MR A r 0 0) n 3))),(805,some (.row 3 1 n (mrow (MR A r 0 0) n 4))),(806,some (.row 3 1 n (mrow (MR A r 0 0) n 5)))]⟩) (fun r=>r≤n) (fun r=>n - r) 0 ?_ (Nat.zero_le _)
  intro r hr
  rcases Nat.lt_or_ge r n with hlt|hge
  ·refine (hrd _ (by rfl) r hlt).mono ?_
   rintro e s' ⟨rfl,hsub⟩
   exact⟨r+1,by omega,by omega,hsub⟩
  ·obtain rfl:n=r:=by omega
   rw [hfin 0,hfin 1,hfin 2,hfin 3,hfin 4,hfin 5]
   have w0:=aa_ (fun (i j:Nat)=>farA A i j) n 0
   have w1:=aa_ (fun (i j:Nat)=>farA A i j) n 1
   have w2:=aa_ (fun (i j:Nat)=>farA A i j) n 2
   have w3:=aa_ (fun (i j:Nat)=>farA A i j) n 3
   have w4:=aa_ (fun (i j:Nat)=>farA A i j) n 4
   have w5:=aa_ (fun (i j:Nat)=>farA A i j) n 5
   clear hrd hfin
   refine DW.walk ?_
   exact⟨.inr rfl,ResOk.one [(16,some (.row 22 1 n [.own 801 n,.own 802 n,.own 803 n,.own 804 n,.own 805 n,.own 806 n])),(801,some (.row 3 1 n (mrow (fun (i j:Nat)=>farA A i j) n 0))),(802,some (.row 3 1 n (mrow (fun (i j:Nat)=>farA A i j) n 1))),(803,some (.row 3 1 n (mrow (fun (i j:Nat)=>farA A i j) n 2))),(804,some (.row 3 1 n (mrow (fun (i j:Nat)=>farA A i j) n 3))),(805,some (.row 3 1 n (mrow (fun (i j:Nat)=>farA A i j) n 4))),(806,some (.row 3 1 n (mrow (fun (i j:Nat)=>farA A i j) n 5)))] rfl rfl ⟨rfl,rfl,rfl,rfl,rfl,rfl,rfl,trivial⟩ (Vw.own (.head _) (.cons (Vw.own (.tail _ (.head _)) (VwL.pers w0)) (.cons (Vw.own (.tail _ (.tail _ (.head _))) (VwL.pers w1)) (.cons (Vw.own (.tail _ (.tail _ (.tail _ (.head _)))) (VwL.pers w2)) (.cons (Vw.own (.tail _ (.tail _ (.tail _ (.tail _ (.head _))))) (VwL.pers w3)) (.cons (Vw.own (.tail _ (.tail _ (.tail _ (.tail _ (.tail _ (.head _)))))) (VwL.pers w4)) (.cons (Vw.own (.tail _ (.tail _ (.tail _ (.tail _ (.tail _ (.tail _ (.head _))))))) (VwL.pers w5)) .nil)))))))⟩
theorem zw_ (A:Au) (hok:AuOk A) (hf:DFun Try.prog 51 [auD A] (.sl false 1 A.f.length (farD A))):DFun Try.prog 16 [auD A] (.sl false 1 A.f.length ((clsU A).map fun x=>D.flat (.int .i64 x))):=by
 have hn:=hok.hi
 have hpp:∀ p:Nat,p<A.f.length→partD false 1 (p*1) (farD A)=some (.sl false 1 A.f.length (mrow (fun (i j:Nat)=>farA A i j) A.f.length p)):=fun p h=>fe_ (l:=List.range A.f.length) (by rw [List.getElem?_range h])
 have hpF:persL (farD A)=true:=af_ (fun _=>rfl) _
 have hpr:=fun p=>aa_ (fun (i j:Nat)=>farA A i j) A.f.length p
 have hpq:=fun (p q:Nat) (h:q<A.f.length)=>bg_ (M:=fun (i j:Nat)=>farA A i j) (p:=p) h
 have hcs:=fun (p:Nat) (h:p<A.f.length)=>d4_ hok h
 have hfn:=fun (p q:Nat) (hp:p<A.f.length) (hq:q<A.f.length)=>h2_ hok hp hq
 have hsn:∀ p,(((List.range p).map fun (p:Nat)=>((clsA A p:Nat):Int)).map fun x=>D.flat (.int .i64 x))++ [.flat (.int .i64 (((clsA A p):Nat):Int))]=(((List.range (p+1)).map fun (p:Nat)=>((clsA A p:Nat):Int)).map fun x=>D.flat (.int .i64 x)):=fun p=>by rw [List.range_succ,List.map_append,List.map_append];rfl
 have hcp:=fun p=>ad_ ((List.range p).map fun (p:Nat)=>((clsA A p:Nat):Int))
 have hcu:clsU A=((List.range A.f.length).map fun (p:Nat)=>((clsA A p:Nat):Int)):=rfl
 rw [hcu]
 have q1:=ad_ A.r
 have q2:=ai_ A.f
 have q3:=al_ A.to
 rw [au_ A] at hf ⊢
 generalize (A.r.map fun x=>D.flat (.int .i64 x))=LR at*
 generalize (A.f.map fun x=>D.flat (.bool x))=LB at*
 generalize ag_ A.to=LT at*
 generalize A.r.length=lr at*
 generalize A.f.length=n at*
 generalize A.to.length=lt at*
 generalize farD A=FD at*
 refine DFun.enterA Try.func16 Try.ntmps16 ?_
 refine DW.walkTo 3 ?_
 refine DW.adopt 4 71 3 1 rfl rfl ?_
 refine DW.walk ?_
 refine DW.loopA (fun p:Nat=>⟨[(1,.ref 1 0),(3,.sl false 1 n FD),(4,.own 71 p),(5,.flat (.int .i64 ((p:Nat):Int)))],[(1,some (.box [.sl false 1 lr LR,.sl false 1 n LB,.sl false 1 lt LT])),(71,some (.row 3 1 p (((List.range p).map fun (p:Nat)=>((clsA A p:Nat):Int)).map fun x=>D.flat (.int .i64 x))))]⟩) (fun p=>p≤n) (fun p=>n - p) 0 ?_ (Nat.zero_le _)
 intro p hp
 rcases Nat.lt_or_ge p n with hlt|hge
 ·obtain⟨c1,c2,c3⟩:=hcs p hlt
  have hr:=hpp p hlt
  have hrp:=hpr p
  have hq:=hpq p
  have hs1:=hsn p
  have y0:=hcp p
  have y1:=hcp (p+1)
  have hfp:=fun q (h:q<n)=>hfn p q hlt h
  clear hpp hpr hpq hcs hfn hsn hcp
  generalize hX1:(((List.range (p+1)).map fun (p:Nat)=>((clsA A p:Nat):Int)).map fun x=>D.flat (.int .i64 x))=X1 at*
  generalize (((List.range p).map fun (p:Nat)=>((clsA A p:Nat):Int)).map fun x=>D.flat (.int .i64 x))=X0 at*
  generalize mrow (fun (i j:Nat)=>farA A i j) n p=RW at*
  refine DW.walk ?_
  refine DW.loopA (fun q:Nat=>⟨[(1,.ref 1 0),(3,.sl false 1 n FD),(4,.own 71 p),(5,.flat (.int .i64 ((p:Nat):Int))),(6,.flat (.int .i64 ((q:Nat):Int)))],[(1,some (.box [.sl false 1 lr LR,.sl false 1 n LB,.sl false 1 lt LT])),(71,some (.row 3 1 p X0))]⟩) (fun q=>q≤clsA A p) (fun q=>clsA A p - q) 0 ?_ (Nat.zero_le _)
  intro q hqc
  have hqn:q<n:=by omega
  have hv:=hq q hqn
  have hnv:=hfp q hqn
  generalize farA A (p:Int) (q:Int)=v at*
  rcases Nat.lt_or_ge q (clsA A p) with hl2|hg2
  ·have hpos:¬ v<0:=fun h=>c3 q hl2 (hnv.1 h)
   clear hq hfp c2 c3 hnv
   refine DW.walk ?_
   exact⟨q+1,by omega,by omega,Sub.auto⟩
  ·obtain rfl:q=clsA A p:=by omega
   have hneg:v<0:=hnv.2 c2
   clear hq hfp c2 c3 hnv
   generalize clsA A p=c at*
   refine DW.walk ?_
   rw [hs1]
   exact⟨p+1,by omega,by omega,by rw [hX1];exact Sub.auto⟩
 ·obtain rfl:n=p:=by omega
  have y0:=hcp n
  clear hpp hpr hpq hcs hfn hsn hcp
  generalize (((List.range n).map fun (p:Nat)=>((clsA A p:Nat):Int)).map fun x=>D.flat (.int .i64 x))=X0 at*
  refine DW.walk ?_
  exact⟨.inr rfl,ResOk.one [(71,some (.row 3 1 n X0))] rfl rfl ⟨rfl,trivial⟩ (Vw.own (.head _) (VwL.pers y0))⟩
theorem zl_ (A:Au) (hok:AuOk A) (h6:A.f.length≤6):DFun Try.prog 51 [auD A] (.sl false 1 A.f.length (farD A)):=by
 have h1:=hok.lo
 rcases (show A.f.length=1∨A.f.length=2∨A.f.length=3∨A.f.length=4∨A.f.length=5∨A.f.length=6 by omega) with h|h|h|h|h|h
 ·exact yg_ A hok h
 ·exact zh_ A hok h
 ·exact yh_ A hok h
 ·exact yd_ A hok h
 ·exact xk_ A hok h
 ·exact xg_ A hok h
noncomputable abbrev j0_:Code:=Try.f103.body.getD .skip
theorem x8_ {cc:Code} (hsel:selC [1,1,1,0,1,2,2,1,0,2,1,0,1,2,2] j0_=some cc) (n L rl ta s p wd:Nat) (v t:Int) (LR LB LT LL LF TS R0 R1:List D) (q1:persL LR=true) (q2:persL LB=true) (q3:persL LT=true) (q4:persL LL=true) (q6:persL LF=true) (q7:persL TS=true) (q8:persL R0=true) (q9:persL R1=true) (hn:n≤512) (hL0:1≤L) (hL:L≤512) (hs:s<rl) (hrl:rl≤4096) (hp:p<wd) (hwd:wd≤262144) (hrk:partD false 1 (s*1) LR=some (.flat (.int .i64 0)))
  (hpl:DLend Try.prog 50 [.agg [.sl false 1 rl LR,.sl false 1 L LF,.own 419430400005 s],.flat (.int .i64 ((s:Nat):Int))] [(419430400005,some (.row 22 1 s TS))] [(419430400005,some (.row 22 1 s TS))] (.flat (.int .i64 ((wd:Nat):Int))))
  (hA:DFun Try.prog 58 [.agg [.sl false 1 rl LR,.sl false 1 n LB,.sl false 1 ta LT],.flat (.int .i64 ((s:Nat):Int)),.flat (.slice none 0 0)] (.tup [.flat (.int .i64 v),.flat (.int .i64 0)])) (hh:DFun Try.prog 102 [.sl false 1 L LL,.flat (.int .i64 v)] (.flat (.int .i64 t)))
  (hR:R0++ [.flat (.int .i64 t)]=R1):
  DW Try.prog 98 cc ⟨[(1,.sl false 1 L LL),(2,.ref 2 0),(4,.ref 4 0),(5,.ref 5 0),(7,.flat (.int .i64 ((s:Nat):Int))),(8,.own 105 p),(9,.flat (.int .i64 ((p:Nat):Int)))],[(2,some (.box [.sl false 1 rl LR,.sl false 1 n LB,.sl false 1 ta LT])),(4,some (.box [.flat (.slice none 0 0),.flat (.slice none 0 0),.flat (.slice none 0 0)])),(5,some (.box [.sl false 1 rl LR,.sl false 1 L LF,.own 419430400005 s])),(419430400005,some (.row 22 1 s TS)),(105,some (.row 3 1 p R0))]⟩ (Nm 98 ⟨[(1,.sl false 1 L LL),(2,.ref 2 0),(4,.ref 4 0),(5,.ref 5 0),(7,.flat (.int .i64 ((s:Nat):Int))),(8,.own 105 (p+1)),(9,.flat (.int .i64 (((p+1):Nat):Int)))],[(2,some (.box [.sl false 1 rl LR,.sl false 1 n LB,.sl false 1 ta LT])),(4,some (.box [.flat (.slice none 0 0),.flat (.slice none 0 0),.flat (.slice none 0 0)])),(5,some (.box [.sl false 1 rl LR,.sl false 1 L LF,.own 419430400005 s])),(419430400005,some (.row 22 1 s TS)),(105,some (.row 3 1 (p+1) R1))]⟩):=by
 refine DW.sel hsel (by rfl) ?_
 have hq1:p / L≤262144:=Nat.le_trans (Nat.div_le_self _ _) (by omega)
 have hq2:p % L<L:=Nat.mod_lt _ hL0
 have hpl2:=fun _:Unit=>hpl
 clear hpl
 refine DW.walk ?_
 refine DC.t (T.lendA (ar:=[_,_]) (ds:=[_,_]) EntC.h (hpl2 ()) rfl ⟨Vl.agg ⟨Vl.pers (by simp only [pers,q1]),Vl.pers (by simp only [pers,q6]),Vl.own rfl,trivial⟩,Vl.pers rfl,trivial⟩ rfl (by first|rfl|decide +kernel) EsL.auto) ⟨rfl,rfl,trivial⟩ (by repeat (first|exact trivial|refine⟨rfl,?_⟩)) ?_
 refine DC.walk ?_
 rw [hR]
 exact Nm.mk Sub.auto
end Go.Proofs.Ytichhfbkhnimmaa
