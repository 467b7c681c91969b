/- The table of distances: rows and rounds at 4 states. No condition. -/
import Derived.Test.YtichhfbkhnimmaaYFB4
import Derived.Test.YtichhfbkhnimmaaYFC3
import Derived.Test.YtichhfbkhnimmaaYFA3
set_option linter.unusedSimpArgs false
set_option linter.unusedVariables false
set_option maxHeartbeats 4000000
set_option maxRecDepth 8000
namespace Go.Proofs.Ytichhfbkhnimmaa
open Go Go.RowKit Go.PP Go.Dm Go.Rt Go.Mn
theorem zx_ {cc:Code} (hsel:selC [1,1,1,1,1,0,1,2,2,1,0,2,1,2,2] ap_=some cc) (A:Au) (hok:AuOk A) (r p:Nat) (hN:A.f.length=4) (hr:r<A.f.length) (hp:p<A.f.length) (hm:(ab_ A).length≤5000000):
  DW Try.prog 118 cc ⟨(sP A.f.length (ab_ A).length r p (spC (ab_ A))),(eT4 A.r.length A.f.length A.to.length (A.r.map fun x=>D.flat (.int .i64 x)) (A.f.map fun x=>D.flat (.bool x)) (ag_ A.to) (MR A r p 0))⟩ (Nm 118 ⟨(sP A.f.length (ab_ A).length r (p+1) (spC (ab_ A))),(eT4 A.r.length A.f.length A.to.length (A.r.map fun x=>D.flat (.int .i64 x)) (A.f.map fun x=>D.flat (.bool x)) (ag_ A.to) (MR A r (p+1) 0))⟩):=by
 have q1:=ad_ A.r
 have q2:=ai_ A.f
 have q3:=al_ A.to
 have q4:=ao_ (ab_ A)
 have hfq:=fun (cc:Code) (h:selC [1,1,1,1,1,0,1,2,2,1,0,2,1,2,2,1,0,2,1,2,2] ap_=some cc) (q:Nat) (hq:q<A.f.length)=>aaz h A hok r p q hN hr hp hq hm
 have hrw:=fun i=>kc_ A r p A.f.length i
 generalize (A.r.map fun x=>D.flat (.int .i64 x))=LR at*
 generalize (A.f.map fun x=>D.flat (.bool x))=LB at*
 generalize ag_ A.to=LT at*
 generalize spC (ab_ A)=SC at*
 generalize A.r.length=rl at*
 generalize A.f.length=n at*
 generalize A.to.length=ta at*
 generalize (ab_ A).length=m at*
 refine DW.sel hsel (by rfl) ?_
 dsimp only [eT4,sP,sR]
 have y0:=aa_ (MR A r p 0) n 0
 have y1:=aa_ (MR A r p 0) n 1
 have y2:=aa_ (MR A r p 0) n 2
 have y3:=aa_ (MR A r p 0) n 3
 refine DW.walk ?_
 refine DW.loopA (fun q:Nat=>⟨(sQ n m r p q SC),(eT4 rl n ta LR LB LT (MR A r p q))⟩) (fun q=>q≤n) (fun q=>n - q) 0 ?_ (Nat.zero_le _) (by dsimp only [eT4,sQ];exact Sub.auto)
 intro q hq
 rcases Nat.lt_or_ge q n with hlt|hge
 ·refine (hfq _ (by rfl) q hlt).mono ?_
  rintro e s' ⟨rfl,hsub⟩
  exact⟨q+1,by omega,by omega,hsub⟩
 ·obtain rfl:n=q:=by omega
  dsimp only [eT4,sQ]
  rw [hrw 0,hrw 1,hrw 2,hrw 3]
  clear hfq hrw
  have y0:=aa_ (MR A r (p+1) 0) n 0
  have y1:=aa_ (MR A r (p+1) 0) n 1
  have y2:=aa_ (MR A r (p+1) 0) n 2
  have y3:=aa_ (MR A r (p+1) 0) n 3
  generalize mrow (MR A r (p+1) 0) n 0=R0 at*
  generalize mrow (MR A r (p+1) 0) n 1=R1 at*
  generalize mrow (MR A r (p+1) 0) n 2=R2 at*
  generalize mrow (MR A r (p+1) 0) n 3=R3 at*
  refine DW.walk ?_
  exact Nm.mk Sub.auto
theorem zq_ {cc:Code} (hsel:selC [1,1,1,1,1,0,1,2,2] ap_=some cc) (A:Au) (hok:AuOk A) (r:Nat) (hN:A.f.length=4) (hr:r<A.f.length) (hm:(ab_ A).length≤5000000):
  DW Try.prog 118 cc ⟨(sR A.f.length (ab_ A).length r (spC (ab_ A))),(eT4 A.r.length A.f.length A.to.length (A.r.map fun x=>D.flat (.int .i64 x)) (A.f.map fun x=>D.flat (.bool x)) (ag_ A.to) (MR A r 0 0))⟩ (Nm 118 ⟨(sR A.f.length (ab_ A).length (r+1) (spC (ab_ A))),(eT4 A.r.length A.f.length A.to.length (A.r.map fun x=>D.flat (.int .i64 x)) (A.f.map fun x=>D.flat (.bool x)) (ag_ A.to) (MR A (r+1) 0 0))⟩):=by
 have q1:=ad_ A.r
 have q2:=ai_ A.f
 have q3:=al_ A.to
 have q4:=ao_ (ab_ A)
 have hfp:=fun (cc:Code) (h:selC [1,1,1,1,1,0,1,2,2,1,0,2,1,2,2] ap_=some cc) (p:Nat) (hp:p<A.f.length)=>zx_ h A hok r p hN hr hp hm
 have hrw:=fun i (h:i<A.f.length)=>kz_ A r A.f.length h
 generalize (A.r.map fun x=>D.flat (.int .i64 x))=LR at*
 generalize (A.f.map fun x=>D.flat (.bool x))=LB at*
 generalize ag_ A.to=LT at*
 generalize spC (ab_ A)=SC at*
 generalize A.r.length=rl at*
 generalize A.f.length=n at*
 generalize A.to.length=ta at*
 generalize (ab_ A).length=m at*
 refine DW.sel hsel (by rfl) ?_
 dsimp only [eT4,sP,sR]
 have y0:=aa_ (MR A r 0 0) n 0
 have y1:=aa_ (MR A r 0 0) n 1
 have y2:=aa_ (MR A r 0 0) n 2
 have y3:=aa_ (MR A r 0 0) n 3
 refine DW.walk ?_
 refine DW.loopA (fun p:Nat=>⟨(sP n m r p SC),(eT4 rl n ta LR LB LT (MR A r p 0))⟩) (fun p=>p≤n) (fun p=>n - p) 0 ?_ (Nat.zero_le _) (by dsimp only [eT4,sP];exact Sub.auto)
 intro p hp
 rcases Nat.lt_or_ge p n with hlt|hge
 ·refine (hfp _ (by rfl) p hlt).mono ?_
  rintro e s' ⟨rfl,hsub⟩
  exact⟨p+1,by omega,by omega,hsub⟩
 ·obtain rfl:n=p:=by omega
  dsimp only [eT4,sP]
  rw [hrw 0 (by omega),hrw 1 (by omega),hrw 2 (by omega),hrw 3 (by omega)]
  clear hfp hrw
  have y0:=aa_ (MR A (r+1) 0 0) n 0
  have y1:=aa_ (MR A (r+1) 0 0) n 1
  have y2:=aa_ (MR A (r+1) 0 0) n 2
  have y3:=aa_ (MR A (r+1) 0 0) n 3
  generalize mrow (MR A (r+1) 0 0) n 0=R0 at*
  generalize mrow (MR A (r+1) 0 0) n 1=R1 at*
  generalize mrow (MR A (r+1) 0 0) n 2=R2 at*
  generalize mrow (MR A (r+1) 0 0) n 3=R3 at*
  refine DW.walk ?_
  exact Nm.mk Sub.auto
end Go.Proofs.Ytichhfbkhnimmaa
namespace Go.Proofs.Ytichhfbkhnimmaa
open Go Go.RowKit Go.PP Go.Dm Go.Rt Go.Mn
theorem aad {cc:Code} (hsel:selC [1,1,1,1,1,0,1,2,2,1,0,2,1,2,2] ap_=some cc) (A:Au) (hok:AuOk A) (r p:Nat) (hN:A.f.length=5) (hr:r<A.f.length) (hp:p<A.f.length) (hm:(ab_ A).length≤5000000):
  DW Try.prog 118 cc ⟨(sP A.f.length (ab_ A).length r p (spC (ab_ A))),(eT5 A.r.length A.f.length A.to.length (A.r.map fun x=>D.flat (.int .i64 x)) (A.f.map fun x=>D.flat (.bool x)) (ag_ A.to) (MR A r p 0))⟩ (Nm 118 ⟨(sP A.f.length (ab_ A).length r (p+1) (spC (ab_ A))),(eT5 A.r.length A.f.length A.to.length (A.r.map fun x=>D.flat (.int .i64 x)) (A.f.map fun x=>D.flat (.bool x)) (ag_ A.to) (MR A r (p+1) 0))⟩):=by
 have q1:=ad_ A.r
 have q2:=ai_ A.f
 have q3:=al_ A.to
 have q4:=ao_ (ab_ A)
 have hfq:=fun (cc:Code) (h:selC [1,1,1,1,1,0,1,2,2,1,0,2,1,2,2,1,0,2,1,2,2] ap_=some cc) (q:Nat) (hq:q<A.f.length)=>acl h A hok r p q hN hr hp hq hm
 have hrw:=fun i=>kc_ A r p A.f.length i
 generalize (A.r.map fun x=>D.flat (.int .i64 x))=LR at*
 generalize (A.f.map fun x=>D.flat (.bool x))=LB at*
 generalize ag_ A.to=LT at*
 generalize spC (ab_ A)=SC at*
 generalize A.r.length=rl at*
 generalize A.f.length=n at*
 generalize A.to.length=ta at*
 generalize (ab_ A).length=m at*
 refine DW.sel hsel (by rfl) ?_
 dsimp only [eT5,sP,sR]
 have y0:=aa_ (MR A r p 0) n 0
 have y1:=aa_ (MR A r p 0) n 1
 have y2:=aa_ (MR A r p 0) n 2
 have y3:=aa_ (MR A r p 0) n 3
 have y4:=aa_ (MR A r p 0) n 4
 refine DW.walk ?_
 refine DW.loopA (fun q:Nat=>⟨(sQ n m r p q SC),(eT5 rl n ta LR LB LT (MR A r p q))⟩) (fun q=>q≤n) (fun q=>n - q) 0 ?_ (Nat.zero_le _) (by dsimp only [eT5,sQ];exact Sub.auto)
 intro q hq
 rcases Nat.lt_or_ge q n with hlt|hge
 ·refine (hfq _ (by rfl) q hlt).mono ?_
  rintro e s' ⟨rfl,hsub⟩
  exact⟨q+1,by omega,by omega,hsub⟩
 ·obtain rfl:n=q:=by omega
  dsimp only [eT5,sQ]
  rw [hrw 0,hrw 1,hrw 2,hrw 3,hrw 4]
  clear hfq hrw
  have y0:=aa_ (MR A r (p+1) 0) n 0
  have y1:=aa_ (MR A r (p+1) 0) n 1
  have y2:=aa_ (MR A r (p+1) 0) n 2
  have y3:=aa_ (MR A r (p+1) 0) n 3
  have y4:=aa_ (MR A r (p+1) 0) n 4
  generalize mrow (MR A r (p+1) 0) n 0=R0 at*
  generalize mrow (MR A r (p+1) 0) n 1=R1 at*
  generalize mrow (MR A r (p+1) 0) n 2=R2 at*
  generalize mrow (MR A r (p+1) 0) n 3=R3 at*
  generalize mrow (MR A r (p+1) 0) n 4=R4 at*
  refine DW.walk ?_
  exact Nm.mk Sub.auto
theorem abf {cc:Code} (hsel:selC [1,1,1,1,1,0,1,2,2] ap_=some cc) (A:Au) (hok:AuOk A) (r:Nat) (hN:A.f.length=5) (hr:r<A.f.length) (hm:(ab_ A).length≤5000000):
  DW Try.prog 118 cc ⟨(sR A.f.length (ab_ A).length r (spC (ab_ A))),(eT5 A.r.length A.f.length A.to.length (A.r.map fun x=>D.flat (.int .i64 x)) (A.f.map fun x=>D.flat (.bool x)) (ag_ A.to) (MR A r 0 0))⟩ (Nm 118 ⟨(sR A.f.length (ab_ A).length (r+1) (spC (ab_ A))),(eT5 A.r.length A.f.length A.to.length (A.r.map fun x=>D.flat (.int .i64 x)) (A.f.map fun x=>D.flat (.bool x)) (ag_ A.to) (MR A (r+1) 0 0))⟩):=by
 have q1:=ad_ A.r
 have q2:=ai_ A.f
 have q3:=al_ A.to
 have q4:=ao_ (ab_ A)
 have hfp:=fun (cc:Code) (h:selC [1,1,1,1,1,0,1,2,2,1,0,2,1,2,2] ap_=some cc) (p:Nat) (hp:p<A.f.length)=>aad h A hok r p hN hr hp hm
 have hrw:=fun i (h:i<A.f.length)=>kz_ A r A.f.length h
 generalize (A.r.map fun x=>D.flat (.int .i64 x))=LR at*
 generalize (A.f.map fun x=>D.flat (.bool x))=LB at*
 generalize ag_ A.to=LT at*
 generalize spC (ab_ A)=SC at*
 generalize A.r.length=rl at*
 generalize A.f.length=n at*
 generalize A.to.length=ta at*
 generalize (ab_ A).length=m at*
 refine DW.sel hsel (by rfl) ?_
 dsimp only [eT5,sP,sR]
 have y0:=aa_ (MR A r 0 0) n 0
 have y1:=aa_ (MR A r 0 0) n 1
 have y2:=aa_ (MR A r 0 0) n 2
 have y3:=aa_ (MR A r 0 0) n 3
 have y4:=aa_ (MR A r 0 0) n 4
 refine DW.walk ?_
 refine DW.loopA (fun p:Nat=>⟨(sP n m r p SC),(eT5 rl n ta LR LB LT (MR A r p 0))⟩) (fun p=>p≤n) (fun p=>n - p) 0 ?_ (Nat.zero_le _) (by dsimp only [eT5,sP];exact Sub.auto)
 intro p hp
 rcases Nat.lt_or_ge p n with hlt|hge
 ·refine (hfp _ (by rfl) p hlt).mono ?_
  rintro e s' ⟨rfl,hsub⟩
  exact⟨p+1,by omega,by omega,hsub⟩
 ·obtain rfl:n=p:=by omega
  dsimp only [eT5,sP]
  rw [hrw 0 (by omega),hrw 1 (by omega),hrw 2 (by omega),hrw 3 (by omega),hrw 4 (by omega)]
  clear hfp hrw
  have y0:=aa_ (MR A (r+1) 0 0) n 0
  have y1:=aa_ (MR A (r+1) 0 0) n 1
  have y2:=aa_ (MR A (r+1) 0 0) n 2
  have y3:=aa_ (MR A (r+1) 0 0) n 3
  have y4:=aa_ (MR A (r+1) 0 0) n 4
  generalize mrow (MR A (r+1) 0 0) n 0=R0 at*
  generalize mrow (MR A (r+1) 0 0) n 1=R1 at*
  generalize mrow (MR A (r+1) 0 0) n 2=R2 at*
  generalize mrow (MR A (r+1) 0 0) n 3=R3 at*
  generalize mrow (MR A (r+1) 0 0) n 4=R4 at*
  refine DW.walk ?_
  exact Nm.mk Sub.auto
end Go.Proofs.Ytichhfbkhnimmaa
namespace Go.Proofs.Ytichhfbkhnimmaa
open Go Go.RowKit Go.PP Go.Dm Go.Rt Go.Mn
theorem aae {cc:Code} (hsel:selC [1,1,1,1,1,0,1,2,2,1,0,2,1,2,2] ap_=some cc) (A:Au) (hok:AuOk A) (r p:Nat) (hN:A.f.length=6) (hr:r<A.f.length) (hp:p<A.f.length) (hm:(ab_ A).length≤5000000):
  DW Try.prog 118 cc ⟨(sP A.f.length (ab_ A).length r p (spC (ab_ A))),(eT6 A.r.length A.f.length A.to.length (A.r.map fun x=>D.flat (.int .i64 x)) (A.f.map fun x=>D.flat (.bool x)) (ag_ A.to) (MR A r p 0))⟩ (Nm 118 ⟨(sP A.f.length (ab_ A).length r (p+1) (spC (ab_ A))),(eT6 A.r.length A.f.length A.to.length (A.r.map fun x=>D.flat (.int .i64 x)) (A.f.map fun x=>D.flat (.bool x)) (ag_ A.to) (MR A r (p+1) 0))⟩):=by
 have q1:=ad_ A.r
 have q2:=ai_ A.f
 have q3:=al_ A.to
 have q4:=ao_ (ab_ A)
 have hfq:=fun (cc:Code) (h:selC [1,1,1,1,1,0,1,2,2,1,0,2,1,2,2,1,0,2,1,2,2] ap_=some cc) (q:Nat) (hq:q<A.f.length)=>ab3 h A hok r p q hN hr hp hq hm
 have hrw:=fun i=>kc_ A r p A.f.length i
 generalize (A.r.map fun x=>D.flat (.int .i64 x))=LR at*
 generalize (A.f.map fun x=>D.flat (.bool x))=LB at*
 generalize ag_ A.to=LT at*
 generalize spC (ab_ A)=SC at*
 generalize A.r.length=rl at*
 generalize A.f.length=n at*
 generalize A.to.length=ta at*
 generalize (ab_ A).length=m at*
 refine DW.sel hsel (by rfl) ?_
 dsimp only [eT6,sP,sR]
 have y0:=aa_ (MR A r p 0) n 0
 have y1:=aa_ (MR A r p 0) n 1
 have y2:=aa_ (MR A r p 0) n 2
 have y3:=aa_ (MR A r p 0) n 3
 have y4:=aa_ (MR A r p 0) n 4
 have y5:=aa_ (MR A r p 0) n 5
 refine DW.walk ?_
 refine DW.loopA (fun q:Nat=>⟨(sQ n m r p q SC),(eT6 rl n ta LR LB LT (MR A r p q))⟩) (fun q=>q≤n) (fun q=>n - q) 0 ?_ (Nat.zero_le _) (by dsimp only [eT6,sQ];exact Sub.auto)
 intro q hq
 rcases Nat.lt_or_ge q n with hlt|hge
 ·refine (hfq _ (by rfl) q hlt).mono ?_
  rintro e s' ⟨rfl,hsub⟩
  exact⟨q+1,by omega,by omega,hsub⟩
 ·obtain rfl:n=q:=by omega
  dsimp only [eT6,sQ]
  rw [hrw 0,hrw 1,hrw 2,hrw 3,hrw 4,hrw 5]
  clear hfq hrw
  have y0:=aa_ (MR A r (p+1) 0) n 0
  have y1:=aa_ (MR A r (p+1) 0) n 1
  have y2:=aa_ (MR A r (p+1) 0) n 2
  have y3:=aa_ (MR A r (p+1) 0) n 3
  have y4:=aa_ (MR A r (p+1) 0) n 4
  have y5:=aa_ (MR A r (p+1) 0) n 5
  generalize mrow (MR A r (p+1) 0) n 0=R0 at*
  generalize mrow (MR A r (p+1) 0) n 1=R1 at*
  generalize mrow (MR A r (p+1) 0) n 2=R2 at*
  generalize mrow (MR A r (p+1) 0) n 3=R3 at*
  generalize mrow (MR A r (p+1) 0) n 4=R4 at*
  generalize mrow (MR A r (p+1) 0) n 5=R5 at*
  refine DW.walk ?_
  exact Nm.mk Sub.auto
theorem acm {cc:Code} (hsel:selC [1,1,1,1,1,0,1,2,2] ap_=some cc) (A:Au) (hok:AuOk A) (r:Nat) (hN:A.f.length=6) (hr:r<A.f.length) (hm:(ab_ A).length≤5000000):
  DW Try.prog 118 cc ⟨(sR A.f.length (ab_ A).length r (spC (ab_ A))),(eT6 A.r.length A.f.length A.to.length (A.r.map fun x=>D.flat (.int .i64 x)) (A.f.map fun x=>D.flat (.bool x)) (ag_ A.to) (MR A r 0 0))⟩ (Nm 118 ⟨(sR A.f.length (ab_ A).length (r+1) (spC (ab_ A))),(eT6 A.r.length A.f.length A.to.length (A.r.map fun x=>D.flat (.int .i64 x)) (A.f.map fun x=>D.flat (.bool x)) (ag_ A.to) (MR A (r+1) 0 0))⟩):=by
 have q1:=ad_ A.r
 have q2:=ai_ A.f
 have q3:=al_ A.to
 have q4:=ao_ (ab_ A)
 have hfp:=fun (cc:Code) (h:selC [1,1,1,1,1,0,1,2,2,1,0,2,1,2,2] ap_=some cc) (p:Nat) (hp:p<A.f.length)=>aae h A hok r p hN hr hp hm
 have hrw:=fun i (h:i<A.f.length)=>kz_ A r A.f.length h
 generalize (A.r.map fun x=>D.flat (.int .i64 x))=LR at*
 generalize (A.f.map fun x=>D.flat (.bool x))=LB at*
 generalize ag_ A.to=LT at*
 generalize spC (ab_ A)=SC at*
 generalize A.r.length=rl at*
 generalize A.f.length=n at*
 generalize A.to.length=ta at*
 generalize (ab_ A).length=m at*
 refine DW.sel hsel (by rfl) ?_
 dsimp only [eT6,sP,sR]
 have y0:=aa_ (MR A r 0 0) n 0
 have y1:=aa_ (MR A r 0 0) n 1
 have y2:=aa_ (MR A r 0 0) n 2
 have y3:=aa_ (MR A r 0 0) n 3
 have y4:=aa_ (MR A r 0 0) n 4
 have y5:=aa_ (MR A r 0 0) n 5
 refine DW.walk ?_
 refine DW.loopA (fun p:Nat=>⟨(sP n m r p SC),(eT6 rl n ta LR LB LT (MR A r p 0))⟩) (fun p=>p≤n) (fun p=>n - p) 0 ?_ (Nat.zero_le _) (by dsimp only [eT6,sP];exact Sub.auto)
 intro p hp
 rcases Nat.lt_or_ge p n with hlt|hge
 ·refine (hfp _ (by rfl) p hlt).mono ?_
  rintro e s' ⟨rfl,hsub⟩
  exact⟨p+1,by omega,by omega,hsub⟩
 ·obtain rfl:n=p:=by omega
  dsimp only [eT6,sP]
  rw [hrw 0 (by omega),hrw 1 (by omega),hrw 2 (by omega),hrw 3 (by omega),hrw 4 (by omega),hrw 5 (by omega)]
  clear hfp hrw
  have y0:=aa_ (MR A (r+1) 0 0) n 0
  have y1:=aa_ (MR A (r+1) 0 0) n 1
  have y2:=aa_ (MR A (r+1) 0 0) n 2
  have y3:=aa_ (MR A (r+1) 0 0) n 3
  have y4:=aa_ (MR A (r+1) 0 0) n 4
  have y5:=aa_ (MR A (r+1) 0 0) n 5
  generalize mrow (MR A (r+1) 0 0) n 0=R0 at*
  generalize mrow (MR A (r+1) 0 0) n 1=R1 at*
  generalize mrow (MR A (r+1) 0 0) n 2=R2 at*
  generalize mrow (MR A (r+1) 0 0) n 3=R3 at*
  generalize mrow (MR A (r+1) 0 0) n 4=R4 at*
  generalize mrow (MR A (r+1) 0 0) n 5=R5 at*
  refine DW.walk ?_
  exact Nm.mk Sub.auto
end Go.Proofs.Ytichhfbkhnimmaa
namespace Go.Proofs.Ytichhfbkhnimmaa
open Go Go.RowKit Go.PP Go.Dm Go.Rt Go.Mn
def xrow (A:Au) (n p q:Nat):List D:=(List.range n).map fun j=>if j<q then D.flat (.int .i64 (MR A 0 0 0 p j)) else D.flat (.int .i64 0)
theorem em_ (A:Au) (n p q:Nat):persL (xrow A n p q)=true:=by
 unfold xrow
 generalize List.range n=l
 induction l with
 |nil=>rfl
 |cons x l ih=>
  simp only [List.map_cons,persL,Bool.and_eq_true]
  refine⟨?_,ih⟩
  split <;> rfl
theorem dk_ (A:Au) (n p q:Nat):(xrow A n p q).length=n:=by simp [xrow]
theorem ep_ (A:Au) (n p:Nat):xrow A n p 0=List.replicate n (D.flat (.int .i64 0)):=by
 unfold xrow
 simp only [Nat.not_lt_zero,if_false]
 rw [List.map_const',List.length_range]
theorem fo_ (A:Au) (n p:Nat):xrow A n p n=mrow (MR A 0 0 0) n p:=by
 unfold xrow mrow
 refine List.map_congr_left fun j hj=>?_
 rw [if_pos (List.mem_range.1 hj)]
theorem o6_ (A:Au) {n p q:Nat} (h:q<n) (z:D):(((xrow A n p q).set q z).set q (D.flat (.int .i64 (MR A 0 0 0 p q))))=xrow A n p (q+1):=by
 rw [List.set_set]
 unfold xrow
 refine List.ext_getElem? fun j=>?_
 rw [List.getElem?_set]
 by_cases hj:q=j
 ·subst hj
  simp [h]
 ·rw [if_neg hj]
  by_cases hn:j<n
  ·simp only [List.getElem?_map,List.getElem?_range hn,Option.map_some]
   by_cases hq:j<q
   ·rw [if_pos hq,if_pos (by omega)]
   ·rw [if_neg hq,if_neg (by omega)]
  ·rw [List.getElem?_eq_none (by simp;omega),List.getElem?_eq_none (by simp;omega)]
theorem ek_ (A:Au) {n p q:Nat} (h:q<n) (hm:MR A 0 0 0 p q= -1):List.take (q*1) (xrow A n p q)++ [D.flat (.int .i64 (-1))]++List.drop (q*1+1) (xrow A n p q)=xrow A n p (q+1):=by
 have h1:=bk_ (cs:=xrow A n p q) (i:=q) (x:= .flat (.int .i64 (-1))) (by rw [dk_];exact h)
 unfold spliceD at h1
 have h2:=o6_ A h (p:=p) (.flat (.int .i64 (-1)))
 rw [hm,List.set_set] at h2
 rw [Nat.mul_one]
 exact h1.trans h2
theorem ef_ (A:Au) {n p q:Nat} (h:q<n) (hm:MR A 0 0 0 p q=0):List.take (q*1) (List.take (q*1) (xrow A n p q)++ [D.flat (.int .i64 (-1))]++List.drop (q*1+1) (xrow A n p q))++ [D.flat (.int .i64 0)]++List.drop (q*1+1) (List.take (q*1) (xrow A n p q)++ [D.flat (.int .i64 (-1))]++List.drop (q*1+1) (xrow A n p q))=xrow A n p (q+1):=by
 have h1:=bk_ (cs:=xrow A n p q) (i:=q) (x:= .flat (.int .i64 (-1))) (by rw [dk_];exact h)
 unfold spliceD at h1
 have h3:=bk_ (cs:=(xrow A n p q).set q (.flat (.int .i64 (-1)))) (i:=q) (x:= .flat (.int .i64 0)) (by rw [List.length_set,dk_];exact h)
 unfold spliceD at h3
 have h2:=o6_ A h (p:=p) (.flat (.int .i64 (-1)))
 rw [hm] at h2
 rw [Nat.mul_one]
 have h1:List.take q (xrow A n p q)++ [.flat (.int .i64 (-1))]++List.drop (q+1) (xrow A n p q)=(xrow A n p q).set q (.flat (.int .i64 (-1))):=h1
 rw [h1]
 exact h3.trans h2
theorem fq_ (A:Au) (p q:Nat):MR A 0 0 0 p q=if A.f.getD p false≠A.f.getD q false then 0 else -1:=by
 unfold MR
 rw [if_neg (by omega),farK]
 rfl
def farD (A:Au):List D:=(List.range A.f.length).map fun p=>D.sl false 1 A.f.length (mrow (fun (i j:Nat)=>farA A i j) A.f.length p)
end Go.Proofs.Ytichhfbkhnimmaa
set_option linter.unusedSectionVars false
set_option maxHeartbeats 400000
namespace Go.Dm
open Go Go.RowKit Go.PP
variable [GlobW]
theorem Sub.autoT {N:Nat} {f f':Fr} {σ σ':Sg} (h1:EsOk σ σ' σ':=by (repeat (first|exact EsOk.nil'|refine EsOk.none' ?_|refine EsOk.rec' rfl (by (repeat (first|exact FVs.nil'|refine FVs.cons' (by first|exact Vs.pers (by first|rfl|assumption)|exact Vs.eq' rfl rfl PersD.h|exact Vs.int' rfl (by first|with_reducible rfl|assumption|omega|(first|(simp <;> fail)|fail)|(simp;omega)|(push_cast;omega)|rfl)|exact Vs.own' rfl rfl rfl (by first|rfl|omega|(first|(simp <;> fail)|fail)|(simp;omega))|exact Vs.ref' rfl rfl|exact Vs.bsl' rfl rfl|exact Vs.mp' rfl rfl|exact Vs.yl' rfl rfl|exact Vs.nil|exact Vs.eq' rfl (by first|assumption|(first|(simp <;> fail)|fail)|(simp;omega)) rfl|exact Vs.any _|exact Vs.clo' rfl (VsL.pers (by first|rfl|exact PersL.h)) (by repeat (first|exact VsL.nil'|refine VsL.cons' (by first|exact Vs.pers (by first|rfl|assumption)|exact Vs.eq' rfl rfl PersD.h|exact Vs.ref' rfl rfl|exact Vs.bsl' rfl rfl|exact Vs.mp' rfl rfl|exact Vs.yl' rfl rfl|exact Vs.own' rfl rfl rfl rfl) ?_))|exact Vs.shutOwn' rfl rfl rfl (by first|rfl|omega|(first|(simp <;> fail)|fail)) (by first|rfl|assumption|(first|(simp <;> fail)|fail)) (by first|rfl|exact af_ (fun _=>rfl) _|exact PersL.h|assumption)|exact Vs.shutRef' rfl rfl rfl (by first|rfl|assumption|(first|(simp <;> fail)|fail)) (by first|rfl|assumption) rfl|exact Vs.dead' rfl rfl (by first|rfl|omega|(first|(simp <;> fail)|fail))|assumption) ?_))) ?_|refine EsOk.dead' ?_|refine EsOk.map' rfl (by first|rfl|assumption|(first|(simp <;> fail)|fail)) (by first|rfl|assumption|(first|(simp <;> fail)|fail)) (by first|rfl|assumption|exact af_ (fun _=>rfl) _) ?_|refine EsOk.box' rfl (by first|exact VsL.pers (by first|rfl|exact PersL.h)|exact MpC.vs' rfl rfl|exact VsL.pers (af_ (fun _=>rfl) _)|assumption|exact VsL.eq' (by first|rfl|assumption|(first|(simp <;> fail)|fail)) (by first|rfl|exact af_ (fun _=>rfl) _|exact PersL.h|assumption)|exact VsL.eqL (by first|rfl|assumption|(first|(simp <;> fail)|fail)) (by first|rfl|exact af_ (fun _=>rfl) _|exact PersL.h|assumption)|(repeat (first|exact VsL.nil'|exact VsL.pers (by assumption)|refine VsL.cons' (by first|exact Vs.pers (by first|rfl|assumption)|exact Vs.eq' rfl rfl PersD.h|exact Vs.int' rfl (by first|with_reducible rfl|assumption|omega|(first|(simp <;> fail)|fail)|(simp;omega)|(push_cast;omega)|rfl)|exact Vs.own' rfl rfl rfl (by first|rfl|omega|(first|(simp <;> fail)|fail)|(simp;omega))|exact Vs.ref' rfl rfl|exact Vs.bsl' rfl rfl|exact Vs.mp' rfl rfl|exact Vs.yl' rfl rfl|exact Vs.nil|exact Vs.eq' rfl (by first|assumption|(first|(simp <;> fail)|fail)|(simp;omega)) rfl|exact Vs.any _|exact Vs.clo' rfl (VsL.pers (by first|rfl|exact PersL.h)) (by repeat (first|exact VsL.nil'|refine VsL.cons' (by first|exact Vs.pers (by first|rfl|assumption)|exact Vs.eq' rfl rfl PersD.h|exact Vs.ref' rfl rfl|exact Vs.bsl' rfl rfl|exact Vs.mp' rfl rfl|exact Vs.yl' rfl rfl|exact Vs.own' rfl rfl rfl rfl) ?_))|exact Vs.shutOwn' rfl rfl rfl (by first|rfl|omega|(first|(simp <;> fail)|fail)) (by first|rfl|assumption|(first|(simp <;> fail)|fail)) (by first|rfl|exact af_ (fun _=>rfl) _|exact PersL.h|assumption)|exact Vs.shutRef' rfl rfl rfl (by first|rfl|assumption|(first|(simp <;> fail)|fail)) (by first|rfl|assumption) rfl|exact Vs.dead' rfl rfl (by first|rfl|omega|(first|(simp <;> fail)|fail))|assumption) ?_))) ?_|refine EsOk.row' rfl (by first|rfl|omega|(first|(simp <;> fail)|fail)|(simp;omega)) (by first|exact VsL.pers (by first|rfl|exact PersL.h)|exact VsL.pers (af_ (fun _=>rfl) _)|assumption|exact VsL.eq' (by first|rfl|assumption|(first|(simp <;> fail)|fail)) (by first|rfl|exact af_ (fun _=>rfl) _|exact PersL.h|assumption)|exact VsL.eqL (by first|rfl|assumption|(first|(simp <;> fail)|fail)) (by first|rfl|exact af_ (fun _=>rfl) _|exact PersL.h|assumption)|(repeat (first|exact VsL.nil'|exact VsL.pers (by assumption)|refine VsL.cons' (by first|exact Vs.pers (by first|rfl|assumption)|exact Vs.eq' rfl rfl PersD.h|exact Vs.int' rfl (by first|with_reducible rfl|assumption|omega|(first|(simp <;> fail)|fail)|(simp;omega)|(push_cast;omega)|rfl)|exact Vs.own' rfl rfl rfl (by first|rfl|omega|(first|(simp <;> fail)|fail)|(simp;omega))|exact Vs.ref' rfl rfl|exact Vs.bsl' rfl rfl|exact Vs.mp' rfl rfl|exact Vs.yl' rfl rfl|exact Vs.nil|exact Vs.eq' rfl (by first|assumption|(first|(simp <;> fail)|fail)|(simp;omega)) rfl|exact Vs.any _|exact Vs.clo' rfl (VsL.pers (by first|rfl|exact PersL.h)) (by repeat (first|exact VsL.nil'|refine VsL.cons' (by first|exact Vs.pers (by first|rfl|assumption)|exact Vs.eq' rfl rfl PersD.h|exact Vs.ref' rfl rfl|exact Vs.bsl' rfl rfl|exact Vs.mp' rfl rfl|exact Vs.yl' rfl rfl|exact Vs.own' rfl rfl rfl rfl) ?_))|exact Vs.shutOwn' rfl rfl rfl (by first|rfl|omega|(first|(simp <;> fail)|fail)) (by first|rfl|assumption|(first|(simp <;> fail)|fail)) (by first|rfl|exact af_ (fun _=>rfl) _|exact PersL.h|assumption)|exact Vs.shutRef' rfl rfl rfl (by first|rfl|assumption|(first|(simp <;> fail)|fail)) (by first|rfl|assumption) rfl|exact Vs.dead' rfl rfl (by first|rfl|omega|(first|(simp <;> fail)|fail))|assumption) ?_))) ?_|fail))) (h2:FsOk σ σ' f f':=by (repeat (first|exact trivial|refine FsOk.cons (by first|exact Vs.pers (by first|rfl|assumption)|exact Vs.eq' rfl rfl PersD.h|exact Vs.int' rfl (by first|with_reducible rfl|assumption|omega|(first|(simp <;> fail)|fail)|(simp;omega)|(push_cast;omega)|rfl)|exact Vs.own' rfl rfl rfl (by first|rfl|omega|(first|(simp <;> fail)|fail)|(simp;omega))|exact Vs.ref' rfl rfl|exact Vs.bsl' rfl rfl|exact Vs.mp' rfl rfl|exact Vs.yl' rfl rfl|exact Vs.nil|exact Vs.eq' rfl (by first|assumption|(first|(simp <;> fail)|fail)|(simp;omega)) rfl|exact Vs.any _|exact Vs.clo' rfl (VsL.pers (by first|rfl|exact PersL.h)) (by repeat (first|exact VsL.nil'|refine VsL.cons' (by first|exact Vs.pers (by first|rfl|assumption)|exact Vs.eq' rfl rfl PersD.h|exact Vs.ref' rfl rfl|exact Vs.bsl' rfl rfl|exact Vs.mp' rfl rfl|exact Vs.yl' rfl rfl|exact Vs.own' rfl rfl rfl rfl) ?_))|exact Vs.shutOwn' rfl rfl rfl (by first|rfl|omega|(first|(simp <;> fail)|fail)) (by first|rfl|assumption|(first|(simp <;> fail)|fail)) (by first|rfl|exact af_ (fun _=>rfl) _|exact PersL.h|assumption)|exact Vs.shutRef' rfl rfl rfl (by first|rfl|assumption|(first|(simp <;> fail)|fail)) (by first|rfl|assumption) rfl|exact Vs.dead' rfl rfl (by first|rfl|omega|(first|(simp <;> fail)|fail))|assumption) ?_|fail))):Sub N ⟨f,σ⟩ ⟨f',σ'⟩:=Sub.of h1 h2
end Go.Dm
set_option maxHeartbeats 4000000
namespace Go.Proofs.Ytichhfbkhnimmaa
open Go Go.RowKit Go.PP Go.Dm Go.Rt Go.Mn
theorem k5_ {cc:Code} (hsel:selC [1,1,1,0,1,2,2] ap_=some cc) (A:Au) (hj:0<A.f.length) (hN:A.f.length≤6) (TL:List D) (hTL:persL TL=true):DW Try.prog 118 cc ⟨[(1,.ref 1 0),(3,.flat (.int .i64 ((A.f.length:Nat):Int))),(4,.own 16 A.f.length),(5,.flat (.int .i64 ((0:Nat):Int)))],[(1,some (.box [.sl false 1 A.r.length (A.r.map fun x=>D.flat (.int .i64 x)),.sl false 1 A.f.length (A.f.map fun x=>D.flat (.bool x)),.sl false 1 A.to.length (ag_ A.to)])),(16,some (.row 22 1 A.f.length (.flat (.slice none 0 0)::TL)))]⟩ (Nm 118 ⟨[(1,.ref 1 0),(3,.flat (.int .i64 ((A.f.length:Nat):Int))),(4,.own 16 A.f.length),(5,.flat (.int .i64 ((1:Nat):Int)))],[(1,some (.box [.sl false 1 A.r.length (A.r.map fun x=>D.flat (.int .i64 x)),.sl false 1 A.f.length (A.f.map fun x=>D.flat (.bool x)),.sl false 1 A.to.length (ag_ A.to)])),(16,some (.row 22 1 A.f.length (.own 801 A.f.length::TL))),(801,some (.row 3 1 A.f.length (mrow (MR A 0 0 0) A.f.length 0)))]⟩):=by
 have q1:=ad_ A.r
 have q2:=ai_ A.f
 have q3:=al_ A.to
 have q4:=ao_ (ab_ A)
 have h25:=IdAt.of 25 801
 have hfp:=fun (i:Nat) (h:i<A.f.length)=>fi_ A.f h
 have hf:=fun q=>fq_ A 0 q
 have hX0:=ep_ A A.f.length 0
 have hX:=fun q=>em_ A A.f.length 0 q
 have hXl:=fun q=>dk_ A A.f.length 0 q
 have hXa:=fo_ A A.f.length 0
 have h1:=fun q (h:q<A.f.length)=>ek_ A (p:=0) h
 have h2:=fun q (h:q<A.f.length)=>ef_ A (p:=0) h
 have hfj:=hfp 0 (by omega)
 generalize (A.r.map fun x=>D.flat (.int .i64 x))=LR at*
 generalize (A.f.map fun x=>D.flat (.bool x))=LB at*
 generalize ag_ A.to=LT at*
 generalize A.r.length=rl at*
 generalize A.f.length=n at*
 generalize A.to.length=ta at*
 generalize A.f.getD 0 false=fj at*
 refine DW.sel hsel (by rfl) ?_
 refine DW.walk ?_
 refine DW.loopA (fun q:Nat=>⟨[(1,.ref 1 0),(3,.flat (.int .i64 ((n:Nat):Int))),(4,.own 16 n),(5,.flat (.int .i64 ((0:Nat):Int))),(6,.flat (.int .i64 ((q:Nat):Int)))],[(1,some (.box [.sl false 1 rl LR,.sl false 1 n LB,.sl false 1 ta LT])),(16,some (.row 22 1 n (.own 801 n::TL))),(801,some (.row 3 1 n (xrow A n 0 q)))]⟩) (fun q=>q≤n) (fun q=>n - q) 0 ?_ (Nat.zero_le _) (by rw [hX0];have:=hX 0;rw [hX0] at this;generalize (List.replicate n (D.flat (.int .i64 0)))=Z at *;exact Sub.autoT)
 intro q hq
 rcases Nat.lt_or_ge q n with hlt|hge
 ·have   hfq:=hfp q hlt
  have hq:=hf q
  have e1:=h1 q hlt
  have e2:=h2 q hlt
  have x0:=hX q
  have x1:=hX (q+1)
  have l0:=hXl q
  generalize A.f.getD q false=fq at*
  generalize MR A 0 0 0 0 q=v at*
  clear hf h1 h2 hX hXl hfp
  generalize hY:xrow A n 0 (q+1)=Y at*
  generalize xrow A n 0 q=X at*
  cases fj <;> cases fq
  all_goals
   simp only [ne_eq,not_true_eq_false,not_false_eq_true,if_true,if_false,reduceCtorEq] at hq
   first
        |(have e:=e1 hq
          refine DW.walk ?_
          rw [e]
          exact⟨q+1,by omega,by omega,by rw [hY];exact Sub.autoT⟩)
        |(have e:=e2 hq
          refine DW.walk ?_
          rw [e]
          exact⟨q+1,by omega,by omega,by rw [hY];exact Sub.autoT⟩)
 ·obtain rfl:n=q:=by omega
  rw [hXa]
  have y0:=aa_ (MR A 0 0 0) n 0
  clear hf h1 h2 hX hXl hfp
  refine DW.walk ?_
  exact Nm.mk Sub.autoT
theorem mr_ {cc:Code} (hsel:selC [1,1,1,0,1,2,2] ap_=some cc) (A:Au) (hj:1<A.f.length) (hN:A.f.length≤6) (TL:List D) (hTL:persL TL=true):DW Try.prog 118 cc ⟨[(1,.ref 1 0),(3,.flat (.int .i64 ((A.f.length:Nat):Int))),(4,.own 16 A.f.length),(5,.flat (.int .i64 ((1:Nat):Int)))],[(1,some (.box [.sl false 1 A.r.length (A.r.map fun x=>D.flat (.int .i64 x)),.sl false 1 A.f.length (A.f.map fun x=>D.flat (.bool x)),.sl false 1 A.to.length (ag_ A.to)])),(16,some (.row 22 1 A.f.length (.own 801 A.f.length:: .flat (.slice none 0 0)::TL))),(801,some (.row 3 1 A.f.length (mrow (MR A 0 0 0) A.f.length 0)))]⟩ (Nm 118 ⟨[(1,.ref 1 0),(3,.flat (.int .i64 ((A.f.length:Nat):Int))),(4,.own 16 A.f.length),(5,.flat (.int .i64 ((2:Nat):Int)))],[(1,some (.box [.sl false 1 A.r.length (A.r.map fun x=>D.flat (.int .i64 x)),.sl false 1 A.f.length (A.f.map fun x=>D.flat (.bool x)),.sl false 1 A.to.length (ag_ A.to)])),(16,some (.row 22 1 A.f.length (.own 801 A.f.length:: .own 802 A.f.length::TL))),(801,some (.row 3 1 A.f.length (mrow (MR A 0 0 0) A.f.length 0))),(802,some (.row 3 1 A.f.length (mrow (MR A 0 0 0) A.f.length 1)))]⟩):=by
 have q1:=ad_ A.r
 have q2:=ai_ A.f
 have q3:=al_ A.to
 have q4:=ao_ (ab_ A)
 have h25:=IdAt.of 25 802
 have hfp:=fun (i:Nat) (h:i<A.f.length)=>fi_ A.f h
 have hf:=fun q=>fq_ A 1 q
 have hX0:=ep_ A A.f.length 1
 have hX:=fun q=>em_ A A.f.length 1 q
 have hXl:=fun q=>dk_ A A.f.length 1 q
 have hXa:=fo_ A A.f.length 1
 have h1:=fun q (h:q<A.f.length)=>ek_ A (p:=1) h
 have h2:=fun q (h:q<A.f.length)=>ef_ A (p:=1) h
 have hfj:=hfp 1 (by omega)
 generalize (A.r.map fun x=>D.flat (.int .i64 x))=LR at*
 generalize (A.f.map fun x=>D.flat (.bool x))=LB at*
 generalize ag_ A.to=LT at*
 generalize A.r.length=rl at*
 generalize A.f.length=n at*
 generalize A.to.length=ta at*
 generalize A.f.getD 1 false=fj at*
 refine DW.sel hsel (by rfl) ?_
 have y0:=aa_ (MR A 0 0 0) n 0
 refine DW.walk ?_
 refine DW.loopA (fun q:Nat=>⟨[(1,.ref 1 0),(3,.flat (.int .i64 ((n:Nat):Int))),(4,.own 16 n),(5,.flat (.int .i64 ((1:Nat):Int))),(6,.flat (.int .i64 ((q:Nat):Int)))],[(1,some (.box [.sl false 1 rl LR,.sl false 1 n LB,.sl false 1 ta LT])),(16,some (.row 22 1 n (.own 801 n:: .own 802 n::TL))),(801,some (.row 3 1 n (mrow (MR A 0 0 0) n 0))),(802,some (.row 3 1 n (xrow A n 1 q)))]⟩) (fun q=>q≤n) (fun q=>n - q) 0 ?_ (Nat.zero_le _) (by rw [hX0];have:=hX 0;rw [hX0] at this;generalize (List.replicate n (D.flat (.int .i64 0)))=Z at *;exact Sub.autoT)
 intro q hq
 rcases Nat.lt_or_ge q n with hlt|hge
 ·have   hfq:=hfp q hlt
  have hq:=hf q
  have e1:=h1 q hlt
  have e2:=h2 q hlt
  have x0:=hX q
  have x1:=hX (q+1)
  have l0:=hXl q
  generalize A.f.getD q false=fq at*
  generalize MR A 0 0 0 1 q=v at*
  clear hf h1 h2 hX hXl hfp
  generalize hY:xrow A n 1 (q+1)=Y at*
  generalize xrow A n 1 q=X at*
  cases fj <;> cases fq
  all_goals
   simp only [ne_eq,not_true_eq_false,not_false_eq_true,if_true,if_false,reduceCtorEq] at hq
   first
        |(have e:=e1 hq
          refine DW.walk ?_
          rw [e]
          exact⟨q+1,by omega,by omega,by rw [hY];exact Sub.autoT⟩)
        |(have e:=e2 hq
          refine DW.walk ?_
          rw [e]
          exact⟨q+1,by omega,by omega,by rw [hY];exact Sub.autoT⟩)
 ·obtain rfl:n=q:=by omega
  rw [hXa]
  have y1:=aa_ (MR A 0 0 0) n 1
  clear hf h1 h2 hX hXl hfp
  refine DW.walk ?_
  exact Nm.mk Sub.autoT
theorem ph_ {cc:Code} (hsel:selC [1,1,1,0,1,2,2] ap_=some cc) (A:Au) (hj:2<A.f.length) (hN:A.f.length≤6) (TL:List D) (hTL:persL TL=true):DW Try.prog 118 cc ⟨[(1,.ref 1 0),(3,.flat (.int .i64 ((A.f.length:Nat):Int))),(4,.own 16 A.f.length),(5,.flat (.int .i64 ((2:Nat):Int)))],[(1,some (.box [.sl false 1 A.r.length (A.r.map fun x=>D.flat (.int .i64 x)),.sl false 1 A.f.length (A.f.map fun x=>D.flat (.bool x)),.sl false 1 A.to.length (ag_ A.to)])),(16,some (.row 22 1 A.f.length (.own 801 A.f.length:: .own 802 A.f.length:: .flat (.slice none 0 0)::TL))),(801,some (.row 3 1 A.f.length (mrow (MR A 0 0 0) A.f.length 0))),(802,some (.row 3 1 A.f.length (mrow (MR A 0 0 0) A.f.length 1)))]⟩ (Nm 118 ⟨[(1,.ref 1 0),(3,.flat (.int .i64 ((A.f.length:Nat):Int))),(4,.own 16 A.f.length),(5,.flat (.int .i64 ((3:Nat):Int)))],[(1,some (.box [.sl false 1 A.r.length (A.r.map fun x=>D.flat (.int .i64 x)),.sl false 1 A.f.length (A.f.map fun x=>D.flat (.bool x)),.sl false 1 A.to.length (ag_ A.to)])),(16,some (.row 22 1 A.f.length (.own 801 A.f.length:: .own 802 A.f.length:: .own 803 A.f.length::TL))),(801,some (.row 3 1 A.f.length (mrow (MR A 0 0 0) A.f.length 0))),(802,some (.row 3 1 A.f.length (mrow (MR A 0 0 0) A.f.length 1))),(803,some (.row 3 1 A.f.length (mrow (MR A 0 0 0) A.f.length 2)))]⟩):=by
 have q1:=ad_ A.r
 have q2:=ai_ A.f
 have q3:=al_ A.to
 have q4:=ao_ (ab_ A)
 have h25:=IdAt.of 25 803
 have hfp:=fun (i:Nat) (h:i<A.f.length)=>fi_ A.f h
 have hf:=fun q=>fq_ A 2 q
 have hX0:=ep_ A A.f.length 2
 have hX:=fun q=>em_ A A.f.length 2 q
 have hXl:=fun q=>dk_ A A.f.length 2 q
 have hXa:=fo_ A A.f.length 2
 have h1:=fun q (h:q<A.f.length)=>ek_ A (p:=2) h
 have h2:=fun q (h:q<A.f.length)=>ef_ A (p:=2) h
 have hfj:=hfp 2 (by omega)
 generalize (A.r.map fun x=>D.flat (.int .i64 x))=LR at*
 generalize (A.f.map fun x=>D.flat (.bool x))=LB at*
 generalize ag_ A.to=LT at*
 generalize A.r.length=rl at*
 generalize A.f.length=n at*
 generalize A.to.length=ta at*
 generalize A.f.getD 2 false=fj at*
 refine DW.sel hsel (by rfl) ?_
 have y0:=aa_ (MR A 0 0 0) n 0
 have y1:=aa_ (MR A 0 0 0) n 1
 refine DW.walk ?_
 refine DW.loopA (fun q:Nat=>⟨[(1,.ref 1 0),(3,.flat (.int .i64 ((n:Nat):Int))),(4,.own 16 n),(5,.flat (.int .i64 ((2:Nat):Int))),(6,.flat (.int .i64 ((q:Nat):Int)))],[(1,some (.box [.sl false 1 rl LR,.sl false 1 n LB,.sl false 1 ta LT])),(16,some (.row 22 1 n (.own 801 n:: .own 802 n:: .own 803 n::TL))),(801,some (.row 3 1 n (mrow (MR A 0 0 0) n 0))),(802,some (.row 3 1 n (mrow (MR A 0 0 0) n 1))),(803,some (.row 3 1 n (xrow A n 2 q)))]⟩) (fun q=>q≤n) (fun q=>n - q) 0 ?_ (Nat.zero_le _) (by rw [hX0];have:=hX 0;rw [hX0] at this;generalize (List.replicate n (D.flat (.int .i64 0)))=Z at *;exact Sub.autoT)
 intro q hq
 rcases Nat.lt_or_ge q n with hlt|hge
 ·have   hfq:=hfp q hlt
  have hq:=hf q
  have e1:=h1 q hlt
  have e2:=h2 q hlt
  have x0:=hX q
  have x1:=hX (q+1)
  have l0:=hXl q
  generalize A.f.getD q false=fq at*
  generalize MR A 0 0 0 2 q=v at*
  clear hf h1 h2 hX hXl hfp
  generalize hY:xrow A n 2 (q+1)=Y at*
  generalize xrow A n 2 q=X at*
  cases fj <;> cases fq
  all_goals
   simp only [ne_eq,not_true_eq_false,not_false_eq_true,if_true,if_false,reduceCtorEq] at hq
   first
        |(have e:=e1 hq
          refine DW.walk ?_
          rw [e]
          exact⟨q+1,by omega,by omega,by rw [hY];exact Sub.autoT⟩)
        |(have e:=e2 hq
          refine DW.walk ?_
          rw [e]
          exact⟨q+1,by omega,by omega,by rw [hY];exact Sub.autoT⟩)
 ·obtain rfl:n=q:=by omega
  rw [hXa]
  have y2:=aa_ (MR A 0 0 0) n 2
  clear hf h1 h2 hX hXl hfp
  refine DW.walk ?_
  exact Nm.mk Sub.autoT
end Go.Proofs.Ytichhfbkhnimmaa
