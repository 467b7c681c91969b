/- The table of distances: rows and rounds at 3 states. No condition. -/
import Derived.Test.YtichhfbkhnimmaaYFB4
import Derived.Test.YtichhfbkhnimmaaYFC2
set_option linter.unusedSimpArgs false
set_option linter.unusedVariables false
set_option maxHeartbeats 4000000
set_option maxRecDepth 8000
namespace Go.Proofs.Ytichhfbkhnimmaa
open Go Go.RowKit Go.PP Go.Dm Go.Rt Go.Mn
theorem far_p3 {cc:Code} (hsel:selC [1,1,1,1,1,0,1,2,2,1,0,2,1,2,2] code51=some cc) (A:Au) (hok:AuOk A) (r p:Nat) (hN:A.final.length=3) (hr:r<A.final.length) (hp:p<A.final.length) (hm:(stepsA A).length≤5000000):
  DW Try.prog 118 cc ⟨[(1,.ref 1 0),(3,.flat (.int .i64 ((A.final.length:Nat):Int))),(4,.own 16 A.final.length),(7,.sl false 3 (stepsA A).length (spC (stepsA A))),(8,.flat (.int .i64 ((r:Nat):Int))),(9,.flat (.int .i64 ((p:Nat):Int)))],[(1,some (.box [.sl false 1 A.ranks.length (A.ranks.map fun x=>D.flat (.int .i64 x)),.sl false 1 A.final.length (A.final.map fun x=>D.flat (.bool x)),.sl false 1 A.to.length (rowsL A.to)])),(16,some (.row 22 1 A.final.length [.own 801 A.final.length,.own 802 A.final.length,.own 803 A.final.length])),(801,some (.row 3 1 A.final.length (mrow (MR A r p 0) A.final.length 0))),(802,some (.row 3 1 A.final.length (mrow (MR A r p 0) A.final.length 1))),(803,some (.row 3 1 A.final.length (mrow (MR A r p 0) A.final.length 2)))]⟩ (Nm 118 ⟨[(1,.ref 1 0),(3,.flat (.int .i64 ((A.final.length:Nat):Int))),(4,.own 16 A.final.length),(7,.sl false 3 (stepsA A).length (spC (stepsA A))),(8,.flat (.int .i64 ((r:Nat):Int))),(9,.flat (.int .i64 (((p+1):Nat):Int)))],[(1,some (.box [.sl false 1 A.ranks.length (A.ranks.map fun x=>D.flat (.int .i64 x)),.sl false 1 A.final.length (A.final.map fun x=>D.flat (.bool x)),.sl false 1 A.to.length (rowsL A.to)])),(16,some (.row 22 1 A.final.length [.own 801 A.final.length,.own 802 A.final.length,.own 803 A.final.length])),(801,some (.row 3 1 A.final.length (mrow (MR A r (p+1) 0) A.final.length 0))),(802,some (.row 3 1 A.final.length (mrow (MR A r (p+1) 0) A.final.length 1))),(803,some (.row 3 1 A.final.length (mrow (MR A r (p+1) 0) A.final.length 2)))]⟩):=by
 have q1:=pers_i A.ranks
 have q2:=pers_b A.final
 have q3:=pers_r A.to
 have q4:=spC_pers (stepsA A)
 have hfq:=fun (cc:Code) (h:selC [1,1,1,1,1,0,1,2,2,1,0,2,1,2,2,1,0,2,1,2,2] code51=some cc) (q:Nat) (hq:q<A.final.length)=>far_q3 h A hok r p q hN hr hp hq hm
 have hrw:=fun i=>MR_row A r p A.final.length i
 generalize (A.ranks.map fun x=>D.flat (.int .i64 x))=LR at*
 generalize (A.final.map fun x=>D.flat (.bool x))=LB at*
 generalize rowsL A.to=LT at*
 generalize spC (stepsA A)=SC at*
 generalize A.ranks.length=rl at*
 generalize A.final.length=n at*
 generalize A.to.length=ta at*
 generalize (stepsA A).length=m at*
 refine DW.sel hsel (by rfl) ?_
 have y0:=mrow_pers (MR A r p 0) n 0
 have y1:=mrow_pers (MR A r p 0) n 1
 have y2:=mrow_pers (MR A r p 0) n 2
 refine DW.walk ?_
 refine DW.loopA (fun q:Nat=>⟨[(1,.ref 1 0),(3,.flat (.int .i64 ((n:Nat):Int))),(4,.own 16 n),(7,.sl false 3 m SC),(8,.flat (.int .i64 ((r:Nat):Int))),(9,.flat (.int .i64 ((p:Nat):Int))),(10,.flat (.int .i64 ((q:Nat):Int)))],[(1,some (.box [.sl false 1 rl LR,.sl false 1 n LB,.sl false 1 ta LT])),(16,some (.row 22 1 n [.own 801 n,.own 802 n,.own 803 n])),(801,some (.row 3 1 n (mrow (MR A r p q) n 0))),(802,some (.row 3 1 n (mrow (MR A r p q) n 1))),(803,some (.row 3 1 n (mrow (MR A r p q) n 2)))]⟩) (fun q=>q≤n) (fun q=>n - q) 0 ?_ (Nat.zero_le _)
 intro q hq
 rcases Nat.lt_or_ge q n with hlt|hge
 ·refine (hfq _ (by rfl) q hlt).mono ?_
  rintro e s' ⟨rfl,hsub⟩
  exact⟨q+1,by omega,by omega,hsub⟩
 ·obtain rfl:n=q:=by omega
  rw [hrw 0,hrw 1,hrw 2]
  clear hfq hrw
  have y0:=mrow_pers (MR A r (p+1) 0) n 0
  have y1:=mrow_pers (MR A r (p+1) 0) n 1
  have y2:=mrow_pers (MR A r (p+1) 0) n 2
  generalize mrow (MR A r (p+1) 0) n 0=R0 at*
  generalize mrow (MR A r (p+1) 0) n 1=R1 at*
  generalize mrow (MR A r (p+1) 0) n 2=R2 at*
  refine DW.walk ?_
  exact Nm.mk Sub.auto
theorem far_r3 {cc:Code} (hsel:selC [1,1,1,1,1,0,1,2,2] code51=some cc) (A:Au) (hok:AuOk A) (r:Nat) (hN:A.final.length=3) (hr:r<A.final.length) (hm:(stepsA A).length≤5000000):
  DW Try.prog 118 cc ⟨[(1,.ref 1 0),(3,.flat (.int .i64 ((A.final.length:Nat):Int))),(4,.own 16 A.final.length),(7,.sl false 3 (stepsA A).length (spC (stepsA A))),(8,.flat (.int .i64 ((r:Nat):Int)))],[(1,some (.box [.sl false 1 A.ranks.length (A.ranks.map fun x=>D.flat (.int .i64 x)),.sl false 1 A.final.length (A.final.map fun x=>D.flat (.bool x)),.sl false 1 A.to.length (rowsL A.to)])),(16,some (.row 22 1 A.final.length [.own 801 A.final.length,.own 802 A.final.length,.own 803 A.final.length])),(801,some (.row 3 1 A.final.length (mrow (MR A r 0 0) A.final.length 0))),(802,some (.row 3 1 A.final.length (mrow (MR A r 0 0) A.final.length 1))),(803,some (.row 3 1 A.final.length (mrow (MR A r 0 0) A.final.length 2)))]⟩ (Nm 118 ⟨[(1,.ref 1 0),(3,.flat (.int .i64 ((A.final.length:Nat):Int))),(4,.own 16 A.final.length),(7,.sl false 3 (stepsA A).length (spC (stepsA A))),(8,.flat (.int .i64 (((r+1):Nat):Int)))],[(1,some (.box [.sl false 1 A.ranks.length (A.ranks.map fun x=>D.flat (.int .i64 x)),.sl false 1 A.final.length (A.final.map fun x=>D.flat (.bool x)),.sl false 1 A.to.length (rowsL A.to)])),(16,some (.row 22 1 A.final.length [.own 801 A.final.length,.own 802 A.final.length,.own 803 A.final.length])),(801,some (.row 3 1 A.final.length (mrow (MR A (r+1) 0 0) A.final.length 0))),(802,some (.row 3 1 A.final.length (mrow (MR A (r+1) 0 0) A.final.length 1))),(803,some (.row 3 1 A.final.length (mrow (MR A (r+1) 0 0) A.final.length 2)))]⟩):=by
 have q1:=pers_i A.ranks
 have q2:=pers_b A.final
 have q3:=pers_r A.to
 have q4:=spC_pers (stepsA A)
 have hfp:=fun (cc:Code) (h:selC [1,1,1,1,1,0,1,2,2,1,0,2,1,2,2] code51=some cc) (p:Nat) (hp:p<A.final.length)=>far_p3 h A hok r p hN hr hp hm
 have hrw:=fun i (h:i<A.final.length)=>MR_all A r A.final.length h
 generalize (A.ranks.map fun x=>D.flat (.int .i64 x))=LR at*
 generalize (A.final.map fun x=>D.flat (.bool x))=LB at*
 generalize rowsL A.to=LT at*
 generalize spC (stepsA A)=SC at*
 generalize A.ranks.length=rl at*
 generalize A.final.length=n at*
 generalize A.to.length=ta at*
 generalize (stepsA A).length=m at*
 refine DW.sel hsel (by rfl) ?_
 have y0:=mrow_pers (MR A r 0 0) n 0
 have y1:=mrow_pers (MR A r 0 0) n 1
 have y2:=mrow_pers (MR A r 0 0) n 2
 refine DW.walk ?_
 refine DW.loopA (fun p:Nat=>⟨[(1,.ref 1 0),(3,.flat (.int .i64 ((n:Nat):Int))),(4,.own 16 n),(7,.sl false 3 m SC),(8,.flat (.int .i64 ((r:Nat):Int))),(9,.flat (.int .i64 ((p:Nat):Int)))],[(1,some (.box [.sl false 1 rl LR,.sl false 1 n LB,.sl false 1 ta LT])),(16,some (.row 22 1 n [.own 801 n,.own 802 n,.own 803 n])),(801,some (.row 3 1 n (mrow (MR A r p 0) n 0))),(802,some (.row 3 1 n (mrow (MR A r p 0) n 1))),(803,some (.row 3 1 n (mrow (MR A r p 0) n 2)))]⟩) (fun p=>p≤n) (fun p=>n - p) 0 ?_ (Nat.zero_le _)
 intro p hp
 rcases Nat.lt_or_ge p n with hlt|hge
 ·refine (hfp _ (by rfl) p hlt).mono ?_
  rintro e s' ⟨rfl,hsub⟩
  exact⟨p+1,by omega,by omega,hsub⟩
 ·obtain rfl:n=p:=by omega
  rw [hrw 0 (by omega),hrw 1 (by omega),hrw 2 (by omega)]
  clear hfp hrw
  have y0:=mrow_pers (MR A (r+1) 0 0) n 0
  have y1:=mrow_pers (MR A (r+1) 0 0) n 1
  have y2:=mrow_pers (MR A (r+1) 0 0) n 2
  generalize mrow (MR A (r+1) 0 0) n 0=R0 at*
  generalize mrow (MR A (r+1) 0 0) n 1=R1 at*
  generalize mrow (MR A (r+1) 0 0) n 2=R2 at*
  refine DW.walk ?_
  exact Nm.mk Sub.auto
theorem far_p4 {cc:Code} (hsel:selC [1,1,1,1,1,0,1,2,2,1,0,2,1,2,2] code51=some cc) (A:Au) (hok:AuOk A) (r p:Nat) (hN:A.final.length=4) (hr:r<A.final.length) (hp:p<A.final.length) (hm:(stepsA A).length≤5000000):
  DW Try.prog 118 cc ⟨[(1,.ref 1 0),(3,.flat (.int .i64 ((A.final.length:Nat):Int))),(4,.own 16 A.final.length),(7,.sl false 3 (stepsA A).length (spC (stepsA A))),(8,.flat (.int .i64 ((r:Nat):Int))),(9,.flat (.int .i64 ((p:Nat):Int)))],[(1,some (.box [.sl false 1 A.ranks.length (A.ranks.map fun x=>D.flat (.int .i64 x)),.sl false 1 A.final.length (A.final.map fun x=>D.flat (.bool x)),.sl false 1 A.to.length (rowsL A.to)])),(16,some (.row 22 1 A.final.length [.own 801 A.final.length,.own 802 A.final.length,.own 803 A.final.length,.own 804 A.final.length])),(801,some (.row 3 1 A.final.length (mrow (MR A r p 0) A.final.length 0))),(802,some (.row 3 1 A.final.length (mrow (MR A r p 0) A.final.length 1))),(803,some (.row 3 1 A.final.length (mrow (MR A r p 0) A.final.length 2))),(804,some (.row 3 1 A.final.length (mrow (MR A r p 0) A.final.length 3)))]⟩ (Nm 118 ⟨[(1,.ref 1 0),(3,.flat (.int .i64 ((A.final.length:Nat):Int))),(4,.own 16 A.final.length),(7,.sl false 3 (stepsA A).length (spC (stepsA A))),(8,.flat (.int .i64 ((r:Nat):Int))),(9,.flat (.int .i64 (((p+1):Nat):Int)))],[(1,some (.box [.sl false 1 A.ranks.length (A.ranks.map fun x=>D.flat (.int .i64 x)),.sl false 1 A.final.length (A.final.map fun x=>D.flat (.bool x)),.sl false 1 A.to.length (rowsL A.to)])),(16,some (.row 22 1 A.final.length [.own 801 A.final.length,.own 802 A.final.length,.own 803 A.final.length,.own 804 A.final.length])),(801,some (.row 3 1 A.final.length (mrow (MR A r (p+1) 0) A.final.length 0))),(802,some (.row 3 1 A.final.length (mrow (MR A r (p+1) 0) A.final.length 1))),(803,some (.row 3 1 A.final.length (mrow (MR A r (p+1) 0) A.final.length 2))),(804,some (.row 3 1 A.final.length (mrow (MR A r (p+1) 0) A.final.length 3)))]⟩):=by
 have q1:=pers_i A.ranks
 have q2:=pers_b A.final
 have q3:=pers_r A.to
 have q4:=spC_pers (stepsA A)
 have hfq:=fun (cc:Code) (h:selC [1,1,1,1,1,0,1,2,2,1,0,2,1,2,2,1,0,2,1,2,2] code51=some cc) (q:Nat) (hq:q<A.final.length)=>far_q4 h A hok r p q hN hr hp hq hm
 have hrw:=fun i=>MR_row A r p A.final.length i
 generalize (A.ranks.map fun x=>D.flat (.int .i64 x))=LR at*
 generalize (A.final.map fun x=>D.flat (.bool x))=LB at*
 generalize rowsL A.to=LT at*
 generalize spC (stepsA A)=SC at*
 generalize A.ranks.length=rl at*
 generalize A.final.length=n at*
 generalize A.to.length=ta at*
 generalize (stepsA A).length=m at*
 refine DW.sel hsel (by rfl) ?_
 have y0:=mrow_pers (MR A r p 0) n 0
 have y1:=mrow_pers (MR A r p 0) n 1
 have y2:=mrow_pers (MR A r p 0) n 2
 have y3:=mrow_pers (MR A r p 0) n 3
 refine DW.walk ?_
 refine DW.loopA (fun q:Nat=>⟨[(1,.ref 1 0),(3,.flat (.int .i64 ((n:Nat):Int))),(4,.own 16 n),(7,.sl false 3 m SC),(8,.flat (.int .i64 ((r:Nat):Int))),(9,.flat (.int .i64 ((p:Nat):Int))),(10,.flat (.int .i64 ((q:Nat):Int)))],[(1,some (.box [.sl false 1 rl LR,.sl false 1 n LB,.sl false 1 ta LT])),(16,some (.row 22 1 n [.own 801 n,.own 802 n,.own 803 n,.own 804 n])),(801,some (.row 3 1 n (mrow (MR A r p q) n 0))),(802,some (.row 3 1 n (mrow (MR A r p q) n 1))),(803,some (.row 3 1 n (mrow (MR A r p q) n 2))),(804,some (.row 3 1 n (mrow (MR A r p q) n 3)))]⟩) (fun q=>q≤n) (fun q=>n - q) 0 ?_ (Nat.zero_le _)
 intro q hq
 rcases Nat.lt_or_ge q n with hlt|hge
 ·refine (hfq _ (by rfl) q hlt).mono ?_
  rintro e s' ⟨rfl,hsub⟩
  exact⟨q+1,by omega,by omega,hsub⟩
 ·obtain rfl:n=q:=by omega
  rw [hrw 0,hrw 1,hrw 2,hrw 3]
  clear hfq hrw
  have y0:=mrow_pers (MR A r (p+1) 0) n 0
  have y1:=mrow_pers (MR A r (p+1) 0) n 1
  have y2:=mrow_pers (MR A r (p+1) 0) n 2
  have y3:=mrow_pers (MR A r (p+1) 0) n 3
  generalize mrow (MR A r (p+1) 0) n 0=R0 at*
  generalize mrow (MR A r (p+1) 0) n 1=R1 at*
  generalize mrow (MR A r (p+1) 0) n 2=R2 at*
  generalize mrow (MR A r (p+1) 0) n 3=R3 at*
  refine DW.walk ?_
  exact Nm.mk Sub.auto
theorem far_r4 {cc:Code} (hsel:selC [1,1,1,1,1,0,1,2,2] code51=some cc) (A:Au) (hok:AuOk A) (r:Nat) (hN:A.final.length=4) (hr:r<A.final.length) (hm:(stepsA A).length≤5000000):
  DW Try.prog 118 cc ⟨[(1,.ref 1 0),(3,.flat (.int .i64 ((A.final.length:Nat):Int))),(4,.own 16 A.final.length),(7,.sl false 3 (stepsA A).length (spC (stepsA A))),(8,.flat (.int .i64 ((r:Nat):Int)))],[(1,some (.box [.sl false 1 A.ranks.length (A.ranks.map fun x=>D.flat (.int .i64 x)),.sl false 1 A.final.length (A.final.map fun x=>D.flat (.bool x)),.sl false 1 A.to.length (rowsL A.to)])),(16,some (.row 22 1 A.final.length [.own 801 A.final.length,.own 802 A.final.length,.own 803 A.final.length,.own 804 A.final.length])),(801,some (.row 3 1 A.final.length (mrow (MR A r 0 0) A.final.length 0))),(802,some (.row 3 1 A.final.length (mrow (MR A r 0 0) A.final.length 1))),(803,some (.row 3 1 A.final.length (mrow (MR A r 0 0) A.final.length 2))),(804,some (.row 3 1 A.final.length (mrow (MR A r 0 0) A.final.length 3)))]⟩ (Nm 118 ⟨[(1,.ref 1 0),(3,.flat (.int .i64 ((A.final.length:Nat):Int))),(4,.own 16 A.final.length),(7,.sl false 3 (stepsA A).length (spC (stepsA A))),(8,.flat (.int .i64 (((r+1):Nat):Int)))],[(1,some (.box [.sl false 1 A.ranks.length (A.ranks.map fun x=>D.flat (.int .i64 x)),.sl false 1 A.final.length (A.final.map fun x=>D.flat (.bool x)),.sl false 1 A.to.length (rowsL A.to)])),(16,some (.row 22 1 A.final.length [.own 801 A.final.length,.own 802 A.final.length,.own 803 A.final.length,.own 804 A.final.length])),(801,some (.row 3 1 A.final.length (mrow (MR A (r+1) 0 0) A.final.length 0))),(802,some (.row 3 1 A.final.length (mrow (MR A (r+1) 0 0) A.final.length 1))),(803,some (.row 3 1 A.final.length (mrow (MR A (r+1) 0 0) A.final.length 2))),(804,some (.row 3 1 A.final.length (mrow (MR A (r+1) 0 0) A.final.length 3)))]⟩):=by
 have q1:=pers_i A.ranks
 have q2:=pers_b A.final
 have q3:=pers_r A.to
 have q4:=spC_pers (stepsA A)
 have hfp:=fun (cc:Code) (h:selC [1,1,1,1,1,0,1,2,2,1,0,2,1,2,2] code51=some cc) (p:Nat) (hp:p<A.final.length)=>far_p4 h A hok r p hN hr hp hm
 have hrw:=fun i (h:i<A.final.length)=>MR_all A r A.final.length h
 generalize (A.ranks.map fun x=>D.flat (.int .i64 x))=LR at*
 generalize (A.final.map fun x=>D.flat (.bool x))=LB at*
 generalize rowsL A.to=LT at*
 generalize spC (stepsA A)=SC at*
 generalize A.ranks.length=rl at*
 generalize A.final.length=n at*
 generalize A.to.length=ta at*
 generalize (stepsA A).length=m at*
 refine DW.sel hsel (by rfl) ?_
 have y0:=mrow_pers (MR A r 0 0) n 0
 have y1:=mrow_pers (MR A r 0 0) n 1
 have y2:=mrow_pers (MR A r 0 0) n 2
 have y3:=mrow_pers (MR A r 0 0) n 3
 refine DW.walk ?_
 refine DW.loopA (fun p:Nat=>⟨[(1,.ref 1 0),(3,.flat (.int .i64 ((n:Nat):Int))),(4,.own 16 n),(7,.sl false 3 m SC),(8,.flat (.int .i64 ((r:Nat):Int))),(9,.flat (.int .i64 ((p:Nat):Int)))],[(1,some (.box [.sl false 1 rl LR,.sl false 1 n LB,.sl false 1 ta LT])),(16,some (.row 22 1 n [.own 801 n,.own 802 n,.own 803 n,.own 804 n])),(801,some (.row 3 1 n (mrow (MR A r p 0) n 0))),(802,some (.row 3 1 n (mrow (MR A r p 0) n 1))),(803,some (.row 3 1 n (mrow (MR A r p 0) n 2))),(804,some (.row 3 1 n (mrow (MR A r p 0) n 3)))]⟩) (fun p=>p≤n) (fun p=>n - p) 0 ?_ (Nat.zero_le _)
 intro p hp
 rcases Nat.lt_or_ge p n with hlt|hge
 ·refine (hfp _ (by rfl) p hlt).mono ?_
  rintro e s' ⟨rfl,hsub⟩
  exact⟨p+1,by omega,by omega,hsub⟩
 ·obtain rfl:n=p:=by omega
  rw [hrw 0 (by omega),hrw 1 (by omega),hrw 2 (by omega),hrw 3 (by omega)]
  clear hfp hrw
  have y0:=mrow_pers (MR A (r+1) 0 0) n 0
  have y1:=mrow_pers (MR A (r+1) 0 0) n 1
  have y2:=mrow_pers (MR A (r+1) 0 0) n 2
  have y3:=mrow_pers (MR A (r+1) 0 0) n 3
  generalize mrow (MR A (r+1) 0 0) n 0=R0 at*
  generalize mrow (MR A (r+1) 0 0) n 1=R1 at*
  generalize mrow (MR A (r+1) 0 0) n 2=R2 at*
  generalize mrow (MR A (r+1) 0 0) n 3=R3 at*
  refine DW.walk ?_
  exact Nm.mk Sub.auto
theorem far_p5 {cc:Code} (hsel:selC [1,1,1,1,1,0,1,2,2,1,0,2,1,2,2] code51=some cc) (A:Au) (hok:AuOk A) (r p:Nat) (hN:A.final.length=5) (hr:r<A.final.length) (hp:p<A.final.length) (hm:(stepsA A).length≤5000000):
  DW Try.prog 118 cc ⟨[(1,.ref 1 0),(3,.flat (.int .i64 ((A.final.length:Nat):Int))),(4,.own 16 A.final.length),(7,.sl false 3 (stepsA A).length (spC (stepsA A))),(8,.flat (.int .i64 ((r:Nat):Int))),(9,.flat (.int .i64 ((p:Nat):Int)))],[(1,some (.box [.sl false 1 A.ranks.length (A.ranks.map fun x=>D.flat (.int .i64 x)),.sl false 1 A.final.length (A.final.map fun x=>D.flat (.bool x)),.sl false 1 A.to.length (rowsL A.to)])),(16,some (.row 22 1 A.final.length [.own 801 A.final.length,.own 802 A.final.length,.own 803 A.final.length,.own 804 A.final.length,.own 805 A.final.length])),(801,some (.row 3 1 A.final.length (mrow (MR A r p 0) A.final.length 0))),(802,some (.row 3 1 A.final.length (mrow (MR A r p 0) A.final.length 1))),(803,some (.row 3 1 A.final.length (mrow (MR A r p 0) A.final.length 2))),(804,some (.row 3 1 A.final.length (mrow (MR A r p 0) A.final.length 3))),(805,some (.row 3 1 A.final.length (mrow (MR A r p 0) A.final.length 4)))]⟩ (Nm 118 ⟨[(1,.ref 1 0),(3,.flat (.int .i64 ((A.final.length:Nat):Int))),(4,.own 16 A.final.length),(7,.sl false 3 (stepsA A).length (spC (stepsA A))),(8,.flat (.int .i64 ((r:Nat):Int))),(9,.flat (.int .i64 (((p+1):Nat):Int)))],[(1,some (.box [.sl false 1 A.ranks.length (A.ranks.map fun x=>D.flat (.int .i64 x)),.sl false 1 A.final.length (A.final.map fun x=>D.flat (.bool x)),.sl false 1 A.to.length (rowsL A.to)])),(16,some (.row 22 1 A.final.length [.own 801 A.final.length,.own 802 A.final.length,.own 803 A.final.length,.own 804 A.final.length,.own 805 A.final.length])),(801,some (.row 3 1 A.final.length (mrow (MR A r (p+1) 0) A.final.length 0))),(802,some (.row 3 1 A.final.length (mrow (MR A r (p+1) 0) A.final.length 1))),(803,some (.row 3 1 A.final.length (mrow (MR A r (p+1) 0) A.final.length 2))),(804,some (.row 3 1 A.final.length (mrow (MR A r (p+1) 0) A.final.length 3))),(805,some (.row 3 1 A.final.length (mrow (MR A r (p+1) 0) A.final.length 4)))]⟩):=by
 have q1:=pers_i A.ranks
 have q2:=pers_b A.final
 have q3:=pers_r A.to
 have q4:=spC_pers (stepsA A)
 have hfq:=fun (cc:Code) (h:selC [1,1,1,1,1,0,1,2,2,1,0,2,1,2,2,1,0,2,1,2,2] code51=some cc) (q:Nat) (hq:q<A.final.length)=>far_q5 h A hok r p q hN hr hp hq hm
 have hrw:=fun i=>MR_row A r p A.final.length i
 generalize (A.ranks.map fun x=>D.flat (.int .i64 x))=LR at*
 generalize (A.final.map fun x=>D.flat (.bool x))=LB at*
 generalize rowsL A.to=LT at*
 generalize spC (stepsA A)=SC at*
 generalize A.ranks.length=rl at*
 generalize A.final.length=n at*
 generalize A.to.length=ta at*
 generalize (stepsA A).length=m at*
 refine DW.sel hsel (by rfl) ?_
 have y0:=mrow_pers (MR A r p 0) n 0
 have y1:=mrow_pers (MR A r p 0) n 1
 have y2:=mrow_pers (MR A r p 0) n 2
 have y3:=mrow_pers (MR A r p 0) n 3
 have y4:=mrow_pers (MR A r p 0) n 4
 refine DW.walk ?_
 refine DW.loopA (fun q:Nat=>⟨[(1,.ref 1 0),(3,.flat (.int .i64 ((n:Nat):Int))),(4,.own 16 n),(7,.sl false 3 m SC),(8,.flat (.int .i64 ((r:Nat):Int))),(9,.flat (.int .i64 ((p:Nat):Int))),(10,.flat (.int .i64 ((q:Nat):Int)))],[(1,some (.box [.sl false 1 rl LR,.sl false 1 n LB,.sl false 1 ta LT])),(16,some (.row 22 1 n [.own 801 n,.own 802 n,.own 803 n,.own 804 n,.own 805 n])),(801,some (.row 3 1 n (mrow (MR A r p q) n 0))),(802,some (.row 3 1 n (mrow (MR A r p q) n 1))),(803,some (.row 3 1 n (mrow (MR A r p q) n 2))),(804,some (.row 3 1 n (mrow (MR A r p q) n 3))),(805,some (.row 3 1 n (mrow (MR A r p q) n 4)))]⟩) (fun q=>q≤n) (fun q=>n - q) 0 ?_ (Nat.zero_le _)
 intro q hq
 rcases Nat.lt_or_ge q n with hlt|hge
 ·refine (hfq _ (by rfl) q hlt).mono ?_
  rintro e s' ⟨rfl,hsub⟩
  exact⟨q+1,by omega,by omega,hsub⟩
 ·obtain rfl:n=q:=by omega
  rw [hrw 0,hrw 1,hrw 2,hrw 3,hrw 4]
  clear hfq hrw
  have y0:=mrow_pers (MR A r (p+1) 0) n 0
  have y1:=mrow_pers (MR A r (p+1) 0) n 1
  have y2:=mrow_pers (MR A r (p+1) 0) n 2
  have y3:=mrow_pers (MR A r (p+1) 0) n 3
  have y4:=mrow_pers (MR A r (p+1) 0) n 4
  generalize mrow (MR A r (p+1) 0) n 0=R0 at*
  generalize mrow (MR A r (p+1) 0) n 1=R1 at*
  generalize mrow (MR A r (p+1) 0) n 2=R2 at*
  generalize mrow (MR A r (p+1) 0) n 3=R3 at*
  generalize mrow (MR A r (p+1) 0) n 4=R4 at*
  refine DW.walk ?_
  exact Nm.mk Sub.auto
theorem far_r5 {cc:Code} (hsel:selC [1,1,1,1,1,0,1,2,2] code51=some cc) (A:Au) (hok:AuOk A) (r:Nat) (hN:A.final.length=5) (hr:r<A.final.length) (hm:(stepsA A).length≤5000000):
  DW Try.prog 118 cc ⟨[(1,.ref 1 0),(3,.flat (.int .i64 ((A.final.length:Nat):Int))),(4,.own 16 A.final.length),(7,.sl false 3 (stepsA A).length (spC (stepsA A))),(8,.flat (.int .i64 ((r:Nat):Int)))],[(1,some (.box [.sl false 1 A.ranks.length (A.ranks.map fun x=>D.flat (.int .i64 x)),.sl false 1 A.final.length (A.final.map fun x=>D.flat (.bool x)),.sl false 1 A.to.length (rowsL A.to)])),(16,some (.row 22 1 A.final.length [.own 801 A.final.length,.own 802 A.final.length,.own 803 A.final.length,.own 804 A.final.length,.own 805 A.final.length])),(801,some (.row 3 1 A.final.length (mrow (MR A r 0 0) A.final.length 0))),(802,some (.row 3 1 A.final.length (mrow (MR A r 0 0) A.final.length 1))),(803,some (.row 3 1 A.final.length (mrow (MR A r 0 0) A.final.length 2))),(804,some (.row 3 1 A.final.length (mrow (MR A r 0 0) A.final.length 3))),(805,some (.row 3 1 A.final.length (mrow (MR A r 0 0) A.final.length 4)))]⟩ (Nm 118 ⟨[(1,.ref 1 0),(3,.flat (.int .i64 ((A.final.length:Nat):Int))),(4,.own 16 A.final.length),(7,.sl false 3 (stepsA A).length (spC (stepsA A))),(8,.flat (.int .i64 (((r+1):Nat):Int)))],[(1,some (.box [.sl false 1 A.ranks.length (A.ranks.map fun x=>D.flat (.int .i64 x)),.sl false 1 A.final.length (A.final.map fun x=>D.flat (.bool x)),.sl false 1 A.to.length (rowsL A.to)])),(16,some (.row 22 1 A.final.length [.own 801 A.final.length,.own 802 A.final.length,.own 803 A.final.length,.own 804 A.final.length,.own 805 A.final.length])),(801,some (.row 3 1 A.final.length (mrow (MR A (r+1) 0 0) A.final.length 0))),(802,some (.row 3 1 A.final.length (mrow (MR A (r+1) 0 0) A.final.length 1))),(803,some (.row 3 1 A.final.length (mrow (MR A (r+1) 0 0) A.final.length 2))),(804,some (.row 3 1 A.final.length (mrow (MR A (r+1) 0 0) A.final.length 3))),(805,some (.row 3 1 A.final.length (mrow (MR A (r+1) 0 0) A.final.length 4)))]⟩):=by
 have q1:=pers_i A.ranks
 have q2:=pers_b A.final
 have q3:=pers_r A.to
 have q4:=spC_pers (stepsA A)
 have hfp:=fun (cc:Code) (h:selC [1,1,1,1,1,0,1,2,2,1,0,2,1,2,2] code51=some cc) (p:Nat) (hp:p<A.final.length)=>far_p5 h A hok r p hN hr hp hm
 have hrw:=fun i (h:i<A.final.length)=>MR_all A r A.final.length h
 generalize (A.ranks.map fun x=>D.flat (.int .i64 x))=LR at*
 generalize (A.final.map fun x=>D.flat (.bool x))=LB at*
 generalize rowsL A.to=LT at*
 generalize spC (stepsA A)=SC at*
 generalize A.ranks.length=rl at*
 generalize A.final.length=n at*
 generalize A.to.length=ta at*
 generalize (stepsA A).length=m at*
 refine DW.sel hsel (by rfl) ?_
 have y0:=mrow_pers (MR A r 0 0) n 0
 have y1:=mrow_pers (MR A r 0 0) n 1
 have y2:=mrow_pers (MR A r 0 0) n 2
 have y3:=mrow_pers (MR A r 0 0) n 3
 have y4:=mrow_pers (MR A r 0 0) n 4
 refine DW.walk ?_
 refine DW.loopA (fun p:Nat=>⟨[(1,.ref 1 0),(3,.flat (.int .i64 ((n:Nat):Int))),(4,.own 16 n),(7,.sl false 3 m SC),(8,.flat (.int .i64 ((r:Nat):Int))),(9,.flat (.int .i64 ((p:Nat):Int)))],[(1,some (.box [.sl false 1 rl LR,.sl false 1 n LB,.sl false 1 ta LT])),(16,some (.row 22 1 n [.own 801 n,.own 802 n,.own 803 n,.own 804 n,.own 805 n])),(801,some (.row 3 1 n (mrow (MR A r p 0) n 0))),(802,some (.row 3 1 n (mrow (MR A r p 0) n 1))),(803,some (.row 3 1 n (mrow (MR A r p 0) n 2))),(804,some (.row 3 1 n (mrow (MR A r p 0) n 3))),(805,some (.row 3 1 n (mrow (MR A r p 0) n 4)))]⟩) (fun p=>p≤n) (fun p=>n - p) 0 ?_ (Nat.zero_le _)
 intro p hp
 rcases Nat.lt_or_ge p n with hlt|hge
 ·refine (hfp _ (by rfl) p hlt).mono ?_
  rintro e s' ⟨rfl,hsub⟩
  exact⟨p+1,by omega,by omega,hsub⟩
 ·obtain rfl:n=p:=by omega
  rw [hrw 0 (by omega),hrw 1 (by omega),hrw 2 (by omega),hrw 3 (by omega),hrw 4 (by omega)]
  clear hfp hrw
  have y0:=mrow_pers (MR A (r+1) 0 0) n 0
  have y1:=mrow_pers (MR A (r+1) 0 0) n 1
  have y2:=mrow_pers (MR A (r+1) 0 0) n 2
  have y3:=mrow_pers (MR A (r+1) 0 0) n 3
  have y4:=mrow_pers (MR A (r+1) 0 0) n 4
  generalize mrow (MR A (r+1) 0 0) n 0=R0 at*
  generalize mrow (MR A (r+1) 0 0) n 1=R1 at*
  generalize mrow (MR A (r+1) 0 0) n 2=R2 at*
  generalize mrow (MR A (r+1) 0 0) n 3=R3 at*
  generalize mrow (MR A (r+1) 0 0) n 4=R4 at*
  refine DW.walk ?_
  exact Nm.mk Sub.auto
theorem far_p6 {cc:Code} (hsel:selC [1,1,1,1,1,0,1,2,2,1,0,2,1,2,2] code51=some cc) (A:Au) (hok:AuOk A) (r p:Nat) (hN:A.final.length=6) (hr:r<A.final.length) (hp:p<A.final.length) (hm:(stepsA A).length≤5000000):
  DW Try.prog 118 cc ⟨[(1,.ref 1 0),(3,.flat (.int .i64 ((A.final.length:Nat):Int))),(4,.own 16 A.final.length),(7,.sl false 3 (stepsA A).length (spC (stepsA A))),(8,.flat (.int .i64 ((r:Nat):Int))),(9,.flat (.int .i64 ((p:Nat):Int)))],[(1,some (.box [.sl false 1 A.ranks.length (A.ranks.map fun x=>D.flat (.int .i64 x)),.sl false 1 A.final.length (A.final.map fun x=>D.flat (.bool x)),.sl false 1 A.to.length (rowsL A.to)])),(16,some (.row 22 1 A.final.length [.own 801 A.final.length,.own 802 A.final.length,.own 803 A.final.length,.own 804 A.final.length,.own 805 A.final.length,.own 806 A.final.length])),(801,some (.row 3 1 A.final.length (mrow (MR A r p 0) A.final.length 0))),(802,some (.row 3 1 A.final.length (mrow (MR A r p 0) A.final.length 1))),(803,some (.row 3 1 A.final.length (mrow (MR A r p 0) A.final.length 2))),(804,some (.row 3 1 A.final.length (mrow (MR A r p 0) A.final.length 3))),(805,some (.row 3 1 A.final.length (mrow (MR A r p 0) A.final.length 4))),(806,some (.row 3 1 A.final.length (mrow (MR A r p 0) A.final.length 5)))]⟩ (Nm 118 ⟨[(1,.ref 1 0),(3,.flat (.int .i64 ((A.final.length:Nat):Int))),(4,.own 16 A.final.length),(7,.sl false 3 (stepsA A).length (spC (stepsA A))),(8,.flat (.int .i64 ((r:Nat):Int))),(9,.flat (.int .i64 (((p+1):Nat):Int)))],[(1,some (.box [.sl false 1 A.ranks.length (A.ranks.map fun x=>D.flat (.int .i64 x)),.sl false 1 A.final.length (A.final.map fun x=>D.flat (.bool x)),.sl false 1 A.to.length (rowsL A.to)])),(16,some (.row 22 1 A.final.length [.own 801 A.final.length,.own 802 A.final.length,.own 803 A.final.length,.own 804 A.final.length,.own 805 A.final.length,.own 806 A.final.length])),(801,some (.row 3 1 A.final.length (mrow (MR A r (p+1) 0) A.final.length 0))),(802,some (.row 3 1 A.final.length (mrow (MR A r (p+1) 0) A.final.length 1))),(803,some (.row 3 1 A.final.length (mrow (MR A r (p+1) 0) A.final.length 2))),(804,some (.row 3 1 A.final.length (mrow (MR A r (p+1) 0) A.final.length 3))),(805,some (.row 3 1 A.final.length (mrow (MR A r (p+1) 0) A.final.length 4))),(806,some (.row 3 1 A.final.length (mrow (MR A r (p+1) 0) A.final.length 5)))]⟩):=by
 have q1:=pers_i A.ranks
 have q2:=pers_b A.final
 have q3:=pers_r A.to
 have q4:=spC_pers (stepsA A)
 have hfq:=fun (cc:Code) (h:selC [1,1,1,1,1,0,1,2,2,1,0,2,1,2,2,1,0,2,1,2,2] code51=some cc) (q:Nat) (hq:q<A.final.length)=>far_q6 h A hok r p q hN hr hp hq hm
 have hrw:=fun i=>MR_row A r p A.final.length i
 generalize (A.ranks.map fun x=>D.flat (.int .i64 x))=LR at*
 generalize (A.final.map fun x=>D.flat (.bool x))=LB at*
 generalize rowsL A.to=LT at*
 generalize spC (stepsA A)=SC at*
 generalize A.ranks.length=rl at*
 generalize A.final.length=n at*
 generalize A.to.length=ta at*
 generalize (stepsA A).length=m at*
 refine DW.sel hsel (by rfl) ?_
 have y0:=mrow_pers (MR A r p 0) n 0
 have y1:=mrow_pers (MR A r p 0) n 1
 have y2:=mrow_pers (MR A r p 0) n 2
 have y3:=mrow_pers (MR A r p 0) n 3
 have y4:=mrow_pers (MR A r p 0) n 4
 have y5:=mrow_pers (MR A r p 0) n 5
 refine DW.walk ?_
 refine DW.loopA (fun q:Nat=>⟨[(1,.ref 1 0),(3,.flat (.int .i64 ((n:Nat):Int))),(4,.own 16 n),(7,.sl false 3 m SC),(8,.flat (.int .i64 ((r:Nat):Int))),(9,.flat (.int .i64 ((p:Nat):Int))),(10,.flat (.int .i64 ((q:Nat):Int)))],[(1,some (.box [.sl false 1 rl LR,.sl false 1 n LB,.sl false 1 ta LT])),(16,some (.row 22 1 n [.own 801 n,.own 802 n,.own 803 n,.own 804 n,.own 805 n,.own 806 n])),(801,some (.row 3 1 n (mrow (MR A r p q) n 0))),(802,some (.row 3 1 n (mrow (MR A r p q) n 1))),(803,some (.row 3 1 n (mrow (MR A r p q) n 2))),(804,some (.row 3 1 n (mrow (MR A r p q) n 3))),(805,some (.row 3 1 n (mrow (MR A r p q) n 4))),(806,some (.row 3 1 n (mrow (MR A r p q) n 5)))]⟩) (fun q=>q≤n) (fun q=>n - q) 0 ?_ (Nat.zero_le _)
 intro q hq
 rcases Nat.lt_or_ge q n with hlt|hge
 ·refine (hfq _ (by rfl) q hlt).mono ?_
  rintro e s' ⟨rfl,hsub⟩
  exact⟨q+1,by omega,by omega,hsub⟩
 ·obtain rfl:n=q:=by omega
  rw [hrw 0,hrw 1,hrw 2,hrw 3,hrw 4,hrw 5]
  clear hfq hrw
  have y0:=mrow_pers (MR A r (p+1) 0) n 0
  have y1:=mrow_pers (MR A r (p+1) 0) n 1
  have y2:=mrow_pers (MR A r (p+1) 0) n 2
  have y3:=mrow_pers (MR A r (p+1) 0) n 3
  have y4:=mrow_pers (MR A r (p+1) 0) n 4
  have y5:=mrow_pers (MR A r (p+1) 0) n 5
  generalize mrow (MR A r (p+1) 0) n 0=R0 at*
  generalize mrow (MR A r (p+1) 0) n 1=R1 at*
  generalize mrow (MR A r (p+1) 0) n 2=R2 at*
  generalize mrow (MR A r (p+1) 0) n 3=R3 at*
  generalize mrow (MR A r (p+1) 0) n 4=R4 at*
  generalize mrow (MR A r (p+1) 0) n 5=R5 at*
  refine DW.walk ?_
  exact Nm.mk Sub.auto
theorem far_r6 {cc:Code} (hsel:selC [1,1,1,1,1,0,1,2,2] code51=some cc) (A:Au) (hok:AuOk A) (r:Nat) (hN:A.final.length=6) (hr:r<A.final.length) (hm:(stepsA A).length≤5000000):
  DW Try.prog 118 cc ⟨[(1,.ref 1 0),(3,.flat (.int .i64 ((A.final.length:Nat):Int))),(4,.own 16 A.final.length),(7,.sl false 3 (stepsA A).length (spC (stepsA A))),(8,.flat (.int .i64 ((r:Nat):Int)))],[(1,some (.box [.sl false 1 A.ranks.length (A.ranks.map fun x=>D.flat (.int .i64 x)),.sl false 1 A.final.length (A.final.map fun x=>D.flat (.bool x)),.sl false 1 A.to.length (rowsL A.to)])),(16,some (.row 22 1 A.final.length [.own 801 A.final.length,.own 802 A.final.length,.own 803 A.final.length,.own 804 A.final.length,.own 805 A.final.length,.own 806 A.final.length])),(801,some (.row 3 1 A.final.length (mrow (MR A r 0 0) A.final.length 0))),(802,some (.row 3 1 A.final.length (mrow (MR A r 0 0) A.final.length 1))),(803,some (.row 3 1 A.final.length (mrow (MR A r 0 0) A.final.length 2))),(804,some (.row 3 1 A.final.length (mrow (MR A r 0 0) A.final.length 3))),(805,some (.row 3 1 A.final.length (mrow (MR A r 0 0) A.final.length 4))),(806,some (.row 3 1 A.final.length (mrow (MR A r 0 0) A.final.length 5)))]⟩ (Nm 118 ⟨[(1,.ref 1 0),(3,.flat (.int .i64 ((A.final.length:Nat):Int))),(4,.own 16 A.final.length),(7,.sl false 3 (stepsA A).length (spC (stepsA A))),(8,.flat (.int .i64 (((r+1):Nat):Int)))],[(1,some (.box [.sl false 1 A.ranks.length (A.ranks.map fun x=>D.flat (.int .i64 x)),.sl false 1 A.final.length (A.final.map fun x=>D.flat (.bool x)),.sl false 1 A.to.length (rowsL A.to)])),(16,some (.row 22 1 A.final.length [.own 801 A.final.length,.own 802 A.final.length,.own 803 A.final.length,.own 804 A.final.length,.own 805 A.final.length,.own 806 A.final.length])),(801,some (.row 3 1 A.final.length (mrow (MR A (r+1) 0 0) A.final.length 0))),(802,some (.row 3 1 A.final.length (mrow (MR A (r+1) 0 0) A.final.length 1))),(803,some (.row 3 1 A.final.length (mrow (MR A (r+1) 0 0) A.final.length 2))),(804,some (.row 3 1 A.final.length (mrow (MR A (r+1) 0 0) A.final.length 3))),(805,some (.row 3 1 A.final.length (mrow (MR A (r+1) 0 0) A.final.length 4))),(806,some (.row 3 1 A.final.length (mrow (MR A (r+1) 0 0) A.final.length 5)))]⟩):=by
 have q1:=pers_i A.ranks
 have q2:=pers_b A.final
 have q3:=pers_r A.to
 have q4:=spC_pers (stepsA A)
 have hfp:=fun (cc:Code) (h:selC [1,1,1,1,1,0,1,2,2,1,0,2,1,2,2] code51=some cc) (p:Nat) (hp:p<A.final.length)=>far_p6 h A hok r p hN hr hp hm
 have hrw:=fun i (h:i<A.final.length)=>MR_all A r A.final.length h
 generalize (A.ranks.map fun x=>D.flat (.int .i64 x))=LR at*
 generalize (A.final.map fun x=>D.flat (.bool x))=LB at*
 generalize rowsL A.to=LT at*
 generalize spC (stepsA A)=SC at*
 generalize A.ranks.length=rl at*
 generalize A.final.length=n at*
 generalize A.to.length=ta at*
 generalize (stepsA A).length=m at*
 refine DW.sel hsel (by rfl) ?_
 have y0:=mrow_pers (MR A r 0 0) n 0
 have y1:=mrow_pers (MR A r 0 0) n 1
 have y2:=mrow_pers (MR A r 0 0) n 2
 have y3:=mrow_pers (MR A r 0 0) n 3
 have y4:=mrow_pers (MR A r 0 0) n 4
 have y5:=mrow_pers (MR A r 0 0) n 5
 refine DW.walk ?_
 refine DW.loopA (fun p:Nat=>⟨[(1,.ref 1 0),(3,.flat (.int .i64 ((n:Nat):Int))),(4,.own 16 n),(7,.sl false 3 m SC),(8,.flat (.int .i64 ((r:Nat):Int))),(9,.flat (.int .i64 ((p:Nat):Int)))],[(1,some (.box [.sl false 1 rl LR,.sl false 1 n LB,.sl false 1 ta LT])),(16,some (.row 22 1 n [.own 801 n,.own 802 n,.own 803 n,.own 804 n,.own 805 n,.own 806 n])),(801,some (.row 3 1 n (mrow (MR A r p 0) n 0))),(802,some (.row 3 1 n (mrow (MR A r p 0) n 1))),(803,some (.row 3 1 n (mrow (MR A r p 0) n 2))),(804,some (.row 3 1 n (mrow (MR A r p 0) n 3))),(805,some (.row 3 1 n (mrow (MR A r p 0) n 4))),(806,some (.row 3 1 n (mrow (MR A r p 0) n 5)))]⟩) (fun p=>p≤n) (fun p=>n - p) 0 ?_ (Nat.zero_le _)
 intro p hp
 rcases Nat.lt_or_ge p n with hlt|hge
 ·refine (hfp _ (by rfl) p hlt).mono ?_
  rintro e s' ⟨rfl,hsub⟩
  exact⟨p+1,by omega,by omega,hsub⟩
 ·obtain rfl:n=p:=by omega
  rw [hrw 0 (by omega),hrw 1 (by omega),hrw 2 (by omega),hrw 3 (by omega),hrw 4 (by omega),hrw 5 (by omega)]
  clear hfp hrw
  have y0:=mrow_pers (MR A (r+1) 0 0) n 0
  have y1:=mrow_pers (MR A (r+1) 0 0) n 1
  have y2:=mrow_pers (MR A (r+1) 0 0) n 2
  have y3:=mrow_pers (MR A (r+1) 0 0) n 3
  have y4:=mrow_pers (MR A (r+1) 0 0) n 4
  have y5:=mrow_pers (MR A (r+1) 0 0) n 5
  generalize mrow (MR A (r+1) 0 0) n 0=R0 at*
  generalize mrow (MR A (r+1) 0 0) n 1=R1 at*
  generalize mrow (MR A (r+1) 0 0) n 2=R2 at*
  generalize mrow (MR A (r+1) 0 0) n 3=R3 at*
  generalize mrow (MR A (r+1) 0 0) n 4=R4 at*
  generalize mrow (MR A (r+1) 0 0) n 5=R5 at*
  refine DW.walk ?_
  exact Nm.mk Sub.auto
end Go.Proofs.Ytichhfbkhnimmaa
